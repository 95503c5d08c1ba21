/- Several texts in one: ShaO, ShaP, CrcF, CrcG, CrcH, CrcI, CrcM2, WireT, RecA, RecB, WireU, Conv, WireV, PtK, PtJ, WireW, WireX, WireY, WireZ, WireAA, WireAB, WireBA, WireBB, WireBC, WireBD, WireBE, WireBF, WireBG, WireBH, EntM, EntA, EntB, WList, EntC, EntD, EntE, EntR, PtR, Keep, Full, PtL, WireBI, Guard, PtS, PtH, PtEq, PtP, PtReads, PtPuts, RecV, RecW, PtTurned, PtCmp, PtCmq, PtCmr, PtLast, SigM, SigA, SigB, SigC, SigD. -/
import Derived.Laws.Bits128
import Derived.Lib.SlBytesConst
import Derived.Laws.Tables
import Derived.Laws.Cover3
import Derived.DeepKeys
import Derived.Laws.StructEq
import Derived.Lib.Bytealg
import Derived.Test.YtapboamjpilckaaDoorP3
/- (*Sha).Sum: its regions. -/
namespace Go.Proofs.YtapboamjpilckaaDoor
open Go.RowKit
theorem run_index_u32 {P : Program} (w : World) (t e : TypeId) (n : Nat) (h : List Nat) (kd : IntKind) (z : Int) (k x : Nat) (hz : z = k) (hx : h[k]? = some x) (hn : h.length = n) (hu : P.underlying t = some (.array n e)) (he : P.underlying e = some (.int .u32)) (hc : (P.info? e).map (·.size) = some 1) :
    (Instr.index t (.agg (u32A h)) (.int kd z)).run P w = .ok (.int .u32 (x : Int)) w := by
  subst hz
  have hk := (List.getElem?_eq_some_iff.1 hx).1
  have hag : (isAgg e).run P w = .ok false w := by
    unfold isAgg
    rw [Sem.run_bind, run_underlying he w]
    rfl
  cases hq : P.info? e with
  | none => simp [hq] at hc
  | some i =>
    have hs : i.size = 1 := by simpa [hq] using hc
    have hg : (u32A h)[k]? = some (.int .u32 (x : Int)) := by rw [show (u32A h)[k]? = (u32L h)[k]? from by simp [u32A], u32L_get, hx]; rfl
    have hb : ¬ ((k : Int) < 0 ∨ (n : Int) ≤ k) := by omega
    have hb2 : 0 ≤ (k : Int) ∧ (k : Int) < n := by omega
    simp [Instr.index, Sem.run_bind, run_underlying hu w, asIntOf, part, hag, sizeOf, typeInfo, hq, hs, hg]
    intro; omega
theorem Tryd.len32u8 : Tryd.prog.arrayLen 25 = 32 := by kernel_rfl
theorem Tryd.slice32at (g : Nat) (w : World) (k : Nat) (z : Int) (hz : z = k) (hk : k < 32) : (Instr.sliceAt 25 (.pointer (some ⟨g, 0, none⟩)) (some (.int .i64 z)) none none).run Tryd.prog w = .ok (.slice (some ⟨g, k, none⟩) (32 - k) (32 - k)) w := by
  subst hz
  obtain ⟨i0, hi, hz0, hz1, hz2⟩ := info_parts Tryd.infoU8
  rw [run_sliceAt_array_l w 25 ⟨g, 0, none⟩ (by kernel_rfl) .i64 (k : Int) (by omega) (by rw [Tryd.len32u8]; omega), Tryd.len32u8, show Tryd.prog.elem 25 = 5 from by kernel_rfl]
  have e : (⟨g, 0, none⟩ : Addr).add (k * 1) = ⟨g, k, none⟩ := by unfold Addr.add; split <;> simp <;> omega
  simp only [sizeOf, typeInfo, hi, hz1, Sem.run_bind, Sem.run_pure, Result.andThen, run_program, slicedAt, Int.toNat_natCast, e]
  rw [if_neg (by omega)]
-- REG ssm0
set_option maxRecDepth 100000 in
set_option maxHeartbeats 2000000 in
theorem ssm_r0 {Q : Exit → Act → World → Prop} {a : Act} {w : World} (w0 : World) (L : List Res) (S : Held w0 w L) (hsz : a.tmps.size = 52) 
    (hend : ∀ (a' : Act) (W : World), Same a a' [2] → (∃ g, Sl a' 2 (.pointer (some ⟨g, 0, none⟩)) ∧ Held w0 W (blkR g 25 (hashA (List.replicate 32 0)) :: L)) → Q .normal a' W) : (Code.region 0 (opsOf 0 Tryd.f64).toArray false).wp Tryd.prog Q a w := by
  refine wp_region_lit (l := (opsOf 0 Tryd.f64)) ?_
  conv => arg 4; whnf
  have S0 := Lib.hid (S.newBlk 25 (hashA (List.replicate 32 0)))
  go_wp2
  try simp only [Act.put]
  exact hend _ _ (by repeat (first | (with_reducible refine same_set (by decide) ?_) | (with_reducible exact same_nil))) (⟨w.heap.size, (by unfold Sl; simp [hsz]), S0.out⟩)
-- END ssm0
-- REG ssm1
set_option maxRecDepth 100000 in
set_option maxHeartbeats 2000000 in
theorem ssm_r1 {Q : Exit → Act → World → Prop} {a : Act} {w : World} (w0 : World) (L : List Res) (S : Held w0 w L) (hsz : a.tmps.size = 52) 
    (hend : ∀ (a' : Act) (W : World), Same a a' [3] → (∃ g, Sl a' 3 (.pointer (some ⟨g, 0, none⟩)) ∧ Held w0 W (blkR g 25 (hashA (List.replicate 32 0)) :: L)) → Q .normal a' W) : (Code.region 1 (opsOf 1 Tryd.f64).toArray false).wp Tryd.prog Q a w := by
  refine wp_region_lit (l := (opsOf 1 Tryd.f64)) ?_
  conv => arg 4; whnf
  have S0 := Lib.hid (S.newBlk 25 (hashA (List.replicate 32 0)))
  go_wp2
  try simp only [Act.put]
  exact hend _ _ (by repeat (first | (with_reducible refine same_set (by decide) ?_) | (with_reducible exact same_nil))) (⟨w.heap.size, (by unfold Sl; simp [hsz]), S0.out⟩)
-- END ssm1
-- REG ssm2
set_option maxRecDepth 100000 in
set_option maxHeartbeats 2000000 in
theorem ssm_r2 {Q : Exit → Act → World → Prop} {a : Act} {w : World} (g : Nat) (cs : Array Value) (hc : cs[73]? = some (.bool true)) (hb : Blk w g 134 cs) (hsz : a.tmps.size = 52) (o0 : Sl a 0 (.pointer (some ⟨g, 0, none⟩)))
    (hend : ∀ (a' : Act), Same a a' [9, 10] → Sl a' 10 (.bool false) → Q .normal a' (w)) : (Code.region 2 (opsOf 2 Tryd.f64).toArray false).wp Tryd.prog Q a w := by
  refine wp_region_lit (l := (opsOf 2 Tryd.f64)) ?_
  conv => arg 4; whnf
  unfold Sl at o0
  have HR := Lib.hid (none_any g cs hc w hb)
  clear hb hc
  go_wp2_with fail
  refine HR.out.mono ?_
  rintro e w' ⟨rfl, rfl⟩
  go_wp2
  try simp only [Act.put]
  exact hend _ (by repeat (first | (with_reducible refine same_set (by decide) ?_) | (with_reducible exact same_nil))) (by unfold Sl; first | (simp [hsz]; done) | (simp [hsz]; omega))
-- END ssm2
-- REG ssm4
set_option maxRecDepth 100000 in
set_option maxHeartbeats 2000000 in
theorem ssm_r4 {Q : Exit → Act → World → Prop} {a : Act} {w : World} (w0 : World) (g n : Nat) (st : List Nat) (blk : List UInt8) (hs : st.length = 8) (hb : blk.length = 64) (L1 L2 : List Res) (S : Held w0 w (L1 ++ blkR g 134 (shaC st blk n) :: L2)) (hsz : a.tmps.size = 52) (o0 : Sl a 0 (.pointer (some ⟨g, 0, none⟩)))
    (hend : ∀ (a' : Act) (W : World), Same a a' [12, 13, 14, 4] → (∃ g4, Sl a' 4 (.pointer (some ⟨g4, 0, none⟩)) ∧ Held w0 W (blkR g4 134 (shaC st blk n) :: (L1 ++ blkR g 134 (shaC st blk n) :: L2))) → Q .normal a' W) : (Code.region 4 (opsOf 4 Tryd.f64).toArray false).wp Tryd.prog Q a w := by
  refine wp_region_lit (l := (opsOf 4 Tryd.f64)) ?_
  conv => arg 4; whnf
  unfold Sl at o0
  have S := Lib.hid S
  have HS := Lib.hid hs
  have HB := Lib.hid hb
  clear hs hb
  obtain ⟨cs, hcs⟩ : ∃ cs, Hid (shaC st blk n = cs) := ⟨_, Lib.hid rfl⟩
  have hz := Lib.hid (shaC_size (n := n) HS.out HB.out)
  have h1 := Lib.hid (shaC_one st blk n)
  rw [hcs.out] at S hz h1
  go_wp2_with (first
    | (refine wpList_load_blk rfl 134 (.tmp 13) rfl g (by simp [Act.eval, Act.put, hsz, o0]) 134 _ S.out.at_ _ Tryd.underlying134 rfl (by rw [hz.out]; exact Tryd.infoSha) ?_)
    | (refine wpList_store_blk rfl 134 (.tmp 4) (.tmp 14) rfl w.heap.size (by simp [Act.eval, Act.put, hsz]) cs (by simp [Act.eval, Act.put, hsz]) 134 _ (Blk.new w 134 _) (by rw [hz.out]; exact Tryd.infoSha) (by rw [hz.out]; rfl) h1.out ?_; intro w7 b7 k7; have S7 := Lib.hid (Held.setBlk (l1 := []) (S.out.newBlk 134 _) b7 k7); clear b7 k7))
  rw [← hcs.out] at S7
  try simp only [Act.put]
  exact hend _ _ (by repeat (first | (with_reducible refine same_set (by decide) ?_) | (with_reducible exact same_nil))) (⟨_, (by unfold Sl; simp [hsz]), S7.out⟩)
-- END ssm4
-- REG ssm5
set_option maxRecDepth 100000 in
set_option maxHeartbeats 2000000 in
theorem ssm_r5 {Q : Exit → Act → World → Prop} {a : Act} {w : World} (g n : Nat) (cs : Array Value) (hc : cs[72]? = some (.int .i64 (n : Int))) (hb : Blk w g 134 cs) (hn : n < 1152921504606846976) (hsz : a.tmps.size = 52) (o0 : Sl a 0 (.pointer (some ⟨g, 0, none⟩)))
    (hend : ∀ (a' : Act), Same a a' [15, 16, 17, 18, 19, 20, 5] → Sl a' 5 (.int .u64 ((8 * n : Nat) : Int)) → Q .normal a' (w)) : (Code.region 5 (opsOf 5 Tryd.f64).toArray false).wp Tryd.prog Q a w := by
  refine wp_region_lit (l := (opsOf 5 Tryd.f64)) ?_
  conv => arg 4; whnf
  unfold Sl at o0
  have c1 : w.cell? ⟨g, 72, none⟩ = some (.int .i64 (n : Int)) := by rw [hb.cell]; exact hc
  have hw := Lib.hid (show ((n : Int) * 8) % 18446744073709551616 = ((8 * n : Nat) : Int) from by omega)
  have hn := Lib.hid hn
  clear hb hc
  go_wp2
  first | rw [hw.out] | skip
  try simp only [Act.put]
  exact hend _ (by repeat (first | (with_reducible refine same_set (by decide) ?_) | (with_reducible exact same_nil))) (by unfold Sl; first | (simp [hsz]; done) | (simp [hsz]; omega))
-- END ssm5
-- REG ssm6
set_option maxRecDepth 100000 in
set_option maxHeartbeats 2000000 in
theorem ssm_r6 {Q : Exit → Act → World → Prop} {a : Act} {w : World} (w0 : World) (g4 : Nat) (m : List UInt8) (st : List Nat) (blk : List UInt8) (hU : Und m st blk) (hm : m.length + 1 < 4611686018427387904) (L : List Res) (S : Held w0 w (blkR g4 134 (shaC st blk m.length) :: L)) (hsz : a.tmps.size = 52) (o4 : Sl a 4 (.pointer (some ⟨g4, 0, none⟩)))
    (hend : ∀ (a' : Act) (W : World), Same a a' [21, 22] → (∃ st' blk', Und (m ++ [128]) st' blk' ∧ Held w0 W (blkR g4 134 (shaC st' blk' (m ++ [128]).length) :: L)) → Q .normal a' W) : (Code.region 6 (opsOf 6 Tryd.f64).toArray false).wp Tryd.prog Q a w := by
  refine wp_region_lit (l := (opsOf 6 Tryd.f64)) ?_
  conv => arg 4; whnf
  unfold Sl at o4
  have S := Lib.hid S
  have hU := Lib.hid hU
  have Hm := Lib.hid hm
  clear hm
  go_wp2_with fail
  refine (take_any w0 g4 m [128] st blk hU.out (by simp; exact Hm.out) _ (rowR 5 1 (.slice (some ⟨w.heap.size, 0, none⟩) 1 1) 1 (bv [128]) :: L) _ (fun V cs SV => Rd.of_own (SV.at_ (l1 := [_]))) ?_).mono ?_
  · refine (Held.perm ?_ (List.Perm.swap _ _ _))
    exact S.out.rownew (ow_new w 5 1 1 #[.int .u8 128] rfl (by decide)) ((Kp.refl [] w).alloc _) (fun g hg => Nat.le_of_eq (Option.some.inj hg))
  rintro e w2 ⟨rfl, st2, blk2, U2, S2⟩
  have S2 := Lib.hid (S2.dropAt (l1 := [_]))
  go_wp2
  try simp only [Act.put]
  exact hend _ _ (by repeat (first | (with_reducible refine same_set (by decide) ?_) | (with_reducible exact same_nil))) (⟨st2, blk2, U2, S2.out⟩)
-- END ssm6
-- REG ssm8
set_option maxRecDepth 100000 in
set_option maxHeartbeats 2000000 in
theorem ssm_r8 {Q : Exit → Act → World → Prop} {a : Act} {w : World} (w0 : World) (g4 : Nat) (m : List UInt8) (st : List Nat) (blk : List UInt8) (hU : Und m st blk) (hm : m.length + 1 < 4611686018427387904) (L : List Res) (S : Held w0 w (blkR g4 134 (shaC st blk m.length) :: L)) (hsz : a.tmps.size = 52) (o4 : Sl a 4 (.pointer (some ⟨g4, 0, none⟩)))
    (hend : ∀ (a' : Act) (W : World), Same a a' [27, 28] → (∃ st' blk', Und (m ++ [0]) st' blk' ∧ Held w0 W (blkR g4 134 (shaC st' blk' (m ++ [0]).length) :: L)) → Q .normal a' W) : (Code.region 8 (opsOf 8 Tryd.f64).toArray false).wp Tryd.prog Q a w := by
  refine wp_region_lit (l := (opsOf 8 Tryd.f64)) ?_
  conv => arg 4; whnf
  unfold Sl at o4
  have S := Lib.hid S
  have hU := Lib.hid hU
  have Hm := Lib.hid hm
  clear hm
  go_wp2_with fail
  refine (take_any w0 g4 m [0] st blk hU.out (by simp; exact Hm.out) _ (rowR 5 1 (.slice (some ⟨w.heap.size, 0, none⟩) 1 1) 1 (bv [0]) :: L) _ (fun V cs SV => Rd.of_own (SV.at_ (l1 := [_]))) ?_).mono ?_
  · refine (Held.perm ?_ (List.Perm.swap _ _ _))
    exact S.out.rownew (ow_new w 5 1 1 #[.int .u8 0] rfl (by decide)) ((Kp.refl [] w).alloc _) (fun g hg => Nat.le_of_eq (Option.some.inj hg))
  rintro e w2 ⟨rfl, st2, blk2, U2, S2⟩
  have S2 := Lib.hid (S2.dropAt (l1 := [_]))
  go_wp2
  try simp only [Act.put]
  exact hend _ _ (by repeat (first | (with_reducible refine same_set (by decide) ?_) | (with_reducible exact same_nil))) (⟨st2, blk2, U2, S2.out⟩)
-- END ssm8
-- REG ssm12
set_option maxRecDepth 100000 in
set_option maxHeartbeats 2000000 in
theorem ssm_r12 {Q : Exit → Act → World → Prop} {a : Act} {w : World} (w0 : World) (g4 : Nat) (m : List UInt8) (st : List Nat) (blk : List UInt8) (b : UInt8) (hU : Und m st blk) (hm : m.length + 1 < 4611686018427387904) (L : List Res) (S : Held w0 w (blkR g4 134 (shaC st blk m.length) :: L)) (N i : Nat) (hi : i ≤ 56) (hb : b = UInt8.ofNat (N / 2 ^ i)) (hsz : a.tmps.size = 52) (o4 : Sl a 4 (.pointer (some ⟨g4, 0, none⟩))) (o5 : Sl a 5 (.int .u64 (N : Int))) (o6 : Sl a 6 (.int .i64 (i : Int)))
    (hend : ∀ (a' : Act) (W : World), Same a a' [33, 34, 35, 36, 37, 38] → (∃ st' blk', Und (m ++ [b]) st' blk' ∧ Held w0 W (blkR g4 134 (shaC st' blk' (m ++ [b]).length) :: L)) → Q .normal a' W) : (Code.region 12 (opsOf 12 Tryd.f64).toArray false).wp Tryd.prog Q a w := by
  refine wp_region_lit (l := (opsOf 12 Tryd.f64)) ?_
  conv => arg 4; whnf
  unfold Sl at o4 o5 o6
  have S := Lib.hid S
  have hU := Lib.hid hU
  have Hm := Lib.hid hm
  clear hm
  have hbv : Hid (((N : Int) / 2 ^ i) % 256 = (b.toNat : Int)) := Lib.hid (by rw [hb, UInt8.toNat_ofNat', Int.natCast_emod, Int.natCast_ediv, Int.natCast_pow]; rfl)
  clear hb
  go_wp2_with fail
  rw [hbv.out]
  refine (take_any w0 g4 m [b] st blk hU.out (by simp; exact Hm.out) _ (rowR 5 1 (.slice (some ⟨w.heap.size, 0, none⟩) 1 1) 1 (bv [b]) :: L) _ (fun V cs SV => Rd.of_own (SV.at_ (l1 := [_]))) ?_).mono ?_
  · refine (Held.perm ?_ (List.Perm.swap _ _ _))
    exact S.out.rownew (ow_new w 5 1 1 #[.int .u8 (b.toNat : Int)] rfl (by decide)) ((Kp.refl [] w).alloc _) (fun g hg => Nat.le_of_eq (Option.some.inj hg))
  rintro e w2 ⟨rfl, st2, blk2, U2, S2⟩
  have S2 := Lib.hid (S2.dropAt (l1 := [_]))
  go_wp2
  try simp only [Act.put]
  exact hend _ _ (by repeat (first | (with_reducible refine same_set (by decide) ?_) | (with_reducible exact same_nil))) (⟨st2, blk2, U2, S2.out⟩)
-- END ssm12
-- REG ssm7
set_option maxRecDepth 100000 in
set_option maxHeartbeats 2000000 in
theorem ssm_r7 {Q : Exit → Act → World → Prop} {a : Act} {w : World} (g4 n : Nat) (cs : Array Value) (hc : cs[72]? = some (.int .i64 (n : Int))) (hb : Blk w g4 134 cs) (hsz : a.tmps.size = 52) (o4 : Sl a 4 (.pointer (some ⟨g4, 0, none⟩)))
    (hend : ∀ (a' : Act), Same a a' [23, 24, 25, 26] → Sl a' 26 (.bool (((n % 64 : Nat) : Int) != 56)) → Q .normal a' (w)) : (Code.region 7 (opsOf 7 Tryd.f64).toArray false).wp Tryd.prog Q a w := by
  refine wp_region_lit (l := (opsOf 7 Tryd.f64)) ?_
  conv => arg 4; whnf
  unfold Sl at o4
  have c1 : w.cell? ⟨g4, 72, none⟩ = some (.int .i64 (n : Int)) := by rw [hb.cell]; exact hc
  have ht : Int.tmod (n : Int) 64 = ((n % 64 : Nat) : Int) := rfl
  have hd : (((n % 64 : Nat) : Int) == 56) = decide (n % 64 = 56) := by rw [Bool.eq_iff_iff, beq_iff_eq, decide_eq_true_iff]; omega
  obtain ⟨q, hq⟩ : ∃ q, n % 64 = q := ⟨_, rfl⟩
  rw [hq] at ht hd hend
  have hq := Lib.hid hq
  clear hb hc
  go_wp2_with fail
  try simp only [Act.put]
  exact hend _ (by repeat (first | (with_reducible refine same_set (by decide) ?_) | (with_reducible exact same_nil))) (by unfold Sl; first | (simp [hsz]; done) | (simp [hsz]; omega))
-- END ssm7
-- REG ssm9
set_option maxRecDepth 100000 in
set_option maxHeartbeats 2000000 in
theorem ssm_r9 {Q : Exit → Act → World → Prop} {a : Act} {w : World}  (hsz : a.tmps.size = 52) 
    (hend : ∀ (a' : Act), Same a a' [6] → Sl a' 6 (.int .i64 ((56 : Nat) : Int)) → Q .normal a' (w)) : (Code.region 9 (opsOf 9 Tryd.f64).toArray false).wp Tryd.prog Q a w := by
  refine wp_region_lit (l := (opsOf 9 Tryd.f64)) ?_
  conv => arg 4; whnf
  go_wp2_with fail
  try simp only [Act.put]
  exact hend _ (by repeat (first | (with_reducible refine same_set (by decide) ?_) | (with_reducible exact same_nil))) (by unfold Sl; first | (simp [hsz]; done) | (simp [hsz]; omega))
-- END ssm9
-- REG ssm10
set_option maxRecDepth 100000 in
set_option maxHeartbeats 2000000 in
theorem ssm_r10 {Q : Exit → Act → World → Prop} {a : Act} {w : World} (z : Int) (hsz : a.tmps.size = 52) (o6 : Sl a 6 (.int .i64 z))
    (hend : ∀ (a' : Act), Same a a' [29, 30] → Sl a' 30 (.bool (decide (0 ≤ z))) → Q .normal a' (w)) : (Code.region 10 (opsOf 10 Tryd.f64).toArray false).wp Tryd.prog Q a w := by
  refine wp_region_lit (l := (opsOf 10 Tryd.f64)) ?_
  conv => arg 4; whnf
  unfold Sl at o6
  go_wp2_with fail
  try simp only [Act.put]
  exact hend _ (by repeat (first | (with_reducible refine same_set (by decide) ?_) | (with_reducible exact same_nil))) (by unfold Sl; first | (simp [hsz]; done) | (simp [hsz]; omega))
-- END ssm10
-- REG ssm11
set_option maxRecDepth 100000 in
set_option maxHeartbeats 2000000 in
theorem ssm_r11 {Q : Exit → Act → World → Prop} {a : Act} {w : World} (z : Int) (hz : -100 ≤ z ∧ z ≤ 100) (hsz : a.tmps.size = 52) (o6 : Sl a 6 (.int .i64 z))
    (hend : ∀ (a' : Act), Same a a' [31, 32, 6] → Sl a' 6 (.int .i64 (z - 8)) → Q .normal a' (w)) : (Code.region 11 (opsOf 11 Tryd.f64).toArray false).wp Tryd.prog Q a w := by
  refine wp_region_lit (l := (opsOf 11 Tryd.f64)) ?_
  conv => arg 4; whnf
  unfold Sl at o6
  have hw : wrap64 (z - 8) = z - 8 := by unfold wrap64; omega
  go_wp2_with fail
  try simp only [Act.put]
  exact hend _ (by repeat (first | (with_reducible refine same_set (by decide) ?_) | (with_reducible exact same_nil))) (by unfold Sl; first | (simp [hsz]; done) | (simp [hsz]; omega))
-- END ssm11
-- REG ssm13
set_option maxRecDepth 100000 in
set_option maxHeartbeats 2000000 in
theorem ssm_r13 {Q : Exit → Act → World → Prop} {a : Act} {w : World} (w0 : World) (g n : Nat) (st : List Nat) (blk : List UInt8) (hs : st.length = 8) (hb : blk.length = 64) (L : List Res) (S : Held w0 w (blkR g 134 (shaC st blk n) :: L)) (hsz : a.tmps.size = 52) (o4 : Sl a 4 (.pointer (some ⟨g, 0, none⟩)))
    (hend : ∀ (a' : Act), Same a a' [39, 40, 41] → Sl a' 40 (.agg (u32A st)) → Sl a' 41 (.int .i64 ((0 : Nat) : Int)) → Q .normal a' (w)) : (Code.region 13 (opsOf 13 Tryd.f64).toArray false).wp Tryd.prog Q a w := by
  refine wp_region_lit (l := (opsOf 13 Tryd.f64)) ?_
  conv => arg 4; whnf
  unfold Sl at o4
  have S := Lib.hid S
  have HS := Lib.hid hs
  clear hs hb
  go_wp2_with (refine wpList_load_agg rfl 111 (.tmp 39) rfl ⟨g, 0, none⟩ (by simp [Act.eval, Act.put, hsz]) (u32A st).toList _ (sha_stateAt (S.out.at_ (l1 := [])) HS.out) Tryd.underlying111 rfl (by rw [Array.length_toList, u32A_size, HS.out]; exact Tryd.info8w) ?_)
  try simp only [Act.put]
  exact hend _ (by repeat (first | (with_reducible refine same_set (by decide) ?_) | (with_reducible exact same_nil))) (by unfold Sl; first | (simp [hsz]; done) | (simp [hsz]; omega)) (by unfold Sl; first | (simp [hsz]; done) | (simp [hsz]; omega))
-- END ssm13
-- REG ssm14
set_option maxRecDepth 100000 in
set_option maxHeartbeats 2000000 in
theorem ssm_r14 {Q : Exit → Act → World → Prop} {a : Act} {w : World} (k : Nat) (hsz : a.tmps.size = 52) (o41 : Sl a 41 (.int .i64 (k : Int)))
    (hend : ∀ (a' : Act), Same a a' [42] → Sl a' 42 (.bool (decide ((k : Int) < 8))) → Q .normal a' (w)) : (Code.region 14 (opsOf 14 Tryd.f64).toArray false).wp Tryd.prog Q a w := by
  refine wp_region_lit (l := (opsOf 14 Tryd.f64)) ?_
  conv => arg 4; whnf
  unfold Sl at o41
  go_wp2_with fail
  try simp only [Act.put]
  exact hend _ (by repeat (first | (with_reducible refine same_set (by decide) ?_) | (with_reducible exact same_nil))) (by unfold Sl; first | (simp [hsz]; done) | (simp [hsz]; omega))
-- END ssm14
-- REG ssm15
set_option maxRecDepth 100000 in
set_option maxHeartbeats 2000000 in
theorem ssm_r15 {Q : Exit → Act → World → Prop} {a : Act} {w : World} (k x : Nat) (st : List Nat) (hk : k < 8) (hs : st.length = 8) (hx : st[k]? = some x) (hsz : a.tmps.size = 52) (o40 : Sl a 40 (.agg (u32A st))) (o41 : Sl a 41 (.int .i64 (k : Int)))
    (hend : ∀ (a' : Act), Same a a' [43, 44, 7, 8] → Sl a' 7 (.int .i64 (k : Int)) → Sl a' 8 (.int .u32 (x : Int)) → Q .normal a' (w)) : (Code.region 15 (opsOf 15 Tryd.f64).toArray false).wp Tryd.prog Q a w := by
  refine wp_region_lit (l := (opsOf 15 Tryd.f64)) ?_
  conv => arg 4; whnf
  unfold Sl at o40 o41
  have hr : (Instr.index 111 (.agg (u32A st)) (.int .i64 (k : Int))).run Tryd.prog w = .ok (.int .u32 (x : Int)) w := run_index_u32 w 111 110 8 st .i64 (k : Int) k x rfl hx hs Tryd.underlying111 Tryd.underlying110 (by kernel_rfl)
  obtain ⟨ca, hca⟩ : ∃ ca, u32A st = ca := ⟨_, rfl⟩
  rw [hca] at hr o40
  clear hca
  go_wp2_with fail
  try simp only [Act.put]
  exact hend _ (by repeat (first | (with_reducible refine same_set (by decide) ?_) | (with_reducible exact same_nil))) (by unfold Sl; first | (simp [hsz]; done) | (simp [hsz]; omega)) (by unfold Sl; first | (simp [hsz]; done) | (simp [hsz]; omega))
-- END ssm15
-- REG ssm16
set_option maxRecDepth 100000 in
set_option maxHeartbeats 2000000 in
theorem ssm_r16 {Q : Exit → Act → World → Prop} {a : Act} {w : World} (w0 : World) (g3 : Nat) (cs : List UInt8) (hl : cs.length = 32) (k x : Nat) (hk : k < 8) (L1 L : List Res) (S : Held w0 w (L1 ++ blkR g3 25 (hashA cs) :: L)) (hsz : a.tmps.size = 52) (o3 : Sl a 3 (.pointer (some ⟨g3, 0, none⟩))) (o7 : Sl a 7 (.int .i64 (k : Int))) (o8 : Sl a 8 (.int .u32 (x : Int)))
    (hend : ∀ (a' : Act) (W : World), Same a a' [45, 46, 47, 48, 49] → (Held w0 W (L1 ++ blkR g3 25 (hashA (lay cs (4 * k) (be 4 x))) :: L)) → Q .normal a' W) : (Code.region 16 (opsOf 16 Tryd.f64).toArray false).wp Tryd.prog Q a w := by
  refine wp_region_lit (l := (opsOf 16 Tryd.f64)) ?_
  conv => arg 4; whnf
  unfold Sl at o3 o7 o8
  have hsl := Tryd.slice32at g3 w (4 * k) (4 * (k : Int)) (by omega) (by omega)
  have HR := Lib.hid (put_any w0 g3 25 cs (4 * k) (32 - 4 * k) (32 - 4 * k) x (by omega) (by omega) (L1 ++ L) w (S.perm List.perm_middle))
  clear S
  go_wp2_with fail
  refine HR.out.mono ?_
  rintro e w2 ⟨rfl, S2⟩
  have S2 := Lib.hid (S2.perm List.perm_middle.symm)
  go_wp2
  try simp only [Act.put]
  exact hend _ _ (by repeat (first | (with_reducible refine same_set (by decide) ?_) | (with_reducible exact same_nil))) (S2.out)
-- END ssm16
-- REG ssm17
set_option maxRecDepth 100000 in
set_option maxHeartbeats 2000000 in
theorem ssm_r17 {Q : Exit → Act → World → Prop} {a : Act} {w : World} (k : Nat) (hk : k < 8) (hsz : a.tmps.size = 52) (o41 : Sl a 41 (.int .i64 (k : Int)))
    (hend : ∀ (a' : Act), Same a a' [50, 41] → Sl a' 41 (.int .i64 ((k + 1 : Nat) : Int)) → Q .normal a' (w)) : (Code.region 17 (opsOf 17 Tryd.f64).toArray false).wp Tryd.prog Q a w := by
  refine wp_region_lit (l := (opsOf 17 Tryd.f64)) ?_
  conv => arg 4; whnf
  unfold Sl at o41
  go_wp2_with fail
  try simp only [Act.put]
  exact hend _ (by repeat (first | (with_reducible refine same_set (by decide) ?_) | (with_reducible exact same_nil))) (by unfold Sl; first | (simp [hsz]; done) | (simp [hsz]; omega))
-- END ssm17
-- REG ssm18
set_option maxRecDepth 100000 in
set_option maxHeartbeats 2000000 in
theorem ssm_r18 {Q : Exit → Act → World → Prop} {a : Act} {w : World} (w0 : World) (g3 g2 : Nat) (cs c2 : List UInt8) (hl : cs.length = 32) (h2 : c2.length = 32) (L1 L2 L3 : List Res) (S : Held w0 w (L1 ++ blkR g3 25 (hashA cs) :: (L2 ++ blkR g2 25 (hashA c2) :: L3))) (hsz : a.tmps.size = 52) (o2 : Sl a 2 (.pointer (some ⟨g2, 0, none⟩))) (o3 : Sl a 3 (.pointer (some ⟨g3, 0, none⟩)))
    (hend : ∀ (a' : Act) (W : World), Same a a' [51] → (Held w0 W ((L1 ++ blkR g3 25 (hashA cs) :: L2) ++ blkR g2 25 (hashA cs) :: L3)) → Q .normal a' W) : (Code.region 18 (opsOf 18 Tryd.f64).toArray false).wp Tryd.prog Q a w := by
  refine wp_region_lit (l := (opsOf 18 Tryd.f64)) ?_
  conv => arg 4; whnf
  unfold Sl at o2 o3
  have S := Lib.hid S
  have HL := Lib.hid hl
  have H2 := Lib.hid h2
  clear hl h2
  have S' : Hid (Held w0 w ((L1 ++ blkR g3 25 (hashA cs) :: L2) ++ blkR g2 25 (hashA c2) :: L3)) := Lib.hid (by have := S.out; simpa [List.append_assoc] using this)
  go_wp2_with (first
    | (refine wpList_load_blk rfl 25 (.tmp 3) rfl g3 (by simp [Act.eval, Act.put, hsz, o3]) 25 _ S.out.at_ _ Tryd.underlying25 rfl (by rw [hashA_size, HL.out]; exact Tryd.infoHashP) ?_)
    | (refine wpList_store_blk rfl 25 (.tmp 2) (.tmp 51) rfl g2 (by simp [Act.eval, Act.put, hsz, o2]) (hashA cs) (by simp [Act.eval, Act.put, hsz]) 25 _ S'.out.at_ (by rw [hashA_size, HL.out]; exact Tryd.infoHashP) (by rw [hashA_size, hashA_size, HL.out, H2.out]) (hashA_one cs) ?_; intro w7 b7 k7; have S7 := Lib.hid (Held.setBlk S'.out b7 k7); clear b7 k7))
  try simp only [Act.put]
  exact hend _ _ (by repeat (first | (with_reducible refine same_set (by decide) ?_) | (with_reducible exact same_nil))) (S7.out)
-- END ssm18
end Go.Proofs.YtapboamjpilckaaDoor
/- (*Sha).Sum, whole; sha.Sum. -/
namespace Go.Proofs.YtapboamjpilckaaDoor
open Go.RowKit
def dsSm0 : List Nat := [23, 24, 25, 26, 27, 28]
def dsSm1 : List Nat := [6, 29, 30, 31, 32, 33, 34, 35, 36, 37, 38]
def dsSm2 : List Nat := [7, 8, 41, 42, 43, 44, 45, 46, 47, 48, 49, 50]
theorem padZ_le (n j : Nat) (h : (n + 1 + j) % 64 ≠ 56) (hj : j ≤ padZ n) : j < padZ n := by
  unfold padZ at *
  omega
theorem padZ_end (n j : Nat) (h : (n + 1 + j) % 64 = 56) (hj : j ≤ padZ n) : j = padZ n := by
  unfold padZ at *
  omega
set_option maxRecDepth 100000 in
set_option maxHeartbeats 2000000 in
theorem ssm_l0 {Q : Exit → Act → World → Prop} {a : Act} {w0 w : World} (g4 : Nat) (m : List UInt8) (st : List Nat) (blk : List UInt8) (hU : Und (m ++ [128]) st blk) (hm : m.length < 1152921504606846976) (L : List Res) (hsz : a.tmps.size = 52) (o4 : Sl a 4 (.pointer (some ⟨g4, 0, none⟩)))
    (S : Held w0 w (blkR g4 134 (shaC st blk (m ++ [128]).length) :: L))
    (hend : ∀ (a' : Act) (W : World) (st : List Nat) (blk : List UInt8), Same a a' dsSm0 → Und (m ++ [128] ++ List.replicate (padZ m.length) 0) st blk → Held w0 W (blkR g4 134 (shaC st blk (m ++ [128] ++ List.replicate (padZ m.length) 0).length) :: L) → Q .normal a' W) :
    (Code.block 0 (blockOf 0 Tryd.f64)).wp Tryd.prog Q a w := by
  refine wp_block ?_
  conv => arg 2; whnf
  obtain ⟨M, hM⟩ : ∃ M : Act → World → Nat, M = fun _ w' => padZ m.length - (match w'.cell? ⟨g4, 72, none⟩ with | some v => (intOf v).toNat - (m.length + 1) | none => 0) := ⟨_, rfl⟩
  refine wp_loop (fun a' w' => ∃ (j : Nat) (st : List Nat) (blk : List UInt8), j ≤ padZ m.length ∧ Same a a' dsSm0 ∧ Und (m ++ [128] ++ List.replicate j 0) st blk ∧ Held w0 w' (blkR g4 134 (shaC st blk (m ++ [128] ++ List.replicate j 0).length) :: L)) M ⟨0, st, blk, Nat.zero_le _, Same.refl _ _, by rw [List.replicate_zero, List.append_nil]; exact hU, by rw [List.replicate_zero, List.append_nil]; exact S⟩ ?_
  clear hU S
  rintro a1 w1 ⟨j, st, blk, hj, T, hU, S⟩
  have o4 := T.keep 4 _ (by decide) o4
  have hz1 := T.size.trans hsz
  have hpz := (padZ_spec m.length).2
  have hl : (m ++ [128] ++ List.replicate j 0).length = m.length + 1 + j := by simp; omega
  have hM1 : ∀ (a' : Act) (W : World) (st : List Nat) (blk : List UInt8) (j : Nat), st.length = 8 → blk.length = 64 → Held w0 W (blkR g4 134 (shaC st blk (m ++ [128] ++ List.replicate j 0).length) :: L) → M a' W = padZ m.length - j := by
    intro a' W st blk j h8 h64 S
    rw [hM]
    show padZ m.length - (match W.cell? ⟨g4, 72, none⟩ with | some v => (intOf v).toNat - (m.length + 1) | none => 0) = _
    rw [(S.at_ (l1 := [])).cell, shaC_len h8 h64]
    simp [intOf]
    omega
  refine wp_seq (wp_seq (ssm_r7 g4 _ _ (shaC_len hU.len8 hU.len) (S.at_ (l1 := [])) hz1 o4 (fun a2 hs2 o26 => ?_)))
  have hz2 := hs2.size.trans hz1
  have o4 := hs2.keep 4 _ (by decide) o4
  have T := T.trans hs2
  rw [hl] at o26
  by_cases hlt : (m.length + 1 + j) % 64 = 56
  · refine wp_cond_false ((o26.eval (by rw [hz2]; decide)).trans (by rw [hlt]; rfl)) (wp_exit ?_)
    obtain rfl := padZ_end _ _ hlt hj
    exact hend _ _ st blk (T.more (by decide +kernel)) hU S
  · refine wp_cond_true ((o26.eval (by rw [hz2]; decide)).trans (by rw [show ((((m.length + 1 + j) % 64 : Nat) : Int) != 56) = true from by rw [bne_iff_ne]; omega])) (wp_skip ?_)
    have hjl := padZ_le _ _ hlt hj
    refine wp_block ?_
    refine ssm_r8 w0 g4 _ st blk hU (by rw [hl]; omega) L S hz2 o4 (fun a3 w2 hs3 h => ?_)
    have hz3 := hs3.size.trans hz2
    have o4 := hs3.keep 4 _ (by decide) o4
    have o26 := hs3.keep 26 _ (by decide) o26
    have T := T.trans hs3
    obtain ⟨st2, blk2, U2, S2⟩ := h
    have e : m ++ [128] ++ List.replicate j 0 ++ [0] = m ++ [128] ++ List.replicate (j + 1) 0 := by rw [List.append_assoc, ← List.replicate_succ']
    rw [e] at U2 S2
    refine ⟨⟨j + 1, st2, blk2, hjl, T.more (by decide +kernel), U2, S2⟩, ?_⟩
    show M _ _ < M _ _
    rw [hM1 _ _ _ _ _ U2.len8 U2.len S2, hM1 a1 w1 _ _ _ hU.len8 hU.len S]
    omega
theorem be8_take (N r : Nat) (h : r < 8) : (be 8 N).take (r + 1) = (be 8 N).take r ++ [UInt8.ofNat (N / 2 ^ (56 - 8 * r))] := by
  rcases (by omega : r = 0 ∨ r = 1 ∨ r = 2 ∨ r = 3 ∨ r = 4 ∨ r = 5 ∨ r = 6 ∨ r = 7) with rfl | rfl | rfl | rfl | rfl | rfl | rfl | rfl <;> rfl
set_option maxRecDepth 100000 in
set_option maxHeartbeats 2000000 in
theorem ssm_l1 {Q : Exit → Act → World → Prop} {a : Act} {w0 w : World} (g4 : Nat) (m : List UInt8) (N : Nat) (st : List Nat) (blk : List UInt8) (hU : Und m st blk) (hm : m.length + 8 < 4611686018427387904) (L : List Res) (hsz : a.tmps.size = 52) (o4 : Sl a 4 (.pointer (some ⟨g4, 0, none⟩))) (o5 : Sl a 5 (.int .u64 (N : Int))) (o6 : Sl a 6 (.int .i64 ((56 : Nat) : Int)))
    (S : Held w0 w (blkR g4 134 (shaC st blk m.length) :: L))
    (hend : ∀ (a' : Act) (W : World) (st : List Nat) (blk : List UInt8), Same a a' dsSm1 → Und (m ++ be 8 N) st blk → Held w0 W (blkR g4 134 (shaC st blk (m ++ be 8 N).length) :: L) → Q .normal a' W) :
    (Code.block 2 (blockOf 2 Tryd.f64)).wp Tryd.prog Q a w := by
  refine wp_block ?_
  conv => arg 2; whnf
  refine wp_loop (fun a' w' => ∃ (r : Nat) (st : List Nat) (blk : List UInt8), r ≤ 8 ∧ Same a a' dsSm1 ∧ Sl a' 6 (.int .i64 (56 - 8 * (r : Int))) ∧ Und (m ++ (be 8 N).take r) st blk ∧ Held w0 w' (blkR g4 134 (shaC st blk (m ++ (be 8 N).take r).length) :: L)) (fun a' _ => (intOf (a'.eval (.tmp 6)) + 8).toNat) ⟨0, st, blk, Nat.zero_le _, Same.refl _ _, o6, by rw [List.take_zero, List.append_nil]; exact hU, by rw [List.take_zero, List.append_nil]; exact S⟩ ?_
  clear hU S o6
  rintro a1 w1 ⟨r, st, blk, hr, T, o6, hU, S⟩
  have o4 := T.keep 4 _ (by decide) o4
  have o5 := T.keep 5 _ (by decide) o5
  have hz1 := T.size.trans hsz
  have eCtr := o6.eval (by rw [hz1]; decide)
  have hl : (m ++ (be 8 N).take r).length = m.length + r := by rw [List.length_append, List.length_take, be_length]; omega
  refine wp_seq (wp_seq (ssm_r10 _ hz1 o6 (fun a2 hs2 o30 => ?_)))
  have hz2 := hs2.size.trans hz1
  have o4 := hs2.keep 4 _ (by decide) o4
  have o5 := hs2.keep 5 _ (by decide) o5
  have o6 := hs2.keep 6 _ (by decide) o6
  have T := T.trans hs2
  by_cases hlt : r < 8
  · refine wp_cond_true ((o30.eval (by rw [hz2]; decide)).trans (by rw [decide_eq_true (by omega)])) (wp_skip ?_)
    have e6 : (56 - 8 * (r : Int)) = (((56 - 8 * r : Nat)) : Int) := by omega
    have o6' := o6
    rw [e6] at o6'
    refine wp_seq (wp_block ?_)
    refine ssm_r12 w0 g4 _ st blk _ hU (by rw [hl]; omega) L S N (56 - 8 * r) (by omega) rfl hz2 o4 o5 o6' (fun a3 w2 hs3 h => ?_)
    have hz3 := hs3.size.trans hz2
    have o4 := hs3.keep 4 _ (by decide) o4
    have o5 := hs3.keep 5 _ (by decide) o5
    have o6 := hs3.keep 6 _ (by decide) o6
    have o30 := hs3.keep 30 _ (by decide) o30
    have T := T.trans hs3
    obtain ⟨st2, blk2, U2, S2⟩ := h
    rw [List.append_assoc, ← be8_take N r hlt] at U2 S2
    refine ssm_r11 _ (by omega) hz3 o6 (fun a4 hs4 o6 => ?_)
    have hz4 := hs4.size.trans hz3
    have o4 := hs4.keep 4 _ (by decide) o4
    have o5 := hs4.keep 5 _ (by decide) o5
    have o30 := hs4.keep 30 _ (by decide) o30
    have T := T.trans hs4
    have e7 : (56 - 8 * (r : Int)) - 8 = 56 - 8 * ((r + 1 : Nat) : Int) := by omega
    rw [e7] at o6
    refine ⟨⟨r + 1, st2, blk2, by omega, T.more (by decide +kernel), o6, U2, S2⟩, ?_⟩
    show (intOf (_) + 8).toNat < (intOf (_) + 8).toNat
    rw [eCtr, o6.eval (by rw [hz4]; decide)]
    show (56 - 8 * ((r + 1 : Nat) : Int) + 8).toNat < (56 - 8 * (r : Int) + 8).toNat
    omega
  · obtain rfl : r = 8 := by omega
    refine wp_cond_false ((o30.eval (by rw [hz2]; decide)).trans (by rw [decide_eq_false (by omega)])) (wp_exit ?_)
    rw [List.take_of_length_le (by simp)] at hU S
    exact hend _ _ st blk (T.more (by decide +kernel)) hU S
/-- So many words of a state, laid. -/
def layW (st : List Nat) (k : Nat) : List UInt8 := (st.take k).flatMap (be 4) ++ List.replicate (32 - 4 * k) 0
theorem flat4 (l : List Nat) : (l.flatMap (be 4)).length = 4 * l.length := by
  induction l with
  | nil => rfl
  | cons a l ih => rw [List.flatMap_cons, List.length_append, ih, be_length, List.length_cons]; omega
theorem layW_length {st : List Nat} (hs : st.length = 8) {k : Nat} (hk : k ≤ 8) : (layW st k).length = 32 := by
  unfold layW
  rw [List.length_append, flat4, List.length_take, List.length_replicate]; omega
theorem layW_next {st : List Nat} (hs : st.length = 8) {k x : Nat} (hk : k < 8) (hx : st[k]? = some x) : lay (layW st k) (4 * k) (be 4 x) = layW st (k + 1) := by
  have h1 : ((st.take k).flatMap (be 4)).length = 4 * k := by rw [flat4, List.length_take]; omega
  unfold lay layW
  rw [List.take_left' h1, List.drop_append, List.drop_of_length_le (by rw [h1, be_length]; omega), List.nil_append, h1, be_length, List.drop_replicate, List.take_add_one, hx]
  simp only [Option.toList_some, List.flatMap_append, List.flatMap_cons, List.flatMap_nil, List.append_nil]
  congr 2
  omega
set_option maxRecDepth 100000 in
set_option maxHeartbeats 2000000 in
theorem ssm_l2 {Q : Exit → Act → World → Prop} {a : Act} {w0 w : World} (g3 : Nat) (st : List Nat) (hs : st.length = 8) (L1 L : List Res) (hsz : a.tmps.size = 52) (o3 : Sl a 3 (.pointer (some ⟨g3, 0, none⟩))) (o40 : Sl a 40 (.agg (u32A st))) (o41 : Sl a 41 (.int .i64 ((0 : Nat) : Int)))
    (S : Held w0 w (L1 ++ blkR g3 25 (hashA (List.replicate 32 0)) :: L))
    (hend : ∀ (a' : Act) (W : World), Same a a' dsSm2 → Held w0 W (L1 ++ blkR g3 25 (hashA (st.flatMap (be 4))) :: L) → Q .normal a' W) :
    (Code.block 4 (blockOf 4 Tryd.f64)).wp Tryd.prog Q a w := by
  refine wp_block ?_
  conv => arg 2; whnf
  refine wp_loop (fun a' w' => ∃ k : Nat, k ≤ 8 ∧ Same a a' dsSm2 ∧ Sl a' 41 (.int .i64 (k : Int)) ∧ Held w0 w' (L1 ++ blkR g3 25 (hashA (layW st k)) :: L)) (fun a' _ => 8 - (intOf (a'.eval (.tmp 41))).toNat) ⟨0, Nat.zero_le _, Same.refl _ _, o41, S⟩ ?_
  clear S o41
  rintro a1 w1 ⟨k, hk, T, o41, S⟩
  have o3 := T.keep 3 _ (by decide) o3
  have o40 := T.keep 40 _ (by decide) o40
  have hz1 := T.size.trans hsz
  have eCtr := o41.eval (by rw [hz1]; decide)
  refine wp_seq (ssm_r14 k hz1 o41 (fun a2 hs2 o42 => ?_))
  have hz2 := hs2.size.trans hz1
  have o3 := hs2.keep 3 _ (by decide) o3
  have o40 := hs2.keep 40 _ (by decide) o40
  have o41 := hs2.keep 41 _ (by decide) o41
  have T := T.trans hs2
  by_cases hlt : k < 8
  · refine wp_seq (wp_cond_true ((o42.eval (by rw [hz2]; decide)).trans (by rw [decide_eq_true (by omega)])) (wp_skip ?_))
    obtain ⟨x, hx⟩ : ∃ x, st[k]? = some x := ⟨_, List.getElem?_eq_getElem (by omega)⟩
    refine wp_seq (wp_block ?_)
    refine wp_seq (ssm_r15 k x st hlt hs hx hz2 o40 o41 (fun a3 hs3 o7 o8 => ?_))
    have hz3 := hs3.size.trans hz2
    have o3 := hs3.keep 3 _ (by decide) o3
    have o40 := hs3.keep 40 _ (by decide) o40
    have o41 := hs3.keep 41 _ (by decide) o41
    have o42 := hs3.keep 42 _ (by decide) o42
    have T := T.trans hs3
    refine ssm_r16 w0 g3 _ (layW_length hs hk) k x hlt L1 L S hz3 o3 o7 o8 (fun a4 w2 hs4 S => ?_)
    have hz4 := hs4.size.trans hz3
    have o3 := hs4.keep 3 _ (by decide) o3
    have o40 := hs4.keep 40 _ (by decide) o40
    have o41 := hs4.keep 41 _ (by decide) o41
    have o42 := hs4.keep 42 _ (by decide) o42
    have o7 := hs4.keep 7 _ (by decide) o7
    have o8 := hs4.keep 8 _ (by decide) o8
    have T := T.trans hs4
    rw [layW_next hs hlt hx] at S
    refine ssm_r17 k hlt hz4 o41 (fun a5 hs5 o41 => ?_)
    have hz5 := hs5.size.trans hz4
    have o3 := hs5.keep 3 _ (by decide) o3
    have o40 := hs5.keep 40 _ (by decide) o40
    have o42 := hs5.keep 42 _ (by decide) o42
    have o7 := hs5.keep 7 _ (by decide) o7
    have o8 := hs5.keep 8 _ (by decide) o8
    have T := T.trans hs5
    refine ⟨⟨k + 1, by omega, T.more (by decide +kernel), o41, S⟩, ?_⟩
    show 8 - (intOf _).toNat < 8 - (intOf _).toNat
    rw [eCtr, o41.eval (by rw [hz5]; decide)]
    simp [intOf]; omega
  · obtain rfl : k = 8 := by omega
    refine wp_seq (wp_cond_false ((o42.eval (by rw [hz2]; decide)).trans (by rw [decide_eq_false (by omega)])) (wp_exit ?_))
    have e : layW st 8 = st.flatMap (be 4) := by unfold layW; rw [List.take_of_length_le (by omega)]; simp
    rw [e] at S
    exact hend _ _ (T.more (by decide +kernel)) S
set_option maxRecDepth 100000 in
set_option maxHeartbeats 2000000 in
theorem ssum_any (w0 : World) (g : Nat) (m : List UInt8) (st : List Nat) (blk : List UInt8) (hU : Und m st blk) (hm : m.length < 1152921504606846976) (L : List Res) (w : World) (S : Held w0 w (blkR g 134 (shaC st blk m.length) :: L)) :
    Calls Tryd.prog 64 #[.pointer (some ⟨g, 0, none⟩)] w fun e w' => e = .returned (.agg (hashA (shaF m))) ∧ Held w0 w' (blkR g 134 (shaC st blk m.length) :: L) := by
  refine calls_fr Tryd.func64 rfl 52 rfl (fun a0 hsz hdf hAr => ?_)
  have hz0 : a0.tmps.size = 52 := hsz
  have D := hdf
  have o0 := hAr 0 _ rfl
  refine wp_seq (ssm_r0 w0 _ S hz0 (fun a1 w1 hs1 h => ?_))
  have hz1 := hs1.size.trans hz0
  have o0 := hs1.keep 0 _ (by decide) o0
  have D := hs1.defers.trans D
  obtain ⟨g2, o2, S⟩ := h
  refine wp_seq (ssm_r1 w0 _ S hz1 (fun a2 w2 hs2 h => ?_))
  have hz2 := hs2.size.trans hz1
  have o0 := hs2.keep 0 _ (by decide) o0
  have o2 := hs2.keep 2 _ (by decide) o2
  have D := hs2.defers.trans D
  obtain ⟨g3, o3, S⟩ := h
  refine wp_seq (wp_seq (ssm_r2 g _ (shaC_made hU.len8 hU.len) (S.at_ (l1 := [_, _])) hz2 o0 (fun a3 hs3 o10 => ?_)))
  have hz3 := hs3.size.trans hz2
  have o0 := hs3.keep 0 _ (by decide) o0
  have o2 := hs3.keep 2 _ (by decide) o2
  have o3 := hs3.keep 3 _ (by decide) o3
  have D := hs3.defers.trans D
  refine wp_cond_false (o10.eval (by rw [hz3]; decide)) (wp_skip ?_)
  refine wp_seq (ssm_r4 w0 g _ st blk hU.len8 hU.len [_, _] _ S hz3 o0 (fun a4 w4 hs4 h => ?_))
  have hz4 := hs4.size.trans hz3
  have o0 := hs4.keep 0 _ (by decide) o0
  have o2 := hs4.keep 2 _ (by decide) o2
  have o3 := hs4.keep 3 _ (by decide) o3
  have D := hs4.defers.trans D
  obtain ⟨g4, o4, S⟩ := h
  refine wp_seq (ssm_r5 g _ _ (shaC_len hU.len8 hU.len) (S.at_ (l1 := [_, _, _])) hm hz4 o0 (fun a5 hs5 o5 => ?_))
  have hz5 := hs5.size.trans hz4
  have o0 := hs5.keep 0 _ (by decide) o0
  have o2 := hs5.keep 2 _ (by decide) o2
  have o3 := hs5.keep 3 _ (by decide) o3
  have o4 := hs5.keep 4 _ (by decide) o4
  have D := hs5.defers.trans D
  refine wp_seq (ssm_r6 w0 g4 m st blk hU (by omega) _ S hz5 o4 (fun a6 w6 hs6 h => ?_))
  have hz6 := hs6.size.trans hz5
  have o0 := hs6.keep 0 _ (by decide) o0
  have o2 := hs6.keep 2 _ (by decide) o2
  have o3 := hs6.keep 3 _ (by decide) o3
  have o4 := hs6.keep 4 _ (by decide) o4
  have o5 := hs6.keep 5 _ (by decide) o5
  have D := hs6.defers.trans D
  obtain ⟨st1, blk1, U1, S⟩ := h
  refine wp_seq (ssm_l0 g4 m st1 blk1 U1 hm _ hz6 o4 S (fun a7 w7 st2 blk2 hs7 U2 S => ?_))
  have hz7 := hs7.size.trans hz6
  have o0 := hs7.keep 0 _ (by decide) o0
  have o2 := hs7.keep 2 _ (by decide) o2
  have o3 := hs7.keep 3 _ (by decide) o3
  have o4 := hs7.keep 4 _ (by decide) o4
  have o5 := hs7.keep 5 _ (by decide) o5
  have D := hs7.defers.trans D
  have hpz := (padZ_spec m.length).2
  have hl2 : (m ++ [128] ++ List.replicate (padZ m.length) 0).length = m.length + 1 + padZ m.length := by simp; omega
  refine wp_seq (wp_seq (ssm_r9 hz7 (fun a8 hs8 o6 => ?_)))
  have hz8 := hs8.size.trans hz7
  have o0 := hs8.keep 0 _ (by decide) o0
  have o2 := hs8.keep 2 _ (by decide) o2
  have o3 := hs8.keep 3 _ (by decide) o3
  have o4 := hs8.keep 4 _ (by decide) o4
  have o5 := hs8.keep 5 _ (by decide) o5
  have D := hs8.defers.trans D
  refine ssm_l1 g4 _ (8 * m.length) st2 blk2 U2 (by omega) _ hz8 o4 o5 o6 S (fun a9 w9 st3 blk3 hs9 U3 S => ?_)
  have hz9 := hs9.size.trans hz8
  have o0 := hs9.keep 0 _ (by decide) o0
  have o2 := hs9.keep 2 _ (by decide) o2
  have o3 := hs9.keep 3 _ (by decide) o3
  have o4 := hs9.keep 4 _ (by decide) o4
  have o5 := hs9.keep 5 _ (by decide) o5
  have D := hs9.defers.trans D
  have ep : m ++ [128] ++ List.replicate (padZ m.length) 0 ++ be 8 (8 * m.length) = pad m := by unfold pad; simp only [List.append_assoc, List.cons_append, List.nil_append]
  rw [ep] at U3 S
  have h8 := U3.len8
  have h64 := U3.len
  refine wp_seq (wp_seq (ssm_r13 w0 g4 _ st3 blk3 h8 h64 _ S hz9 o4 (fun a10 hs10 o40 o41 => ?_)))
  have hz10 := hs10.size.trans hz9
  have o0 := hs10.keep 0 _ (by decide) o0
  have o2 := hs10.keep 2 _ (by decide) o2
  have o3 := hs10.keep 3 _ (by decide) o3
  have o4 := hs10.keep 4 _ (by decide) o4
  have o5 := hs10.keep 5 _ (by decide) o5
  have D := hs10.defers.trans D
  refine ssm_l2 g3 st3 h8 [_] _ hz10 o3 o40 o41 S (fun a11 w11 hs11 S => ?_)
  have hz11 := hs11.size.trans hz10
  have o0 := hs11.keep 0 _ (by decide) o0
  have o2 := hs11.keep 2 _ (by decide) o2
  have o3 := hs11.keep 3 _ (by decide) o3
  have o4 := hs11.keep 4 _ (by decide) o4
  have o5 := hs11.keep 5 _ (by decide) o5
  have o40 := hs11.keep 40 _ (by decide) o40
  have D := hs11.defers.trans D
  have ef : st3.flatMap (be 4) = shaF m := by unfold shaF; rw [U3.st]
  rw [ef] at S
  refine wp_seq (ssm_r18 w0 g3 g2 _ (List.replicate 32 0) (shaF_length m) rfl [_] [] _ S hz11 o2 o3 (fun a12 w12 hs12 S => ?_))
  have hz12 := hs12.size.trans hz11
  have o0 := hs12.keep 0 _ (by decide) o0
  have o2 := hs12.keep 2 _ (by decide) o2
  have o3 := hs12.keep 3 _ (by decide) o3
  have o4 := hs12.keep 4 _ (by decide) o4
  have o5 := hs12.keep 5 _ (by decide) o5
  have o40 := hs12.keep 40 _ (by decide) o40
  have D := hs12.defers.trans D
  refine wp_ret (bodyPost_ret (results_cell1 (by rfl) (o2.eval (by rw [hz12]; decide)) (S.at_ (l1 := [_, _])) Tryd.underlying25 rfl (by rw [hashA_size, shaF_length]; exact Tryd.infoHashP)) D ⟨rfl, ?_⟩)
  exact S.drop.drop.drop
end Go.Proofs.YtapboamjpilckaaDoor
/- Walks of package crc: numbers carried. -/
namespace Go.Proofs.YtapboamjpilckaaDoor
open Go.RowKit

end Go.Proofs.YtapboamjpilckaaDoor
/- Walks: joined, parted, patched; and the reference's. -/
namespace Go.Proofs.YtapboamjpilckaaDoor
open Go.RowKit

end Go.Proofs.YtapboamjpilckaaDoor
/- Walks of package crc: Sums. -/
namespace Go.Proofs.YtapboamjpilckaaDoor
open Go.RowKit

end Go.Proofs.YtapboamjpilckaaDoor
/- Walks: lists of texts: their sum, are they long; Append, New. -/
namespace Go.Proofs.YtapboamjpilckaaDoor
open Go.RowKit

end Go.Proofs.YtapboamjpilckaaDoor
/- Crc: the plain mathematics: texts xored; four bytes. -/
namespace Go.Proofs.YtapboamjpilckaaDoor

/-! ### Four bytes -/
/-- The bytes of a number, the lowest first. -/
def le4 (y : Nat) : List UInt8 := [UInt8.ofNat y, UInt8.ofNat (y / 256), UInt8.ofNat (y / 65536), UInt8.ofNat (y / 16777216)]
end Go.Proofs.YtapboamjpilckaaDoor
/- Walks of package wire: a reader is made, its end; the law's 'known'. -/
namespace Go.Proofs.YtapboamjpilckaaDoor
open Go.RowKit

end Go.Proofs.YtapboamjpilckaaDoor
/- Walks of package record and of its reference: sizes, the sum's bytes. -/
namespace Go.Proofs.YtapboamjpilckaaDoor
open Go.RowKit

end Go.Proofs.YtapboamjpilckaaDoor
/- The reference's Ends; Frame. -/
namespace Go.Proofs.YtapboamjpilckaaDoor
open Go.RowKit

end Go.Proofs.YtapboamjpilckaaDoor
/- WireOrders: the walk. -/
namespace Go.Proofs.YtapboamjpilckaaDoor
open Go.RowKit

end Go.Proofs.YtapboamjpilckaaDoor
/- '[]byte("..")' of a constant: what it yields, and that it reads. -/
namespace Go.Proofs.YtapboamjpilckaaDoor
open Go.RowKit
theorem rd_txt (w : World) (e : TypeId) (cs : Array Value) (l : List UInt8) (fr : Nat × Nat) (h : cs.toList = bv l) (hn : l.length ≤ 4096) {g : Nat} (hg : g = w.heap.size) : Rd (w.alloc (.cells cs e fr)) 1 (.slice (some ⟨g, 0, none⟩) l.length l.length) l.length (bv l) := by
  subst hg
  refine ⟨by rw [bv_length]; omega, _, _, rfl, Nat.le_refl _, by unfold maxLen; omega, (fun h => by cases h), fun ad had j u hu => ?_⟩
  cases had
  have h1 := World.cell?_alloc_mark w cs e fr j
  rw [← h, Array.getElem?_toList] at hu
  rw [hu] at h1
  by_cases hj : j = 0
  · subst hj; simpa [Addr.add] using h1
  · simpa [Addr.add, hj] using h1
theorem conv_txt (w : World) (C : Array Value) (n c g : Nat) (hg : g = w.heap.size) : (convert 22 22 (.slice (some ⟨g, 0, none⟩) n c)).run Tryd.prog (w.alloc (.cells C 5)) = .ok (.slice (some ⟨g, 0, none⟩) n c) (w.alloc (.cells C 5 (C.size, C.size + 1))) := by
  subst hg
  exact Lib.run_convert_bytes_const (P := Tryd.prog) w 22 5 C n c Tryd.underlying22 Tryd.underlying5
/-- What reads only. -/
def rdR (v : Value) (n : Nat) (xs : List Value) : Res where
  fp := v.ownBlock.toList
  ok := fun w => Rd w 1 v n xs ∧ ∀ g, v.ownBlock = some g → g < w.heap.size
  keep := fun _ _ _ h hk hn => ⟨h.1.kp hk (fun g hg => hn g (by simp [hg])), fun g hg => Nat.lt_of_lt_of_le (h.2 g hg) hk.size⟩
  lt := fun _ h b hb => h.2 b (by simpa using hb)
end Go.Proofs.YtapboamjpilckaaDoor
/- Walks of the reference for layer 1, and of the law's helpers: Number, Eight, List; lent, left, spoil. -/
namespace Go.Proofs.YtapboamjpilckaaDoor
open Go.RowKit


end Go.Proofs.YtapboamjpilckaaDoor
/- Bytes of point. -/
namespace Go.Proofs.YtapboamjpilckaaDoor
open Go.RowKit
def ntry : List UInt8 := [78, 84, 82, 89]
def headL (s : Int) (h : List UInt8) : List UInt8 := ntry ++ be 8 (tou64 s) ++ h
def formL (s : Int) (h : List UInt8) : List UInt8 := headL s h ++ le4 (crc (headL s h))
end Go.Proofs.YtapboamjpilckaaDoor
/- A point put together from its number and its root. -/
namespace Go.Proofs.YtapboamjpilckaaDoor
open Go.RowKit
theorem foldl_place (off : Nat) : ∀ (xs : List Value) (k : Nat) (cs : Array Value), (xs.zipIdx k).foldl (fun cs (x : Value × Nat) => cs.setIfInBounds (off + x.2) x.1) cs = (cs.toList.take (off + k) ++ (xs.take (cs.size - (off + k))) ++ cs.toList.drop (off + k + xs.length)).toArray
  | [], k, cs => by simp
  | x :: xs, k, cs => by
    rw [List.zipIdx_cons, List.foldl_cons, foldl_place off xs (k + 1)]
    congr 1
    simp only [Array.toList_setIfInBounds, Array.size_setIfInBounds]
    by_cases h : off + k < cs.size
    · have e1 : (cs.toList.set (off + k) x).take (off + (k + 1)) = cs.toList.take (off + k) ++ [x] := by
        rw [List.set_eq_take_append_cons_drop, if_pos (by simpa using h), List.take_append, List.take_take, List.length_take]
        simp [show min (off + k) cs.size = off + k from by omega, show off + (k + 1) - (off + k) = 1 from by omega]
      have e2 : (cs.toList.set (off + k) x).drop (off + (k + 1) + xs.length) = cs.toList.drop (off + k + (x :: xs).length) := by
        rw [List.drop_set, if_pos (by omega)]
        congr 1
        simp only [List.length_cons]
        omega
      rw [e1, e2, show cs.size - (off + k) = (cs.size - (off + (k + 1))) + 1 from by omega, List.take_succ_cons]
      simp
    · rw [List.set_eq_of_length_le (by simpa using h)]
      rw [show cs.size - (off + (k + 1)) = 0 from by omega, show cs.size - (off + k) = 0 from by omega]
      have hl : cs.toList.length ≤ off + k := by simpa using h
      rw [List.take_of_length_le (by omega), List.take_of_length_le hl, List.drop_of_length_le (by omega), List.drop_of_length_le (by omega)]
      simp
end Go.Proofs.YtapboamjpilckaaDoor
/- Walks for layer 1's laws: the reference's List; 'puts'. -/
namespace Go.Proofs.YtapboamjpilckaaDoor
open Go.RowKit

end Go.Proofs.YtapboamjpilckaaDoor
/- 'puts': what is written, by the program and by the document. -/
namespace Go.Proofs.YtapboamjpilckaaDoor
open Go.RowKit

/-- A Put, as data. -/
structure PutD where
  kind : Int
  x : Nat
  h : List UInt8
  b : List UInt8
  width : Int
/-- The bytes that it writes. -/
def PutD.enc (p : PutD) : List UInt8 :=
  if p.kind = 1 then be 1 p.x else if p.kind = 2 then be 2 p.x else if p.kind = 3 then be 4 p.x else if p.kind = 4 then be 8 p.x else if p.kind = 5 then be 8 p.x
  else if p.kind = 6 then p.h else if p.kind = 7 then p.b
  else if p.kind = 8 then (if 1 ≤ p.width ∧ p.width ≤ 4 ∧ p.b.length < 256 ^ p.width.toNat then be p.width.toNat p.b.length ++ p.b else []) else []
/-- The cells of one. -/
structure PutC (cs : Array Value) (p : PutD) (B : Value) : Prop where
  c0 : cs[0]? = some (.int .i64 p.kind)
  c1 : cs[1]? = some (.int .u64 p.x)
  ch : ((cs.toList.drop 2).take 32) = bv p.h
  c34 : cs[34]? = some B
  c35 : cs[35]? = some (.int .i64 p.width)
  size : cs.size = 36
  hx : p.x < 18446744073709551616
  hh : p.h.length = 32
  hk : -9223372036854775808 ≤ p.kind ∧ p.kind ≤ 9223372036854775807
  hw : -9223372036854775808 ≤ p.width ∧ p.width ≤ 9223372036854775807



-- PUTS
end Go.Proofs.YtapboamjpilckaaDoor
/- 'puts', the other kinds. -/
namespace Go.Proofs.YtapboamjpilckaaDoor
open Go.RowKit

end Go.Proofs.YtapboamjpilckaaDoor
/- 'puts', the kinds that lend. -/
namespace Go.Proofs.YtapboamjpilckaaDoor
open Go.RowKit

end Go.Proofs.YtapboamjpilckaaDoor
/- 'puts', all kinds; its loop. -/
namespace Go.Proofs.YtapboamjpilckaaDoor
open Go.RowKit

end Go.Proofs.YtapboamjpilckaaDoor
/- WireWrites: what comes in; what the call holds. -/
namespace Go.Proofs.YtapboamjpilckaaDoor
open Go.RowKit

/-- Element i of a slice of Puts. -/
structure PutAt (w : World) (ad : Addr) (i : Nat) (p : PutD) (cs : Array Value) (B : Value) : Prop where
  c : PutC cs p B
  at_ : ∀ j u, cs.toList[j]? = some u → w.cell? ((ad.add (i * 36)).add j) = some u
  b : Rd w 1 B p.b.length (bv p.b)
theorem cell_old {w w' : World} {p : Addr} {u : Value} (h : w.cell? p = some u) (hk : Kp [] w w') : w'.cell? p = some u := by
  have hlt : p.block < w.heap.size := by
    rcases Nat.lt_or_ge p.block w.heap.size with h' | h'
    · exact h'
    · simp [World.cell?, Array.getElem?_eq_none h'] at h
  rw [World.cell?_of_block (hk.block p.block hlt (by simp))]; exact h
theorem PutAt.old {w w' : World} {ad : Addr} {i : Nat} {p : PutD} {cs : Array Value} {B : Value} (h : PutAt w ad i p cs B) (hk : Kp [] w w') : PutAt w' ad i p cs B :=
  ⟨h.c, fun j u hu => cell_old (h.at_ j u hu) hk, rd_old h.b hk⟩
theorem PutAt.lt {w : World} {ad : Addr} {i : Nat} {p : PutD} {cs : Array Value} {B : Value} (h : PutAt w ad i p cs B) : ∀ g, B.ownBlock = some g → p.b ≠ [] → g < w.heap.size := by
  intro g hg hne
  obtain ⟨_, A, c, h2, _, _, h5, h6⟩ := h.b
  rw [h2] at hg
  cases A with
  | none => simp [Value.ownBlock] at hg
  | some ad =>
    simp [Value.ownBlock] at hg
    obtain ⟨x, xs, hx⟩ := List.exists_cons_of_ne_nil hne
    have h := h6 ad rfl 0 (.int .u8 x.toNat) (by rw [hx]; rfl)
    rcases Nat.lt_or_ge g w.heap.size with h' | h'
    · exact h'
    · exfalso
      have hb : (ad.add 0).block = g := by rw [← hg]; rfl
      simp [World.cell?, hb, Array.getElem?_eq_none h'] at h

theorem same_true (x y : Value) (a : List UInt8) (n m : Nat) (w : World) (hx : Rd w 1 x n (bv a)) (hy : Rd w 1 y m (bv a)) :
    Calls Tryd.prog 10 #[x, y] w fun e w' => e = .returned (.bool true) ∧ w = w' := by
  have h := same_any x y a a n m w hx hy
  rwa [beq_self_eq_true] at h
end Go.Proofs.YtapboamjpilckaaDoor
/- WireReads: the reference's reader. -/
namespace Go.Proofs.YtapboamjpilckaaDoor
open Go.RowKit

end Go.Proofs.YtapboamjpilckaaDoor
/- WireReads: Raw, List. -/
namespace Go.Proofs.YtapboamjpilckaaDoor
open Go.RowKit

end Go.Proofs.YtapboamjpilckaaDoor
/- WireReads: the reference's Raw; List. -/
namespace Go.Proofs.YtapboamjpilckaaDoor
open Go.RowKit

end Go.Proofs.YtapboamjpilckaaDoor
/- WireReads: List. -/
namespace Go.Proofs.YtapboamjpilckaaDoor
open Go.RowKit

end Go.Proofs.YtapboamjpilckaaDoor
/- WireReads: the reader's List. -/
namespace Go.Proofs.YtapboamjpilckaaDoor
open Go.RowKit

end Go.Proofs.YtapboamjpilckaaDoor
/- WireReads: the reference's List. -/
namespace Go.Proofs.YtapboamjpilckaaDoor
open Go.RowKit

end Go.Proofs.YtapboamjpilckaaDoor
/- WireReads: Hash. -/
namespace Go.Proofs.YtapboamjpilckaaDoor
open Go.RowKit

end Go.Proofs.YtapboamjpilckaaDoor
/- WireReads: Hash, of both. -/
namespace Go.Proofs.YtapboamjpilckaaDoor
open Go.RowKit

end Go.Proofs.YtapboamjpilckaaDoor
/- Batches and entries as bytes: the plain mathematics. -/
namespace Go.Proofs.YtapboamjpilckaaDoor
open Go.RowKit

end Go.Proofs.YtapboamjpilckaaDoor
/- Check of entry and of the reference. -/
namespace Go.Proofs.YtapboamjpilckaaDoor
open Go.RowKit
theorem Txs.len_le {w : World} {v : Value} {L : List (List UInt8)} (h : Txs w v L) : L.length ≤ 9223372036854775807 := by
  obtain ⟨vs, ⟨_, A', c', _, h1, h2, _⟩, _⟩ := h
  unfold maxLen at h2
  omega
theorem Txs.at_ {w : World} {ad : Addr} {n c : Nat} {L : List (List UInt8)} (h : Txs w (.slice (some ad) n c) L) {k : Nat} (hk : k < L.length) : ∃ A c, w.cell? (ad.add k) = some (.slice A L[k].length c) ∧ Rd w 1 (.slice A L[k].length c) L[k].length (bv L[k]) := by
  obtain ⟨A', c', e, _, h2⟩ := h.open_
  cases e
  obtain ⟨u, h3, h4⟩ := h2 ad rfl k hk
  obtain ⟨A, c, rfl, _⟩ := rd_get2 h4
  exact ⟨A, c, h3, h4⟩
end Go.Proofs.YtapboamjpilckaaDoor
/- The reference's Put and One for layer 15. -/
namespace Go.Proofs.YtapboamjpilckaaDoor
open Go.RowKit
/-- A new row of bytes. -/
def NewB (bs : List UInt8) (w : World) (v : Value) (w' : World) : Prop := Ow w' 5 1 v bs.length (bv bs) ∧ Kp [] w w' ∧ ∀ g, v.ownBlock = some g → w.heap.size ≤ g
theorem NewB.rd {bs : List UInt8} {w w' : World} {v : Value} (h : NewB bs w v w') : Rd w' 1 v bs.length (bv bs) := Rd.of_own h.1
theorem NewB.nil (w w' : World) (h : Kp [] w w') : NewB [] w (.slice none 0 0) w' := ⟨World.ownsRow_nil _ _ _ _, h, by simp [Value.ownBlock]⟩
theorem NewB.base {bs : List UInt8} {w0 w w' : World} {v : Value} (k : Kp [] w0 w) (h : NewB bs w v w') : NewB bs w0 v w' := ⟨h.1, k.trans h.2.1 (by simp), fun g hg => Nat.le_trans k.size (h.2.2 g hg)⟩
theorem NewB.kp {bs : List UInt8} {w0 w w' : World} {v : Value} (h : NewB bs w0 v w) (k : Kp [] w w') : NewB bs w0 v w' := ⟨ow_kp h.1 k (by simp), h.2.1.trans k (by simp), h.2.2⟩
end Go.Proofs.YtapboamjpilckaaDoor
/- A fellow of w_list (XWireC): an empty list may share the writer's block. -/
namespace Go.Proofs.YtapboamjpilckaaDoor
open Go.RowKit
end Go.Proofs.YtapboamjpilckaaDoor
/- Put and One of entry. -/
namespace Go.Proofs.YtapboamjpilckaaDoor
open Go.RowKit
end Go.Proofs.YtapboamjpilckaaDoor
/- The law's lent: texts in memory of their own, with marks behind. -/
namespace Go.Proofs.YtapboamjpilckaaDoor
open Go.RowKit
theorem cut_u8c (A : Option Addr) (n c k : Nat) (h : Int) (hh : h = k) (hk : k ≤ c) (w : World) : (Instr.sliceAt 22 (.slice A n c) none (some (.int .i64 h)) none).run Tryd.prog w = .ok (.slice A k c) w := by
  subst hh
  rw [cut_at, run_slice_h w 22 A n c und_u8 .i64 k (by omega) (by omega), elem_u8, run_size_u8]
  simp only [Result.andThen_ok, Int.toNat_natCast]
  congr 1
  by_cases e : c = 0
  · simp [sliced, e]
  · cases A with
    | none => simp [sliced, e]
    | some ad => simp [sliced, e, Addr.add]
theorem cut_u8 (A : Option Addr) (n c k : Nat) (h : Int) (hh : h = k) (hk : k ≤ n) (hc : n ≤ c) (w : World) : (Instr.sliceAt 22 (.slice A n c) none (some (.int .i64 h)) none).run Tryd.prog w = .ok (.slice A k c) w := cut_u8c A n c k h hh (by omega) w
theorem grow1_form {w : World} {B : Value} {n : Nat} {xs : List Value} (h : Ow w 5 1 (grow1 B) (n + 1) xs) : ∃ A c, B = .slice A n c ∧ n + 1 ≤ c := by
  obtain ⟨A, c, e, h1, _⟩ := ow_form h
  cases B <;> simp only [grow1] at e <;> try cases e
  exact ⟨_, _, rfl, h1⟩
/-- A marked text reads as the text. -/
theorem mark_rd {w : World} {B : Value} {l : List UInt8} (h : Ow w 5 1 (grow1 B) (l.length + 1) (bv (l ++ [165]))) : Rd w 1 B l.length (bv l) := by
  obtain ⟨A, c, rfl, hc⟩ := grow1_form h
  obtain ⟨h1, A', c', e, h2, h3, h4, h5⟩ := Rd.of_own h
  simp only [grow1] at e
  cases e
  refine ⟨by rw [bv_length]; omega, A, c, rfl, by omega, h3, (fun hA => ?_), (fun ad had j u hu => h5 ad had j u ?_)⟩
  · have := h4 hA; omega
  · rw [bv_append]
    have hj := (List.getElem?_eq_some_iff.1 hu).1
    rw [List.getElem?_append_left hj]
    exact hu
def mk4 : List UInt8 := [109, 97, 114, 107]
end Go.Proofs.YtapboamjpilckaaDoor
/- The reference's Same of layer 15; the law's kept. -/
namespace Go.Proofs.YtapboamjpilckaaDoor
open Go.RowKit
/-- What is held of lent texts. -/
structure Lent (w : World) (g c : Nat) (Bs : List Value) (M : Value) (L : List (List UInt8)) : Prop where
  len : Bs.length = L.length
  row : Ow w 22 1 (.slice (some ⟨g, 0, none⟩) (L.length + 1) c) (L.length + 1) (Bs ++ [M])
  mark : Rd w 1 M 4 (bv mk4)
  texts : ∀ (i : Nat) (l : List UInt8) (B : Value), L[i]? = some l → Bs[i]? = some B → Ow w 5 1 (grow1 B) (l.length + 1) (bv (l ++ [165]))
theorem Lent.kp {w w' : World} {g c : Nat} {Bs : List Value} {M : Value} {L : List (List UInt8)} (h : Lent w g c Bs M L) (k : Kp [] w w') : Lent w' g c Bs M L :=
  ⟨h.len, ow_kp h.row k (by simp), rd_old h.mark k, fun i l B h1 h2 => ow_kp (h.texts i l B h1 h2) k (by simp)⟩
theorem Lent.txs {w : World} {g c : Nat} {Bs : List Value} {M : Value} {L : List (List UInt8)} (h : Lent w g c Bs M L) : Txs w (.slice (some ⟨g, 0, none⟩) L.length c) L := by
  obtain ⟨h1, A, c', e, h2, h3, h4, h5⟩ := Rd.of_own h.row
  cases e
  refine ⟨Bs, ⟨by rw [h.len]; omega, _, c, rfl, by omega, h3, (fun hA => by cases hA), fun ad had j u hu => h5 ad had j u ?_⟩, fun i hi => ?_⟩
  · rw [List.getElem?_append_left (List.getElem?_eq_some_iff.1 hu).1]
    exact hu
  · have hB : Bs[i]? = some (Bs[i]'(by rw [h.len]; exact hi)) := List.getElem?_eq_getElem _
    exact ⟨_, hB, mark_rd (h.texts i _ _ (List.getElem?_eq_getElem hi) hB)⟩
theorem Lent.at_ {w : World} {g c : Nat} {Bs : List Value} {M : Value} {L : List (List UInt8)} (h : Lent w g c Bs M L) {k : Nat} (hk : k < L.length) : ∃ gb cb, w.cell? ⟨g, k, none⟩ = some (.slice (some ⟨gb, 0, none⟩) L[k].length cb) ∧ L[k].length + 1 ≤ cb ∧ Ow w 5 1 (.slice (some ⟨gb, 0, none⟩) (L[k].length + 1) cb) (L[k].length + 1) (bv (L[k] ++ [165])) := by
  have hB : Bs[k]? = some (Bs[k]'(by rw [h.len]; exact hk)) := List.getElem?_eq_getElem _
  have ho := h.texts k _ _ (List.getElem?_eq_getElem hk) hB
  have hc := h.row.cellAt k (by omega)
  rw [List.getElem?_append_left (by rw [h.len]; exact hk), hB] at hc
  obtain ⟨A, cb, e, hcb⟩ := grow1_form ho
  rw [e] at ho hc
  simp only [grow1] at ho
  obtain ⟨gb, c', e2, _, _⟩ := ow_some ho (by omega)
  injection e2 with e2 _ _
  subst e2
  exact ⟨gb, cb, hc, hcb, ho⟩
end Go.Proofs.YtapboamjpilckaaDoor
/- Same of entry: slices.EqualFunc over bytes.Equal. -/
namespace Go.Proofs.YtapboamjpilckaaDoor
open Go.RowKit
end Go.Proofs.YtapboamjpilckaaDoor
/- Read of point. -/
namespace Go.Proofs.YtapboamjpilckaaDoor
open Go.RowKit
def rdS (bs : List UInt8) : Int := wrap64 (num ((bs.drop 4).take 8))
def rdH (bs : List UInt8) : List UInt8 := (bs.drop 12).take 32
def RVok (bs : List UInt8) : Prop := bs.length = 48 ∧ 0 ≤ rdS bs ∧ formL (rdS bs) (rdH bs) = bs
instance (bs : List UInt8) : Decidable (RVok bs) := by unfold RVok; exact inferInstance
end Go.Proofs.YtapboamjpilckaaDoor
/- Appending onto a row of the call's own whose shorter slice is read afterwards. -/
namespace Go.Proofs.YtapboamjpilckaaDoor
open Go.RowKit

/-- A row of the list is grown by 'append'. -/
theorem Held.grown {w0 w w' : World} {l1 l2 : List Res} {e : TypeId} {s n n' : Nat} {v v' : Value} {xs xs' : List Value} (h : Held w0 w (l1 ++ rowR e s v n xs :: l2)) (ho : Ow w' e s v' n' xs') (hg : Kp v.ownBlock.toList w w') (hv : v'.ownBlock = v.ownBlock ∨ v'.ownBlock = some w.heap.size) :
    Held w0 w' (l1 ++ rowR e s v' n' xs' :: l2) :=
  h.turnAt (rowR e s v' n' xs') hg ho (fun b hb => by
    rcases hv with e | e
    · exact .inl (by simpa [rowR, e] using hb)
    · simp only [rowR, e, Option.toList_some, List.mem_singleton] at hb; exact .inr (by omega))
section
variable {ops : Array Oper} {rest : List Oper} {o : Oper} {a : Act} {w : World} {Q : Exit → Act → World → Prop}
/-- 'append(v, y...)' where v is a thing held. -/
theorem app_held (l1 : List Res) {w0 : World} {l2 : List Res} (hgd : o.guard = none) (s x : Operand)
    (ho : o.op = .call { callee := .builtin .append, args := #[s, x], argTypes := #[22, 22] })
    (v : Value) (xs : List UInt8) (hs : a.eval s = v) (S : Held w0 w (l1 ++ rowR 5 1 v xs.length (bv xs) :: l2))
    (y : Value) (ys : List UInt8) (hx : a.eval x = y) (hr : Rd w 1 y ys.length (bv ys)) (hb : xs.length + ys.length ≤ 140737488355328)
    (h : ∀ v' w', Held w0 w' (l1 ++ rowR 5 1 v' (xs ++ ys).length (bv (xs ++ ys)) :: l2) → wpList Tryd.prog ops Q rest (a.put o.dst v') w') : wpList Tryd.prog ops Q (o :: rest) a w :=
  app_bytes hgd s x ho v xs hs (S.at_) y ys hx hr w0 S.k (fun g hg => S.base (rowR 5 1 v xs.length (bv xs)) (by simp) g (by simp [rowR, hg])) hb (fun v' w' o' _ k' _ h' => h v' w' (S.grown o' k' h'))
/-- 'append(nil, y...)': a new thing. -/
theorem app_new {w0 : World} {L : List Res} (hgd : o.guard = none) (s x : Operand)
    (ho : o.op = .call { callee := .builtin .append, args := #[s, x], argTypes := #[22, 22] })
    (hs : a.eval s = .slice none 0 0) (S : Held w0 w L)
    (y : Value) (ys : List UInt8) (hx : a.eval x = y) (hr : Rd w 1 y ys.length (bv ys)) (hb : ys.length ≤ 140737488355328)
    (h : ∀ v' w', Held w0 w' (rowR 5 1 v' ys.length (bv ys) :: L) → wpList Tryd.prog ops Q rest (a.put o.dst v') w') : wpList Tryd.prog ops Q (o :: rest) a w :=
  app_bytes hgd s x ho (.slice none 0 0) [] hs (World.ownsRow_nil _ _ _ _) y ys hx hr w0 S.k (by simp [Value.ownBlock]) (by simpa using hb) (fun v' w' o' _ k' _ h' => h v' w' (S.rownew (by simpa using o') (by simpa [Value.ownBlock] using k') (fun g hg => by
    rcases h' with e | e
    · rw [e] at hg; simp [Value.ownBlock] at hg
    · rw [e] at hg; cases hg; exact Nat.le_refl _)))
end
end Go.Proofs.YtapboamjpilckaaDoor
/- 'append(x, y...)' for bytes where x has no room (a constant's bytes: frozen): a new row. -/
namespace Go.Proofs.YtapboamjpilckaaDoor
open Go.RowKit
end Go.Proofs.YtapboamjpilckaaDoor
/- The reference's Form, Bytes. -/
namespace Go.Proofs.YtapboamjpilckaaDoor
open Go.RowKit
end Go.Proofs.YtapboamjpilckaaDoor
/- WireReads: the reference's Hash. -/
namespace Go.Proofs.YtapboamjpilckaaDoor
open Go.RowKit

end Go.Proofs.YtapboamjpilckaaDoor
/- Laws for operations whose guard says: go. -/
namespace Go.Proofs.YtapboamjpilckaaDoor
open Go.RowKit
section
variable {P : Program} {ops : Array Oper} {rest : List Oper} {o : Oper} {a : Act} {w : World} {Q : Exit → Act → World → Prop}
theorem wpList_met (j d : Nat) (b : Bool) (hg : o.guard = some (j, b)) (hj : (ops[j]?).bind (·.dst) = some d) (hd : a.tmps[d]?.getD undef = .bool b)
    (h : ∀ K : Act → World → Prop, (∀ a w, wpList P ops Q rest a w → K a w) → o.wp P a w K Q) : wpList P ops Q (o :: rest) a w :=
  wpList_step fun K hK => by
    rw [if_pos (by simp [Region.wanted, hg, yielded_of hj hd])]
    exact h K hK
theorem wpList_load_blkG (j d : Nat) (b : Bool) (hg : o.guard = some (j, b)) (hj : (ops[j]?).bind (·.dst) = some d) (hd : a.tmps[d]?.getD undef = .bool b)
    (ty : TypeId) (x : Operand) (ho : o.op = .load ty x) (g : Nat) (hx : a.eval x = .pointer (some ⟨g, 0, none⟩))
    (t : TypeId) (cs : Array Value) (hb : Blk w g t cs) (ds : TypeDesc) (hu : P.underlying ty = some ds) (hds : aggB ds = true) (hi : (P.info? ty).map (·.size) = some cs.size)
    (h : wpList P ops Q rest (a.put o.dst (.agg cs)) w) : wpList P ops Q (o :: rest) a w :=
  wpList_met j d b hg hj hd fun K hK => by
    unfold Oper.wp
    rw [exec_load ho hx (run_loadAt_agg w ⟨g, 0, none⟩ ty cs.toList ds hb.agg hu hds (by rw [hi, Array.length_toList]))]
    exact hK _ _ h
end
end Go.Proofs.YtapboamjpilckaaDoor
/- Read of the reference. -/
namespace Go.Proofs.YtapboamjpilckaaDoor
open Go.RowKit
end Go.Proofs.YtapboamjpilckaaDoor
/- Parse of point: the walk. -/
namespace Go.Proofs.YtapboamjpilckaaDoor
open Go.RowKit
end Go.Proofs.YtapboamjpilckaaDoor
/- Comparing hashes and points. -/
namespace Go.Proofs.YtapboamjpilckaaDoor
open Go.RowKit
theorem items_eq (w : World) (d : Nat) (a b : List UInt8) : ∀ (m k : Nat), a.length = k + m → b.length = k + m →
    (Op.eqItems (d + 1) 5 1 (hashA a) (hashA b) (List.range' k m)).run Tryd.prog w = .ok (a.drop k == b.drop k) w
  | 0, k, ha, hb => by
    rw [List.drop_of_length_le (by omega), List.drop_of_length_le (by omega)]
    simp [Op.eqItems]
  | m + 1, k, ha, hb => by
    have h1 : k < a.length := by omega
    have h2 : k < b.length := by omega
    have p1 : (part 5 (hashA a) (k * 1)).run Tryd.prog w = .ok (.int .u8 (a[k].toNat : Int)) w := run_part_plain w (by kernel_rfl) (by
      rw [Nat.mul_one]; simp [hashA, bv, h1])
    have p2 : (part 5 (hashA b) (k * 1)).run Tryd.prog w = .ok (.int .u8 (b[k].toNat : Int)) w := run_part_plain w (by kernel_rfl) (by
      rw [Nat.mul_one]; simp [hashA, bv, h2])
    have p3 := run_equalIn_int (P := Tryd.prog) w d 5 .u8 .u8 (a[k].toNat : Int) (b[k].toNat : Int) Tryd.underlying5
    rw [List.range'_succ, List.drop_eq_getElem_cons h1, List.drop_eq_getElem_cons h2, List.cons_beq_cons]
    simp only [Op.eqItems, Sem.run_bind, p1, p2, p3, Result.andThen_ok]
    by_cases e : a[k] = b[k]
    · rw [e]
      simp only [beq_self_eq_true, Bool.not_true, Bool.false_eq_true, if_false]
      rw [items_eq w d a b m (k + 1) (by omega) (by omega), Bool.true_and]
    · have e1 : ((a[k].toNat : Int) == (b[k].toNat : Int)) = false := beq_false_of_ne (fun h => e (UInt8.toNat.inj (by omega)))
      rw [e1, beq_false_of_ne e]
      rfl
theorem run_hash_eq (w : World) (d : Nat) (a b : List UInt8) (ha : a.length = 32) (hb : b.length = 32) : (Op.equalIn (d + 2) 25 (.agg (hashA a)) (.agg (hashA b))).run Tryd.prog w = .ok (a == b) w := by
  obtain ⟨i0, hi, -, -, -⟩ := info_parts Tryd.infoU8
  rw [run_equalIn_array w (d + 1) (hashA a) (hashA b) Tryd.underlying25 hi, show Tryd.prog.cellsOf 5 = 1 from by kernel_rfl, List.range_eq_range', items_eq w d a b 32 0 (by omega) (by omega)]
  rfl
theorem hash_eq_top (w : World) (a b : List UInt8) (ha : a.length = 32) (hb : b.length = 32) : (Op.equalIn 10000 25 (.agg (hashA a)) (.agg (hashA b))).run Tryd.prog w = .ok (a == b) w := by
  have h := fun n (e : n + 2 = 10000) => e ▸ run_hash_eq w n a b ha hb
  exact h 9998 (by decide)
theorem eql_hash (w : World) (a b : List UInt8) (ha : a.length = 32) (hb : b.length = 32) : (binOp .eql 25 (.agg (hashA a)) (.agg (hashA b))).run Tryd.prog w = .ok (.bool (a == b)) w := by
  rw [run_eql_struct, hash_eq_top w a b ha hb, Result.andThen_ok]
end Go.Proofs.YtapboamjpilckaaDoor
/- The chapter's rows: known. -/
namespace Go.Proofs.YtapboamjpilckaaDoor
open Go.RowKit
end Go.Proofs.YtapboamjpilckaaDoor
/- PointReads: the walk of the law. -/
namespace Go.Proofs.YtapboamjpilckaaDoor
open Go.RowKit
end Go.Proofs.YtapboamjpilckaaDoor
/- PointPuts: the walk of the law. -/
namespace Go.Proofs.YtapboamjpilckaaDoor
open Go.RowKit
section
variable {P : Program} {ops : Array Oper} {rest : List Oper} {o : Oper} {a : Act} {w w' : World} {Q : Exit → Act → World → Prop} {v : Value}
end
end Go.Proofs.YtapboamjpilckaaDoor
/- A frame in which bits are turned: mathematics. -/
namespace Go.Proofs.YtapboamjpilckaaDoor
open Go.RowKit
/-- Bytes as one number, the first the lowest. -/
def le : List UInt8 → Nat
  | [] => 0
  | c :: l => c.toNat ^^^ (le l * 2 ^ 8)
end Go.Proofs.YtapboamjpilckaaDoor
/- The reference's Turn. -/
namespace Go.Proofs.YtapboamjpilckaaDoor
open Go.RowKit
theorem u8_xor_nat' (a b : Nat) (ha : a < 256) (hb : b < 256) : bits .xor .u8 (a : Int) (b : Int) = ((a ^^^ b : Nat) : Int) := by
  show IntKind.u8.wrap ((BitVec.ofInt 8 (a : Int) ^^^ BitVec.ofInt 8 (b : Int)).toNat : Int) = _
  have h : ∀ x : Nat, x < 256 → (BitVec.ofInt 8 (x : Int)).toNat = x := fun x hx => by rw [BitVec.ofInt_natCast, BitVec.toNat_ofNat]; exact Nat.mod_eq_of_lt (by omega)
  rw [BitVec.toNat_xor, h a ha, h b hb, wrap_u8_nat, Nat.mod_eq_of_lt (show a ^^^ b < 256 from Nat.xor_lt_two_pow (n := 8) ha hb)]
end Go.Proofs.YtapboamjpilckaaDoor
/- PointTurned: the walk of the law. -/
namespace Go.Proofs.YtapboamjpilckaaDoor
open Go.RowKit
theorem exec_bin_agg {P : Program} {w : World} {ρ : Operand → Value} {o : Oper} {op : BinOp} {t t2 : TypeId} {x y : Operand} {xs ys : Array Value} {r : Value} (ho : o.op = .binOp op t x y t2) (hx : ρ x = .agg xs) (hy : ρ y = .agg ys) (hm : P.eqGuardType P.depth t = false) (h : (binOp op t (.agg xs) (.agg ys)).run P w = .ok r w) : (execOp ρ o).run P w = .ok (.value r) w := by
  unfold execOp
  simp only [ho, hx, hy, Sem.run_bind, run_eqGuard_agg w op t x y xs ys hm, h, Result.andThen_ok, Sem.run_pure]
end Go.Proofs.YtapboamjpilckaaDoor
/- Compare of point and of the reference. -/
namespace Go.Proofs.YtapboamjpilckaaDoor
open Go.RowKit
/-! ### The order -/
def cmpB (a b : List UInt8) : Int := Lib.compareBytes a b
theorem cmpB_cons (x y : UInt8) (a b : List UInt8) : cmpB (x :: a) (y :: b) = if x.toNat < y.toNat then -1 else if y.toNat < x.toNat then 1 else cmpB a b := by
  simp only [cmpB, Lib.compareBytes, UInt8.lt_iff_toNat_lt]
theorem cmpB_range : ∀ (a b : List UInt8), -1 ≤ cmpB a b ∧ cmpB a b ≤ 1
  | [], [] => by simp [cmpB, Lib.compareBytes]
  | [], _ :: _ => by simp [cmpB, Lib.compareBytes]
  | _ :: _, [] => by simp [cmpB, Lib.compareBytes]
  | x :: a, y :: b => by
    rw [cmpB_cons]
    have := cmpB_range a b
    split
    · omega
    · split <;> omega
theorem cmpB_neg : ∀ (a b : List UInt8), cmpB b a = - cmpB a b
  | [], [] => rfl
  | [], _ :: _ => rfl
  | _ :: _, [] => rfl
  | x :: a, y :: b => by
    rw [cmpB_cons, cmpB_cons, cmpB_neg a b]
    split <;> split <;> omega
theorem cmpB_zero : ∀ {a b : List UInt8}, cmpB a b = 0 → a = b
  | [], [], _ => rfl
  | [], _ :: _, h => by simp [cmpB, Lib.compareBytes] at h
  | _ :: _, [], h => by simp [cmpB, Lib.compareBytes] at h
  | x :: a, y :: b, h => by
    rw [cmpB_cons] at h
    split at h
    · omega
    · split at h
      · omega
      · rw [cmpB_zero h, UInt8.toNat_inj.1 (by omega : x.toNat = y.toNat)]
theorem cmpB_self : ∀ (a : List UInt8), cmpB a a = 0
  | [] => rfl
  | x :: a => by rw [cmpB_cons, cmpB_self a]; split <;> omega
end Go.Proofs.YtapboamjpilckaaDoor
/- Compare of point and of the reference: the walks. -/
namespace Go.Proofs.YtapboamjpilckaaDoor
open Go.RowKit
end Go.Proofs.YtapboamjpilckaaDoor
/- Compare of the reference: the walk. -/
namespace Go.Proofs.YtapboamjpilckaaDoor
open Go.RowKit
end Go.Proofs.YtapboamjpilckaaDoor
/- Lists of points in memory; Last of the reference. -/
namespace Go.Proofs.YtapboamjpilckaaDoor
open Go.RowKit
end Go.Proofs.YtapboamjpilckaaDoor
/- Names, lists of signatures: mathematics. -/
namespace Go.Proofs.YtapboamjpilckaaDoor
/-- A signer's name. -/
def nmOk (s : List UInt8) : Bool := decide (0 < s.length) && decide (s.length ≤ 64) && s.all fun c => decide (33 ≤ c.toNat) && decide (c.toNat ≤ 126)
/-- A signature: a name, a sum. -/
abbrev SigD := List UInt8 × List UInt8
/-- Names rise, each one a signer's; 'last' stands ahead. -/
def rising : List UInt8 → List SigD → Bool
  | _, [] => true
  | last, s :: l => nmOk s.1 && decide (0 < cmpB s.1 last) && rising s.1 l
def mayN (z : Int) (l : List SigD) : Bool := decide (0 ≤ z) && decide (l.length ≤ 64) && rising [] l
def keyOk (nm sec : List UInt8) : Bool := nmOk nm && decide (0 < sec.length) && decide (sec.length ≤ 256)
/-- The keyed sum. -/
def key64 (sec : List UInt8) : List UInt8 := (if 64 < sec.length then shaF sec else sec) ++ List.replicate (64 - (if 64 < sec.length then shaF sec else sec).length) 0
def turned (k : List UInt8) (t : UInt8) : List UInt8 := k.map (· ^^^ t)
def macF (sec msg : List UInt8) : List UInt8 := shaF (turned (key64 sec) 92 ++ shaF (turned (key64 sec) 54 ++ msg))
theorem key64_length (sec : List UInt8) : (key64 sec).length = 64 := by
  unfold key64
  rw [List.length_append, List.length_replicate]
  split
  · rw [shaF_length]
  · omega
theorem macF_length (sec msg : List UInt8) : (macF sec msg).length = 32 := shaF_length _
end Go.Proofs.YtapboamjpilckaaDoor
/- Walks of package sign: the keyed sum. -/
namespace Go.Proofs.YtapboamjpilckaaDoor
open Go.RowKit
set_option maxRecDepth 100000 in
set_option maxHeartbeats 1000000 in
theorem swrite_any (w0 : World) (g : Nat) (m l : List UInt8) (st : List Nat) (blk : List UInt8) (hU : Und m st blk) (hml : m.length + l.length ≤ 1152921504606846976) (x : Value) (L : List Res) (w : World) (HB : ∀ V cs, Held w0 V (blkR g 134 cs :: L) → Rd V 1 x l.length (bv l))
    (S : Held w0 w (blkR g 134 (shaC st blk m.length) :: L)) :
    Calls Tryd.prog 65 #[.pointer (some ⟨g, 0, none⟩), x] w fun e w' => e = .returned (.int .i64 0) ∧ ∃ st' blk', Und (m ++ l) st' blk' ∧ Held w0 w' (blkR g 134 (shaC st' blk' (m ++ l).length) :: L) := by
  obtain ⟨A, c, rfl⟩ := rd_form (HB w _ S)
  have HR := Lib.hid (take_any w0 g m l st blk hU (by omega) _ L w HB S)
  have HN := Lib.hid (none_any g _ (shaC_made hU.len8 hU.len) w (S.at_ (l1 := [])))
  have c1 : w.cell? ⟨g, 72, none⟩ = some (.int .i64 (m.length : Int)) := by rw [(S.at_ (l1 := [])).cell]; exact shaC_len hU.len8 hU.len
  generalize l.length = ll at *
  generalize m.length = ml at *
  have hw : wrap64 (1152921504606846976 - (ml : Int)) = 1152921504606846976 - (ml : Int) := by unfold wrap64; omega
  have hd : decide (1152921504606846976 - (ml : Int) < (ll : Int)) = false := by rw [decide_eq_false_iff_not]; omega
  clear hU HB S hml
  go_enter Tryd.func65, Tryd.ntmps65
  go_wp2_with fail
  refine HN.out.mono ?_
  rintro e w' ⟨rfl, rfl⟩
  go_wp2_with fail
  refine HR.out.mono ?_
  rintro e w2 ⟨rfl, h⟩
  have h := Lib.hid h
  go_wp2
  go_ret
  exact ⟨rfl, h.out⟩
theorem xor_byte (a b : UInt8) : bits .xor .u8 (a.toNat : Int) (b.toNat : Int) = ((a ^^^ b).toNat : Int) := by
  rw [UInt8.toNat_xor]
  exact u8_xor_nat' _ _ a.toNat_lt b.toNat_lt
/-- The first k bytes turned. -/
def turnK (key : List UInt8) (t : UInt8) (k : Nat) : List UInt8 := turned (key.take k) t ++ key.drop k
theorem turnK_at {key : List UInt8} {t : UInt8} {k : Nat} (h : k < key.length) : (turnK key t k)[k]? = some key[k] := by
  unfold turnK turned
  rw [List.getElem?_append_right (by simp; omega)]
  simp [Nat.min_eq_left (Nat.le_of_lt h)]
theorem turnK_next {key : List UInt8} {t : UInt8} {k : Nat} (h : k < key.length) : (turnK key t k).set k (key[k] ^^^ t) = turnK key t (k + 1) := by
  unfold turnK turned
  rw [List.set_append_right _ _ (by simp; omega), List.drop_eq_getElem_cons h]
  simp only [List.length_map, List.length_take, Nat.min_eq_left (Nat.le_of_lt h), Nat.sub_self, List.set_cons_zero, List.take_add_one, List.getElem?_eq_getElem h, Option.toList_some, List.map_append, List.map_cons, List.map_nil, List.append_assoc, List.cons_append, List.nil_append]
theorem hash_cell {w : World} {g : Nat} {t : TypeId} {l : List UInt8} (h : Blk w g t (hashA l)) (i : Nat) (c : UInt8) (hx : l[i]? = some c) : w.cell? ⟨g, i, none⟩ = some (.int .u8 (c.toNat : Int)) := by
  rw [h.cell i, show (hashA l)[i]? = (bv l)[i]? from by simp [hashA], bv_get, hx]
  rfl
/-- Texts, their slices told. -/
def TxF (W : World) (v : Value) (vs : List Value) (L : List (List UInt8)) : Prop := Rd W 1 v L.length vs ∧ ∀ i (hi : i < L.length), ∃ u, vs[i]? = some u ∧ Rd W 1 u L[i].length (bv L[i])
theorem TxF.kp0 {W W' : World} {v : Value} {vs : List Value} {L : List (List UInt8)} (h : TxF W v vs L) (k : Kp [] W W') : TxF W' v vs L := ⟨rd_old h.1 k, fun i hi => by obtain ⟨u, h1, h2⟩ := h.2 i hi; exact ⟨u, h1, rd_old h2 k⟩⟩
theorem Txs.f {W : World} {v : Value} {L : List (List UInt8)} (h : Txs W v L) : ∃ vs, TxF W v vs L := h
theorem TxF.at_ {W : World} {ad : Addr} {n c : Nat} {vs : List Value} {L : List (List UInt8)} (h : TxF W (.slice (some ad) n c) vs L) {k : Nat} {u : Value} (hu : vs[k]? = some u) : W.cell? (ad.add k) = some u := by
  obtain ⟨-, A', c', he, -, -, -, hc⟩ := h.1
  cases he
  exact hc ad rfl k u hu
end Go.Proofs.YtapboamjpilckaaDoor
/- sign.hashed: its second loop. -/
namespace Go.Proofs.YtapboamjpilckaaDoor
open Go.RowKit
-- REG shd10
set_option maxRecDepth 100000 in
set_option maxHeartbeats 2000000 in
theorem shd_r10 {Q : Exit → Act → World → Prop} {a : Act} {w : World} (k n : Nat) (hsz : a.tmps.size = 40) (o29 : Sl a 29 (.int .i64 (n : Int))) (o30 : Sl a 30 (.int .i64 (k : Int)))
    (hend : ∀ (a' : Act), Same a a' [31] → Sl a' 31 (.bool (decide (k < n))) → Q .normal a' (w)) : (Code.region 10 (opsOf 10 Tryd.f41).toArray false).wp Tryd.prog Q a w := by
  refine wp_region_lit (l := (opsOf 10 Tryd.f41)) ?_
  conv => arg 4; whnf
  unfold Sl at o29 o30
  go_wp2_with fail
  try simp only [Act.put]
  exact hend _ (by repeat (first | (with_reducible refine same_set (by decide) ?_) | (with_reducible exact same_nil))) (by unfold Sl; first | (simp [hsz]; done) | (simp [hsz]; omega))
-- END shd10
-- REG shd11
set_option maxRecDepth 100000 in
set_option maxHeartbeats 2000000 in
theorem shd_r11 {Q : Exit → Act → World → Prop} {a : Act} {w : World} (k n c : Nat) (ad : Addr) (u : Value) (hk : k < n) (hc : w.cell? (ad.add k) = some u) (Ax : Option Addr) (nx cx : Nat) (hu : u = .slice Ax nx cx) (hsz : a.tmps.size = 40) (o28 : Sl a 28 (.slice (some ad) n c)) (o30 : Sl a 30 (.int .i64 (k : Int)))
    (hend : ∀ (a' : Act), Same a a' [32, 33, 11] → Sl a' 11 (.slice Ax nx cx) → Q .normal a' (w)) : (Code.region 11 (opsOf 11 Tryd.f41).toArray false).wp Tryd.prog Q a w := by
  refine wp_region_lit (l := (opsOf 11 Tryd.f41)) ?_
  conv => arg 4; whnf
  unfold Sl at o28 o30
  subst hu
  have hkn : (k : Int) < n := by omega
  go_wp2_with fail
  try simp only [Act.put]
  exact hend _ (by repeat (first | (with_reducible refine same_set (by decide) ?_) | (with_reducible exact same_nil))) (by unfold Sl; first | (simp [hsz]; done) | (simp [hsz]; omega))
-- END shd11
-- REG shd12
set_option maxRecDepth 100000 in
set_option maxHeartbeats 2000000 in
theorem shd_r12 {Q : Exit → Act → World → Prop} {a : Act} {w : World} (g : Nat) (y : Value) (Ax : Option Addr) (nx cx : Nat) (hy : y = .slice Ax nx cx) (R : World → Prop) (HR : Hid (Calls Tryd.prog 65 #[.pointer (some ⟨g, 0, none⟩), y] w fun e w' => e = .returned (.int .i64 0) ∧ R w')) (hsz : a.tmps.size = 40) (o9 : Sl a 9 (.func (.func 65) #[.pointer (some ⟨g, 0, none⟩)] #[])) (o11 : Sl a 11 (.slice Ax nx cx))
    (hend : ∀ (a' : Act) (W : World), Same a a' [34, 35, 36] → (R W) → Q .normal a' W) : (Code.region 12 (opsOf 12 Tryd.f41).toArray false).wp Tryd.prog Q a w := by
  refine wp_region_lit (l := (opsOf 12 Tryd.f41)) ?_
  conv => arg 4; whnf
  unfold Sl at o9 o11
  subst hy
  go_wp2_with fail
  refine HR.out.mono ?_
  rintro e w4 ⟨rfl, S4⟩
  have S4 := Lib.hid S4
  go_wp2
  try simp only [Act.put]
  exact hend _ _ (by repeat (first | (with_reducible refine same_set (by decide) ?_) | (with_reducible exact same_nil))) (S4.out)
-- END shd12
-- REG shd13
set_option maxRecDepth 100000 in
set_option maxHeartbeats 2000000 in
theorem shd_r13 {Q : Exit → Act → World → Prop} {a : Act} {w : World} (k : Nat) (hk : k < 9223372036854775807) (hsz : a.tmps.size = 40) (o30 : Sl a 30 (.int .i64 (k : Int)))
    (hend : ∀ (a' : Act), Same a a' [37, 30] → Sl a' 30 (.int .i64 ((k + 1 : Nat) : Int)) → Q .normal a' (w)) : (Code.region 13 (opsOf 13 Tryd.f41).toArray false).wp Tryd.prog Q a w := by
  refine wp_region_lit (l := (opsOf 13 Tryd.f41)) ?_
  conv => arg 4; whnf
  unfold Sl at o30
  have hw : wrap64 ((k : Int) + 1) = (k : Int) + 1 := by unfold wrap64; omega
  go_wp2_with fail
  try simp only [Act.put]
  exact hend _ (by repeat (first | (with_reducible refine same_set (by decide) ?_) | (with_reducible exact same_nil))) (by unfold Sl; first | (simp [hsz]; done) | (simp [hsz]; omega))
-- END shd13
-- REG shd14
set_option maxRecDepth 100000 in
set_option maxHeartbeats 2000000 in
theorem shd_r14 {Q : Exit → Act → World → Prop} {a : Act} {w : World} (w0 : World) (g g6 : Nat) (hh c6 : List UInt8) (hl : hh.length = 32) (h6 : c6.length = 32) (L : List Res) (HR : Hid (Calls Tryd.prog 64 #[.pointer (some ⟨g, 0, none⟩)] w fun e w' => e = .returned (.agg (hashA hh)) ∧ ∃ cs, Held w0 w' (blkR g 134 cs :: blkR g6 25 (hashA c6) :: L))) (hsz : a.tmps.size = 40) (o6 : Sl a 6 (.pointer (some ⟨g6, 0, none⟩))) (o8 : Sl a 8 (.pointer (some ⟨g, 0, none⟩)))
    (hend : ∀ (a' : Act) (W : World), Same a a' [38, 39] → (∃ cs, Held w0 W (blkR g 134 cs :: blkR g6 25 (hashA hh) :: L)) → Q .normal a' W) : (Code.region 14 (opsOf 14 Tryd.f41).toArray false).wp Tryd.prog Q a w := by
  refine wp_region_lit (l := (opsOf 14 Tryd.f41)) ?_
  conv => arg 4; whnf
  unfold Sl at o6 o8
  have hO := Lib.hid (hashA_one hh)
  have hsz1 : Hid ((hashA hh).size = 32) := Lib.hid (by rw [hashA_size, hl])
  have hsz6 : Hid ((hashA c6).size = 32) := Lib.hid (by rw [hashA_size, h6])
  obtain ⟨ch, hch⟩ : ∃ ch, Hid (hashA hh = ch) := ⟨_, Lib.hid rfl⟩
  rw [hch.out] at HR hO hsz1
  go_wp2_with fail
  refine HR.out.mono ?_
  rintro e w4 ⟨rfl, cs, S4⟩
  have S4 := Lib.hid S4
  go_wp2_with (refine wpList_store_blk rfl 25 (.tmp 6) (.tmp 39) rfl g6 (by simp [Act.eval, Act.put, hsz, o6]) ch (by simp [Act.eval, Act.put, hsz]) 25 _ (S4.out.at_ (l1 := [_])) (by rw [hsz1.out]; exact Tryd.infoHashP) (by rw [hsz1.out, hsz6.out]) hO.out ?_; intro w5 b5 k5; have S5 := Lib.hid (Held.setBlk (l1 := [_]) S4.out b5 k5); clear b5 k5)
  rw [← hch.out] at S5
  try simp only [Act.put]
  exact hend _ _ (by repeat (first | (with_reducible refine same_set (by decide) ?_) | (with_reducible exact same_nil))) (⟨_, S5.out⟩)
-- END shd14
def dsHd : List Nat := [11, 30, 31, 32, 33, 34, 35, 36, 37]
set_option maxRecDepth 100000 in
set_option maxHeartbeats 2000000 in
theorem shd_l1 {Q : Exit → Act → World → Prop} {a : Act} {w0 w : World} (g : Nat) (kt : List UInt8) (A : Option Addr) (c : Nat) (vs : List Value) (ls : List (List UInt8)) (hsum : kt.length + ls.flatten.length ≤ 1152921504606846976) (L : List Res) (HX : ∀ V cs, Held w0 V (blkR g 134 cs :: L) → TxF V (.slice A ls.length c) vs ls) (hll : ls.length ≤ 9223372036854775807)
    (st : List Nat) (blk : List UInt8) (hU : Und kt st blk) (hsz : a.tmps.size = 40) (o9 : Sl a 9 (.func (.func 65) #[.pointer (some ⟨g, 0, none⟩)] #[])) (o28 : Sl a 28 (.slice A ls.length c)) (o29 : Sl a 29 (.int .i64 (ls.length : Int))) (o30 : Sl a 30 (.int .i64 0))
    (S : Held w0 w (blkR g 134 (shaC st blk kt.length) :: L))
    (hend : ∀ (a' : Act) (W : World) (st : List Nat) (blk : List UInt8), Same a a' dsHd → Und (kt ++ ls.flatten) st blk → Held w0 W (blkR g 134 (shaC st blk (kt ++ ls.flatten).length) :: L) → Q (.exit 2) a' W) :
    (blockOf 2 Tryd.f41).wp Tryd.prog Q a w := by
  conv => arg 2; whnf
  refine wp_loop (fun a' w' => ∃ (k : Nat) (st : List Nat) (blk : List UInt8), k ≤ ls.length ∧ Same a a' dsHd ∧ Sl a' 30 (.int .i64 (k : Int)) ∧ Und (kt ++ (ls.take k).flatten) st blk ∧ Held w0 w' (blkR g 134 (shaC st blk (kt ++ (ls.take k).flatten).length) :: L)) (fun a' _ => ls.length - (intOf (a'.eval (.tmp 30))).toNat) ⟨0, st, blk, Nat.zero_le _, Same.refl _ _, o30, by rw [List.take_zero, List.flatten_nil, List.append_nil]; exact hU, by rw [List.take_zero, List.flatten_nil, List.append_nil]; exact S⟩ ?_
  clear hU S o30
  rintro a1 w1 ⟨k, st, blk, hk, T, o30, hU, S⟩
  have o9 := T.keep 9 _ (by decide) o9
  have o28 := T.keep 28 _ (by decide) o28
  have o29 := T.keep 29 _ (by decide) o29
  have hz1 := T.size.trans hsz
  have eCtr := o30.eval (by rw [hz1]; decide)
  refine wp_seq (shd_r10 k ls.length hz1 o29 o30 (fun a2 hs2 o31 => ?_))
  have hz2 := hs2.size.trans hz1
  have o9 := hs2.keep 9 _ (by decide) o9
  have o28 := hs2.keep 28 _ (by decide) o28
  have o29 := hs2.keep 29 _ (by decide) o29
  have o30 := hs2.keep 30 _ (by decide) o30
  have T := T.trans hs2
  by_cases hlt : k < ls.length
  · refine wp_seq (wp_cond_true ((o31.eval (by rw [hz2]; decide)).trans (by rw [decide_eq_true hlt])) (wp_skip ?_))
    obtain ⟨ad, rfl⟩ : ∃ ad, A = some ad := by
      obtain ⟨A', c', he, h1, -⟩ := (show Txs w1 _ ls from ⟨vs, HX w1 _ S⟩).open_
      cases he
      exact h1 (by omega)
    obtain ⟨u, hu, hru⟩ := (HX w1 _ S).2 k hlt
    have hc := (HX w1 _ S).at_ hu
    obtain ⟨Ax, cx, hform⟩ := rd_form hru
    have HB : ∀ V cs, Held w0 V (blkR g 134 cs :: L) → Rd V 1 u ls[k].length (bv ls[k]) := fun V cs SV => by
      obtain ⟨u', hu', hr'⟩ := (HX V cs SV).2 k hlt
      rw [hu] at hu'
      cases hu'
      exact hr'
    have hfl : (ls.take (k + 1)).flatten = (ls.take k).flatten ++ ls[k] := by rw [List.take_add_one, List.getElem?_eq_getElem hlt]; simp only [Option.toList_some, List.flatten_append, List.flatten_cons, List.flatten_nil, List.append_nil]
    have hle : ((ls.take (k + 1)).flatten).length ≤ ls.flatten.length := by
      conv => rhs; rw [← List.take_append_drop (k + 1) ls, List.flatten_append, List.length_append]
      omega
    have hbd : (kt ++ (ls.take k).flatten).length + ls[k].length ≤ 1152921504606846976 := by
      rw [hfl, List.length_append] at hle
      rw [List.length_append]
      omega
    have HR := Lib.hid (swrite_any w0 g (kt ++ (ls.take k).flatten) ls[k] st blk hU hbd u L w1 HB S)
    rw [List.append_assoc, ← hfl] at HR
    refine wp_seq (wp_block ?_)
    refine wp_seq (shd_r11 k ls.length c ad u hlt hc Ax ls[k].length cx hform hz2 o28 o30 (fun a3 hs3 o11 => ?_))
    have hz3 := hs3.size.trans hz2
    have o9 := hs3.keep 9 _ (by decide) o9
    have o28 := hs3.keep 28 _ (by decide) o28
    have o29 := hs3.keep 29 _ (by decide) o29
    have o30 := hs3.keep 30 _ (by decide) o30
    have o31 := hs3.keep 31 _ (by decide) o31
    have T := T.trans hs3
    refine shd_r12 g u Ax ls[k].length cx hform _ HR hz3 o9 o11 (fun a4 w2 hs4 h => ?_)
    have hz4 := hs4.size.trans hz3
    have o9 := hs4.keep 9 _ (by decide) o9
    have o28 := hs4.keep 28 _ (by decide) o28
    have o29 := hs4.keep 29 _ (by decide) o29
    have o30 := hs4.keep 30 _ (by decide) o30
    have o31 := hs4.keep 31 _ (by decide) o31
    have o11 := hs4.keep 11 _ (by decide) o11
    have T := T.trans hs4
    obtain ⟨st2, blk2, U2, S2⟩ := h
    refine shd_r13 k (by omega) hz4 o30 (fun a5 hs5 o30 => ?_)
    have hz5 := hs5.size.trans hz4
    have o9 := hs5.keep 9 _ (by decide) o9
    have o28 := hs5.keep 28 _ (by decide) o28
    have o29 := hs5.keep 29 _ (by decide) o29
    have o31 := hs5.keep 31 _ (by decide) o31
    have o11 := hs5.keep 11 _ (by decide) o11
    have T := T.trans hs5
    refine ⟨⟨k + 1, st2, blk2, hlt, T.more (by decide +kernel), o30, U2, S2⟩, ?_⟩
    show ls.length - (intOf _).toNat < ls.length - (intOf _).toNat
    rw [eCtr, o30.eval (by rw [hz5]; decide)]
    show ls.length - (k + 1) < ls.length - k
    omega
  · obtain rfl : k = ls.length := by omega
    refine wp_seq (wp_cond_false ((o31.eval (by rw [hz2]; decide)).trans (by rw [decide_eq_false hlt])) (wp_exit ?_))
    rw [List.take_length] at hU S
    exact hend _ _ st blk (T.more (by decide +kernel)) hU S
set_option maxRecDepth 100000 in
set_option maxHeartbeats 2000000 in
theorem hashed_any (w0 : World) (L : List Res) (key : List UInt8) (hk : key.length = 64) (t : UInt8) (x : Value) (vs : List Value) (ls : List (List UInt8)) (hsum : 64 + ls.flatten.length < 1152921504606846976) (w : World) (S : Held w0 w L) (HX : ∀ V, Held w0 V L → TxF V x vs ls) :
    Calls Tryd.prog 41 #[.agg (hashA key), .int .u8 (t.toNat : Int), x] w fun e w' => e = .returned (.agg (hashA (shaF (turned key t ++ ls.flatten)))) ∧ Held w0 w' L := by
  obtain ⟨A, c, rfl, -, -⟩ := (show Txs w x ls from ⟨vs, HX w S⟩).open_
  have S0 := Lib.hid ((S.newBlk 76 (hashA key)).newBlk 25 (hashA (List.replicate 32 0)))
  simp only [World.size_alloc] at S0
  have HX := Lib.hid HX
  have Hk := Lib.hid hk
  have hsum := Lib.hid hsum
  obtain ⟨ck, hck⟩ : ∃ ck, Hid (hashA key = ck) := ⟨_, Lib.hid rfl⟩
  rw [hck.out] at S0 ⊢
  clear S hk
  go_enter Tryd.func41, Tryd.ntmps41
  go_wp2
  change Code.wp _ _ _ _ ((w.alloc (.cells ck 76)).alloc (.cells (hashA (List.replicate 32 0)) 25))
  generalize (w.alloc (.cells ck 76)).alloc (.cells (hashA (List.replicate 32 0)) 25) = w1 at *
  generalize w.heap.size = g3 at *
  obtain ⟨g6, hg6⟩ : ∃ g6, g3 + 1 = g6 := ⟨_, rfl⟩
  rw [hg6] at S0 ⊢
  rw [← hck.out] at S0
  clear hg6
  go_loopw [7, 12] (fun _ i wr => ∃ k : Nat, k ≤ 64 ∧ i = .int .i64 (k : Int) ∧ Held w0 wr (blkR g6 25 (hashA (List.replicate 32 0)) :: blkR g3 76 (hashA (turnK key t k)) :: L)) (fun _ i _ => 64 - (intOf i).toNat)
  case atStart => exact ⟨0, by omega, rfl, S0.out⟩
  case round =>
    clear S0
    obtain ⟨k, hk, rfl, S⟩ := hrel
    have S := Lib.hid S
    by_cases hlt : k < 64
    · have hkl : k < key.length := by rw [Hk.out]; exact hlt
      have q1 := hash_cell (S.out.at_ (l1 := [_])) k _ (turnK_at hkl)
      have q2 := (S.out.at_ (l1 := [_])).frozen k
      have hx := xor_byte key[k] t
      have S2 : Hid (Held w0 (wr.setCell ⟨g3, k, none⟩ (.int .u8 ((key[k] ^^^ t).toNat : Int))) _) := Lib.hid (S.out.set (l1 := [_]) k (.int .u8 ((key[k] ^^^ t).toNat : Int)))
      rw [hashA_set, turnK_next hkl] at S2
      generalize key[k] ^^^ t = y at *
      generalize key[k] = z at *
      clear hkl
      go_wp2
      go_roundw
      case rel => exact ⟨k + 1, by omega, by go_num, S2.out⟩
      case measure => simp [intOf]; omega
    · obtain rfl : k = 64 := by omega
      have e : turnK key t 64 = turned key t := by
        unfold turnK
        rw [List.take_of_length_le (by rw [Hk.out]; omega), List.drop_of_length_le (by rw [Hk.out]; omega), List.append_nil]
      rw [e] at S
      obtain ⟨kt, Hkt0⟩ : ∃ kt, Hid (turned key t = kt) := ⟨_, Lib.hid rfl⟩
      have Hkt : Hid (kt.length = 64) := Lib.hid (by rw [← Hkt0.out]; unfold turned; rw [List.length_map]; exact Hk.out)
      rw [Hkt0.out] at S
      clear e
      go_wp2_with fail
      refine (snew_any w0 _ _ S.out).mono ?_
      rintro e w2 ⟨g, rfl, S2⟩
      have S2 := Lib.hid S2
      go_wp2_with fail
      refine (swrite_any w0 g [] kt hF (List.replicate 64 0) Und.new (by rw [Hkt.out]; simp) _ _ w2 (fun V cs SV => ?_) S2.out).mono ?_
      · have := bytes_rd (SV.at_ (l1 := [_, _])) 0 (Nat.zero_le _) (by rw [Hkt.out]; omega)
        rw [Hkt.out] at this ⊢
        exact this
      rintro e w3 ⟨rfl, st, blk, U3, S3⟩
      rw [List.nil_append] at U3 S3
      have U3 := Lib.hid U3
      have S3 := Lib.hid S3
      have hll := Lib.hid (show Txs w3 _ ls from ⟨vs, HX.out w3 S3.out.drop.drop.drop⟩).len_le
      go_wp2_with fail
      have HU3 := U3
      have hsum2 : kt.length + ls.flatten.length ≤ 1152921504606846976 := by have := hsum.out; have := Hkt.out; omega
      refine shd_l1 g kt A c vs ls hsum2 (blkR g6 25 (hashA (List.replicate 32 0)) :: blkR g3 76 (hashA kt) :: L) (fun V cs SV => HX.out V SV.drop.drop.drop) hll.out st blk U3.out rfl (sl_of rfl) (sl_of rfl) (sl_of rfl) (sl_of rfl) S3.out (fun a' w4 st2 blk2 hs4 U4 S4 => ?_)
      simp only [Exit.inBlock, if_true]
      have hz4 : a'.tmps.size = 40 := hs4.size
      have o6 : Sl a' 6 (.pointer (some ⟨g6, 0, none⟩)) := hs4.keep 6 _ (by decide) (sl_of rfl)
      have o8 : Sl a' 8 (.pointer (some ⟨g, 0, none⟩)) := hs4.keep 8 _ (by decide) (sl_of rfl)
      have hbd : (kt ++ ls.flatten).length < 1152921504606846976 := by
        have h1 := hsum.out
        have h2 := Hkt.out
        rw [List.length_append]
        omega
      have HR0 := ssum_any w0 g (kt ++ ls.flatten) st2 blk2 U4 hbd _ w4 S4
      go_step
      go_step
      refine wp_seq (shd_r14 w0 g g6 _ (List.replicate 32 0) (shaF_length _) rfl _ (Lib.hid (HR0.mono (fun e w' h => ⟨h.1, ⟨_, h.2⟩⟩))) hz4 o6 o8 (fun a5 w5 hs5 h5 => ?_))
      obtain ⟨cs5, S5⟩ := h5
      have hz5 := hs5.size.trans hz4
      have o6 := hs5.keep 6 _ (by decide) o6
      refine wp_ret (bodyPost_ret (results_cell1 (by rfl) (o6.eval (by rw [hz5]; decide)) (S5.at_ (l1 := [_])) Tryd.underlying25 rfl (by rw [hashA_size, shaF_length]; exact Tryd.infoHashP)) (hs5.defers.trans hs4.defers) ?_)
      exact ⟨by rw [Hkt0.out], S5.drop.drop.drop⟩
end Go.Proofs.YtapboamjpilckaaDoor
/- sha.Sum of one text; sign.Mac. -/
namespace Go.Proofs.YtapboamjpilckaaDoor
open Go.RowKit
theorem Rd.of_hash {w : World} {g : Nat} {t : TypeId} {h : List UInt8} (hb : Blk w g t (hashA h)) {n : Nat} (hn : h.length = n) (hm : h.length ≤ 1000 := by omega) : Rd w 1 (.slice (some ⟨g, 0, none⟩) n n) n (bv h) := by
  subst hn
  have := bytes_rd hb 0 (Nat.zero_le _) hm
  simpa using this
theorem txf_one {w : World} {g n : Nat} {t : TypeId} {u : Value} {h : List UInt8} (hb : Blk w g t #[u]) (hr : Rd w 1 u n (bv h)) : TxF w (.slice (some ⟨g, 0, none⟩) 1 1) [u] [h] := by
  have hn : n = h.length := by
    have := hr.1
    rw [bv_length] at this
    omega
  subst hn
  refine ⟨⟨rfl, _, _, rfl, Nat.le_refl _, by unfold maxLen; omega, (fun h => by cases h), fun ad had j v hv => ?_⟩, fun i hi => ?_⟩
  · cases had
    rcases j with _ | j
    · cases hv
      exact hb.cell 0
    · cases hv
  · obtain rfl : i = 0 := by simpa using hi
    exact ⟨u, rfl, hr⟩
set_option maxRecDepth 100000 in
set_option maxHeartbeats 1000000 in
theorem ssumv_any (w0 : World) (L : List Res) (ad : Addr) (u : Value) (s : List UInt8) (hs0 : s.length < 1152921504606846976) (w : World) (S : Held w0 w L) (HX : ∀ V, Held w0 V L → V.cell? ad = some u ∧ Rd V 1 u s.length (bv s)) :
    Calls Tryd.prog 40 #[.slice (some ad) 1 1] w fun e w' => e = .returned (.agg (hashA (shaF s))) ∧ Held w0 w' L := by
  obtain ⟨A, c, rfl⟩ := rd_form (HX w S).2
  have HX := Lib.hid HX
  have hs := Lib.hid hs0
  clear hs0
  have S0 := Lib.hid (S.newBlk 25 (hashA (List.replicate 32 0)))
  clear S
  go_enter Tryd.func40, Tryd.ntmps40
  go_wp2_with fail
  refine (snew_any w0 _ _ S0.out).mono ?_
  rintro e w2 ⟨g, rfl, S2⟩
  have S2 := Lib.hid S2
  generalize w.heap.size = g2 at *
  clear S0
  go_wp2_with fail
  go_loopw [5, 9] (fun _ i wr => ∃ (k : Nat) (st : List Nat) (blk : List UInt8), k ≤ 1 ∧ i = .int .i64 (k : Int) ∧ Hid (Und (if k = 0 then [] else s) st blk) ∧ Held w0 wr (blkR g 134 (shaC st blk (if k = 0 then [] else s).length) :: blkR g2 25 (hashA (List.replicate 32 0)) :: L)) (fun _ i _ => 1 - (intOf i).toNat)
  case atStart => exact ⟨0, hF, List.replicate 64 0, by omega, rfl, Lib.hid Und.new, S2.out⟩
  case round =>
    clear S2
    obtain ⟨k, st, blk, hk, rfl, HU, S⟩ := hrel
    have S := Lib.hid S
    rcases (by omega : k = 0 ∨ k = 1) with rfl | rfl
    · have hc := (HX.out wr S.out.drop.drop).1
      have HR := Lib.hid (take_any w0 g [] s st blk HU.out (by have := hs.out; simp; omega) _ _ wr (fun V cs SV => (HX.out V SV.drop.drop).2) S.out)
      generalize s.length = sl at *
      clear hk
      go_wp2_with fail
      refine HR.out.mono ?_
      rintro e w4 ⟨rfl, st2, blk2, U4, S4⟩
      rw [List.nil_append] at U4 S4
      have U4 := Lib.hid U4
      have S4 := Lib.hid S4
      go_wp2
      go_roundw
      case rel => exact ⟨1, st2, blk2, by omega, rfl, U4, S4.out⟩
      case measure => simp [intOf]
    · have HR := Lib.hid (ssum_any w0 g s st blk HU.out hs.out _ wr S.out)
      have hO := Lib.hid (hashA_one (shaF s))
      have hsz1 : Hid ((hashA (shaF s)).size = 32) := Lib.hid (by rw [hashA_size, shaF_length])
      obtain ⟨ch, hch⟩ : ∃ ch, Hid (hashA (shaF s) = ch) := ⟨_, Lib.hid rfl⟩
      rw [hch.out] at HR hO hsz1
      go_wp2_with fail
      refine HR.out.mono ?_
      rintro e w4 ⟨rfl, S4⟩
      have S4 := Lib.hid S4
      go_wp2_with (refine wpList_store_blk rfl 25 (.tmp 2) (.tmp 18) rfl g2 (by simp [Act.eval]) ch (by simp [Act.eval]) 25 _ (S4.out.at_ (l1 := [_])) (by rw [hsz1.out]; exact Tryd.infoHashP) (by rw [hsz1.out]; rfl) hO.out ?_; intro w5 b5 k5; have S5 := Lib.hid (Held.setBlk (l1 := [_]) S4.out b5 k5); clear b5 k5)
      refine bodyPost_ret (results_cell1 (by rfl) rfl (S5.out.at_ (l1 := [_])) Tryd.underlying25 rfl (by rw [hsz1.out]; exact Tryd.infoHashP)) rfl ?_
      exact ⟨by rw [hch.out], S5.out.drop.drop⟩
/-- The same, as an operation of a drawn region. -/
theorem op_copy_blk {P : Program} {w : World} {o : Oper} {a : Act} {K : Act → World → Prop} {Q : Exit → Act → World → Prop} (d s : Operand) (dT sT : TypeId)
    (ho : o.op = .call { callee := .builtin .copy, args := #[d, s], argTypes := #[dT, sT] }) (elem : TypeId) (hu : P.underlying dT = some (.slice elem)) (hsz : (P.info? elem).map (·.size) = some 1)
    (g off dLen dCap : Nat) (hd : a.eval d = .slice (some ⟨g, off, none⟩) dLen dCap) (y : Value) (hs : a.eval s = y) (n : Nat) (xs : List Value) (hr : Rd w 1 y n xs)
    (t : TypeId) (cur : Array Value) (hb : Blk w g t cur) (hfit : off + dLen ≤ cur.size) (h1 : ∀ v ∈ xs, v.oneCell' = true) (m : Nat) (hm : min n dLen = m)
    (h : ∀ w', Blk w' g t (splice cur.toList off (xs.take dLen)).toArray → Kp [g] w w' → K (a.put o.dst (goInt (m : Int))) w') : o.wp P a w K Q := by
  subst hm
  obtain ⟨hl, A, c, rfl, h2, h3, hA, hc⟩ := hr
  by_cases h0 : min n dLen = 0
  · have hrun := run_copy_none (P := P) w dT sT o.type elem (some ⟨g, off, none⟩) A dLen dCap n c hu hsz h0
    have e : xs.take dLen = [] := by
      apply List.eq_nil_of_length_eq_zero
      rw [List.length_take]; omega
    have := h w (by rw [e]; simpa [splice] using hb) (Kp.refl _ _)
    rw [h0] at this
    refine op_runs (v := goInt 0) (w' := w) ?_ this
    simp [execOp, ho, resolve, invoke, builtin, hd, hs, hrun, Result.andThen]
  · rcases A with _ | ad
    · have := hA rfl; omega
    · have hcl : (xs.take dLen).length = min n dLen := by rw [List.length_take]; omega
      have hrun := run_copy_row (P := P) w dT sT o.type elem g off dLen dCap ad n c cur t (xs.take dLen) hu hsz hb (by rw [hcl]) (fun j v hv => hc ad rfl j v (by
        rw [List.getElem?_take] at hv
        split at hv
        · exact hv
        · cases hv)) (by rw [hcl]; omega) (fun v hv => h1 v (List.mem_of_mem_take hv))
      have hblk := setRow_blk (cs := (cur.toList.take off ++ (xs.take dLen) ++ cur.toList.drop (off + (xs.take dLen).length)).toArray) hb
      refine op_runs (v := goInt ((xs.take dLen).length : Int)) (w' := w.setRow g (cur.toList.take off ++ (xs.take dLen) ++ cur.toList.drop (off + (xs.take dLen).length)).toArray) ?_ ?_
      rotate_left
      · have := h _ (by
          unfold splice
          rw [← List.append_assoc]
          exact hblk.1) hblk.2
        rw [← hcl] at this
        exact this
      · simp [execOp, ho, resolve, invoke, builtin, hd, hs, hrun, Result.andThen]
-- REG mac0
set_option maxRecDepth 100000 in
set_option maxHeartbeats 2000000 in
theorem mac_r0 {Q : Exit → Act → World → Prop} {a : Act} {w : World} (w0 : World) (L : List Res) (S : Held w0 w L) (hsz : a.tmps.size = 27) 
    (hend : ∀ (a' : Act) (W : World), Same a a' [4] → (∃ g, Sl a' 4 (.pointer (some ⟨g, 0, none⟩)) ∧ Held w0 W (blkR g 25 (hashA (List.replicate 32 0)) :: L)) → Q .normal a' W) : (Code.region 0 (opsOf 0 Tryd.f9).toArray false).wp Tryd.prog Q a w := by
  refine wp_region_lit (l := (opsOf 0 Tryd.f9)) ?_
  conv => arg 4; whnf
  have S0 := Lib.hid (S.newBlk 25 (hashA (List.replicate 32 0)))
  go_wp2
  try simp only [Act.put]
  exact hend _ _ (by repeat (first | (with_reducible refine same_set (by decide) ?_) | (with_reducible exact same_nil))) (⟨w.heap.size, (by unfold Sl; simp [hsz]), S0.out⟩)
-- END mac0
-- REG mac1
set_option maxRecDepth 100000 in
set_option maxHeartbeats 2000000 in
theorem mac_r1 {Q : Exit → Act → World → Prop} {a : Act} {w : World} (w0 : World) (L : List Res) (S : Held w0 w L) (hsz : a.tmps.size = 27) 
    (hend : ∀ (a' : Act) (W : World), Same a a' [5] → (∃ g, Sl a' 5 (.pointer (some ⟨g, 0, none⟩)) ∧ Held w0 W (blkR g 76 (hashA (List.replicate 64 0)) :: L)) → Q .normal a' W) : (Code.region 1 (opsOf 1 Tryd.f9).toArray false).wp Tryd.prog Q a w := by
  refine wp_region_lit (l := (opsOf 1 Tryd.f9)) ?_
  conv => arg 4; whnf
  have S0 := Lib.hid (S.newBlk 76 (hashA (List.replicate 64 0)))
  go_wp2
  try simp only [Act.put]
  exact hend _ _ (by repeat (first | (with_reducible refine same_set (by decide) ?_) | (with_reducible exact same_nil))) (⟨w.heap.size, (by unfold Sl; simp [hsz]), S0.out⟩)
-- END mac1
-- REG mac2
set_option maxRecDepth 100000 in
set_option maxHeartbeats 2000000 in
theorem mac_r2 {Q : Exit → Act → World → Prop} {a : Act} {w : World} (A : Option Addr) (n c : Nat) (hsz : a.tmps.size = 27) (o0 : Sl a 0 (.slice A n c))
    (hend : ∀ (a' : Act), Same a a' [8, 9, 10] → Sl a' 10 (.bool (decide (64 < n))) → Q .normal a' (w)) : (Code.region 2 (opsOf 2 Tryd.f9).toArray false).wp Tryd.prog Q a w := by
  refine wp_region_lit (l := (opsOf 2 Tryd.f9)) ?_
  conv => arg 4; whnf
  unfold Sl at o0
  go_wp2_with fail
  try simp only [Act.put]
  exact hend _ (by repeat (first | (with_reducible refine same_set (by decide) ?_) | (with_reducible exact same_nil))) (by unfold Sl; first | (simp [hsz]; done) | (simp [hsz]; omega))
-- END mac2
-- REG mac3
set_option maxRecDepth 100000 in
set_option maxHeartbeats 2000000 in
theorem mac_r3 {Q : Exit → Act → World → Prop} {a : Act} {w : World} (w0 : World) (A : Option Addr) (c : Nat) (s : List UInt8) (hs : s.length < 1152921504606846976) (L : List Res) (HX : ∀ V, Held w0 V L → Rd V 1 (.slice A s.length c) s.length (bv s)) (S : Held w0 w L) (hsz : a.tmps.size = 27) (o0 : Sl a 0 (.slice A s.length c))
    (hend : ∀ (a' : Act) (W : World), Same a a' [11, 12, 13, 6] → (∃ g, Sl a' 6 (.pointer (some ⟨g, 0, none⟩)) ∧ Held w0 W (blkR g 25 (hashA (shaF s)) :: L)) → Q .normal a' W) : (Code.region 3 (opsOf 3 Tryd.f9).toArray false).wp Tryd.prog Q a w := by
  refine wp_region_lit (l := (opsOf 3 Tryd.f9)) ?_
  conv => arg 4; whnf
  unfold Sl at o0
  have S := Lib.hid S
  have S1 := Lib.hid (S.out.newBlk 22 #[.slice A s.length c])
  have HR := Lib.hid (ssumv_any w0 _ ⟨w.heap.size, 0, none⟩ (.slice A s.length c) s hs _ S1.out (fun V SV => ⟨(SV.at_ (l1 := [])).cell 0, HX V SV.drop⟩))
  clear HX hs
  obtain ⟨nl, hnl⟩ : ∃ nl, s.length = nl := ⟨_, rfl⟩
  rw [hnl] at o0 S1 HR
  have hO := Lib.hid (hashA_one (shaF s))
  have hsz1 : Hid ((hashA (shaF s)).size = 32) := Lib.hid (by rw [hashA_size, shaF_length])
  obtain ⟨ch, hch⟩ : ∃ ch, Hid (hashA (shaF s) = ch) := ⟨_, Lib.hid rfl⟩
  rw [hch.out] at HR hO hsz1
  clear hnl
  go_wp2_with fail
  refine HR.out.mono ?_
  rintro e w4 ⟨rfl, S4⟩
  have S4 := Lib.hid (S4.drop.newBlk 25 (hashA (List.replicate 32 0)))
  go_wp2_with (refine wpList_store_blk rfl 25 (.tmp 6) (.tmp 13) rfl w4.heap.size (by simp [Act.eval, Act.put, hsz]) ch (by simp [Act.eval, Act.put, hsz]) 25 _ (S4.out.at_ (l1 := [])) (by rw [hsz1.out]; exact Tryd.infoHashP) (by rw [hsz1.out]; rfl) hO.out ?_; intro w5 b5 k5; have S5 := Lib.hid (Held.setBlk (l1 := []) S4.out b5 k5); clear b5 k5)
  rw [← hch.out] at S5
  try simp only [Act.put]
  exact hend _ _ (by repeat (first | (with_reducible refine same_set (by decide) ?_) | (with_reducible exact same_nil))) (⟨_, (by unfold Sl; simp [hsz]), S5.out⟩)
-- END mac3
-- REG mac4
set_option maxRecDepth 100000 in
set_option maxHeartbeats 2000000 in
theorem mac_r4 {Q : Exit → Act → World → Prop} {a : Act} {w : World} (w0 : World) (g5 g6 : Nat) (h : List UInt8) (hh : h.length = 32) (L : List Res) (hsz : a.tmps.size = 27) (o5 : Sl a 5 (.pointer (some ⟨g5, 0, none⟩))) (o6 : Sl a 6 (.pointer (some ⟨g6, 0, none⟩)))
    (S0 : Held w0 w (blkR g5 76 (hashA (List.replicate 64 0)) :: blkR g6 25 (hashA h) :: L))
    (hend : ∀ (a' : Act) (W : World), Same a a' [14, 15, 16] → Held w0 W (blkR g5 76 (splice (hashA (List.replicate 64 0)).toList 0 (bv h)).toArray :: blkR g6 25 (hashA h) :: L) → Q .normal a' W) : (Code.region 4 (opsOf 4 Tryd.f9).toArray true).wp Tryd.prog Q a w := by
  have hap : apartB (opsOf 4 Tryd.f9) = true := by kernel_rfl
  refine wp_region_sep (Γ := Unit) (l := (opsOf 4 Tryd.f9)) 3 [0, 1, 2, 4, 5]
    (fun i vs gs => match i with | 0 => vs 0 = .slice (some ⟨g5, 0, none⟩) 64 64 | 1 => vs 1 = .slice (some ⟨g6, 0, none⟩) 32 32 | _ => True)
    (fun i vs gs => match i with | 2 => [blkR g5 76 (splice (hashA (List.replicate 64 0)).toList 0 (bv h)).toArray] | 3 => [blkR g5 76 (hashA (List.replicate 64 0))] | 4 => [blkR g6 25 (hashA h)] | 5 => L | _ => [])
    (fun i => match i with | 2 => [3] | _ => []) (fun i => match i with | 2 => [4] | _ => []) S0 (by kernel_rfl) hap (by kernel_rfl) (by kernel_rfl) (fun i => match i with | 0 => [0] | 1 => [1] | _ => []) (by kernel_rfl) ?_ (by kernel_rfl) ?_ ?_ ?_
  · intro s vs vs' gs gs' h
    iterate 6 (rcases s with _ | s; · (first | exact ⟨rfl, id⟩ | (simp only [List.mem_cons, List.not_mem_nil, or_false, forall_eq] at h; simp [h])))
    exact ⟨rfl, id⟩
  · simp only [List.range, List.range.loop, List.flatMap_cons, List.flatMap_nil, List.append_nil]
    exact List.Perm.refl _
  · clear S0 hend
    refine ⟨?_, ?_, ?_, trivial⟩
    · intro vs gs A' W LF hA S hR hd hu K hK
      replace hK := hK default
      have e5 : A'.tmps[5]?.getD undef = .pointer (some ⟨g5, 0, none⟩) := slot_out hA hap (Nat.lt_of_lt_of_eq (Nat.le_of_ble_eq_true rfl : 5 < 27) hsz.symm) (by kernel_rfl) o5
      clear hA o5 o6
      go_step
      exact hK _ _ S rfl
    · intro vs gs A' W LF hA S hR hd hu K hK
      replace hK := hK default
      have e6 : A'.tmps[6]?.getD undef = .pointer (some ⟨g6, 0, none⟩) := slot_out hA hap (Nat.lt_of_lt_of_eq (Nat.le_of_ble_eq_true rfl : 6 < 27) hsz.symm) (by kernel_rfl) o6
      clear hA o5 o6
      go_step
      exact hK _ _ S rfl
    · intro vs gs A' W LF hA S hR hd hu K hK
      replace hK := hK default
      have f0 : vs 0 = .slice (some ⟨g5, 0, none⟩) 64 64 := hd 0 (by kernel_rfl)
      have e14 : A'.tmps[14]?.getD undef = vs 0 := slot_in hA hap (Nat.lt_of_lt_of_eq (Nat.le_of_ble_eq_true rfl : 14 < 27) hsz.symm) (by kernel_rfl)
      rw [f0] at e14
      have f1 : vs 1 = .slice (some ⟨g6, 0, none⟩) 32 32 := hd 1 (by kernel_rfl)
      have e15 : A'.tmps[15]?.getD undef = vs 1 := slot_in hA hap (Nat.lt_of_lt_of_eq (Nat.le_of_ble_eq_true rfl : 15 < 27) hsz.symm) (by kernel_rfl)
      rw [f1] at e15
      clear hA o5 o6
      have S1 : Held w0 W (blkR g5 76 (hashA (List.replicate 64 0)) :: LF) := S
      refine op_copy_blk (.tmp 14) (.tmp 15) 22 22 rfl 5 Tryd.underlying22 (by kernel_rfl) g5 0 64 64 (by simpa [Act.eval] using e14) _ (by simpa [Act.eval] using e15) 32 (bv h) (Rd.of_hash (S1.ok (blkR g6 25 (hashA h)) (List.mem_cons_of_mem _ (hR 4 (List.mem_singleton.2 rfl) _ (List.mem_singleton.2 rfl)))) hh) 76 _ (S1.at_ (l1 := [])) (by rw [hashA_size]; exact Nat.le_refl _) (bv_one h) 32 rfl (fun w' hbk k => hK _ _ ?_ trivial)
      rw [List.take_of_length_le (by rw [bv_length]; omega)] at hbk
      exact Held.setBlk (l1 := []) S1 hbk k
  · intro vs gs W S hp
    have S : Held w0 W (blkR g5 76 (splice (hashA (List.replicate 64 0)).toList 0 (bv h)).toArray :: blkR g6 25 (hashA h) :: L) := by simpa only [List.flatMap_cons, List.flatMap_nil, List.append_nil, List.nil_append, List.cons_append, List.append_assoc] using S
    rw [show putAll vs (opsOf 4 Tryd.f9) 0 a = putD [(14, vs 0), (15, vs 1), (16, vs 2)] a from by kernel_rfl]
    exact hend _ W (same_putD _ a)  S
-- END mac4
-- REG mac5
set_option maxRecDepth 100000 in
set_option maxHeartbeats 2000000 in
theorem mac_r5 {Q : Exit → Act → World → Prop} {a : Act} {w : World} (w0 : World) (g5 : Nat) (A : Option Addr) (c : Nat) (s : List UInt8) (L : List Res) (hr : Rd w 1 (.slice A s.length c) s.length (bv s)) (S : Held w0 w (blkR g5 76 (hashA (List.replicate 64 0)) :: L)) (hsz : a.tmps.size = 27) (o0 : Sl a 0 (.slice A s.length c)) (o5 : Sl a 5 (.pointer (some ⟨g5, 0, none⟩)))
    (hend : ∀ (a' : Act) (W : World), Same a a' [17, 18, 19] → (Held w0 W (blkR g5 76 (splice (hashA (List.replicate 64 0)).toList 0 ((bv s).take 64)).toArray :: L)) → Q .normal a' W) : (Code.region 5 (opsOf 5 Tryd.f9).toArray false).wp Tryd.prog Q a w := by
  refine wp_region_lit (l := (opsOf 5 Tryd.f9)) ?_
  conv => arg 4; whnf
  unfold Sl at o0 o5
  have S := Lib.hid S
  have Hr := Lib.hid hr
  clear hr
  obtain ⟨ll, hll⟩ : ∃ ll, s.length = ll := ⟨_, rfl⟩
  have HLL := Lib.hid hll
  rw [hll] at o0 Hr
  clear hll
  obtain ⟨mm, hmm⟩ : ∃ mm, min ll 64 = mm := ⟨_, rfl⟩
  have HM := Lib.hid hmm
  clear hmm
  go_wp2_with (refine wpList_copy_blk rfl (.tmp 17) (.tmp 18) 22 22 rfl 5 Tryd.underlying22 (by kernel_rfl) g5 0 64 64 (by simp [Act.eval, Act.put, hsz]) _ (by simp [Act.eval, Act.put, hsz]) ll (bv s) Hr.out 76 _ (S.out.at_ (l1 := [])) (by rw [hashA_size]; exact Nat.le_refl _) (bv_one s) mm HM.out ?_; intro w2 b2 k2; have S2 := Lib.hid (Held.setBlk (l1 := []) S.out b2 k2); clear b2 k2)
  try simp only [Act.put]
  exact hend _ _ (by repeat (first | (with_reducible refine same_set (by decide) ?_) | (with_reducible exact same_nil))) (S2.out)
-- END mac5
-- REG mac6
set_option maxRecDepth 100000 in
set_option maxHeartbeats 2000000 in
theorem mac_r6 {Q : Exit → Act → World → Prop} {a : Act} {w : World} (w0 : World) (g5 : Nat) (key : List UInt8) (hk : key.length = 64) (x : Value) (vs : List Value) (ls : List (List UInt8)) (A : Option Addr) (c : Nat) (hx : x = .slice A ls.length c) (hsum : 64 + ls.flatten.length < 1152921504606846976) (L : List Res) (HX : ∀ V, Held w0 V (blkR g5 76 (hashA key) :: L) → TxF V x vs ls) (S : Held w0 w (blkR g5 76 (hashA key) :: L)) (hsz : a.tmps.size = 27) (o1 : Sl a 1 (.slice A ls.length c)) (o5 : Sl a 5 (.pointer (some ⟨g5, 0, none⟩)))
    (hend : ∀ (a' : Act) (W : World), Same a a' [20, 21, 22, 7] → (∃ g, Sl a' 7 (.pointer (some ⟨g, 0, none⟩)) ∧ Held w0 W (blkR g 25 (hashA (shaF (turned key 54 ++ ls.flatten))) :: blkR g5 76 (hashA key) :: L)) → Q .normal a' W) : (Code.region 6 (opsOf 6 Tryd.f9).toArray false).wp Tryd.prog Q a w := by
  refine wp_region_lit (l := (opsOf 6 Tryd.f9)) ?_
  conv => arg 4; whnf
  unfold Sl at o1 o5
  have S := Lib.hid S
  have HR := Lib.hid (hashed_any w0 _ key hk 54 x vs ls hsum w S.out HX)
  rw [hx] at HR
  have Hk := Lib.hid hk
  clear HX hsum hx hk
  obtain ⟨nl, hnl⟩ : ∃ nl, ls.length = nl := ⟨_, rfl⟩
  rw [hnl] at o1 HR
  have hO := Lib.hid (hashA_one (shaF (turned key 54 ++ ls.flatten)))
  have hsz1 : Hid ((hashA (shaF (turned key 54 ++ ls.flatten))).size = 32) := Lib.hid (by rw [hashA_size, shaF_length])
  obtain ⟨ch, hch⟩ : ∃ ch, Hid (hashA (shaF (turned key 54 ++ ls.flatten)) = ch) := ⟨_, Lib.hid rfl⟩
  have hkz : Hid ((hashA key).size = 64) := Lib.hid (by rw [hashA_size, Hk.out])
  obtain ⟨ck, hck⟩ : ∃ ck, Hid (hashA key = ck) := ⟨_, Lib.hid rfl⟩
  rw [hch.out] at HR hO hsz1
  rw [hck.out] at HR S hkz
  clear hnl
  go_wp2_with (refine wpList_load_blk rfl 76 (.tmp 5) rfl g5 (by simp [Act.eval, Act.put, hsz, o5]) 76 _ (S.out.at_ (l1 := [])) _ Tryd.underlying76 rfl (by rw [hkz.out]; exact Tryd.info64u8s) ?_)
  refine HR.out.mono ?_
  rintro e w4 ⟨rfl, S4⟩
  have S4 := Lib.hid (S4.newBlk 25 (hashA (List.replicate 32 0)))
  go_wp2_with (refine wpList_store_blk rfl 25 (.tmp 7) (.tmp 22) rfl w4.heap.size (by simp [Act.eval, Act.put, hsz]) ch (by simp [Act.eval, Act.put, hsz]) 25 _ (S4.out.at_ (l1 := [])) (by rw [hsz1.out]; exact Tryd.infoHashP) (by rw [hsz1.out]; rfl) hO.out ?_; intro w5 b5 k5; have S5 := Lib.hid (Held.setBlk (l1 := []) S4.out b5 k5); clear b5 k5)
  rw [← hch.out, ← hck.out] at S5
  try simp only [Act.put]
  exact hend _ _ (by repeat (first | (with_reducible refine same_set (by decide) ?_) | (with_reducible exact same_nil))) (⟨_, (by unfold Sl; simp [hsz]), S5.out⟩)
-- END mac6
-- REG mac7
set_option maxRecDepth 100000 in
set_option maxHeartbeats 2000000 in
theorem mac_r7 {Q : Exit → Act → World → Prop} {a : Act} {w : World} (w0 : World) (g5 g7 g4 : Nat) (key h : List UInt8) (hk : key.length = 64) (hh : h.length = 32) (L : List Res) (hsz : a.tmps.size = 27) (o4 : Sl a 4 (.pointer (some ⟨g4, 0, none⟩))) (o5 : Sl a 5 (.pointer (some ⟨g5, 0, none⟩))) (o7 : Sl a 7 (.pointer (some ⟨g7, 0, none⟩)))
    (S0 : Held w0 w (blkR g4 25 (hashA (List.replicate 32 0)) :: blkR g5 76 (hashA key) :: blkR g7 25 (hashA h) :: L))
    (hend : ∀ (a' : Act) (vs : Nat → Value) (gs : Nat → Nat) (W : World), Same a a' [23, 24, 25, 26] → Held w0 W (blkR (gs 2) 22 #[.slice (some ⟨g7, 0, none⟩) 32 32] :: blkR g4 25 (hashA (shaF (turned key 92 ++ h))) :: blkR g5 76 (hashA key) :: blkR g7 25 (hashA h) :: L) → Q .normal a' W) : (Code.region 7 (opsOf 7 Tryd.f9).toArray true).wp Tryd.prog Q a w := by
  have hap : apartB (opsOf 7 Tryd.f9) = true := by kernel_rfl
  refine wp_region_sep (Γ := Nat) (l := (opsOf 7 Tryd.f9)) 4 [0, 1, 2, 3, 4, 6, 7, 8]
    (fun i vs gs => match i with | 0 => vs 0 = .agg (hashA key) | 1 => vs 1 = .slice (some ⟨g7, 0, none⟩) 32 32 | 2 => vs 2 = .slice (some ⟨gs 2, 0, none⟩) 1 1 | 3 => vs 3 = .agg (hashA (shaF (turned key 92 ++ h))) | _ => True)
    (fun i vs gs => match i with | 2 => [blkR (gs 2) 22 #[.slice (some ⟨g7, 0, none⟩) 32 32]] | 4 => [blkR g4 25 (hashA (shaF (turned key 92 ++ h)))] | 5 => [blkR g4 25 (hashA (List.replicate 32 0))] | 6 => [blkR g5 76 (hashA key)] | 7 => [blkR g7 25 (hashA h)] | 8 => L | _ => [])
    (fun i => match i with | 4 => [5] | _ => []) (fun i => match i with | 0 => [6] | 3 => [2, 7] | _ => []) S0 (by kernel_rfl) hap (by kernel_rfl) (by kernel_rfl) (fun i => match i with | 0 => [0] | 1 => [1] | 2 => [2] | 3 => [3] | _ => []) (by kernel_rfl) ?_ (by kernel_rfl) ?_ ?_ ?_
  · intro s vs vs' gs gs' h
    iterate 9 (rcases s with _ | s; · (first | exact ⟨rfl, id⟩ | (simp only [List.mem_cons, List.not_mem_nil, or_false, forall_eq] at h; simp [h])))
    exact ⟨rfl, id⟩
  · simp only [List.range, List.range.loop, List.flatMap_cons, List.flatMap_nil, List.append_nil]
    exact List.Perm.refl _
  · clear S0 hend
    refine ⟨?_, ?_, ?_, ?_, ?_, trivial⟩
    · intro vs gs A' W LF hA S hR hd hu K hK
      replace hK := hK default
      have e5 : A'.tmps[5]?.getD undef = .pointer (some ⟨g5, 0, none⟩) := slot_out hA hap (Nat.lt_of_lt_of_eq (Nat.le_of_ble_eq_true rfl : 5 < 27) hsz.symm) (by kernel_rfl) o5
      clear hA o4 o5 o7
      refine op_runs (v := .agg (hashA key)) (w' := W) (exec_load rfl (by simpa [Act.eval] using e5) (run_loadAt_agg W ⟨g5, 0, none⟩ 76 (hashA key).toList _ (Blk.agg (show Blk W g5 76 (hashA key) from S.ok (blkR g5 76 (hashA key)) (hR 6 (List.mem_singleton.2 rfl) _ (List.mem_singleton.2 rfl)))) Tryd.underlying76 rfl (by rw [Array.length_toList, hashA_size, hk]; exact Tryd.info64u8s))) ?_
      exact hK _ _ S rfl
    · intro vs gs A' W LF hA S hR hd hu K hK
      replace hK := hK default
      have e7 : A'.tmps[7]?.getD undef = .pointer (some ⟨g7, 0, none⟩) := slot_out hA hap (Nat.lt_of_lt_of_eq (Nat.le_of_ble_eq_true rfl : 7 < 27) hsz.symm) (by kernel_rfl) o7
      clear hA o4 o5 o7
      go_step
      exact hK _ _ S rfl
    · intro vs gs A' W LF hA S hR hd hu K hK
      have f1 : vs 1 = .slice (some ⟨g7, 0, none⟩) 32 32 := hd 1 (by kernel_rfl)
      have e24 : A'.tmps[24]?.getD undef = vs 1 := slot_in hA hap (Nat.lt_of_lt_of_eq (Nat.le_of_ble_eq_true rfl : 24 < 27) hsz.symm) (by kernel_rfl)
      rw [f1] at e24
      clear hA o4 o5 o7
      go_step
      exact hK W.heap.size _ _ (S.newBlk _ _) rfl
    · intro vs gs A' W LF hA S hR hd hu K hK
      replace hK := hK default
      have f0 : vs 0 = .agg (hashA key) := hd 0 (by kernel_rfl)
      have e23 : A'.tmps[23]?.getD undef = vs 0 := slot_in hA hap (Nat.lt_of_lt_of_eq (Nat.le_of_ble_eq_true rfl : 23 < 27) hsz.symm) (by kernel_rfl)
      rw [f0] at e23
      have f2 : vs 2 = .slice (some ⟨gs 2, 0, none⟩) 1 1 := hd 2 (by kernel_rfl)
      have e25 : A'.tmps[25]?.getD undef = vs 2 := slot_in hA hap (Nat.lt_of_lt_of_eq (Nat.le_of_ble_eq_true rfl : 25 < 27) hsz.symm) (by kernel_rfl)
      rw [f2] at e25
      clear hA o4 o5 o7
      generalize hca : hashA key = ca at *
      go_step
      rw [← hca]
      have h2 : blkR (gs 2) 22 #[.slice (some ⟨g7, 0, none⟩) 32 32] ∈ LF := hR 2 (List.mem_cons_self ..) _ (List.mem_singleton.2 rfl)
      have h7 : blkR g7 25 (hashA h) ∈ LF := hR 7 (List.mem_cons_of_mem _ (List.mem_singleton.2 rfl)) _ (List.mem_singleton.2 rfl)
      refine (hashed_any w0 LF key hk 92 (.slice (some ⟨gs 2, 0, none⟩) 1 1) [.slice (some ⟨g7, 0, none⟩) 32 32] [h] (by simp [hh]) _ S (fun V SV => ?_)).mono ?_
      · exact txf_one (SV.ok _ h2) (Rd.of_hash (SV.ok _ h7) hh)
      rintro e w' ⟨rfl, Sq⟩
      rw [show [h].flatten = h from by simp]
      exact hK _ _ Sq rfl
    · intro vs gs A' W LF hA S hR hd hu K hK
      replace hK := hK default
      have e4 : A'.tmps[4]?.getD undef = .pointer (some ⟨g4, 0, none⟩) := slot_out hA hap (Nat.lt_of_lt_of_eq (Nat.le_of_ble_eq_true rfl : 4 < 27) hsz.symm) (by kernel_rfl) o4
      have f3 : vs 3 = .agg (hashA (shaF (turned key 92 ++ h))) := hd 3 (by kernel_rfl)
      have e26 : A'.tmps[26]?.getD undef = vs 3 := slot_in hA hap (Nat.lt_of_lt_of_eq (Nat.le_of_ble_eq_true rfl : 26 < 27) hsz.symm) (by kernel_rfl)
      rw [f3] at e26
      clear hA o4 o5 o7
      have S1 : Held w0 W (blkR g4 25 (hashA (List.replicate 32 0)) :: LF) := S
      refine op_store_part (.tmp 4) (.tmp 26) 25 rfl g4 0 (by simpa [Act.eval] using e4) (hashA (shaF (turned key 92 ++ h))) (by simpa [Act.eval] using e26) 25 _ (S1.at_ (l1 := [])) (by rw [hashA_size, shaF_length]; exact Tryd.infoHashP) (by rw [hashA_size, shaF_length]; exact Nat.le_refl _) (hashA_one _) (fun w' hbk k => hK undef _ ?_ trivial)
      rw [set_all _ _ (by rw [hashA_size, hashA_size, shaF_length]; rfl)] at hbk
      exact Held.setBlk (l1 := []) S1 hbk k
  · intro vs gs W S hp
    have S : Held w0 W (blkR (gs 2) 22 #[.slice (some ⟨g7, 0, none⟩) 32 32] :: blkR g4 25 (hashA (shaF (turned key 92 ++ h))) :: blkR g5 76 (hashA key) :: blkR g7 25 (hashA h) :: L) := by simpa only [List.flatMap_cons, List.flatMap_nil, List.append_nil, List.nil_append, List.cons_append, List.append_assoc] using S
    rw [show putAll vs (opsOf 7 Tryd.f9) 0 a = putD [(23, vs 0), (24, vs 1), (25, vs 2), (26, vs 3)] a from by kernel_rfl]
    exact hend _ vs gs W (same_putD _ a)  S
-- END mac7
end Go.Proofs.YtapboamjpilckaaDoor
/- sign.Mac, whole. -/
namespace Go.Proofs.YtapboamjpilckaaDoor
open Go.RowKit
theorem key_splice {h : List UInt8} (hl : h.length ≤ 64) : (splice (hashA (List.replicate 64 0)).toList 0 (bv h)).toArray = hashA (h ++ List.replicate (64 - h.length) 0) := by
  unfold splice hashA
  congr 1
  rw [List.take_zero, List.nil_append, Nat.zero_add, bv_length, bv_append]
  congr 1
  show (bv (List.replicate 64 0)).drop _ = _
  unfold bv
  rw [List.map_replicate, List.map_replicate, List.drop_replicate]
set_option maxRecDepth 100000 in
set_option maxHeartbeats 2000000 in
theorem mac_any (w0 : World) (L : List Res) (A : Option Addr) (c : Nat) (sec : List UInt8) (hs : sec.length < 1152921504606846976) (x : Value) (vs : List Value) (ls : List (List UInt8)) (hsum : 64 + ls.flatten.length < 1152921504606846976) (w : World) (S : Held w0 w L)
    (HS : ∀ V, Held w0 V L → Rd V 1 (.slice A sec.length c) sec.length (bv sec)) (HX : ∀ V, Held w0 V L → TxF V x vs ls) :
    Calls Tryd.prog 9 #[.slice A sec.length c, x] w fun e w' => e = .returned (.agg (hashA (macF sec ls.flatten))) ∧ Held w0 w' L := by
  obtain ⟨Ax, cx, hx, -, -⟩ := (show Txs w x ls from ⟨vs, HX w S⟩).open_
  refine calls_fr Tryd.func9 rfl 27 rfl (fun a0 hsz hdf hAr => ?_)
  have hz0 : a0.tmps.size = 27 := hsz
  have D := hdf
  have o0 := hAr 0 _ rfl
  have o1 : Sl a0 1 (.slice Ax ls.length cx) := by rw [← hx]; exact hAr 1 _ rfl
  refine wp_seq (mac_r0 w0 _ S hz0 (fun a1 w1 hs1 h => ?_))
  have hz1 := hs1.size.trans hz0
  have o0 := hs1.keep 0 _ (by decide) o0
  have o1 := hs1.keep 1 _ (by decide) o1
  have D := hs1.defers.trans D
  obtain ⟨g4, o4, S⟩ := h
  refine wp_seq (mac_r1 w0 _ S hz1 (fun a2 w2 hs2 h => ?_))
  have hz2 := hs2.size.trans hz1
  have o0 := hs2.keep 0 _ (by decide) o0
  have o1 := hs2.keep 1 _ (by decide) o1
  have o4 := hs2.keep 4 _ (by decide) o4
  have D := hs2.defers.trans D
  obtain ⟨g5, o5, S⟩ := h
  refine wp_seq (wp_seq (mac_r2 A sec.length c hz2 o0 (fun a3 hs3 o10 => ?_)))
  have hz3 := hs3.size.trans hz2
  have o0 := hs3.keep 0 _ (by decide) o0
  have o1 := hs3.keep 1 _ (by decide) o1
  have o4 := hs3.keep 4 _ (by decide) o4
  have o5 := hs3.keep 5 _ (by decide) o5
  have D := hs3.defers.trans D
  have tail : ∀ (a3 : Act) (w3 : World), a3.tmps.size = 27 → a3.defers = [] → Sl a3 1 (.slice Ax ls.length cx) → Sl a3 4 (.pointer (some ⟨g4, 0, none⟩)) → Sl a3 5 (.pointer (some ⟨g5, 0, none⟩)) → Held w0 w3 (blkR g5 76 (hashA (key64 sec)) :: blkR g4 25 (hashA (List.replicate 32 0)) :: L) →
      (tailOf 2 Tryd.f9).wp Tryd.prog (bodyPost Tryd.prog Tryd.f9 fun e w' => e = .returned (.agg (hashA (macF sec ls.flatten))) ∧ Held w0 w' L) a3 w3 := by
    intro a3 w3 hz3 D o1 o4 o5 S
    refine wp_seq (mac_r6 w0 g5 _ (key64_length sec) x vs ls Ax cx hx hsum _ (fun V SV => HX V SV.drop.drop) S hz3 o1 o5 (fun a4 w4 hs4 h => ?_))
    have hz4 := hs4.size.trans hz3
    have o1 := hs4.keep 1 _ (by decide) o1
    have o4 := hs4.keep 4 _ (by decide) o4
    have o5 := hs4.keep 5 _ (by decide) o5
    have D := hs4.defers.trans D
    obtain ⟨g7, o7, S⟩ := h
    have S := S.perm ((List.Perm.cons _ (List.Perm.swap _ _ _)).trans ((List.Perm.swap _ _ _).trans (List.Perm.cons _ (List.Perm.swap _ _ _))))
    refine wp_seq (mac_r7 w0 g5 g7 g4 _ _ (key64_length sec) (shaF_length _) _ hz4 o4 o5 o7 S (fun a5 vs5 gs5 w5 hs5 S => ?_))
    have hz5 := hs5.size.trans hz4
    have o1 := hs5.keep 1 _ (by decide) o1
    have o4 := hs5.keep 4 _ (by decide) o4
    have o5 := hs5.keep 5 _ (by decide) o5
    have o7 := hs5.keep 7 _ (by decide) o7
    have D := hs5.defers.trans D
    refine wp_ret (bodyPost_ret (results_cell1 (by rfl) (o4.eval (by rw [hz5]; decide)) (S.at_ (l1 := [_])) Tryd.underlying25 rfl (by rw [hashA_size, shaF_length]; exact Tryd.infoHashP)) D ⟨rfl, ?_⟩)
    exact S.drop.drop.drop.drop
  by_cases hlt : 64 < sec.length
  · refine wp_cond_true ((o10.eval (by rw [hz3]; decide)).trans (by rw [decide_eq_true hlt])) ?_
    refine wp_seq (mac_r3 w0 A c sec hs _ (fun V SV => HS V SV.drop.drop) S hz3 o0 (fun a4 w4 hs4 h => ?_))
    have hz4 := hs4.size.trans hz3
    have o0 := hs4.keep 0 _ (by decide) o0
    have o1 := hs4.keep 1 _ (by decide) o1
    have o4 := hs4.keep 4 _ (by decide) o4
    have o5 := hs4.keep 5 _ (by decide) o5
    have o10 := hs4.keep 10 _ (by decide) o10
    have D := hs4.defers.trans D
    obtain ⟨g6, o6, S⟩ := h
    have S := S.perm (List.Perm.swap _ _ _)
    refine mac_r4 w0 g5 g6 _ (shaF_length sec) _ hz4 o5 o6 S (fun a5 w5 hs5 S => ?_)
    have hz5 := hs5.size.trans hz4
    have o0 := hs5.keep 0 _ (by decide) o0
    have o1 := hs5.keep 1 _ (by decide) o1
    have o4 := hs5.keep 4 _ (by decide) o4
    have o5 := hs5.keep 5 _ (by decide) o5
    have o10 := hs5.keep 10 _ (by decide) o10
    have o6 := hs5.keep 6 _ (by decide) o6
    have D := hs5.defers.trans D
    rw [key_splice (by rw [shaF_length]; omega)] at S
    have ek : shaF sec ++ List.replicate (64 - (shaF sec).length) 0 = key64 sec := by unfold key64; rw [if_pos hlt]
    rw [ek] at S
    exact tail _ _ hz5 D o1 o4 o5 (S.dropAt (l1 := [_]))
  · refine wp_cond_false ((o10.eval (by rw [hz3]; decide)).trans (by rw [decide_eq_false hlt])) ?_
    refine mac_r5 w0 g5 A c sec _ (HS _ S.drop.drop) S hz3 o0 o5 (fun a4 w4 hs4 S => ?_)
    have hz4 := hs4.size.trans hz3
    have o0 := hs4.keep 0 _ (by decide) o0
    have o1 := hs4.keep 1 _ (by decide) o1
    have o4 := hs4.keep 4 _ (by decide) o4
    have o5 := hs4.keep 5 _ (by decide) o5
    have D := hs4.defers.trans D
    rw [List.take_of_length_le (by rw [bv_length]; omega), key_splice (by omega)] at S
    have ek : sec ++ List.replicate (64 - sec.length) 0 = key64 sec := by unfold key64; rw [if_neg hlt]
    rw [ek] at S
    exact tail _ _ hz4 D o1 o4 o5 S
end Go.Proofs.YtapboamjpilckaaDoor
