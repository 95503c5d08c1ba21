/- Several texts in one: RshA, ShaG. -/
import Derived.Test.YtapboamjpilckaaDoorP4
/- The reference's New, eight, words. -/
namespace Go.Proofs.YtapboamjpilckaaDoor
open Go.RowKit
theorem be4_bv (x : Nat) : (#[Value.int .u8 ((x / 16777216 % 256 : Nat) : Int), .int .u8 ((x / 65536 % 256 : Nat) : Int), .int .u8 ((x / 256 % 256 : Nat) : Int), .int .u8 ((x % 256 : Nat) : Int)] : Array Value).toList = bv (be 4 x) := by
  simp only [be_succ, be_zero, bv_cons, bv_nil, UInt8.toNat_ofNat']
  simp
/-- The cells of the reference's sum under way. -/
def undL (st : List Nat) (n : Nat) (v : Value) : List Value := u32L st ++ [.int .i64 (n : Int), v]
def undA (st : List Nat) (n : Nat) (v : Value) : Array Value := (undL st n v).toArray
theorem Tryd.infoUnder : (Tryd.prog.info? 113).map (·.size) = some 10 := by kernel_rfl
section
variable {st : List Nat} {n : Nat} {v : Value}
theorem undA_size (hs : st.length = 8) : (undA st n v).size = 10 := by simp [undA, undL, u32L_length, hs]
theorem undA_len (hs : st.length = 8) : (undA st n v)[8]? = some (.int .i64 (n : Int)) := by
  simp only [undA, List.getElem?_toArray, undL]
  rw [List.getElem?_append_right (by rw [u32L_length]; omega), u32L_length, hs]; rfl
theorem undA_rest (hs : st.length = 8) : (undA st n v)[9]? = some v := by
  simp only [undA, List.getElem?_toArray, undL]
  rw [List.getElem?_append_right (by rw [u32L_length]; omega), u32L_length, hs]; rfl
theorem undA_setLen (hs : st.length = 8) (m : Nat) : (undA st n v).setIfInBounds 8 (.int .i64 (m : Int)) = undA st m v := by
  unfold undA undL
  rw [List.setIfInBounds_toArray, List.set_append_right _ _ (by rw [u32L_length]; omega), u32L_length, hs]; rfl
theorem undA_setRest (hs : st.length = 8) (u : Value) : (undA st n v).setIfInBounds 9 u = undA st n u := by
  unfold undA undL
  rw [List.setIfInBounds_toArray, List.set_append_right _ _ (by rw [u32L_length]; omega), u32L_length, hs]; rfl
theorem undA_state (hs : st.length = 8) (st' : List Nat) (hs' : st'.length = 8) : ((undA st n v).toList.take 0 ++ (u32A st').toList ++ (undA st n v).toList.drop (0 + (u32A st').size)).toArray = undA st' n v := by
  rw [u32A_size, hs']
  unfold undA undL
  rw [List.toList_toArray, List.take_zero, List.nil_append, Nat.zero_add, List.drop_left' (by rw [u32L_length, hs])]
  rfl
theorem und_stateAt {w : World} {g : Nat} {t : TypeId} (h : Blk w g t (undA st n v)) (hs : st.length = 8) : ∀ j u, (u32A st).toList[j]? = some u → w.cell? ((⟨g, 0, none⟩ : Addr).add j) = some u := by
  intro j u hu
  have hj : j < 8 := by
    have := (List.getElem?_eq_some_iff.1 hu).1
    simpa [u32A, u32L, hs] using this
  refine h.agg j u ?_
  simp only [undA, List.toList_toArray, undL]
  rw [List.getElem?_append_left (by rw [u32L_length]; omega)]
  exact hu
theorem undA_one (hv : v.oneCell' = true) : ∀ u, u ∈ (undA st n v).toList → u.oneCell' = true := by
  intro u hu
  simp only [undA, List.toList_toArray, undL, List.mem_append, List.mem_cons, List.not_mem_nil, or_false] at hu
  rcases hu with hu | rfl | rfl
  · exact u32L_one st u hu
  · rfl
  · exact hv
end
set_option maxRecDepth 100000 in
theorem rnew_any (w : World) : Calls Tryd.prog 66 #[] w fun e w' => e = .returned (.agg (undA hF 0 (.slice none 0 0))) ∧ Kp [] w w' := by
  have S0 := Lib.hid ((Held.start w).newBlk 113 (undA (List.replicate 8 0) 0 (.slice none 0 0)))
  have HB : Hid (Tryd.prog.built 113 [(0, .agg (u32A hF))] = some (undA hF 0 (.slice none 0 0))) := Lib.hid (by kernel_rfl)
  have hO := Lib.hid (undA_one (st := hF) (n := 0) (v := .slice none 0 0) rfl)
  have hZ : Hid ((undA hF 0 (.slice none 0 0)).size = 10) := Lib.hid (undA_size rfl)
  obtain ⟨ch, hch⟩ : ∃ ch, Hid (undA hF 0 (.slice none 0 0) = ch) := ⟨_, Lib.hid rfl⟩
  obtain ⟨ca, hca⟩ : ∃ ca, Hid (u32A hF = ca) := ⟨_, Lib.hid rfl⟩
  rw [hch.out] at HB hO hZ ⊢
  rw [hca.out] at HB
  have hf := Lib.hid (rfirst_any)
  rw [hca.out] at hf
  go_enter Tryd.func66, Tryd.ntmps66
  go_wp2_with fail
  refine (hf.out _).mono ?_
  rintro e w' ⟨rfl, k1⟩
  have S1 := Lib.hid (S0.out.kp k1)
  clear k1 S0
  go_wp2_with (first
    | (refine wpList_buildC rfl 113 _ rfl [(0, .agg ca)] (by simp [Act.eval, Act.put]) _ HB.out ?_)
    | (refine wpList_store_blk rfl 113 (.tmp 0) (.tmp 2) rfl w.heap.size (by simp [Act.eval, Act.put]) ch (by simp [Act.eval, Act.put]) 113 _ (S1.out.at_ (l1 := [])) (by rw [hZ.out]; exact Tryd.infoUnder) (by rw [hZ.out]; rfl) hO.out ?_; intro w5 b5 k5; have S5 := Lib.hid (Held.setBlk (l1 := []) S1.out b5 k5); clear b5 k5))
  refine bodyPost_ret (results_cell1 (by rfl) rfl (S5.out.at_ (l1 := [])) Tryd.underlying113 rfl (by rw [hZ.out]; exact Tryd.infoUnder)) rfl ?_
  exact ⟨rfl, S5.out.k⟩
set_option maxRecDepth 100000 in
set_option maxHeartbeats 1000000 in
theorem reight_any (w0 : World) (L : List Res) (N : Nat) (w : World) (S : Held w0 w L) : Calls Tryd.prog 87 #[.int .u64 (N : Int)] w fun e w' => ∃ v, e = .returned v ∧ Held w0 w' (rowR 5 1 v 8 (bv (be 8 N)) :: L) := by
  have S := Lib.hid S
  go_enter Tryd.func87, Tryd.ntmps87
  go_wp2
  go_loopw [3, 4] (fun v z wr => ∃ r : Nat, r ≤ 8 ∧ z = .int .i64 (56 - 8 * (r : Int)) ∧ Held w0 wr (rowR 5 1 v ((be 8 N).take r).length (bv ((be 8 N).take r)) :: L)) (fun _ z _ => (intOf z + 8).toNat)
  case atStart => exact ⟨0, by omega, rfl, S.out.rownew (World.ownsRow_nil _ _ _ _) (Kp.refl [] _) (by simp [Value.ownBlock])⟩
  case round =>
    clear S
    obtain ⟨r, hr, rfl, S⟩ := hrel
    obtain ⟨A, c, rfl, -, -⟩ := ow_form (S.at_ (l1 := []))
    have S := Lib.hid S
    by_cases hlt : r < 8
    · have e6 : (56 - 8 * (r : Int)) = (((56 - 8 * r : Nat)) : Int) := by omega
      have e7 : (56 - 8 * (r : Int)) - 8 = 56 - 8 * ((r + 1 : Nat) : Int) := by omega
      have hw : wrap64 (((56 - 8 * r : Nat) : Int) - 8) = 56 - 8 * ((r + 1 : Nat) : Int) := by unfold wrap64; omega
      have hbv : Hid (((N : Int) / 2 ^ (56 - 8 * r)) % 256 = ((UInt8.ofNat (N / 2 ^ (56 - 8 * r))).toNat : Int)) := Lib.hid (by rw [UInt8.toNat_ofNat', Int.natCast_emod, Int.natCast_ediv, Int.natCast_pow]; rfl)
      have hge : (0 : Int) ≤ ((56 - 8 * r : Nat) : Int) := by omega
      have Hn := Lib.hid (be8_take N r hlt)
      have hxl : ((be 8 N).take r).length ≤ 8 := by rw [List.length_take]; omega
      generalize UInt8.ofNat (N / 2 ^ (56 - 8 * r)) = b at *
      have hbv := hbv.out
      rw [e6]
      have e8 : 56 - 8 * ((r + 1 : Nat) : Int) = ((56 - 8 * r : Nat) : Int) - 8 := by omega
      rw [e8] at hw
      generalize hz : ((56 - 8 * r : Nat) : Int) - 8 = z2 at *
      have Hz : Hid (z2 = 56 - 8 * ((r + 1 : Nat) : Int)) := Lib.hid (by omega)
      clear e6 e7 e8 hz
      generalize hxs : (be 8 N).take r = xs at *
      have S1 := Lib.hid (S.out.alloc (.cells #[.int .u8 (b.toNat : Int)] 5))
      have HR := Lib.hid (rd_lit wr 5 #[.int .u8 (b.toNat : Int)] [b] rfl (by simp))
      have Hxs := Lib.hid hxs
      clear hxs S
      generalize hq : 56 - 8 * r = q at *
      have hmin : min q 64 = q := by omega
      have Hq := Lib.hid hq
      clear hq
      go_wp2_with (at_builtin; refine app_held [] rfl (.tmp 9) (.tmp 14) rfl (.slice A xs.length c) xs (by simp [Act.eval]) S1.out (.slice (some ⟨wr.heap.size, 0, none⟩) 1 1) [b] (by simp [Act.eval]) HR.out (by simp; omega) ?_; intro v2 w2 S2; have S2 := Lib.hid S2; obtain ⟨A2, c2, hv2, _, _⟩ := ow_form (S2.out.at_ (l1 := [])); subst hv2)
      go_roundw
      case rel =>
        refine ⟨r + 1, by omega, congrArg (Value.int .i64) (by have := Hq.out; omega), ?_⟩
        rw [Hn.out]
        have := S2.out
        rw [show (xs ++ [b]).length = xs.length + 1 from by simp] at this ⊢
        exact this
      case measure =>
        have := Hq.out
        simp [intOf]; omega
    · obtain rfl : r = 8 := by omega
      have e8 : (56 - 8 * ((8 : Nat) : Int)) = -8 := by omega
      rw [e8]
      go_wp2
      go_ret
      have e := S.out
      rw [List.take_of_length_le (by simp), be_length] at e
      exact ⟨_, rfl, by simpa using e⟩
def dsWd : List Nat := [3, 4, 5, 6, 7, 8, 9, 10, 11, 12, 13, 14, 15, 16, 17, 18, 19, 20, 21, 22, 23, 24, 25, 26, 27, 28, 29, 30]
-- REG rwd0
set_option maxRecDepth 100000 in
set_option maxHeartbeats 2000000 in
theorem rwd_r0 {Q : Exit → Act → World → Prop} {a : Act} {w : World} (w0 : World) (st : List Nat) (L : List Res) (S : Held w0 w L) (hsz : a.tmps.size = 32) (o0 : Sl a 0 (.agg (u32A st)))
    (hend : ∀ (a' : Act) (W : World), Same a a' [1, 2] → (∃ g, Sl a' 1 (.pointer (some ⟨g, 0, none⟩)) ∧ Held w0 W (blkR g 111 (u32A st) :: L)) → Q .normal a' W) : (Code.region 0 (opsOf 0 Tryd.f88).toArray false).wp Tryd.prog Q a w := by
  refine wp_region_lit (l := (opsOf 0 Tryd.f88)) ?_
  conv => arg 4; whnf
  unfold Sl at o0
  have S0 := Lib.hid (S.newBlk 111 (u32A st))
  generalize hca : u32A st = ca at *
  go_wp2
  try simp only [Act.put]
  exact hend _ _ (by repeat (first | (with_reducible refine same_set (by decide) ?_) | (with_reducible exact same_nil))) (⟨w.heap.size, (by unfold Sl; simp [hsz]), S0.out⟩)
-- END rwd0
-- REG rwd1
set_option maxRecDepth 100000 in
set_option maxHeartbeats 2000000 in
theorem rwd_r1 {Q : Exit → Act → World → Prop} {a : Act} {w : World}  (hsz : a.tmps.size = 32) 
    (hend : ∀ (a' : Act), Same a a' [3] → Sl a' 3 (.slice none 0 0) → Q .normal a' (w)) : (Code.region 1 (opsOf 1 Tryd.f88).toArray false).wp Tryd.prog Q a w := by
  refine wp_region_lit (l := (opsOf 1 Tryd.f88)) ?_
  conv => arg 4; whnf
  go_wp2_with fail
  try simp only [Act.put]
  exact hend _ (by repeat (first | (with_reducible refine same_set (by decide) ?_) | (with_reducible exact same_nil))) (by unfold Sl; first | (simp [hsz]; done) | (simp [hsz]; omega))
-- END rwd1
-- REG rwd2
set_option maxRecDepth 100000 in
set_option maxHeartbeats 2000000 in
theorem rwd_r2 {Q : Exit → Act → World → Prop} {a : Act} {w : World}  (hsz : a.tmps.size = 32) 
    (hend : ∀ (a' : Act), Same a a' [4] → Sl a' 4 (.int .i64 ((0 : Nat) : Int)) → Q .normal a' (w)) : (Code.region 2 (opsOf 2 Tryd.f88).toArray false).wp Tryd.prog Q a w := by
  refine wp_region_lit (l := (opsOf 2 Tryd.f88)) ?_
  conv => arg 4; whnf
  go_wp2_with fail
  try simp only [Act.put]
  exact hend _ (by repeat (first | (with_reducible refine same_set (by decide) ?_) | (with_reducible exact same_nil))) (by unfold Sl; first | (simp [hsz]; done) | (simp [hsz]; omega))
-- END rwd2
-- REG rwd3
set_option maxRecDepth 100000 in
set_option maxHeartbeats 2000000 in
theorem rwd_r3 {Q : Exit → Act → World → Prop} {a : Act} {w : World} (k : Nat) (hsz : a.tmps.size = 32) (o4 : Sl a 4 (.int .i64 (k : Int)))
    (hend : ∀ (a' : Act), Same a a' [5, 6] → Sl a' 6 (.bool (decide ((k : Int) < 8))) → Q .normal a' (w)) : (Code.region 3 (opsOf 3 Tryd.f88).toArray false).wp Tryd.prog Q a w := by
  refine wp_region_lit (l := (opsOf 3 Tryd.f88)) ?_
  conv => arg 4; whnf
  unfold Sl at o4
  go_wp2_with fail
  try simp only [Act.put]
  exact hend _ (by repeat (first | (with_reducible refine same_set (by decide) ?_) | (with_reducible exact same_nil))) (by unfold Sl; first | (simp [hsz]; done) | (simp [hsz]; omega))
-- END rwd3
-- REG rwd4
set_option maxRecDepth 100000 in
set_option maxHeartbeats 2000000 in
theorem rwd_r4 {Q : Exit → Act → World → Prop} {a : Act} {w : World} (k : Nat) (hk : k < 8) (hsz : a.tmps.size = 32) (o4 : Sl a 4 (.int .i64 (k : Int)))
    (hend : ∀ (a' : Act), Same a a' [7, 8, 4] → Sl a' 4 (.int .i64 ((k + 1 : Nat) : Int)) → Q .normal a' (w)) : (Code.region 4 (opsOf 4 Tryd.f88).toArray false).wp Tryd.prog Q a w := by
  refine wp_region_lit (l := (opsOf 4 Tryd.f88)) ?_
  conv => arg 4; whnf
  unfold Sl at o4
  go_wp2_with fail
  try simp only [Act.put]
  exact hend _ (by repeat (first | (with_reducible refine same_set (by decide) ?_) | (with_reducible exact same_nil))) (by unfold Sl; first | (simp [hsz]; done) | (simp [hsz]; omega))
-- END rwd4
-- REG rwd6
set_option maxRecDepth 100000 in
set_option maxHeartbeats 2000000 in
theorem rwd_r6 {Q : Exit → Act → World → Prop} {a : Act} {w : World} (A : Option Addr) (n c : Nat) (hsz : a.tmps.size = 32) (o3 : Sl a 3 (.slice A n c))
    (hend : ∀ (a' : Act), Same a a' [31, 2] → Sl a' 2 (.slice A n c) → Q .normal a' (w)) : (Code.region 6 (opsOf 6 Tryd.f88).toArray false).wp Tryd.prog Q a w := by
  refine wp_region_lit (l := (opsOf 6 Tryd.f88)) ?_
  conv => arg 4; whnf
  unfold Sl at o3
  go_wp2_with fail
  try simp only [Act.put]
  exact hend _ (by repeat (first | (with_reducible refine same_set (by decide) ?_) | (with_reducible exact same_nil))) (by unfold Sl; first | (simp [hsz]; done) | (simp [hsz]; omega))
-- END rwd6
-- REG rwd5
set_option maxRecDepth 100000 in
set_option maxHeartbeats 2000000 in
theorem rwd_r5 {Q : Exit → Act → World → Prop} {a : Act} {w : World} (w0 : World) (g1 k x n c : Nat) (A : Option Addr) (st : List Nat) (l : List UInt8) (hk : k < 8) (hx : st[k]? = some x) (hn : n + 4 ≤ 1000) (L : List Res) (hsz : a.tmps.size = 32) (o1 : Sl a 1 (.pointer (some ⟨g1, 0, none⟩))) (o3 : Sl a 3 (.slice A n c)) (o4 : Sl a 4 (.int .i64 (k : Int)))
    (S0 : Held w0 w (L ++ (rowR 5 1 (.slice A n c) n (bv l) :: blkR g1 111 (u32A st) :: [])))
    (hend : ∀ (a' : Act) (vs : Nat → Value) (gs : Nat → Unit) (W : World), Same a a' [9, 10, 11, 12, 13, 14, 15, 16, 17, 18, 19, 20, 21, 22, 23, 24, 25, 26, 27, 28, 29, 30, 3] → Sl a' 30 (vs 21) → (∃ A c, vs 21 = .slice A (n + 4) c) → Sl a' 3 (vs 21) → Held w0 W (rowR 5 1 (vs 20) 4 (bv (be 4 x)) :: rowR 5 1 (vs 21) (n + 4) (bv l ++ bv (be 4 x)) :: L ++ (blkR g1 111 (u32A st) :: [])) → Q .normal a' W) : (Code.region 5 (opsOf 5 Tryd.f88).toArray true).wp Tryd.prog Q a w := by
  have hap : apartB (opsOf 5 Tryd.f88) = true := by kernel_rfl
  refine wp_region_sep (Γ := Unit) (l := (opsOf 5 Tryd.f88)) 3 [0, 1, 2, 3, 4, 5, 6, 7, 8, 9, 10, 11, 12, 13, 14, 15, 16, 17, 18, 19, 20, 21, 22, 23, 25]
    (fun i vs gs => match i with | 0 => vs 0 = .slice A n c | 1 => vs 1 = .int .i64 (k : Int) | 2 => vs 2 = .pointer (some ⟨g1, k, none⟩) | 3 => vs 3 = .int .u32 ((x : Nat) : Int) | 4 => vs 4 = .int .u32 ((x / 16777216 : Nat) : Int) | 5 => vs 5 = .int .u8 ((x / 16777216 % 256 : Nat) : Int) | 6 => vs 6 = .int .i64 (k : Int) | 7 => vs 7 = .pointer (some ⟨g1, k, none⟩) | 8 => vs 8 = .int .u32 ((x : Nat) : Int) | 9 => vs 9 = .int .u32 ((x / 65536 : Nat) : Int) | 10 => vs 10 = .int .u8 ((x / 65536 % 256 : Nat) : Int) | 11 => vs 11 = .int .i64 (k : Int) | 12 => vs 12 = .pointer (some ⟨g1, k, none⟩) | 13 => vs 13 = .int .u32 ((x : Nat) : Int) | 14 => vs 14 = .int .u32 ((x / 256 : Nat) : Int) | 15 => vs 15 = .int .u8 ((x / 256 % 256 : Nat) : Int) | 16 => vs 16 = .int .i64 (k : Int) | 17 => vs 17 = .pointer (some ⟨g1, k, none⟩) | 18 => vs 18 = .int .u32 ((x : Nat) : Int) | 19 => vs 19 = .int .u8 ((x % 256 : Nat) : Int) | 21 => ∃ A c, vs 21 = .slice A (n + 4) c | 22 => vs 22 = vs 21 | _ => True)
    (fun i vs gs => match i with | 20 => [rowR 5 1 (vs 20) 4 (bv (be 4 x))] | 21 => [rowR 5 1 (vs 21) (n + 4) (bv l ++ bv (be 4 x))] | 23 => L | 24 => [rowR 5 1 (.slice A n c) n (bv l)] | 25 => [blkR g1 111 (u32A st)] | _ => [])
    (fun i => match i with | 21 => [24] | _ => []) (fun i => match i with | 3 => [25] | 8 => [25] | 13 => [25] | 18 => [25] | 21 => [20] | _ => []) S0 (by kernel_rfl) hap (by kernel_rfl) (by kernel_rfl) (fun i => match i with | 0 => [0] | 1 => [1] | 2 => [2] | 3 => [3] | 4 => [4] | 5 => [5] | 6 => [6] | 7 => [7] | 8 => [8] | 9 => [9] | 10 => [10] | 11 => [11] | 12 => [12] | 13 => [13] | 14 => [14] | 15 => [15] | 16 => [16] | 17 => [17] | 18 => [18] | 19 => [19] | 20 => [20] | 21 => [21] | 22 => [21, 22] | _ => []) (by kernel_rfl) ?_ (by kernel_rfl) ?_ ?_ ?_
  · intro s vs vs' gs gs' h
    iterate 26 (rcases s with _ | s; · (first | exact ⟨rfl, id⟩ | (simp only [List.mem_cons, List.not_mem_nil, or_false, forall_eq_or_imp, forall_eq] at h; simp [h])))
    exact ⟨rfl, id⟩
  · simp only [List.range, List.range.loop, List.flatMap_cons, List.flatMap_nil, List.append_nil]
    exact List.Perm.refl _
  · clear S0 hend
    refine ⟨?_, ?_, ?_, ?_, ?_, ?_, ?_, ?_, ?_, ?_, ?_, ?_, ?_, ?_, ?_, ?_, ?_, ?_, ?_, ?_, ?_, ?_, ?_, trivial⟩
    · intro vs gs A' W LF hA S hR hd hu K hK
      replace hK := hK default
      have e3 : A'.tmps[3]?.getD undef = vs 22 := slot_in hA hap (Nat.lt_of_lt_of_eq (Nat.le_of_ble_eq_true rfl : 3 < 32) hsz.symm) (by kernel_rfl)
      rw [show vs 22 = .slice A n c from (hu 22 _ rfl (by kernel_rfl)).trans (o3.eval (Nat.lt_of_lt_of_eq (Nat.le_of_ble_eq_true rfl : 3 < 32) hsz.symm))] at e3
      clear hA o1 o3 o4
      go_step
      exact hK _ _ S rfl
    · intro vs gs A' W LF hA S hR hd hu K hK
      replace hK := hK default
      have e4 : A'.tmps[4]?.getD undef = .int .i64 (k : Int) := slot_out hA hap (Nat.lt_of_lt_of_eq (Nat.le_of_ble_eq_true rfl : 4 < 32) hsz.symm) (by kernel_rfl) o4
      clear hA o1 o3 o4
      go_step
      exact hK _ _ S rfl
    · intro vs gs A' W LF hA S hR hd hu K hK
      replace hK := hK default
      have e1 : A'.tmps[1]?.getD undef = .pointer (some ⟨g1, 0, none⟩) := slot_out hA hap (Nat.lt_of_lt_of_eq (Nat.le_of_ble_eq_true rfl : 1 < 32) hsz.symm) (by kernel_rfl) o1
      have f1 : vs 1 = .int .i64 (k : Int) := hd 1 (by kernel_rfl)
      have e10 : A'.tmps[10]?.getD undef = vs 1 := slot_in hA hap (Nat.lt_of_lt_of_eq (Nat.le_of_ble_eq_true rfl : 10 < 32) hsz.symm) (by kernel_rfl)
      rw [f1] at e10
      clear hA o1 o3 o4
      have h0 : 0 ≤ (k : Int) := by omega
      have h1 : (k : Int) < 8 := by omega
      go_step
      exact hK _ _ S rfl
    · intro vs gs A' W LF hA S hR hd hu K hK
      replace hK := hK default
      have f2 : vs 2 = .pointer (some ⟨g1, k, none⟩) := hd 2 (by kernel_rfl)
      have e11 : A'.tmps[11]?.getD undef = vs 2 := slot_in hA hap (Nat.lt_of_lt_of_eq (Nat.le_of_ble_eq_true rfl : 11 < 32) hsz.symm) (by kernel_rfl)
      rw [f2] at e11
      clear hA o1 o3 o4
      have c0 := u32_cell (S.ok (blkR g1 111 (u32A st)) (hR 25 (List.mem_singleton.2 rfl) _ (List.mem_singleton.2 rfl))) k x hx
      go_step
      exact hK _ _ S rfl
    · intro vs gs A' W LF hA S hR hd hu K hK
      replace hK := hK default
      have f3 : vs 3 = .int .u32 ((x : Nat) : Int) := hd 3 (by kernel_rfl)
      have e12 : A'.tmps[12]?.getD undef = vs 3 := slot_in hA hap (Nat.lt_of_lt_of_eq (Nat.le_of_ble_eq_true rfl : 12 < 32) hsz.symm) (by kernel_rfl)
      rw [f3] at e12
      clear hA o1 o3 o4
      go_step
      exact hK _ _ S (congrArg (Value.int .u32) (by first | omega | rfl))
    · intro vs gs A' W LF hA S hR hd hu K hK
      replace hK := hK default
      have f4 : vs 4 = .int .u32 ((x / 16777216 : Nat) : Int) := hd 4 (by kernel_rfl)
      have e13 : A'.tmps[13]?.getD undef = vs 4 := slot_in hA hap (Nat.lt_of_lt_of_eq (Nat.le_of_ble_eq_true rfl : 13 < 32) hsz.symm) (by kernel_rfl)
      rw [f4] at e13
      clear hA o1 o3 o4
      go_step
      exact hK _ _ S (congrArg (Value.int .u8) (by first | omega | rfl))
    · intro vs gs A' W LF hA S hR hd hu K hK
      replace hK := hK default
      have e4 : A'.tmps[4]?.getD undef = .int .i64 (k : Int) := slot_out hA hap (Nat.lt_of_lt_of_eq (Nat.le_of_ble_eq_true rfl : 4 < 32) hsz.symm) (by kernel_rfl) o4
      clear hA o1 o3 o4
      go_step
      exact hK _ _ S rfl
    · intro vs gs A' W LF hA S hR hd hu K hK
      replace hK := hK default
      have e1 : A'.tmps[1]?.getD undef = .pointer (some ⟨g1, 0, none⟩) := slot_out hA hap (Nat.lt_of_lt_of_eq (Nat.le_of_ble_eq_true rfl : 1 < 32) hsz.symm) (by kernel_rfl) o1
      have f6 : vs 6 = .int .i64 (k : Int) := hd 6 (by kernel_rfl)
      have e15 : A'.tmps[15]?.getD undef = vs 6 := slot_in hA hap (Nat.lt_of_lt_of_eq (Nat.le_of_ble_eq_true rfl : 15 < 32) hsz.symm) (by kernel_rfl)
      rw [f6] at e15
      clear hA o1 o3 o4
      have h0 : 0 ≤ (k : Int) := by omega
      have h1 : (k : Int) < 8 := by omega
      go_step
      exact hK _ _ S rfl
    · intro vs gs A' W LF hA S hR hd hu K hK
      replace hK := hK default
      have f7 : vs 7 = .pointer (some ⟨g1, k, none⟩) := hd 7 (by kernel_rfl)
      have e16 : A'.tmps[16]?.getD undef = vs 7 := slot_in hA hap (Nat.lt_of_lt_of_eq (Nat.le_of_ble_eq_true rfl : 16 < 32) hsz.symm) (by kernel_rfl)
      rw [f7] at e16
      clear hA o1 o3 o4
      have c0 := u32_cell (S.ok (blkR g1 111 (u32A st)) (hR 25 (List.mem_singleton.2 rfl) _ (List.mem_singleton.2 rfl))) k x hx
      go_step
      exact hK _ _ S rfl
    · intro vs gs A' W LF hA S hR hd hu K hK
      replace hK := hK default
      have f8 : vs 8 = .int .u32 ((x : Nat) : Int) := hd 8 (by kernel_rfl)
      have e17 : A'.tmps[17]?.getD undef = vs 8 := slot_in hA hap (Nat.lt_of_lt_of_eq (Nat.le_of_ble_eq_true rfl : 17 < 32) hsz.symm) (by kernel_rfl)
      rw [f8] at e17
      clear hA o1 o3 o4
      go_step
      exact hK _ _ S (congrArg (Value.int .u32) (by first | omega | rfl))
    · intro vs gs A' W LF hA S hR hd hu K hK
      replace hK := hK default
      have f9 : vs 9 = .int .u32 ((x / 65536 : Nat) : Int) := hd 9 (by kernel_rfl)
      have e18 : A'.tmps[18]?.getD undef = vs 9 := slot_in hA hap (Nat.lt_of_lt_of_eq (Nat.le_of_ble_eq_true rfl : 18 < 32) hsz.symm) (by kernel_rfl)
      rw [f9] at e18
      clear hA o1 o3 o4
      go_step
      exact hK _ _ S (congrArg (Value.int .u8) (by first | omega | rfl))
    · intro vs gs A' W LF hA S hR hd hu K hK
      replace hK := hK default
      have e4 : A'.tmps[4]?.getD undef = .int .i64 (k : Int) := slot_out hA hap (Nat.lt_of_lt_of_eq (Nat.le_of_ble_eq_true rfl : 4 < 32) hsz.symm) (by kernel_rfl) o4
      clear hA o1 o3 o4
      go_step
      exact hK _ _ S rfl
    · intro vs gs A' W LF hA S hR hd hu K hK
      replace hK := hK default
      have e1 : A'.tmps[1]?.getD undef = .pointer (some ⟨g1, 0, none⟩) := slot_out hA hap (Nat.lt_of_lt_of_eq (Nat.le_of_ble_eq_true rfl : 1 < 32) hsz.symm) (by kernel_rfl) o1
      have f11 : vs 11 = .int .i64 (k : Int) := hd 11 (by kernel_rfl)
      have e20 : A'.tmps[20]?.getD undef = vs 11 := slot_in hA hap (Nat.lt_of_lt_of_eq (Nat.le_of_ble_eq_true rfl : 20 < 32) hsz.symm) (by kernel_rfl)
      rw [f11] at e20
      clear hA o1 o3 o4
      have h0 : 0 ≤ (k : Int) := by omega
      have h1 : (k : Int) < 8 := by omega
      go_step
      exact hK _ _ S rfl
    · intro vs gs A' W LF hA S hR hd hu K hK
      replace hK := hK default
      have f12 : vs 12 = .pointer (some ⟨g1, k, none⟩) := hd 12 (by kernel_rfl)
      have e21 : A'.tmps[21]?.getD undef = vs 12 := slot_in hA hap (Nat.lt_of_lt_of_eq (Nat.le_of_ble_eq_true rfl : 21 < 32) hsz.symm) (by kernel_rfl)
      rw [f12] at e21
      clear hA o1 o3 o4
      have c0 := u32_cell (S.ok (blkR g1 111 (u32A st)) (hR 25 (List.mem_singleton.2 rfl) _ (List.mem_singleton.2 rfl))) k x hx
      go_step
      exact hK _ _ S rfl
    · intro vs gs A' W LF hA S hR hd hu K hK
      replace hK := hK default
      have f13 : vs 13 = .int .u32 ((x : Nat) : Int) := hd 13 (by kernel_rfl)
      have e22 : A'.tmps[22]?.getD undef = vs 13 := slot_in hA hap (Nat.lt_of_lt_of_eq (Nat.le_of_ble_eq_true rfl : 22 < 32) hsz.symm) (by kernel_rfl)
      rw [f13] at e22
      clear hA o1 o3 o4
      go_step
      exact hK _ _ S (congrArg (Value.int .u32) (by first | omega | rfl))
    · intro vs gs A' W LF hA S hR hd hu K hK
      replace hK := hK default
      have f14 : vs 14 = .int .u32 ((x / 256 : Nat) : Int) := hd 14 (by kernel_rfl)
      have e23 : A'.tmps[23]?.getD undef = vs 14 := slot_in hA hap (Nat.lt_of_lt_of_eq (Nat.le_of_ble_eq_true rfl : 23 < 32) hsz.symm) (by kernel_rfl)
      rw [f14] at e23
      clear hA o1 o3 o4
      go_step
      exact hK _ _ S (congrArg (Value.int .u8) (by first | omega | rfl))
    · intro vs gs A' W LF hA S hR hd hu K hK
      replace hK := hK default
      have e4 : A'.tmps[4]?.getD undef = .int .i64 (k : Int) := slot_out hA hap (Nat.lt_of_lt_of_eq (Nat.le_of_ble_eq_true rfl : 4 < 32) hsz.symm) (by kernel_rfl) o4
      clear hA o1 o3 o4
      go_step
      exact hK _ _ S rfl
    · intro vs gs A' W LF hA S hR hd hu K hK
      replace hK := hK default
      have e1 : A'.tmps[1]?.getD undef = .pointer (some ⟨g1, 0, none⟩) := slot_out hA hap (Nat.lt_of_lt_of_eq (Nat.le_of_ble_eq_true rfl : 1 < 32) hsz.symm) (by kernel_rfl) o1
      have f16 : vs 16 = .int .i64 (k : Int) := hd 16 (by kernel_rfl)
      have e25 : A'.tmps[25]?.getD undef = vs 16 := slot_in hA hap (Nat.lt_of_lt_of_eq (Nat.le_of_ble_eq_true rfl : 25 < 32) hsz.symm) (by kernel_rfl)
      rw [f16] at e25
      clear hA o1 o3 o4
      have h0 : 0 ≤ (k : Int) := by omega
      have h1 : (k : Int) < 8 := by omega
      go_step
      exact hK _ _ S rfl
    · intro vs gs A' W LF hA S hR hd hu K hK
      replace hK := hK default
      have f17 : vs 17 = .pointer (some ⟨g1, k, none⟩) := hd 17 (by kernel_rfl)
      have e26 : A'.tmps[26]?.getD undef = vs 17 := slot_in hA hap (Nat.lt_of_lt_of_eq (Nat.le_of_ble_eq_true rfl : 26 < 32) hsz.symm) (by kernel_rfl)
      rw [f17] at e26
      clear hA o1 o3 o4
      have c0 := u32_cell (S.ok (blkR g1 111 (u32A st)) (hR 25 (List.mem_singleton.2 rfl) _ (List.mem_singleton.2 rfl))) k x hx
      go_step
      exact hK _ _ S rfl
    · intro vs gs A' W LF hA S hR hd hu K hK
      replace hK := hK default
      have f18 : vs 18 = .int .u32 ((x : Nat) : Int) := hd 18 (by kernel_rfl)
      have e27 : A'.tmps[27]?.getD undef = vs 18 := slot_in hA hap (Nat.lt_of_lt_of_eq (Nat.le_of_ble_eq_true rfl : 27 < 32) hsz.symm) (by kernel_rfl)
      rw [f18] at e27
      clear hA o1 o3 o4
      go_step
      exact hK _ _ S (congrArg (Value.int .u8) (by first | omega | rfl))
    · intro vs gs A' W LF hA S hR hd hu K hK
      replace hK := hK default
      have f5 : vs 5 = .int .u8 ((x / 16777216 % 256 : Nat) : Int) := hd 5 (by kernel_rfl)
      have e14 : A'.tmps[14]?.getD undef = vs 5 := slot_in hA hap (Nat.lt_of_lt_of_eq (Nat.le_of_ble_eq_true rfl : 14 < 32) hsz.symm) (by kernel_rfl)
      rw [f5] at e14
      have f10 : vs 10 = .int .u8 ((x / 65536 % 256 : Nat) : Int) := hd 10 (by kernel_rfl)
      have e19 : A'.tmps[19]?.getD undef = vs 10 := slot_in hA hap (Nat.lt_of_lt_of_eq (Nat.le_of_ble_eq_true rfl : 19 < 32) hsz.symm) (by kernel_rfl)
      rw [f10] at e19
      have f15 : vs 15 = .int .u8 ((x / 256 % 256 : Nat) : Int) := hd 15 (by kernel_rfl)
      have e24 : A'.tmps[24]?.getD undef = vs 15 := slot_in hA hap (Nat.lt_of_lt_of_eq (Nat.le_of_ble_eq_true rfl : 24 < 32) hsz.symm) (by kernel_rfl)
      rw [f15] at e24
      have f19 : vs 19 = .int .u8 ((x % 256 : Nat) : Int) := hd 19 (by kernel_rfl)
      have e28 : A'.tmps[28]?.getD undef = vs 19 := slot_in hA hap (Nat.lt_of_lt_of_eq (Nat.le_of_ble_eq_true rfl : 28 < 32) hsz.symm) (by kernel_rfl)
      rw [f19] at e28
      clear hA o1 o3 o4
      generalize hb0 : ((x / 16777216 % 256 : Nat) : Int) = b0 at e14
      generalize hb1 : ((x / 65536 % 256 : Nat) : Int) = b1 at e19
      generalize hb2 : ((x / 256 % 256 : Nat) : Int) = b2 at e24
      generalize hb3 : ((x % 256 : Nat) : Int) = b3 at e28
      go_step
      subst hb0 hb1 hb2 hb3
      have S2 := S.rownew (ow_new W 5 1 4 #[.int .u8 ((x / 16777216 % 256 : Nat) : Int), .int .u8 ((x / 65536 % 256 : Nat) : Int), .int .u8 ((x / 256 % 256 : Nat) : Int), .int .u8 ((x % 256 : Nat) : Int)] rfl (by decide)) ((Kp.refl [] W).alloc _) (fun g hg => Nat.le_of_eq (Option.some.inj hg))
      rw [be4_bv x] at S2
      exact hK _ _ S2 trivial
    · intro vs gs A' W LF hA S hR hd hu K hK
      replace hK := hK default
      have f0 : vs 0 = .slice A n c := hd 0 (by kernel_rfl)
      have e9 : A'.tmps[9]?.getD undef = vs 0 := slot_in hA hap (Nat.lt_of_lt_of_eq (Nat.le_of_ble_eq_true rfl : 9 < 32) hsz.symm) (by kernel_rfl)
      rw [f0] at e9
      have e29 : A'.tmps[29]?.getD undef = vs 20 := slot_in hA hap (Nat.lt_of_lt_of_eq (Nat.le_of_ble_eq_true rfl : 29 < 32) hsz.symm) (by kernel_rfl)
      clear hA o1 o3 o4
      refine op_app (.tmp 9) (.tmp 29) 22 5 rfl Tryd.infoU8 Tryd.underlying22 rfl (by decide) (.slice A n c) n (bv l) (by simpa [Act.eval] using e9) S (vs 20) 4 (bv (be 4 x)) (by simpa [Act.eval] using e29) (rd_of_row (e := 5) S (List.mem_cons_of_mem _ (hR 20 (List.mem_singleton.2 rfl) _ (List.mem_singleton.2 rfl)))) (bv_one _) (by unfold maxLen; omega) (by omega) (fun v' w' S' => hK v' w' S' ?_)
      obtain ⟨A1, c1, hv, _, _⟩ := ow_form (S'.at_ (l1 := []))
      exact ⟨A1, c1, hv⟩
    · intro vs gs A' W LF hA S hR hd hu K hK
      replace hK := hK default
      have f21 : ∃ A c, vs 21 = .slice A (n + 4) c := hd 21 (by kernel_rfl)
      have e30 : A'.tmps[30]?.getD undef = vs 21 := slot_in hA hap (Nat.lt_of_lt_of_eq (Nat.le_of_ble_eq_true rfl : 30 < 32) hsz.symm) (by kernel_rfl)
      clear hA o1 o3 o4
      obtain ⟨A1, c1, hv⟩ := f21
      rw [hv] at e30
      go_step
      rw [← hv]
      exact hK _ _ S rfl
  · intro vs gs W S hp
    have S : Held w0 W (rowR 5 1 (vs 20) 4 (bv (be 4 x)) :: rowR 5 1 (vs 21) (n + 4) (bv l ++ bv (be 4 x)) :: L ++ (blkR g1 111 (u32A st) :: [])) := by simpa only [List.flatMap_cons, List.flatMap_nil, List.append_nil, List.nil_append, List.cons_append, List.append_assoc] using S
    rw [show putAll vs (opsOf 5 Tryd.f88) 0 a = putD [(9, vs 0), (10, vs 1), (11, vs 2), (12, vs 3), (13, vs 4), (14, vs 5), (15, vs 6), (16, vs 7), (17, vs 8), (18, vs 9), (19, vs 10), (20, vs 11), (21, vs 12), (22, vs 13), (23, vs 14), (24, vs 15), (25, vs 16), (26, vs 17), (27, vs 18), (28, vs 19), (29, vs 20), (30, vs 21), (3, vs 22)] a from by kernel_rfl]
    exact hend _ vs gs W (same_putD _ a) (sl_putD _ a 30 _ (by kernel_rfl)) (hp 21 (Nat.le_of_ble_eq_true (by kernel_rfl))) (sl_putD _ a 3 _ (by rw [show vs 22 = _ from hp 22 (Nat.le_of_ble_eq_true (by kernel_rfl))]; kernel_rfl)) S
-- END rwd5
set_option maxRecDepth 100000 in
set_option maxHeartbeats 2000000 in
theorem rwords_any (w0 : World) (L : List Res) (st : List Nat) (hs : st.length = 8) (w : World) (S : Held w0 w L) : Calls Tryd.prog 88 #[.agg (u32A st)] w fun e w' => ∃ v, e = .returned v ∧ Held w0 w' (rowR 5 1 v 32 (bv (st.flatMap (be 4))) :: L) := by
  refine calls_fr Tryd.func88 rfl 32 rfl (fun a0 hsz hdf hAr => ?_)
  have hz0 : a0.tmps.size = 32 := hsz
  have D := hdf
  have o0 := hAr 0 _ rfl
  refine wp_seq (rwd_r0 w0 st _ S hz0 o0 (fun a1 w1 hs1 h => ?_))
  have hz1 := hs1.size.trans hz0
  have D := hs1.defers.trans D
  obtain ⟨g1, o1, S⟩ := h
  refine wp_seq (rwd_r1 hz1 (fun a2 hs2 o3 => ?_))
  have hz2 := hs2.size.trans hz1
  have o1 := hs2.keep 1 _ (by decide) o1
  have D := hs2.defers.trans D
  refine wp_seq (wp_seq (rwd_r2 hz2 (fun a3 hs3 o4 => ?_)))
  have hz3 := hs3.size.trans hz2
  have o1 := hs3.keep 1 _ (by decide) o1
  have o3 := hs3.keep 3 _ (by decide) o3
  have D := hs3.defers.trans D
  refine wp_block ?_
  conv => arg 2; whnf
  refine wp_loop (fun a' w' => ∃ (k : Nat) (A : Option Addr) (c : Nat), k ≤ 8 ∧ Same a3 a' dsWd ∧ Sl a' 4 (.int .i64 (k : Int)) ∧ Sl a' 3 (.slice A (4 * k) c) ∧ Held w0 w' (rowR 5 1 (.slice A (4 * k) c) (4 * k) (bv ((st.take k).flatMap (be 4))) :: blkR g1 111 (u32A st) :: L)) (fun a' _ => 8 - (intOf (a'.eval (.tmp 4))).toNat) ⟨0, none, 0, by omega, Same.refl _ _, o4, o3, S.rownew (World.ownsRow_nil _ _ _ _) (Kp.refl [] _) (by simp [Value.ownBlock])⟩ ?_
  clear o4 o3 S
  rintro b1 w3 ⟨k, A, c, hk, T, o4, o3, S⟩
  have hz1 := T.size.trans hz3
  have o1 := T.keep 1 _ (by decide) o1
  have eCtr := o4.eval (by rw [hz1]; decide)
  refine wp_seq (wp_seq (rwd_r3 k hz1 o4 (fun a2 hs2 o6 => ?_)))
  have hz2 := hs2.size.trans hz1
  have o1 := hs2.keep 1 _ (by decide) o1
  have o3 := hs2.keep 3 _ (by decide) o3
  have o4 := hs2.keep 4 _ (by decide) o4
  have T := T.trans hs2
  by_cases hlt : k < 8
  · refine wp_cond_true ((o6.eval (by rw [hz2]; decide)).trans (by rw [decide_eq_true (by omega)])) (wp_skip ?_)
    obtain ⟨x, hx⟩ : ∃ x, st[k]? = some x := ⟨_, List.getElem?_eq_getElem (by omega)⟩
    refine wp_seq (wp_block ?_)
    refine rwd_r5 w0 g1 k x (4 * k) c A st _ hlt hx (by omega) L hz2 o1 o3 o4 (S.perm (List.perm_append_comm (l₁ := [_, _]) (l₂ := L))) (fun a3 vs gs w4 hs3 o30 h3 o3 S => ?_)
    have hz3 := hs3.size.trans hz2
    have o1 := hs3.keep 1 _ (by decide) o1
    have o4 := hs3.keep 4 _ (by decide) o4
    have o6 := hs3.keep 6 _ (by decide) o6
    have T := T.trans hs3
    obtain ⟨A2, c2, hv⟩ := h3
    rw [hv] at o3 S
    have S := S.dropAt (l1 := [])
    refine rwd_r4 k hlt hz3 o4 (fun a4 hs4 o4 => ?_)
    have hz4 := hs4.size.trans hz3
    have o1 := hs4.keep 1 _ (by decide) o1
    have o6 := hs4.keep 6 _ (by decide) o6
    have o3 := hs4.keep 3 _ (by decide) o3
    have T := T.trans hs4
    have e1 : bv ((st.take k).flatMap (be 4)) ++ bv (be 4 x) = bv ((st.take (k + 1)).flatMap (be 4)) := by
      rw [← bv_append, List.take_add_one, hx, Option.toList_some, List.flatMap_append, List.flatMap_cons, List.flatMap_nil, List.append_nil]
    rw [e1] at S
    have S := S.perm ((List.perm_append_comm (l₁ := [_]) (l₂ := L)).cons _ |>.symm) 
    refine ⟨⟨k + 1, A2, c2, by omega, T.more (by decide +kernel), o4, o3, S⟩, ?_⟩
    show 8 - (intOf _).toNat < 8 - (intOf _).toNat
    rw [eCtr, o4.eval (by rw [hz4]; decide)]
    simp [intOf]; omega
  · obtain rfl : k = 8 := by omega
    refine wp_cond_false ((o6.eval (by rw [hz2]; decide)).trans (by rw [decide_eq_false (by omega)])) (wp_exit ?_)
    refine wp_seq (rwd_r6 A _ c hz2 o3 (fun a5 hs5 o2 => ?_))
    have hz5 := hs5.size.trans hz2
    have D5 := hs5.defers.trans (T.defers.trans D)
    refine wp_ret (bodyPost_ret (results_tmp rfl _ _ _) D5 ?_)
    refine ⟨_, by rw [show a5.tmps.getD 2 undef = _ from o2.eval (by rw [hz5]; decide)], ?_⟩
    rw [List.take_of_length_le (by omega)] at S
    exact S.dropAt (l1 := [_])
end Go.Proofs.YtapboamjpilckaaDoor
/- Block of the reference: its regions, each a theorem. -/
namespace Go.Proofs.YtapboamjpilckaaDoor
open Go.RowKit
-- REG rblk2
set_option maxRecDepth 100000 in
set_option maxHeartbeats 2000000 in
theorem rblk_r2 {Q : Exit → Act → World → Prop} {a : Act} {w : World}  (hsz : a.tmps.size = 209) 
    (hend : ∀ (a' : Act), Same a a' [6] → Sl a' 6 (.int .i64 ((0 : Nat) : Int)) → Q .normal a' (w)) : (Code.region 2 (opsOf 2 Tryd.f86).toArray false).wp Tryd.prog Q a w := by
  refine wp_region_lit (l := (opsOf 2 Tryd.f86)) ?_
  conv => arg 4; whnf
  go_wp2_with fail
  try simp only [Act.put]
  exact hend _ (by repeat (first | (with_reducible refine same_set (by decide) ?_) | (with_reducible exact same_nil))) (by unfold Sl; first | (simp [hsz]; done) | (simp [hsz]; omega))
-- END rblk2
-- REG rblk3
set_option maxRecDepth 100000 in
set_option maxHeartbeats 2000000 in
theorem rblk_r3 {Q : Exit → Act → World → Prop} {a : Act} {w : World} (k : Nat) (hsz : a.tmps.size = 209) (o6 : Sl a 6 (.int .i64 (k : Int)))
    (hend : ∀ (a' : Act), Same a a' [22, 23] → Sl a' 23 (.bool (decide ((k : Int) < 16))) → Q .normal a' (w)) : (Code.region 3 (opsOf 3 Tryd.f86).toArray false).wp Tryd.prog Q a w := by
  refine wp_region_lit (l := (opsOf 3 Tryd.f86)) ?_
  conv => arg 4; whnf
  unfold Sl at o6
  go_wp2_with fail
  try simp only [Act.put]
  exact hend _ (by repeat (first | (with_reducible refine same_set (by decide) ?_) | (with_reducible exact same_nil))) (by unfold Sl; first | (simp [hsz]; done) | (simp [hsz]; omega))
-- END rblk3
-- REG rblk5
set_option maxRecDepth 100000 in
set_option maxHeartbeats 2000000 in
theorem rblk_r5 {Q : Exit → Act → World → Prop} {a : Act} {w : World}  (hsz : a.tmps.size = 209) 
    (hend : ∀ (a' : Act), Same a a' [7] → Sl a' 7 (.int .i64 ((0 : Nat) : Int)) → Q .normal a' (w)) : (Code.region 5 (opsOf 5 Tryd.f86).toArray false).wp Tryd.prog Q a w := by
  refine wp_region_lit (l := (opsOf 5 Tryd.f86)) ?_
  conv => arg 4; whnf
  go_wp2_with fail
  try simp only [Act.put]
  exact hend _ (by repeat (first | (with_reducible refine same_set (by decide) ?_) | (with_reducible exact same_nil))) (by unfold Sl; first | (simp [hsz]; done) | (simp [hsz]; omega))
-- END rblk5
-- REG rblk6
set_option maxRecDepth 100000 in
set_option maxHeartbeats 2000000 in
theorem rblk_r6 {Q : Exit → Act → World → Prop} {a : Act} {w : World} (k : Nat) (hsz : a.tmps.size = 209) (o7 : Sl a 7 (.int .i64 (k : Int)))
    (hend : ∀ (a' : Act), Same a a' [26, 27] → Sl a' 27 (.bool (decide ((k : Int) < 4))) → Q .normal a' (w)) : (Code.region 6 (opsOf 6 Tryd.f86).toArray false).wp Tryd.prog Q a w := by
  refine wp_region_lit (l := (opsOf 6 Tryd.f86)) ?_
  conv => arg 4; whnf
  unfold Sl at o7
  go_wp2_with fail
  try simp only [Act.put]
  exact hend _ (by repeat (first | (with_reducible refine same_set (by decide) ?_) | (with_reducible exact same_nil))) (by unfold Sl; first | (simp [hsz]; done) | (simp [hsz]; omega))
-- END rblk6
-- REG rblk7
set_option maxRecDepth 100000 in
set_option maxHeartbeats 2000000 in
theorem rblk_r7 {Q : Exit → Act → World → Prop} {a : Act} {w : World} (k : Nat) (hk : k < 4) (hsz : a.tmps.size = 209) (o7 : Sl a 7 (.int .i64 (k : Int)))
    (hend : ∀ (a' : Act), Same a a' [28, 29, 7] → Sl a' 7 (.int .i64 ((k + 1 : Nat) : Int)) → Q .normal a' (w)) : (Code.region 7 (opsOf 7 Tryd.f86).toArray false).wp Tryd.prog Q a w := by
  refine wp_region_lit (l := (opsOf 7 Tryd.f86)) ?_
  conv => arg 4; whnf
  unfold Sl at o7
  go_wp2_with fail
  try simp only [Act.put]
  exact hend _ (by repeat (first | (with_reducible refine same_set (by decide) ?_) | (with_reducible exact same_nil))) (by unfold Sl; first | (simp [hsz]; done) | (simp [hsz]; omega))
-- END rblk7
-- REG rblk4
set_option maxRecDepth 100000 in
set_option maxHeartbeats 2000000 in
theorem rblk_r4 {Q : Exit → Act → World → Prop} {a : Act} {w : World} (k : Nat) (hk : k < 16) (hsz : a.tmps.size = 209) (o6 : Sl a 6 (.int .i64 (k : Int)))
    (hend : ∀ (a' : Act), Same a a' [24, 25, 6] → Sl a' 6 (.int .i64 ((k + 1 : Nat) : Int)) → Q .normal a' (w)) : (Code.region 4 (opsOf 4 Tryd.f86).toArray false).wp Tryd.prog Q a w := by
  refine wp_region_lit (l := (opsOf 4 Tryd.f86)) ?_
  conv => arg 4; whnf
  unfold Sl at o6
  go_wp2_with fail
  try simp only [Act.put]
  exact hend _ (by repeat (first | (with_reducible refine same_set (by decide) ?_) | (with_reducible exact same_nil))) (by unfold Sl; first | (simp [hsz]; done) | (simp [hsz]; omega))
-- END rblk4
-- REG rblk9
set_option maxRecDepth 100000 in
set_option maxHeartbeats 2000000 in
theorem rblk_r9 {Q : Exit → Act → World → Prop} {a : Act} {w : World}  (hsz : a.tmps.size = 209) 
    (hend : ∀ (a' : Act), Same a a' [8] → Sl a' 8 (.int .i64 ((16 : Nat) : Int)) → Q .normal a' (w)) : (Code.region 9 (opsOf 9 Tryd.f86).toArray false).wp Tryd.prog Q a w := by
  refine wp_region_lit (l := (opsOf 9 Tryd.f86)) ?_
  conv => arg 4; whnf
  go_wp2_with fail
  try simp only [Act.put]
  exact hend _ (by repeat (first | (with_reducible refine same_set (by decide) ?_) | (with_reducible exact same_nil))) (by unfold Sl; first | (simp [hsz]; done) | (simp [hsz]; omega))
-- END rblk9
-- REG rblk10
set_option maxRecDepth 100000 in
set_option maxHeartbeats 2000000 in
theorem rblk_r10 {Q : Exit → Act → World → Prop} {a : Act} {w : World} (k : Nat) (hsz : a.tmps.size = 209) (o8 : Sl a 8 (.int .i64 (k : Int)))
    (hend : ∀ (a' : Act), Same a a' [45, 46] → Sl a' 46 (.bool (decide ((k : Int) < 64))) → Q .normal a' (w)) : (Code.region 10 (opsOf 10 Tryd.f86).toArray false).wp Tryd.prog Q a w := by
  refine wp_region_lit (l := (opsOf 10 Tryd.f86)) ?_
  conv => arg 4; whnf
  unfold Sl at o8
  go_wp2_with fail
  try simp only [Act.put]
  exact hend _ (by repeat (first | (with_reducible refine same_set (by decide) ?_) | (with_reducible exact same_nil))) (by unfold Sl; first | (simp [hsz]; done) | (simp [hsz]; omega))
-- END rblk10
-- REG rblk11
set_option maxRecDepth 100000 in
set_option maxHeartbeats 2000000 in
theorem rblk_r11 {Q : Exit → Act → World → Prop} {a : Act} {w : World} (k : Nat) (hk : k < 64) (hsz : a.tmps.size = 209) (o8 : Sl a 8 (.int .i64 (k : Int)))
    (hend : ∀ (a' : Act), Same a a' [47, 48, 8] → Sl a' 8 (.int .i64 ((k + 1 : Nat) : Int)) → Q .normal a' (w)) : (Code.region 11 (opsOf 11 Tryd.f86).toArray false).wp Tryd.prog Q a w := by
  refine wp_region_lit (l := (opsOf 11 Tryd.f86)) ?_
  conv => arg 4; whnf
  unfold Sl at o8
  go_wp2_with fail
  try simp only [Act.put]
  exact hend _ (by repeat (first | (with_reducible refine same_set (by decide) ?_) | (with_reducible exact same_nil))) (by unfold Sl; first | (simp [hsz]; done) | (simp [hsz]; omega))
-- END rblk11
-- REG rblk16
set_option maxRecDepth 100000 in
set_option maxHeartbeats 2000000 in
theorem rblk_r16 {Q : Exit → Act → World → Prop} {a : Act} {w : World}  (hsz : a.tmps.size = 209) 
    (hend : ∀ (a' : Act), Same a a' [19] → Sl a' 19 (.int .i64 ((0 : Nat) : Int)) → Q .normal a' (w)) : (Code.region 16 (opsOf 16 Tryd.f86).toArray false).wp Tryd.prog Q a w := by
  refine wp_region_lit (l := (opsOf 16 Tryd.f86)) ?_
  conv => arg 4; whnf
  go_wp2_with fail
  try simp only [Act.put]
  exact hend _ (by repeat (first | (with_reducible refine same_set (by decide) ?_) | (with_reducible exact same_nil))) (by unfold Sl; first | (simp [hsz]; done) | (simp [hsz]; omega))
-- END rblk16
-- REG rblk17
set_option maxRecDepth 100000 in
set_option maxHeartbeats 2000000 in
theorem rblk_r17 {Q : Exit → Act → World → Prop} {a : Act} {w : World} (k : Nat) (hsz : a.tmps.size = 209) (o19 : Sl a 19 (.int .i64 (k : Int)))
    (hend : ∀ (a' : Act), Same a a' [114, 115] → Sl a' 115 (.bool (decide ((k : Int) < 64))) → Q .normal a' (w)) : (Code.region 17 (opsOf 17 Tryd.f86).toArray false).wp Tryd.prog Q a w := by
  refine wp_region_lit (l := (opsOf 17 Tryd.f86)) ?_
  conv => arg 4; whnf
  unfold Sl at o19
  go_wp2_with fail
  try simp only [Act.put]
  exact hend _ (by repeat (first | (with_reducible refine same_set (by decide) ?_) | (with_reducible exact same_nil))) (by unfold Sl; first | (simp [hsz]; done) | (simp [hsz]; omega))
-- END rblk17
-- REG rblk18
set_option maxRecDepth 100000 in
set_option maxHeartbeats 2000000 in
theorem rblk_r18 {Q : Exit → Act → World → Prop} {a : Act} {w : World} (k : Nat) (hk : k < 64) (hsz : a.tmps.size = 209) (o19 : Sl a 19 (.int .i64 (k : Int)))
    (hend : ∀ (a' : Act), Same a a' [116, 117, 19] → Sl a' 19 (.int .i64 ((k + 1 : Nat) : Int)) → Q .normal a' (w)) : (Code.region 18 (opsOf 18 Tryd.f86).toArray false).wp Tryd.prog Q a w := by
  refine wp_region_lit (l := (opsOf 18 Tryd.f86)) ?_
  conv => arg 4; whnf
  unfold Sl at o19
  go_wp2_with fail
  try simp only [Act.put]
  exact hend _ (by repeat (first | (with_reducible refine same_set (by decide) ?_) | (with_reducible exact same_nil))) (by unfold Sl; first | (simp [hsz]; done) | (simp [hsz]; omega))
-- END rblk18
-- REG rblk0
set_option maxRecDepth 100000 in
set_option maxHeartbeats 2000000 in
theorem rblk_r0 {Q : Exit → Act → World → Prop} {a : Act} {w : World} (w0 : World) (st : List Nat) (L : List Res) (S : Held w0 w L) (hsz : a.tmps.size = 209) (o0 : Sl a 0 (.agg (u32A st)))
    (hend : ∀ (a' : Act) (W : World), Same a a' [2, 4] → (∃ g2 g4, Sl a' 2 (.pointer (some ⟨g2, 0, none⟩)) ∧ Sl a' 4 (.pointer (some ⟨g4, 0, none⟩)) ∧ Held w0 W (blkR g4 111 (u32A (List.replicate 8 0)) :: blkR g2 111 (u32A st) :: L)) → Q .normal a' W) : (Code.region 0 (opsOf 0 Tryd.f86).toArray false).wp Tryd.prog Q a w := by
  refine wp_region_lit (l := (opsOf 0 Tryd.f86)) ?_
  conv => arg 4; whnf
  unfold Sl at o0
  have S0 := Lib.hid ((S.newBlk 111 (u32A st)).newBlk 111 (u32A (List.replicate 8 0)))
  simp only [World.size_alloc] at S0
  generalize hca : u32A st = ca at *
  go_wp2
  try simp only [Act.put]
  exact hend _ _ (by repeat (first | (with_reducible refine same_set (by decide) ?_) | (with_reducible exact same_nil))) (⟨w.heap.size, w.heap.size + 1, (by unfold Sl; simp [hsz]), (by unfold Sl; simp [hsz]), S0.out⟩)
-- END rblk0
-- REG rblk1
set_option maxRecDepth 100000 in
set_option maxHeartbeats 2000000 in
theorem rblk_r1 {Q : Exit → Act → World → Prop} {a : Act} {w : World} (w0 : World) (L : List Res) (S : Held w0 w L) (hsz : a.tmps.size = 209) 
    (hend : ∀ (a' : Act) (W : World), Same a a' [5] → (∃ g5, Sl a' 5 (.pointer (some ⟨g5, 0, none⟩)) ∧ Held w0 W (blkR g5 144 (u32A (List.replicate 64 0)) :: L)) → Q .normal a' W) : (Code.region 1 (opsOf 1 Tryd.f86).toArray false).wp Tryd.prog Q a w := by
  refine wp_region_lit (l := (opsOf 1 Tryd.f86)) ?_
  conv => arg 4; whnf
  have S0 := Lib.hid (S.newBlk 144 (u32A (List.replicate 64 0)))
  go_wp2
  try simp only [Act.put]
  exact hend _ _ (by repeat (first | (with_reducible refine same_set (by decide) ?_) | (with_reducible exact same_nil))) (⟨w.heap.size, (by unfold Sl; simp [hsz]), S0.out⟩)
-- END rblk1
-- REG rblk20
set_option maxRecDepth 100000 in
set_option maxHeartbeats 2000000 in
theorem rblk_r20 {Q : Exit → Act → World → Prop} {a : Act} {w : World} (v0 v1 v2 : Nat) (h0 : Hid (v0 < 4294967296)) (h1 : Hid (v1 < 4294967296)) (h2 : Hid (v2 < 4294967296)) (hsz : a.tmps.size = 209) (o11 : Sl a 11 (.int .u32 ((v0 : Nat) : Int))) (o12 : Sl a 12 (.int .u32 ((v1 : Nat) : Int))) (o13 : Sl a 13 (.int .u32 ((v2 : Nat) : Int)))
    (hend : ∀ (a' : Act) (W : World), Same a a' [144, 145, 146, 147, 148, 149, 150, 151, 152, 153, 154, 155, 156, 157, 158, 159, 160, 161, 162, 163, 21] → Sl a' 21 (.int .u32 ((rY v0 v1 v2 : Nat) : Int)) → (Kp [] w W) → Q .normal a' W) : (Code.region 20 (opsOf 20 Tryd.f86).toArray false).wp Tryd.prog Q a w := by
  refine wp_region_lit (l := (opsOf 20 Tryd.f86)) ?_
  conv => arg 4; whnf
  unfold Sl at o11 o12 o13
  have x1 := Lib.hid (u32_x (rotr v0 2) (rotr v0 13) (rotr_lt h0.out) (rotr_lt h0.out))
  have x2 := Lib.hid (u32_x (rotr v0 2 ^^^ rotr v0 13) (rotr v0 22) (xor_lt (rotr_lt h0.out) (rotr_lt h0.out)) (rotr_lt h0.out))
  have a1 := Lib.hid (u32_and_nat v0 v1 h0.out h1.out)
  have a2 := Lib.hid (u32_and_nat v0 v2 h0.out h2.out)
  have a3 := Lib.hid (u32_and_nat v1 v2 h1.out h2.out)
  have x3 := Lib.hid (u32_x (v0 &&& v1) (v0 &&& v2) (and_lt h0.out) (and_lt h0.out))
  have x4 := Lib.hid (u32_x ((v0 &&& v1) ^^^ (v0 &&& v2)) (v1 &&& v2) (xor_lt (and_lt h0.out) (and_lt h0.out)) (and_lt h1.out))
  have HR := Lib.hid (fun V n (hn : rotK n) => rrot_any v0 n n rfl h0.out hn V)
  have hy : Hid ((((bS0 v0 : Nat) : Int) + ((maj v0 v1 v2 : Nat) : Int)) % 4294967296 = ((rY v0 v1 v2 : Nat) : Int)) := Lib.hid (by unfold rY; omega)
  generalize hr2 : rotr v0 2 = r2 at *
  generalize hr13 : rotr v0 13 = r13 at *
  generalize hr22 : rotr v0 22 = r22 at *
  go_wp2_with fail
  refine (HR.out _ 2 (by unfold rotK; omega)).mono ?_
  rintro e w1 ⟨rfl, k1⟩
  rw [hr2]
  go_wp2_with fail
  refine (HR.out _ 13 (by unfold rotK; omega)).mono ?_
  rintro e w2 ⟨rfl, k2⟩
  rw [hr13]
  go_wp2_with fail
  refine (HR.out _ 22 (by unfold rotK; omega)).mono ?_
  rintro e w3 ⟨rfl, k3⟩
  rw [hr22]
  go_wp2
  have hb : bits .xor .u32 (bits .xor .u32 (r2 : Int) (r13 : Int)) (r22 : Int) = ((bS0 v0 : Nat) : Int) := by rw [x1.out, x2.out]; unfold bS0; rw [hr2, hr13, hr22]
  have hm : bits .xor .u32 (bits .xor .u32 (bits .and .u32 (v0 : Int) (v1 : Int)) (bits .and .u32 (v0 : Int) (v2 : Int))) (bits .and .u32 (v1 : Int) (v2 : Int)) = ((maj v0 v1 v2 : Nat) : Int) := by rw [a1.out, a2.out, a3.out, x3.out, x4.out]; rfl
  rw [hb, hm, hy.out]
  try simp only [Act.put]
  exact hend _ _ (by repeat (first | (with_reducible refine same_set (by decide) ?_) | (with_reducible exact same_nil))) (by unfold Sl; first | (simp [hsz]; done) | (simp [hsz]; omega)) (((k1.trans k2 (by simp)).trans k3 (by simp)))
-- END rblk20
-- REG rblk21
set_option maxRecDepth 100000 in
set_option maxHeartbeats 2000000 in
theorem rblk_r21 {Q : Exit → Act → World → Prop} {a : Act} {w : World} (v4 v5 v6 : Nat) (hsz : a.tmps.size = 209) (o15 : Sl a 15 (.int .u32 ((v4 : Nat) : Int))) (o16 : Sl a 16 (.int .u32 ((v5 : Nat) : Int))) (o17 : Sl a 17 (.int .u32 ((v6 : Nat) : Int)))
    (hend : ∀ (a' : Act), Same a a' [164, 165, 166, 18, 17, 16] → Sl a' 16 (.int .u32 ((v4 : Nat) : Int)) → Sl a' 17 (.int .u32 ((v5 : Nat) : Int)) → Sl a' 18 (.int .u32 ((v6 : Nat) : Int)) → Q .normal a' (w)) : (Code.region 21 (opsOf 21 Tryd.f86).toArray false).wp Tryd.prog Q a w := by
  refine wp_region_lit (l := (opsOf 21 Tryd.f86)) ?_
  conv => arg 4; whnf
  unfold Sl at o15 o16 o17
  go_wp2_with fail
  try simp only [Act.put]
  exact hend _ (by repeat (first | (with_reducible refine same_set (by decide) ?_) | (with_reducible exact same_nil))) (by unfold Sl; first | (simp [hsz]; done) | (simp [hsz]; omega)) (by unfold Sl; first | (simp [hsz]; done) | (simp [hsz]; omega)) (by unfold Sl; first | (simp [hsz]; done) | (simp [hsz]; omega))
-- END rblk21
-- REG rblk22
set_option maxRecDepth 100000 in
set_option maxHeartbeats 2000000 in
theorem rblk_r22 {Q : Exit → Act → World → Prop} {a : Act} {w : World} (v3 x : Nat) (hsz : a.tmps.size = 209) (o14 : Sl a 14 (.int .u32 ((v3 : Nat) : Int))) (o20 : Sl a 20 (.int .u32 ((x : Nat) : Int)))
    (hend : ∀ (a' : Act), Same a a' [167, 168, 169, 15] → Sl a' 15 (.int .u32 (((v3 + x) % 4294967296 : Nat) : Int)) → Q .normal a' (w)) : (Code.region 22 (opsOf 22 Tryd.f86).toArray false).wp Tryd.prog Q a w := by
  refine wp_region_lit (l := (opsOf 22 Tryd.f86)) ?_
  conv => arg 4; whnf
  unfold Sl at o14 o20
  go_wp2_with fail
  try simp only [Act.put]
  exact hend _ (by repeat (first | (with_reducible refine same_set (by decide) ?_) | (with_reducible exact same_nil))) (by unfold Sl; first | (simp [hsz]; done) | (simp [hsz]; omega))
-- END rblk22
-- REG rblk23
set_option maxRecDepth 100000 in
set_option maxHeartbeats 2000000 in
theorem rblk_r23 {Q : Exit → Act → World → Prop} {a : Act} {w : World} (v0 v1 v2 : Nat) (hsz : a.tmps.size = 209) (o11 : Sl a 11 (.int .u32 ((v0 : Nat) : Int))) (o12 : Sl a 12 (.int .u32 ((v1 : Nat) : Int))) (o13 : Sl a 13 (.int .u32 ((v2 : Nat) : Int)))
    (hend : ∀ (a' : Act), Same a a' [170, 171, 172, 14, 13, 12] → Sl a' 12 (.int .u32 ((v0 : Nat) : Int)) → Sl a' 13 (.int .u32 ((v1 : Nat) : Int)) → Sl a' 14 (.int .u32 ((v2 : Nat) : Int)) → Q .normal a' (w)) : (Code.region 23 (opsOf 23 Tryd.f86).toArray false).wp Tryd.prog Q a w := by
  refine wp_region_lit (l := (opsOf 23 Tryd.f86)) ?_
  conv => arg 4; whnf
  unfold Sl at o11 o12 o13
  go_wp2_with fail
  try simp only [Act.put]
  exact hend _ (by repeat (first | (with_reducible refine same_set (by decide) ?_) | (with_reducible exact same_nil))) (by unfold Sl; first | (simp [hsz]; done) | (simp [hsz]; omega)) (by unfold Sl; first | (simp [hsz]; done) | (simp [hsz]; omega)) (by unfold Sl; first | (simp [hsz]; done) | (simp [hsz]; omega))
-- END rblk23
-- REG rblk24
set_option maxRecDepth 100000 in
set_option maxHeartbeats 2000000 in
theorem rblk_r24 {Q : Exit → Act → World → Prop} {a : Act} {w : World} (x y : Nat) (hsz : a.tmps.size = 209) (o20 : Sl a 20 (.int .u32 ((x : Nat) : Int))) (o21 : Sl a 21 (.int .u32 ((y : Nat) : Int)))
    (hend : ∀ (a' : Act), Same a a' [173, 174, 175, 11] → Sl a' 11 (.int .u32 (((x + y) % 4294967296 : Nat) : Int)) → Q .normal a' (w)) : (Code.region 24 (opsOf 24 Tryd.f86).toArray false).wp Tryd.prog Q a w := by
  refine wp_region_lit (l := (opsOf 24 Tryd.f86)) ?_
  conv => arg 4; whnf
  unfold Sl at o20 o21
  go_wp2_with fail
  try simp only [Act.put]
  exact hend _ (by repeat (first | (with_reducible refine same_set (by decide) ?_) | (with_reducible exact same_nil))) (by unfold Sl; first | (simp [hsz]; done) | (simp [hsz]; omega))
-- END rblk24
-- REG rblk25
set_option maxRecDepth 100000 in
set_option maxHeartbeats 2000000 in
theorem rblk_r25 {Q : Exit → Act → World → Prop} {a : Act} {w : World} (w0 : World) (g2 g4 s0 s1 s2 s3 s4 s5 s6 s7 v0 v1 v2 v3 v4 v5 v6 v7 : Nat) (c4 : List Nat) (h4l : c4.length = 8) (L1 L2 : List Res) (S : Held w0 w (blkR g4 111 (u32A c4) :: (L1 ++ blkR g2 111 (u32A [s0, s1, s2, s3, s4, s5, s6, s7]) :: L2))) (hsz : a.tmps.size = 209) (o2 : Sl a 2 (.pointer (some ⟨g2, 0, none⟩))) (o4 : Sl a 4 (.pointer (some ⟨g4, 0, none⟩))) (o11 : Sl a 11 (.int .u32 ((v0 : Nat) : Int))) (o12 : Sl a 12 (.int .u32 ((v1 : Nat) : Int))) (o13 : Sl a 13 (.int .u32 ((v2 : Nat) : Int))) (o14 : Sl a 14 (.int .u32 ((v3 : Nat) : Int))) (o15 : Sl a 15 (.int .u32 ((v4 : Nat) : Int))) (o16 : Sl a 16 (.int .u32 ((v5 : Nat) : Int))) (o17 : Sl a 17 (.int .u32 ((v6 : Nat) : Int))) (o18 : Sl a 18 (.int .u32 ((v7 : Nat) : Int)))
    (hend : ∀ (a' : Act) (W : World), Same a a' [176, 177, 178, 179, 180, 181, 182, 183, 184, 185, 186, 187, 188, 189, 190, 191, 192, 193, 194, 195, 196, 197, 198, 199, 200, 201, 202, 203, 204, 205, 206, 207, 208] → (Held w0 W (blkR g4 111 (u32A [(s0 + v0) % 4294967296, (s1 + v1) % 4294967296, (s2 + v2) % 4294967296, (s3 + v3) % 4294967296, (s4 + v4) % 4294967296, (s5 + v5) % 4294967296, (s6 + v6) % 4294967296, (s7 + v7) % 4294967296]) :: (L1 ++ blkR g2 111 (u32A [s0, s1, s2, s3, s4, s5, s6, s7]) :: L2))) → Q .normal a' W) : (Code.region 25 (opsOf 25 Tryd.f86).toArray false).wp Tryd.prog Q a w := by
  refine wp_region_lit (l := (opsOf 25 Tryd.f86)) ?_
  conv => arg 4; whnf
  unfold Sl at o2 o4 o11 o12 o13 o14 o15 o16 o17 o18
  have H4 := Lib.hid h4l
  clear h4l
  have S := Lib.hid S
  have c0 := u32_cell (S.out.at_ (l1 := _ :: L1)) 0 s0 rfl
  have c1 := u32_cell (S.out.at_ (l1 := _ :: L1)) 1 s1 rfl
  have c2 := u32_cell (S.out.at_ (l1 := _ :: L1)) 2 s2 rfl
  have c3 := u32_cell (S.out.at_ (l1 := _ :: L1)) 3 s3 rfl
  have c4 := u32_cell (S.out.at_ (l1 := _ :: L1)) 4 s4 rfl
  have c5 := u32_cell (S.out.at_ (l1 := _ :: L1)) 5 s5 rfl
  have c6 := u32_cell (S.out.at_ (l1 := _ :: L1)) 6 s6 rfl
  have c7 := u32_cell (S.out.at_ (l1 := _ :: L1)) 7 s7 rfl
  go_wp2_with (first
    | (refine wpList_buildC rfl 111 _ rfl (at0N (u32L [(s0 + v0) % 4294967296, (s1 + v1) % 4294967296, (s2 + v2) % 4294967296, (s3 + v3) % 4294967296, (s4 + v4) % 4294967296, (s5 + v5) % 4294967296, (s6 + v6) % 4294967296, (s7 + v7) % 4294967296]) 0) ?_ _ (Tryd.built8 _ _ _ _ _ _ _ _) ?_; simp [Act.eval, Act.put, hsz, at0N, u32L])
    | (refine wpList_store_blk rfl 111 (.tmp 4) (.tmp 208) rfl g4 (by simp [Act.eval, Act.put, hsz, o4]) (u32A [(s0 + v0) % 4294967296, (s1 + v1) % 4294967296, (s2 + v2) % 4294967296, (s3 + v3) % 4294967296, (s4 + v4) % 4294967296, (s5 + v5) % 4294967296, (s6 + v6) % 4294967296, (s7 + v7) % 4294967296]) (by simp [Act.eval, Act.put, hsz]) 111 _ (S.out.at_ (l1 := [])) (by rw [u32A_size]; exact Tryd.info8w) (by rw [u32A_size, u32A_size, H4.out]; rfl) (u32A_one _) ?_; intro w2 b2 k2; have S2 := Lib.hid (Held.setBlk (l1 := []) S.out b2 k2); clear b2 k2))
  try simp only [Act.put]
  exact hend _ _ (by repeat (first | (with_reducible refine same_set (by decide) ?_) | (with_reducible exact same_nil))) (S2.out)
-- END rblk25
-- REG rblk12
set_option maxRecDepth 100000 in
set_option maxHeartbeats 2000000 in
theorem rblk_r12 {Q : Exit → Act → World → Prop} {a : Act} {w : World} (j g5 x : Nat) (L : List Nat) (hlt : j < 48) (HX : L[j + 1]? = some x) (HXl : x < 4294967296) (HW : Hid (∀ V, Kp [] w V → ∀ i x : Nat, L[i]? = some x → V.cell? ⟨g5, i, none⟩ = some (.int .u32 (x : Int)))) (hsz : a.tmps.size = 209) (o5 : Sl a 5 (.pointer (some ⟨g5, 0, none⟩))) (o8 : Sl a 8 (.int .i64 ((j + 16 : Nat) : Int)))
    (hend : ∀ (a' : Act) (W : World), Same a a' [49, 50, 51, 52, 53, 54, 55, 56, 57, 58, 59, 60, 61, 62, 63, 64, 65, 9] → Kp [] w.drew W → Sl a' 9 (.int .u32 ((sg0 x : Nat) : Int)) → Q .normal a' W) : (Code.region 12 (opsOf 12 Tryd.f86).toArray true).wp Tryd.prog Q a w := by
  have hap : apartB (opsOf 12 Tryd.f86) = true := by kernel_rfl
  refine wp_region_inv (l := (opsOf 12 Tryd.f86)) (fun i v W => match i with | 0 => v = .int .i64 ((j + 16 : Nat) : Int) | 1 => v = .int .i64 ((j + 1 : Nat) : Int) | 2 => v = .pointer (some ⟨g5, j + 1, none⟩) | 3 => v = .int .u32 ((x : Nat) : Int) | 4 => v = .int .u32 ((rotr x 7 : Nat) : Int) | 5 => v = .int .i64 ((j + 16 : Nat) : Int) | 6 => v = .int .i64 ((j + 1 : Nat) : Int) | 7 => v = .pointer (some ⟨g5, j + 1, none⟩) | 8 => v = .int .u32 ((x : Nat) : Int) | 9 => v = .int .u32 ((rotr x 18 : Nat) : Int) | 10 => v = .int .u32 (((rotr x 7) ^^^ (rotr x 18) : Nat) : Int) | 11 => v = .int .i64 ((j + 16 : Nat) : Int) | 12 => v = .int .i64 ((j + 1 : Nat) : Int) | 13 => v = .pointer (some ⟨g5, j + 1, none⟩) | 14 => v = .int .u32 ((x : Nat) : Int) | 15 => v = .int .u32 ((x / 8 : Nat) : Int) | 16 => v = .int .u32 ((sg0 x : Nat) : Int) | 17 => v = .int .u32 ((sg0 x : Nat) : Int) | _ => True) (by kernel_rfl) hap (by kernel_rfl) ?_ ?_ ?_
  · intro i v W W' h _
    iterate 18 (rcases i with _ | i; · exact h)
    exact h
  · refine ⟨?_, ?_, ?_, ?_, ?_, ?_, ?_, ?_, ?_, ?_, ?_, ?_, ?_, ?_, ?_, ?_, ?_, ?_, trivial⟩
    · intro vs A' W hA hW hd K hK
      have e8 : A'.tmps[8]?.getD undef = .int .i64 ((j + 16 : Nat) : Int) := slot_out hA hap (Nat.lt_of_lt_of_eq (Nat.le_of_ble_eq_true rfl : 8 < 209) hsz.symm) (by kernel_rfl) o8
      clear hA hd o5 o8
      go_step
      exact hK _ _ (Kp.refl _ _) rfl
    · intro vs A' W hA hW hd K hK
      have f0 : vs 0 = .int .i64 ((j + 16 : Nat) : Int) := hd 0 (by kernel_rfl)
      have e49 : A'.tmps[49]?.getD undef = vs 0 := slot_in hA hap (Nat.lt_of_lt_of_eq (Nat.le_of_ble_eq_true rfl : 49 < 209) hsz.symm) (by kernel_rfl)
      rw [f0] at e49
      clear hA hd o5 o8
      go_step
      exact hK _ _ (Kp.refl _ _) (congrArg (Value.int .i64) (by first | omega | (unfold wrap64; omega)))
    · intro vs A' W hA hW hd K hK
      have e5 : A'.tmps[5]?.getD undef = .pointer (some ⟨g5, 0, none⟩) := slot_out hA hap (Nat.lt_of_lt_of_eq (Nat.le_of_ble_eq_true rfl : 5 < 209) hsz.symm) (by kernel_rfl) o5
      have f1 : vs 1 = .int .i64 ((j + 1 : Nat) : Int) := hd 1 (by kernel_rfl)
      have e50 : A'.tmps[50]?.getD undef = vs 1 := slot_in hA hap (Nat.lt_of_lt_of_eq (Nat.le_of_ble_eq_true rfl : 50 < 209) hsz.symm) (by kernel_rfl)
      rw [f1] at e50
      clear hA hd o5 o8
      have h0 : 0 ≤ (j : Int) + 1 := by omega
      have h1 : (j : Int) + 1 < 64 := by omega
      go_step
      exact hK _ _ (Kp.refl _ _) rfl
    · intro vs A' W hA hW hd K hK
      have f2 : vs 2 = .pointer (some ⟨g5, j + 1, none⟩) := hd 2 (by kernel_rfl)
      have e51 : A'.tmps[51]?.getD undef = vs 2 := slot_in hA hap (Nat.lt_of_lt_of_eq (Nat.le_of_ble_eq_true rfl : 51 < 209) hsz.symm) (by kernel_rfl)
      rw [f2] at e51
      clear hA hd o5 o8
      have c0 := HW.out W ((Kp.refl [] _).drew.trans hW (by simp)) (j + 1) x HX
      go_step
      exact hK _ _ (Kp.refl _ _) rfl
    · intro vs A' W hA hW hd K hK
      have f3 : vs 3 = .int .u32 ((x : Nat) : Int) := hd 3 (by kernel_rfl)
      have e52 : A'.tmps[52]?.getD undef = vs 3 := slot_in hA hap (Nat.lt_of_lt_of_eq (Nat.le_of_ble_eq_true rfl : 52 < 209) hsz.symm) (by kernel_rfl)
      rw [f3] at e52
      clear hA hd o5 o8
      go_step
      refine (rrot_any x 7 7 rfl HXl (by unfold rotK; omega) W).mono ?_
      rintro e w' ⟨rfl, kq⟩
      exact hK _ _ kq rfl
    · intro vs A' W hA hW hd K hK
      have e8 : A'.tmps[8]?.getD undef = .int .i64 ((j + 16 : Nat) : Int) := slot_out hA hap (Nat.lt_of_lt_of_eq (Nat.le_of_ble_eq_true rfl : 8 < 209) hsz.symm) (by kernel_rfl) o8
      clear hA hd o5 o8
      go_step
      exact hK _ _ (Kp.refl _ _) rfl
    · intro vs A' W hA hW hd K hK
      have f5 : vs 5 = .int .i64 ((j + 16 : Nat) : Int) := hd 5 (by kernel_rfl)
      have e54 : A'.tmps[54]?.getD undef = vs 5 := slot_in hA hap (Nat.lt_of_lt_of_eq (Nat.le_of_ble_eq_true rfl : 54 < 209) hsz.symm) (by kernel_rfl)
      rw [f5] at e54
      clear hA hd o5 o8
      go_step
      exact hK _ _ (Kp.refl _ _) (congrArg (Value.int .i64) (by first | omega | (unfold wrap64; omega)))
    · intro vs A' W hA hW hd K hK
      have e5 : A'.tmps[5]?.getD undef = .pointer (some ⟨g5, 0, none⟩) := slot_out hA hap (Nat.lt_of_lt_of_eq (Nat.le_of_ble_eq_true rfl : 5 < 209) hsz.symm) (by kernel_rfl) o5
      have f6 : vs 6 = .int .i64 ((j + 1 : Nat) : Int) := hd 6 (by kernel_rfl)
      have e55 : A'.tmps[55]?.getD undef = vs 6 := slot_in hA hap (Nat.lt_of_lt_of_eq (Nat.le_of_ble_eq_true rfl : 55 < 209) hsz.symm) (by kernel_rfl)
      rw [f6] at e55
      clear hA hd o5 o8
      have h0 : 0 ≤ (j : Int) + 1 := by omega
      have h1 : (j : Int) + 1 < 64 := by omega
      go_step
      exact hK _ _ (Kp.refl _ _) rfl
    · intro vs A' W hA hW hd K hK
      have f7 : vs 7 = .pointer (some ⟨g5, j + 1, none⟩) := hd 7 (by kernel_rfl)
      have e56 : A'.tmps[56]?.getD undef = vs 7 := slot_in hA hap (Nat.lt_of_lt_of_eq (Nat.le_of_ble_eq_true rfl : 56 < 209) hsz.symm) (by kernel_rfl)
      rw [f7] at e56
      clear hA hd o5 o8
      have c0 := HW.out W ((Kp.refl [] _).drew.trans hW (by simp)) (j + 1) x HX
      go_step
      exact hK _ _ (Kp.refl _ _) rfl
    · intro vs A' W hA hW hd K hK
      have f8 : vs 8 = .int .u32 ((x : Nat) : Int) := hd 8 (by kernel_rfl)
      have e57 : A'.tmps[57]?.getD undef = vs 8 := slot_in hA hap (Nat.lt_of_lt_of_eq (Nat.le_of_ble_eq_true rfl : 57 < 209) hsz.symm) (by kernel_rfl)
      rw [f8] at e57
      clear hA hd o5 o8
      go_step
      refine (rrot_any x 18 18 rfl HXl (by unfold rotK; omega) W).mono ?_
      rintro e w' ⟨rfl, kq⟩
      exact hK _ _ kq rfl
    · intro vs A' W hA hW hd K hK
      have f4 : vs 4 = .int .u32 ((rotr x 7 : Nat) : Int) := hd 4 (by kernel_rfl)
      have e53 : A'.tmps[53]?.getD undef = vs 4 := slot_in hA hap (Nat.lt_of_lt_of_eq (Nat.le_of_ble_eq_true rfl : 53 < 209) hsz.symm) (by kernel_rfl)
      rw [f4] at e53
      have f9 : vs 9 = .int .u32 ((rotr x 18 : Nat) : Int) := hd 9 (by kernel_rfl)
      have e58 : A'.tmps[58]?.getD undef = vs 9 := slot_in hA hap (Nat.lt_of_lt_of_eq (Nat.le_of_ble_eq_true rfl : 58 < 209) hsz.symm) (by kernel_rfl)
      rw [f9] at e58
      clear hA hd o5 o8
      go_step
      exact hK _ _ (Kp.refl _ _) (congrArg (Value.int .u32) (u32_x _ _ (rotr_lt HXl) (rotr_lt HXl)))
    · intro vs A' W hA hW hd K hK
      have e8 : A'.tmps[8]?.getD undef = .int .i64 ((j + 16 : Nat) : Int) := slot_out hA hap (Nat.lt_of_lt_of_eq (Nat.le_of_ble_eq_true rfl : 8 < 209) hsz.symm) (by kernel_rfl) o8
      clear hA hd o5 o8
      go_step
      exact hK _ _ (Kp.refl _ _) rfl
    · intro vs A' W hA hW hd K hK
      have f11 : vs 11 = .int .i64 ((j + 16 : Nat) : Int) := hd 11 (by kernel_rfl)
      have e60 : A'.tmps[60]?.getD undef = vs 11 := slot_in hA hap (Nat.lt_of_lt_of_eq (Nat.le_of_ble_eq_true rfl : 60 < 209) hsz.symm) (by kernel_rfl)
      rw [f11] at e60
      clear hA hd o5 o8
      go_step
      exact hK _ _ (Kp.refl _ _) (congrArg (Value.int .i64) (by first | omega | (unfold wrap64; omega)))
    · intro vs A' W hA hW hd K hK
      have e5 : A'.tmps[5]?.getD undef = .pointer (some ⟨g5, 0, none⟩) := slot_out hA hap (Nat.lt_of_lt_of_eq (Nat.le_of_ble_eq_true rfl : 5 < 209) hsz.symm) (by kernel_rfl) o5
      have f12 : vs 12 = .int .i64 ((j + 1 : Nat) : Int) := hd 12 (by kernel_rfl)
      have e61 : A'.tmps[61]?.getD undef = vs 12 := slot_in hA hap (Nat.lt_of_lt_of_eq (Nat.le_of_ble_eq_true rfl : 61 < 209) hsz.symm) (by kernel_rfl)
      rw [f12] at e61
      clear hA hd o5 o8
      have h0 : 0 ≤ (j : Int) + 1 := by omega
      have h1 : (j : Int) + 1 < 64 := by omega
      go_step
      exact hK _ _ (Kp.refl _ _) rfl
    · intro vs A' W hA hW hd K hK
      have f13 : vs 13 = .pointer (some ⟨g5, j + 1, none⟩) := hd 13 (by kernel_rfl)
      have e62 : A'.tmps[62]?.getD undef = vs 13 := slot_in hA hap (Nat.lt_of_lt_of_eq (Nat.le_of_ble_eq_true rfl : 62 < 209) hsz.symm) (by kernel_rfl)
      rw [f13] at e62
      clear hA hd o5 o8
      have c0 := HW.out W ((Kp.refl [] _).drew.trans hW (by simp)) (j + 1) x HX
      go_step
      exact hK _ _ (Kp.refl _ _) rfl
    · intro vs A' W hA hW hd K hK
      have f14 : vs 14 = .int .u32 ((x : Nat) : Int) := hd 14 (by kernel_rfl)
      have e63 : A'.tmps[63]?.getD undef = vs 14 := slot_in hA hap (Nat.lt_of_lt_of_eq (Nat.le_of_ble_eq_true rfl : 63 < 209) hsz.symm) (by kernel_rfl)
      rw [f14] at e63
      clear hA hd o5 o8
      go_step
      exact hK _ _ (Kp.refl _ _) (congrArg (Value.int .u32) (by first | omega | rfl))
    · intro vs A' W hA hW hd K hK
      have f10 : vs 10 = .int .u32 (((rotr x 7) ^^^ (rotr x 18) : Nat) : Int) := hd 10 (by kernel_rfl)
      have e59 : A'.tmps[59]?.getD undef = vs 10 := slot_in hA hap (Nat.lt_of_lt_of_eq (Nat.le_of_ble_eq_true rfl : 59 < 209) hsz.symm) (by kernel_rfl)
      rw [f10] at e59
      have f15 : vs 15 = .int .u32 ((x / 8 : Nat) : Int) := hd 15 (by kernel_rfl)
      have e64 : A'.tmps[64]?.getD undef = vs 15 := slot_in hA hap (Nat.lt_of_lt_of_eq (Nat.le_of_ble_eq_true rfl : 64 < 209) hsz.symm) (by kernel_rfl)
      rw [f15] at e64
      clear hA hd o5 o8
      go_step
      exact hK _ _ (Kp.refl _ _) (congrArg (Value.int .u32) (u32_x _ _ (xor_lt (rotr_lt HXl) (rotr_lt HXl)) (div_lt HXl)))
    · intro vs A' W hA hW hd K hK
      have f16 : vs 16 = .int .u32 ((sg0 x : Nat) : Int) := hd 16 (by kernel_rfl)
      have e65 : A'.tmps[65]?.getD undef = vs 16 := slot_in hA hap (Nat.lt_of_lt_of_eq (Nat.le_of_ble_eq_true rfl : 65 < 209) hsz.symm) (by kernel_rfl)
      rw [f16] at e65
      clear hA hd o5 o8
      go_step
      exact hK _ _ (Kp.refl _ _) rfl
  · intro vs W hW hp
    rw [show putAll vs (opsOf 12 Tryd.f86) 0 a = putD [(49, vs 0), (50, vs 1), (51, vs 2), (52, vs 3), (53, vs 4), (54, vs 5), (55, vs 6), (56, vs 7), (57, vs 8), (58, vs 9), (59, vs 10), (60, vs 11), (61, vs 12), (62, vs 13), (63, vs 14), (64, vs 15), (65, vs 16), (9, vs 17)] a from by kernel_rfl]
    exact hend _ W (same_putD _ a) hW (sl_putD _ a 9 _ (by rw [show vs 17 = _ from hp 17 (Nat.le_of_ble_eq_true (by kernel_rfl))]; kernel_rfl))
-- END rblk12
-- REG rblk13
set_option maxRecDepth 100000 in
set_option maxHeartbeats 2000000 in
theorem rblk_r13 {Q : Exit → Act → World → Prop} {a : Act} {w : World} (j g5 x : Nat) (L : List Nat) (hlt : j < 48) (HX : L[j + 14]? = some x) (HXl : x < 4294967296) (HW : Hid (∀ V, Kp [] w V → ∀ i x : Nat, L[i]? = some x → V.cell? ⟨g5, i, none⟩ = some (.int .u32 (x : Int)))) (hsz : a.tmps.size = 209) (o5 : Sl a 5 (.pointer (some ⟨g5, 0, none⟩))) (o8 : Sl a 8 (.int .i64 ((j + 16 : Nat) : Int)))
    (hend : ∀ (a' : Act) (W : World), Same a a' [66, 67, 68, 69, 70, 71, 72, 73, 74, 75, 76, 77, 78, 79, 80, 81, 82, 10] → Kp [] w.drew W → Sl a' 10 (.int .u32 ((sg1 x : Nat) : Int)) → Q .normal a' W) : (Code.region 13 (opsOf 13 Tryd.f86).toArray true).wp Tryd.prog Q a w := by
  have hap : apartB (opsOf 13 Tryd.f86) = true := by kernel_rfl
  refine wp_region_inv (l := (opsOf 13 Tryd.f86)) (fun i v W => match i with | 0 => v = .int .i64 ((j + 16 : Nat) : Int) | 1 => v = .int .i64 ((j + 14 : Nat) : Int) | 2 => v = .pointer (some ⟨g5, j + 14, none⟩) | 3 => v = .int .u32 ((x : Nat) : Int) | 4 => v = .int .u32 ((rotr x 17 : Nat) : Int) | 5 => v = .int .i64 ((j + 16 : Nat) : Int) | 6 => v = .int .i64 ((j + 14 : Nat) : Int) | 7 => v = .pointer (some ⟨g5, j + 14, none⟩) | 8 => v = .int .u32 ((x : Nat) : Int) | 9 => v = .int .u32 ((rotr x 19 : Nat) : Int) | 10 => v = .int .u32 (((rotr x 17) ^^^ (rotr x 19) : Nat) : Int) | 11 => v = .int .i64 ((j + 16 : Nat) : Int) | 12 => v = .int .i64 ((j + 14 : Nat) : Int) | 13 => v = .pointer (some ⟨g5, j + 14, none⟩) | 14 => v = .int .u32 ((x : Nat) : Int) | 15 => v = .int .u32 ((x / 1024 : Nat) : Int) | 16 => v = .int .u32 ((sg1 x : Nat) : Int) | 17 => v = .int .u32 ((sg1 x : Nat) : Int) | _ => True) (by kernel_rfl) hap (by kernel_rfl) ?_ ?_ ?_
  · intro i v W W' h _
    iterate 18 (rcases i with _ | i; · exact h)
    exact h
  · refine ⟨?_, ?_, ?_, ?_, ?_, ?_, ?_, ?_, ?_, ?_, ?_, ?_, ?_, ?_, ?_, ?_, ?_, ?_, trivial⟩
    · intro vs A' W hA hW hd K hK
      have e8 : A'.tmps[8]?.getD undef = .int .i64 ((j + 16 : Nat) : Int) := slot_out hA hap (Nat.lt_of_lt_of_eq (Nat.le_of_ble_eq_true rfl : 8 < 209) hsz.symm) (by kernel_rfl) o8
      clear hA hd o5 o8
      go_step
      exact hK _ _ (Kp.refl _ _) rfl
    · intro vs A' W hA hW hd K hK
      have f0 : vs 0 = .int .i64 ((j + 16 : Nat) : Int) := hd 0 (by kernel_rfl)
      have e66 : A'.tmps[66]?.getD undef = vs 0 := slot_in hA hap (Nat.lt_of_lt_of_eq (Nat.le_of_ble_eq_true rfl : 66 < 209) hsz.symm) (by kernel_rfl)
      rw [f0] at e66
      clear hA hd o5 o8
      go_step
      exact hK _ _ (Kp.refl _ _) (congrArg (Value.int .i64) (by first | omega | (unfold wrap64; omega)))
    · intro vs A' W hA hW hd K hK
      have e5 : A'.tmps[5]?.getD undef = .pointer (some ⟨g5, 0, none⟩) := slot_out hA hap (Nat.lt_of_lt_of_eq (Nat.le_of_ble_eq_true rfl : 5 < 209) hsz.symm) (by kernel_rfl) o5
      have f1 : vs 1 = .int .i64 ((j + 14 : Nat) : Int) := hd 1 (by kernel_rfl)
      have e67 : A'.tmps[67]?.getD undef = vs 1 := slot_in hA hap (Nat.lt_of_lt_of_eq (Nat.le_of_ble_eq_true rfl : 67 < 209) hsz.symm) (by kernel_rfl)
      rw [f1] at e67
      clear hA hd o5 o8
      have h0 : 0 ≤ (j : Int) + 14 := by omega
      have h1 : (j : Int) + 14 < 64 := by omega
      go_step
      exact hK _ _ (Kp.refl _ _) rfl
    · intro vs A' W hA hW hd K hK
      have f2 : vs 2 = .pointer (some ⟨g5, j + 14, none⟩) := hd 2 (by kernel_rfl)
      have e68 : A'.tmps[68]?.getD undef = vs 2 := slot_in hA hap (Nat.lt_of_lt_of_eq (Nat.le_of_ble_eq_true rfl : 68 < 209) hsz.symm) (by kernel_rfl)
      rw [f2] at e68
      clear hA hd o5 o8
      have c0 := HW.out W ((Kp.refl [] _).drew.trans hW (by simp)) (j + 14) x HX
      go_step
      exact hK _ _ (Kp.refl _ _) rfl
    · intro vs A' W hA hW hd K hK
      have f3 : vs 3 = .int .u32 ((x : Nat) : Int) := hd 3 (by kernel_rfl)
      have e69 : A'.tmps[69]?.getD undef = vs 3 := slot_in hA hap (Nat.lt_of_lt_of_eq (Nat.le_of_ble_eq_true rfl : 69 < 209) hsz.symm) (by kernel_rfl)
      rw [f3] at e69
      clear hA hd o5 o8
      go_step
      refine (rrot_any x 17 17 rfl HXl (by unfold rotK; omega) W).mono ?_
      rintro e w' ⟨rfl, kq⟩
      exact hK _ _ kq rfl
    · intro vs A' W hA hW hd K hK
      have e8 : A'.tmps[8]?.getD undef = .int .i64 ((j + 16 : Nat) : Int) := slot_out hA hap (Nat.lt_of_lt_of_eq (Nat.le_of_ble_eq_true rfl : 8 < 209) hsz.symm) (by kernel_rfl) o8
      clear hA hd o5 o8
      go_step
      exact hK _ _ (Kp.refl _ _) rfl
    · intro vs A' W hA hW hd K hK
      have f5 : vs 5 = .int .i64 ((j + 16 : Nat) : Int) := hd 5 (by kernel_rfl)
      have e71 : A'.tmps[71]?.getD undef = vs 5 := slot_in hA hap (Nat.lt_of_lt_of_eq (Nat.le_of_ble_eq_true rfl : 71 < 209) hsz.symm) (by kernel_rfl)
      rw [f5] at e71
      clear hA hd o5 o8
      go_step
      exact hK _ _ (Kp.refl _ _) (congrArg (Value.int .i64) (by first | omega | (unfold wrap64; omega)))
    · intro vs A' W hA hW hd K hK
      have e5 : A'.tmps[5]?.getD undef = .pointer (some ⟨g5, 0, none⟩) := slot_out hA hap (Nat.lt_of_lt_of_eq (Nat.le_of_ble_eq_true rfl : 5 < 209) hsz.symm) (by kernel_rfl) o5
      have f6 : vs 6 = .int .i64 ((j + 14 : Nat) : Int) := hd 6 (by kernel_rfl)
      have e72 : A'.tmps[72]?.getD undef = vs 6 := slot_in hA hap (Nat.lt_of_lt_of_eq (Nat.le_of_ble_eq_true rfl : 72 < 209) hsz.symm) (by kernel_rfl)
      rw [f6] at e72
      clear hA hd o5 o8
      have h0 : 0 ≤ (j : Int) + 14 := by omega
      have h1 : (j : Int) + 14 < 64 := by omega
      go_step
      exact hK _ _ (Kp.refl _ _) rfl
    · intro vs A' W hA hW hd K hK
      have f7 : vs 7 = .pointer (some ⟨g5, j + 14, none⟩) := hd 7 (by kernel_rfl)
      have e73 : A'.tmps[73]?.getD undef = vs 7 := slot_in hA hap (Nat.lt_of_lt_of_eq (Nat.le_of_ble_eq_true rfl : 73 < 209) hsz.symm) (by kernel_rfl)
      rw [f7] at e73
      clear hA hd o5 o8
      have c0 := HW.out W ((Kp.refl [] _).drew.trans hW (by simp)) (j + 14) x HX
      go_step
      exact hK _ _ (Kp.refl _ _) rfl
    · intro vs A' W hA hW hd K hK
      have f8 : vs 8 = .int .u32 ((x : Nat) : Int) := hd 8 (by kernel_rfl)
      have e74 : A'.tmps[74]?.getD undef = vs 8 := slot_in hA hap (Nat.lt_of_lt_of_eq (Nat.le_of_ble_eq_true rfl : 74 < 209) hsz.symm) (by kernel_rfl)
      rw [f8] at e74
      clear hA hd o5 o8
      go_step
      refine (rrot_any x 19 19 rfl HXl (by unfold rotK; omega) W).mono ?_
      rintro e w' ⟨rfl, kq⟩
      exact hK _ _ kq rfl
    · intro vs A' W hA hW hd K hK
      have f4 : vs 4 = .int .u32 ((rotr x 17 : Nat) : Int) := hd 4 (by kernel_rfl)
      have e70 : A'.tmps[70]?.getD undef = vs 4 := slot_in hA hap (Nat.lt_of_lt_of_eq (Nat.le_of_ble_eq_true rfl : 70 < 209) hsz.symm) (by kernel_rfl)
      rw [f4] at e70
      have f9 : vs 9 = .int .u32 ((rotr x 19 : Nat) : Int) := hd 9 (by kernel_rfl)
      have e75 : A'.tmps[75]?.getD undef = vs 9 := slot_in hA hap (Nat.lt_of_lt_of_eq (Nat.le_of_ble_eq_true rfl : 75 < 209) hsz.symm) (by kernel_rfl)
      rw [f9] at e75
      clear hA hd o5 o8
      go_step
      exact hK _ _ (Kp.refl _ _) (congrArg (Value.int .u32) (u32_x _ _ (rotr_lt HXl) (rotr_lt HXl)))
    · intro vs A' W hA hW hd K hK
      have e8 : A'.tmps[8]?.getD undef = .int .i64 ((j + 16 : Nat) : Int) := slot_out hA hap (Nat.lt_of_lt_of_eq (Nat.le_of_ble_eq_true rfl : 8 < 209) hsz.symm) (by kernel_rfl) o8
      clear hA hd o5 o8
      go_step
      exact hK _ _ (Kp.refl _ _) rfl
    · intro vs A' W hA hW hd K hK
      have f11 : vs 11 = .int .i64 ((j + 16 : Nat) : Int) := hd 11 (by kernel_rfl)
      have e77 : A'.tmps[77]?.getD undef = vs 11 := slot_in hA hap (Nat.lt_of_lt_of_eq (Nat.le_of_ble_eq_true rfl : 77 < 209) hsz.symm) (by kernel_rfl)
      rw [f11] at e77
      clear hA hd o5 o8
      go_step
      exact hK _ _ (Kp.refl _ _) (congrArg (Value.int .i64) (by first | omega | (unfold wrap64; omega)))
    · intro vs A' W hA hW hd K hK
      have e5 : A'.tmps[5]?.getD undef = .pointer (some ⟨g5, 0, none⟩) := slot_out hA hap (Nat.lt_of_lt_of_eq (Nat.le_of_ble_eq_true rfl : 5 < 209) hsz.symm) (by kernel_rfl) o5
      have f12 : vs 12 = .int .i64 ((j + 14 : Nat) : Int) := hd 12 (by kernel_rfl)
      have e78 : A'.tmps[78]?.getD undef = vs 12 := slot_in hA hap (Nat.lt_of_lt_of_eq (Nat.le_of_ble_eq_true rfl : 78 < 209) hsz.symm) (by kernel_rfl)
      rw [f12] at e78
      clear hA hd o5 o8
      have h0 : 0 ≤ (j : Int) + 14 := by omega
      have h1 : (j : Int) + 14 < 64 := by omega
      go_step
      exact hK _ _ (Kp.refl _ _) rfl
    · intro vs A' W hA hW hd K hK
      have f13 : vs 13 = .pointer (some ⟨g5, j + 14, none⟩) := hd 13 (by kernel_rfl)
      have e79 : A'.tmps[79]?.getD undef = vs 13 := slot_in hA hap (Nat.lt_of_lt_of_eq (Nat.le_of_ble_eq_true rfl : 79 < 209) hsz.symm) (by kernel_rfl)
      rw [f13] at e79
      clear hA hd o5 o8
      have c0 := HW.out W ((Kp.refl [] _).drew.trans hW (by simp)) (j + 14) x HX
      go_step
      exact hK _ _ (Kp.refl _ _) rfl
    · intro vs A' W hA hW hd K hK
      have f14 : vs 14 = .int .u32 ((x : Nat) : Int) := hd 14 (by kernel_rfl)
      have e80 : A'.tmps[80]?.getD undef = vs 14 := slot_in hA hap (Nat.lt_of_lt_of_eq (Nat.le_of_ble_eq_true rfl : 80 < 209) hsz.symm) (by kernel_rfl)
      rw [f14] at e80
      clear hA hd o5 o8
      go_step
      exact hK _ _ (Kp.refl _ _) (congrArg (Value.int .u32) (by first | omega | rfl))
    · intro vs A' W hA hW hd K hK
      have f10 : vs 10 = .int .u32 (((rotr x 17) ^^^ (rotr x 19) : Nat) : Int) := hd 10 (by kernel_rfl)
      have e76 : A'.tmps[76]?.getD undef = vs 10 := slot_in hA hap (Nat.lt_of_lt_of_eq (Nat.le_of_ble_eq_true rfl : 76 < 209) hsz.symm) (by kernel_rfl)
      rw [f10] at e76
      have f15 : vs 15 = .int .u32 ((x / 1024 : Nat) : Int) := hd 15 (by kernel_rfl)
      have e81 : A'.tmps[81]?.getD undef = vs 15 := slot_in hA hap (Nat.lt_of_lt_of_eq (Nat.le_of_ble_eq_true rfl : 81 < 209) hsz.symm) (by kernel_rfl)
      rw [f15] at e81
      clear hA hd o5 o8
      go_step
      exact hK _ _ (Kp.refl _ _) (congrArg (Value.int .u32) (u32_x _ _ (xor_lt (rotr_lt HXl) (rotr_lt HXl)) (div_lt HXl)))
    · intro vs A' W hA hW hd K hK
      have f16 : vs 16 = .int .u32 ((sg1 x : Nat) : Int) := hd 16 (by kernel_rfl)
      have e82 : A'.tmps[82]?.getD undef = vs 16 := slot_in hA hap (Nat.lt_of_lt_of_eq (Nat.le_of_ble_eq_true rfl : 82 < 209) hsz.symm) (by kernel_rfl)
      rw [f16] at e82
      clear hA hd o5 o8
      go_step
      exact hK _ _ (Kp.refl _ _) rfl
  · intro vs W hW hp
    rw [show putAll vs (opsOf 13 Tryd.f86) 0 a = putD [(66, vs 0), (67, vs 1), (68, vs 2), (69, vs 3), (70, vs 4), (71, vs 5), (72, vs 6), (73, vs 7), (74, vs 8), (75, vs 9), (76, vs 10), (77, vs 11), (78, vs 12), (79, vs 13), (80, vs 14), (81, vs 15), (82, vs 16), (10, vs 17)] a from by kernel_rfl]
    exact hend _ W (same_putD _ a) hW (sl_putD _ a 10 _ (by rw [show vs 17 = _ from hp 17 (Nat.le_of_ble_eq_true (by kernel_rfl))]; kernel_rfl))
-- END rblk13
-- REG rblk14
set_option maxRecDepth 100000 in
set_option maxHeartbeats 2000000 in
theorem rblk_r14 {Q : Exit → Act → World → Prop} {a : Act} {w : World} (w0 : World) (j g5 x y m c m0 : Nat) (L : List Nat) (R : List Res) (hlt : j < 48) (HA : L[j]? = some m) (HC : L[j + 9]? = some c) (HM : L[j + 16]? = some m0) (hsz : a.tmps.size = 209) (o5 : Sl a 5 (.pointer (some ⟨g5, 0, none⟩))) (o8 : Sl a 8 (.int .i64 ((j + 16 : Nat) : Int))) (o9 : Sl a 9 (.int .u32 ((x : Nat) : Int))) (o10 : Sl a 10 (.int .u32 ((y : Nat) : Int)))
    (S0 : Held w0 w (blkR g5 144 (u32A L) :: R))
    (hend : ∀ (a' : Act) (W : World), Same a a' [83, 84, 85, 86, 87, 88, 89, 90, 91, 92, 93, 94, 95, 96, 97] → Held w0 W (blkR g5 144 (u32A (L.set (j + 16) ((m + x + c + y) % 4294967296))) :: R) → Q .normal a' W) : (Code.region 14 (opsOf 14 Tryd.f86).toArray true).wp Tryd.prog Q a w := by
  have hap : apartB (opsOf 14 Tryd.f86) = true := by kernel_rfl
  refine wp_region_sep (Γ := Unit) (l := (opsOf 14 Tryd.f86)) 2 [0, 1, 2, 3, 4, 5, 6, 7, 8, 9, 10, 11, 12, 13, 14, 15, 17]
    (fun i vs gs => match i with | 0 => vs 0 = .int .i64 ((j + 16 : Nat) : Int) | 1 => vs 1 = .int .i64 ((j + 16 : Nat) : Int) | 2 => vs 2 = .int .i64 ((j : Nat) : Int) | 3 => vs 3 = .pointer (some ⟨g5, j, none⟩) | 4 => vs 4 = .int .u32 ((m : Nat) : Int) | 5 => vs 5 = .int .u32 ((x : Nat) : Int) | 6 => vs 6 = .int .u32 (((m + x) % 4294967296 : Nat) : Int) | 7 => vs 7 = .int .i64 ((j + 16 : Nat) : Int) | 8 => vs 8 = .int .i64 ((j + 9 : Nat) : Int) | 9 => vs 9 = .pointer (some ⟨g5, j + 9, none⟩) | 10 => vs 10 = .int .u32 ((c : Nat) : Int) | 11 => vs 11 = .int .u32 (((m + x + c) % 4294967296 : Nat) : Int) | 12 => vs 12 = .int .u32 ((y : Nat) : Int) | 13 => vs 13 = .int .u32 (((m + x + c + y) % 4294967296 : Nat) : Int) | 14 => vs 14 = .pointer (some ⟨g5, j + 16, none⟩) | _ => True)
    (fun i vs gs => match i with | 15 => [blkR g5 144 (u32A (L.set (j + 16) ((m + x + c + y) % 4294967296)))] | 16 => [blkR g5 144 (u32A L)] | 17 => R | _ => [])
    (fun i => match i with | 15 => [16] | _ => []) (fun i => match i with | 4 => [16] | 10 => [16] | _ => []) S0 (by kernel_rfl) hap (by kernel_rfl) (by kernel_rfl) (fun i => match i with | 0 => [0] | 1 => [1] | 2 => [2] | 3 => [3] | 4 => [4] | 5 => [5] | 6 => [6] | 7 => [7] | 8 => [8] | 9 => [9] | 10 => [10] | 11 => [11] | 12 => [12] | 13 => [13] | 14 => [14] | _ => []) (by kernel_rfl) ?_ (by kernel_rfl) ?_ ?_ ?_
  · intro s vs vs' gs gs' h
    iterate 18 (rcases s with _ | s; · (first | exact ⟨rfl, id⟩ | (simp only [List.mem_cons, List.not_mem_nil, or_false, forall_eq] at h; simp [h])))
    exact ⟨rfl, id⟩
  · simp only [List.range, List.range.loop, List.flatMap_cons, List.flatMap_nil, List.append_nil]
    exact List.Perm.refl _
  · clear S0 hend
    refine ⟨?_, ?_, ?_, ?_, ?_, ?_, ?_, ?_, ?_, ?_, ?_, ?_, ?_, ?_, ?_, ?_, trivial⟩
    · intro vs gs A' W LF hA S hR hd hu K hK
      replace hK := hK default
      have e8 : A'.tmps[8]?.getD undef = .int .i64 ((j + 16 : Nat) : Int) := slot_out hA hap (Nat.lt_of_lt_of_eq (Nat.le_of_ble_eq_true rfl : 8 < 209) hsz.symm) (by kernel_rfl) o8
      clear hA o5 o8 o9 o10
      go_step
      exact hK _ _ S rfl
    · intro vs gs A' W LF hA S hR hd hu K hK
      replace hK := hK default
      have e8 : A'.tmps[8]?.getD undef = .int .i64 ((j + 16 : Nat) : Int) := slot_out hA hap (Nat.lt_of_lt_of_eq (Nat.le_of_ble_eq_true rfl : 8 < 209) hsz.symm) (by kernel_rfl) o8
      clear hA o5 o8 o9 o10
      go_step
      exact hK _ _ S rfl
    · intro vs gs A' W LF hA S hR hd hu K hK
      replace hK := hK default
      have f1 : vs 1 = .int .i64 ((j + 16 : Nat) : Int) := hd 1 (by kernel_rfl)
      have e84 : A'.tmps[84]?.getD undef = vs 1 := slot_in hA hap (Nat.lt_of_lt_of_eq (Nat.le_of_ble_eq_true rfl : 84 < 209) hsz.symm) (by kernel_rfl)
      rw [f1] at e84
      clear hA o5 o8 o9 o10
      go_step
      exact hK _ _ S (congrArg (Value.int .i64) (by first | omega | (unfold wrap64; omega)))
    · intro vs gs A' W LF hA S hR hd hu K hK
      replace hK := hK default
      have e5 : A'.tmps[5]?.getD undef = .pointer (some ⟨g5, 0, none⟩) := slot_out hA hap (Nat.lt_of_lt_of_eq (Nat.le_of_ble_eq_true rfl : 5 < 209) hsz.symm) (by kernel_rfl) o5
      have f2 : vs 2 = .int .i64 ((j : Nat) : Int) := hd 2 (by kernel_rfl)
      have e85 : A'.tmps[85]?.getD undef = vs 2 := slot_in hA hap (Nat.lt_of_lt_of_eq (Nat.le_of_ble_eq_true rfl : 85 < 209) hsz.symm) (by kernel_rfl)
      rw [f2] at e85
      clear hA o5 o8 o9 o10
      have h0 : 0 ≤ (j : Int) := by omega
      have h1 : (j : Int) < 64 := by omega
      go_step
      exact hK _ _ S rfl
    · intro vs gs A' W LF hA S hR hd hu K hK
      replace hK := hK default
      have f3 : vs 3 = .pointer (some ⟨g5, j, none⟩) := hd 3 (by kernel_rfl)
      have e86 : A'.tmps[86]?.getD undef = vs 3 := slot_in hA hap (Nat.lt_of_lt_of_eq (Nat.le_of_ble_eq_true rfl : 86 < 209) hsz.symm) (by kernel_rfl)
      rw [f3] at e86
      clear hA o5 o8 o9 o10
      have c0 := u32_cell (S.ok (blkR g5 144 (u32A L)) (hR 16 (List.mem_singleton.2 rfl) _ (List.mem_singleton.2 rfl))) (j) (m) HA
      go_step
      exact hK _ _ S rfl
    · intro vs gs A' W LF hA S hR hd hu K hK
      replace hK := hK default
      have e9 : A'.tmps[9]?.getD undef = .int .u32 ((x : Nat) : Int) := slot_out hA hap (Nat.lt_of_lt_of_eq (Nat.le_of_ble_eq_true rfl : 9 < 209) hsz.symm) (by kernel_rfl) o9
      clear hA o5 o8 o9 o10
      go_step
      exact hK _ _ S rfl
    · intro vs gs A' W LF hA S hR hd hu K hK
      replace hK := hK default
      have f4 : vs 4 = .int .u32 ((m : Nat) : Int) := hd 4 (by kernel_rfl)
      have e87 : A'.tmps[87]?.getD undef = vs 4 := slot_in hA hap (Nat.lt_of_lt_of_eq (Nat.le_of_ble_eq_true rfl : 87 < 209) hsz.symm) (by kernel_rfl)
      rw [f4] at e87
      have f5 : vs 5 = .int .u32 ((x : Nat) : Int) := hd 5 (by kernel_rfl)
      have e88 : A'.tmps[88]?.getD undef = vs 5 := slot_in hA hap (Nat.lt_of_lt_of_eq (Nat.le_of_ble_eq_true rfl : 88 < 209) hsz.symm) (by kernel_rfl)
      rw [f5] at e88
      clear hA o5 o8 o9 o10
      go_step
      exact hK _ _ S (congrArg (Value.int .u32) (by first | omega | rfl))
    · intro vs gs A' W LF hA S hR hd hu K hK
      replace hK := hK default
      have e8 : A'.tmps[8]?.getD undef = .int .i64 ((j + 16 : Nat) : Int) := slot_out hA hap (Nat.lt_of_lt_of_eq (Nat.le_of_ble_eq_true rfl : 8 < 209) hsz.symm) (by kernel_rfl) o8
      clear hA o5 o8 o9 o10
      go_step
      exact hK _ _ S rfl
    · intro vs gs A' W LF hA S hR hd hu K hK
      replace hK := hK default
      have f7 : vs 7 = .int .i64 ((j + 16 : Nat) : Int) := hd 7 (by kernel_rfl)
      have e90 : A'.tmps[90]?.getD undef = vs 7 := slot_in hA hap (Nat.lt_of_lt_of_eq (Nat.le_of_ble_eq_true rfl : 90 < 209) hsz.symm) (by kernel_rfl)
      rw [f7] at e90
      clear hA o5 o8 o9 o10
      go_step
      exact hK _ _ S (congrArg (Value.int .i64) (by first | omega | (unfold wrap64; omega)))
    · intro vs gs A' W LF hA S hR hd hu K hK
      replace hK := hK default
      have e5 : A'.tmps[5]?.getD undef = .pointer (some ⟨g5, 0, none⟩) := slot_out hA hap (Nat.lt_of_lt_of_eq (Nat.le_of_ble_eq_true rfl : 5 < 209) hsz.symm) (by kernel_rfl) o5
      have f8 : vs 8 = .int .i64 ((j + 9 : Nat) : Int) := hd 8 (by kernel_rfl)
      have e91 : A'.tmps[91]?.getD undef = vs 8 := slot_in hA hap (Nat.lt_of_lt_of_eq (Nat.le_of_ble_eq_true rfl : 91 < 209) hsz.symm) (by kernel_rfl)
      rw [f8] at e91
      clear hA o5 o8 o9 o10
      have h0 : 0 ≤ (j : Int) + 9 := by omega
      have h1 : (j : Int) + 9 < 64 := by omega
      go_step
      exact hK _ _ S rfl
    · intro vs gs A' W LF hA S hR hd hu K hK
      replace hK := hK default
      have f9 : vs 9 = .pointer (some ⟨g5, j + 9, none⟩) := hd 9 (by kernel_rfl)
      have e92 : A'.tmps[92]?.getD undef = vs 9 := slot_in hA hap (Nat.lt_of_lt_of_eq (Nat.le_of_ble_eq_true rfl : 92 < 209) hsz.symm) (by kernel_rfl)
      rw [f9] at e92
      clear hA o5 o8 o9 o10
      have c0 := u32_cell (S.ok (blkR g5 144 (u32A L)) (hR 16 (List.mem_singleton.2 rfl) _ (List.mem_singleton.2 rfl))) (j + 9) (c) HC
      go_step
      exact hK _ _ S rfl
    · intro vs gs A' W LF hA S hR hd hu K hK
      replace hK := hK default
      have f6 : vs 6 = .int .u32 (((m + x) % 4294967296 : Nat) : Int) := hd 6 (by kernel_rfl)
      have e89 : A'.tmps[89]?.getD undef = vs 6 := slot_in hA hap (Nat.lt_of_lt_of_eq (Nat.le_of_ble_eq_true rfl : 89 < 209) hsz.symm) (by kernel_rfl)
      rw [f6] at e89
      have f10 : vs 10 = .int .u32 ((c : Nat) : Int) := hd 10 (by kernel_rfl)
      have e93 : A'.tmps[93]?.getD undef = vs 10 := slot_in hA hap (Nat.lt_of_lt_of_eq (Nat.le_of_ble_eq_true rfl : 93 < 209) hsz.symm) (by kernel_rfl)
      rw [f10] at e93
      clear hA o5 o8 o9 o10
      go_step
      exact hK _ _ S (congrArg (Value.int .u32) (by first | omega | rfl))
    · intro vs gs A' W LF hA S hR hd hu K hK
      replace hK := hK default
      have e10 : A'.tmps[10]?.getD undef = .int .u32 ((y : Nat) : Int) := slot_out hA hap (Nat.lt_of_lt_of_eq (Nat.le_of_ble_eq_true rfl : 10 < 209) hsz.symm) (by kernel_rfl) o10
      clear hA o5 o8 o9 o10
      go_step
      exact hK _ _ S rfl
    · intro vs gs A' W LF hA S hR hd hu K hK
      replace hK := hK default
      have f11 : vs 11 = .int .u32 (((m + x + c) % 4294967296 : Nat) : Int) := hd 11 (by kernel_rfl)
      have e94 : A'.tmps[94]?.getD undef = vs 11 := slot_in hA hap (Nat.lt_of_lt_of_eq (Nat.le_of_ble_eq_true rfl : 94 < 209) hsz.symm) (by kernel_rfl)
      rw [f11] at e94
      have f12 : vs 12 = .int .u32 ((y : Nat) : Int) := hd 12 (by kernel_rfl)
      have e95 : A'.tmps[95]?.getD undef = vs 12 := slot_in hA hap (Nat.lt_of_lt_of_eq (Nat.le_of_ble_eq_true rfl : 95 < 209) hsz.symm) (by kernel_rfl)
      rw [f12] at e95
      clear hA o5 o8 o9 o10
      go_step
      exact hK _ _ S (congrArg (Value.int .u32) (by first | omega | rfl))
    · intro vs gs A' W LF hA S hR hd hu K hK
      replace hK := hK default
      have e5 : A'.tmps[5]?.getD undef = .pointer (some ⟨g5, 0, none⟩) := slot_out hA hap (Nat.lt_of_lt_of_eq (Nat.le_of_ble_eq_true rfl : 5 < 209) hsz.symm) (by kernel_rfl) o5
      have f0 : vs 0 = .int .i64 ((j + 16 : Nat) : Int) := hd 0 (by kernel_rfl)
      have e83 : A'.tmps[83]?.getD undef = vs 0 := slot_in hA hap (Nat.lt_of_lt_of_eq (Nat.le_of_ble_eq_true rfl : 83 < 209) hsz.symm) (by kernel_rfl)
      rw [f0] at e83
      clear hA o5 o8 o9 o10
      have h0 : 0 ≤ (j : Int) + 16 := by omega
      have h1 : (j : Int) + 16 < 64 := by omega
      go_step
      exact hK _ _ S rfl
    · intro vs gs A' W LF hA S hR hd hu K hK
      replace hK := hK default
      have f14 : vs 14 = .pointer (some ⟨g5, j + 16, none⟩) := hd 14 (by kernel_rfl)
      have e97 : A'.tmps[97]?.getD undef = vs 14 := slot_in hA hap (Nat.lt_of_lt_of_eq (Nat.le_of_ble_eq_true rfl : 97 < 209) hsz.symm) (by kernel_rfl)
      rw [f14] at e97
      have f13 : vs 13 = .int .u32 (((m + x + c + y) % 4294967296 : Nat) : Int) := hd 13 (by kernel_rfl)
      have e96 : A'.tmps[96]?.getD undef = vs 13 := slot_in hA hap (Nat.lt_of_lt_of_eq (Nat.le_of_ble_eq_true rfl : 96 < 209) hsz.symm) (by kernel_rfl)
      rw [f13] at e96
      clear hA o5 o8 o9 o10
      have S1 : Held w0 W (blkR g5 144 (u32A L) :: LF) := S
      have q1 := u32_cell (S1.at_ (l1 := [])) (j + 16) _ (HM)
      have q2 := (S1.at_ (l1 := [])).frozen (j + 16)
      have q3 := (S1.at_ (l1 := [])).lt
      go_step
      have S2 := S1.set (l1 := []) (j + 16) (.int .u32 (((m + x + c + y) % 4294967296 : Nat) : Int))
      rw [u32A_set] at S2
      exact hK undef _ S2 trivial
  · intro vs gs W S hp
    have S : Held w0 W (blkR g5 144 (u32A (L.set (j + 16) ((m + x + c + y) % 4294967296))) :: R) := by simpa only [List.flatMap_cons, List.flatMap_nil, List.append_nil, List.nil_append, List.cons_append, List.append_assoc] using S
    rw [show putAll vs (opsOf 14 Tryd.f86) 0 a = putD [(83, vs 0), (84, vs 1), (85, vs 2), (86, vs 3), (87, vs 4), (88, vs 5), (89, vs 6), (90, vs 7), (91, vs 8), (92, vs 9), (93, vs 10), (94, vs 11), (95, vs 12), (96, vs 13), (97, vs 14)] a from by kernel_rfl]
    exact hend _ W (same_putD _ a)  S
-- END rblk14
-- REG rblk8
set_option maxRecDepth 100000 in
set_option maxHeartbeats 2000000 in
theorem rblk_r8 {Q : Exit → Act → World → Prop} {a : Act} {w : World} (w0 : World) (k r q g5 m c n0 cb : Nat) (ad : Addr) (L : List Nat) (R : List Res) (hlt : k < 16) (hi : r < 4) (hq : Hid (q = 4 * k + r)) (hn : q < n0) (HM : L[k]? = some m) (hc : c < 256) (HB : Hid (∀ V, Kp [] w0 V → V.cell? (ad.add q) = some (.int .u8 (c : Int)))) (hsz : a.tmps.size = 209) (o1 : Sl a 1 (.slice (some ad) n0 cb)) (o5 : Sl a 5 (.pointer (some ⟨g5, 0, none⟩))) (o6 : Sl a 6 (.int .i64 ((k : Nat) : Int))) (o7 : Sl a 7 (.int .i64 ((r : Nat) : Int)))
    (S0 : Held w0 w (blkR g5 144 (u32A L) :: R))
    (hend : ∀ (a' : Act) (W : World), Same a a' [30, 31, 32, 33, 34, 35, 36, 37, 38, 39, 40, 41, 42, 43, 44] → Held w0 W (blkR g5 144 (u32A (L.set k ((m * 256 + c) % 4294967296))) :: R) → Q .normal a' W) : (Code.region 8 (opsOf 8 Tryd.f86).toArray true).wp Tryd.prog Q a w := by
  have hap : apartB (opsOf 8 Tryd.f86) = true := by kernel_rfl
  refine wp_region_sep (Γ := Unit) (l := (opsOf 8 Tryd.f86)) 2 [0, 1, 2, 3, 4, 5, 6, 7, 8, 9, 10, 11, 12, 13, 14, 15, 17]
    (fun i vs gs => match i with | 0 => vs 0 = .int .i64 ((k : Nat) : Int) | 1 => vs 1 = .int .i64 ((k : Nat) : Int) | 2 => vs 2 = .pointer (some ⟨g5, k, none⟩) | 3 => vs 3 = .int .u32 ((m : Nat) : Int) | 4 => vs 4 = .int .u32 ((m * 256 % 4294967296 : Nat) : Int) | 5 => vs 5 = .slice (some ad) n0 cb | 6 => vs 6 = .int .i64 ((k : Nat) : Int) | 7 => vs 7 = .int .i64 ((4 * k : Nat) : Int) | 8 => vs 8 = .int .i64 ((r : Nat) : Int) | 9 => vs 9 = .int .i64 ((q : Nat) : Int) | 10 => vs 10 = .pointer (some (ad.add q)) | 11 => vs 11 = .int .u8 ((c : Nat) : Int) | 12 => vs 12 = .int .u32 ((c : Nat) : Int) | 13 => vs 13 = .int .u32 (((m * 256 + c) % 4294967296 : Nat) : Int) | 14 => vs 14 = .pointer (some ⟨g5, k, none⟩) | _ => True)
    (fun i vs gs => match i with | 15 => [blkR g5 144 (u32A (L.set k ((m * 256 + c) % 4294967296)))] | 16 => [blkR g5 144 (u32A L)] | 17 => R | _ => [])
    (fun i => match i with | 15 => [16] | _ => []) (fun i => match i with | 3 => [16] | _ => []) S0 (by kernel_rfl) hap (by kernel_rfl) (by kernel_rfl) (fun i => match i with | 0 => [0] | 1 => [1] | 2 => [2] | 3 => [3] | 4 => [4] | 5 => [5] | 6 => [6] | 7 => [7] | 8 => [8] | 9 => [9] | 10 => [10] | 11 => [11] | 12 => [12] | 13 => [13] | 14 => [14] | _ => []) (by kernel_rfl) ?_ (by kernel_rfl) ?_ ?_ ?_
  · intro s vs vs' gs gs' h
    iterate 18 (rcases s with _ | s; · (first | exact ⟨rfl, id⟩ | (simp only [List.mem_cons, List.not_mem_nil, or_false, forall_eq] at h; simp [h])))
    exact ⟨rfl, id⟩
  · simp only [List.range, List.range.loop, List.flatMap_cons, List.flatMap_nil, List.append_nil]
    exact List.Perm.refl _
  · clear S0 hend
    refine ⟨?_, ?_, ?_, ?_, ?_, ?_, ?_, ?_, ?_, ?_, ?_, ?_, ?_, ?_, ?_, ?_, trivial⟩
    · intro vs gs A' W LF hA S hR hd hu K hK
      replace hK := hK default
      have e6 : A'.tmps[6]?.getD undef = .int .i64 ((k : Nat) : Int) := slot_out hA hap (Nat.lt_of_lt_of_eq (Nat.le_of_ble_eq_true rfl : 6 < 209) hsz.symm) (by kernel_rfl) o6
      clear hA o1 o5 o6 o7
      go_step
      exact hK _ _ S rfl
    · intro vs gs A' W LF hA S hR hd hu K hK
      replace hK := hK default
      have e6 : A'.tmps[6]?.getD undef = .int .i64 ((k : Nat) : Int) := slot_out hA hap (Nat.lt_of_lt_of_eq (Nat.le_of_ble_eq_true rfl : 6 < 209) hsz.symm) (by kernel_rfl) o6
      clear hA o1 o5 o6 o7
      go_step
      exact hK _ _ S rfl
    · intro vs gs A' W LF hA S hR hd hu K hK
      replace hK := hK default
      have e5 : A'.tmps[5]?.getD undef = .pointer (some ⟨g5, 0, none⟩) := slot_out hA hap (Nat.lt_of_lt_of_eq (Nat.le_of_ble_eq_true rfl : 5 < 209) hsz.symm) (by kernel_rfl) o5
      have f1 : vs 1 = .int .i64 ((k : Nat) : Int) := hd 1 (by kernel_rfl)
      have e31 : A'.tmps[31]?.getD undef = vs 1 := slot_in hA hap (Nat.lt_of_lt_of_eq (Nat.le_of_ble_eq_true rfl : 31 < 209) hsz.symm) (by kernel_rfl)
      rw [f1] at e31
      clear hA o1 o5 o6 o7
      have h0 : 0 ≤ (k : Int) := by omega
      have h1 : (k : Int) < 64 := by omega
      go_step
      exact hK _ _ S rfl
    · intro vs gs A' W LF hA S hR hd hu K hK
      replace hK := hK default
      have f2 : vs 2 = .pointer (some ⟨g5, k, none⟩) := hd 2 (by kernel_rfl)
      have e32 : A'.tmps[32]?.getD undef = vs 2 := slot_in hA hap (Nat.lt_of_lt_of_eq (Nat.le_of_ble_eq_true rfl : 32 < 209) hsz.symm) (by kernel_rfl)
      rw [f2] at e32
      clear hA o1 o5 o6 o7
      have c0 := u32_cell (S.ok (blkR g5 144 (u32A L)) (hR 16 (List.mem_singleton.2 rfl) _ (List.mem_singleton.2 rfl))) k m HM
      go_step
      exact hK _ _ S rfl
    · intro vs gs A' W LF hA S hR hd hu K hK
      replace hK := hK default
      have f3 : vs 3 = .int .u32 ((m : Nat) : Int) := hd 3 (by kernel_rfl)
      have e33 : A'.tmps[33]?.getD undef = vs 3 := slot_in hA hap (Nat.lt_of_lt_of_eq (Nat.le_of_ble_eq_true rfl : 33 < 209) hsz.symm) (by kernel_rfl)
      rw [f3] at e33
      clear hA o1 o5 o6 o7
      go_step
      exact hK _ _ S (congrArg (Value.int .u32) (by first | omega | rfl))
    · intro vs gs A' W LF hA S hR hd hu K hK
      replace hK := hK default
      have e1 : A'.tmps[1]?.getD undef = .slice (some ad) n0 cb := slot_out hA hap (Nat.lt_of_lt_of_eq (Nat.le_of_ble_eq_true rfl : 1 < 209) hsz.symm) (by kernel_rfl) o1
      clear hA o1 o5 o6 o7
      go_step
      exact hK _ _ S rfl
    · intro vs gs A' W LF hA S hR hd hu K hK
      replace hK := hK default
      have e6 : A'.tmps[6]?.getD undef = .int .i64 ((k : Nat) : Int) := slot_out hA hap (Nat.lt_of_lt_of_eq (Nat.le_of_ble_eq_true rfl : 6 < 209) hsz.symm) (by kernel_rfl) o6
      clear hA o1 o5 o6 o7
      go_step
      exact hK _ _ S rfl
    · intro vs gs A' W LF hA S hR hd hu K hK
      replace hK := hK default
      have f6 : vs 6 = .int .i64 ((k : Nat) : Int) := hd 6 (by kernel_rfl)
      have e36 : A'.tmps[36]?.getD undef = vs 6 := slot_in hA hap (Nat.lt_of_lt_of_eq (Nat.le_of_ble_eq_true rfl : 36 < 209) hsz.symm) (by kernel_rfl)
      rw [f6] at e36
      clear hA o1 o5 o6 o7
      go_step
      exact hK _ _ S (congrArg (Value.int .i64) (by first | omega | (unfold wrap64; omega)))
    · intro vs gs A' W LF hA S hR hd hu K hK
      replace hK := hK default
      have e7 : A'.tmps[7]?.getD undef = .int .i64 ((r : Nat) : Int) := slot_out hA hap (Nat.lt_of_lt_of_eq (Nat.le_of_ble_eq_true rfl : 7 < 209) hsz.symm) (by kernel_rfl) o7
      clear hA o1 o5 o6 o7
      go_step
      exact hK _ _ S rfl
    · intro vs gs A' W LF hA S hR hd hu K hK
      replace hK := hK default
      have f7 : vs 7 = .int .i64 ((4 * k : Nat) : Int) := hd 7 (by kernel_rfl)
      have e37 : A'.tmps[37]?.getD undef = vs 7 := slot_in hA hap (Nat.lt_of_lt_of_eq (Nat.le_of_ble_eq_true rfl : 37 < 209) hsz.symm) (by kernel_rfl)
      rw [f7] at e37
      have f8 : vs 8 = .int .i64 ((r : Nat) : Int) := hd 8 (by kernel_rfl)
      have e38 : A'.tmps[38]?.getD undef = vs 8 := slot_in hA hap (Nat.lt_of_lt_of_eq (Nat.le_of_ble_eq_true rfl : 38 < 209) hsz.symm) (by kernel_rfl)
      rw [f8] at e38
      clear hA o1 o5 o6 o7
      go_step
      have hq := hq.out
      exact hK _ _ S (congrArg (Value.int .i64) (by first | omega | (unfold wrap64; omega)))
    · intro vs gs A' W LF hA S hR hd hu K hK
      replace hK := hK default
      have f5 : vs 5 = .slice (some ad) n0 cb := hd 5 (by kernel_rfl)
      have e35 : A'.tmps[35]?.getD undef = vs 5 := slot_in hA hap (Nat.lt_of_lt_of_eq (Nat.le_of_ble_eq_true rfl : 35 < 209) hsz.symm) (by kernel_rfl)
      rw [f5] at e35
      have f9 : vs 9 = .int .i64 ((q : Nat) : Int) := hd 9 (by kernel_rfl)
      have e39 : A'.tmps[39]?.getD undef = vs 9 := slot_in hA hap (Nat.lt_of_lt_of_eq (Nat.le_of_ble_eq_true rfl : 39 < 209) hsz.symm) (by kernel_rfl)
      rw [f9] at e39
      clear hA o1 o5 o6 o7
      have h0 : 0 ≤ (q : Int) := by omega
      have h1 : (q : Int) < n0 := by omega
      go_step
      exact hK _ _ S rfl
    · intro vs gs A' W LF hA S hR hd hu K hK
      replace hK := hK default
      have f10 : vs 10 = .pointer (some (ad.add q)) := hd 10 (by kernel_rfl)
      have e40 : A'.tmps[40]?.getD undef = vs 10 := slot_in hA hap (Nat.lt_of_lt_of_eq (Nat.le_of_ble_eq_true rfl : 40 < 209) hsz.symm) (by kernel_rfl)
      rw [f10] at e40
      clear hA o1 o5 o6 o7
      have c0 := HB.out W S.k
      go_step
      exact hK _ _ S rfl
    · intro vs gs A' W LF hA S hR hd hu K hK
      replace hK := hK default
      have f11 : vs 11 = .int .u8 ((c : Nat) : Int) := hd 11 (by kernel_rfl)
      have e41 : A'.tmps[41]?.getD undef = vs 11 := slot_in hA hap (Nat.lt_of_lt_of_eq (Nat.le_of_ble_eq_true rfl : 41 < 209) hsz.symm) (by kernel_rfl)
      rw [f11] at e41
      clear hA o1 o5 o6 o7
      go_step
      exact hK _ _ S rfl
    · intro vs gs A' W LF hA S hR hd hu K hK
      replace hK := hK default
      have f4 : vs 4 = .int .u32 ((m * 256 % 4294967296 : Nat) : Int) := hd 4 (by kernel_rfl)
      have e34 : A'.tmps[34]?.getD undef = vs 4 := slot_in hA hap (Nat.lt_of_lt_of_eq (Nat.le_of_ble_eq_true rfl : 34 < 209) hsz.symm) (by kernel_rfl)
      rw [f4] at e34
      have f12 : vs 12 = .int .u32 ((c : Nat) : Int) := hd 12 (by kernel_rfl)
      have e42 : A'.tmps[42]?.getD undef = vs 12 := slot_in hA hap (Nat.lt_of_lt_of_eq (Nat.le_of_ble_eq_true rfl : 42 < 209) hsz.symm) (by kernel_rfl)
      rw [f12] at e42
      clear hA o1 o5 o6 o7
      go_step
      exact hK _ _ S (congrArg (Value.int .u32) (by first | omega | rfl))
    · intro vs gs A' W LF hA S hR hd hu K hK
      replace hK := hK default
      have e5 : A'.tmps[5]?.getD undef = .pointer (some ⟨g5, 0, none⟩) := slot_out hA hap (Nat.lt_of_lt_of_eq (Nat.le_of_ble_eq_true rfl : 5 < 209) hsz.symm) (by kernel_rfl) o5
      have f0 : vs 0 = .int .i64 ((k : Nat) : Int) := hd 0 (by kernel_rfl)
      have e30 : A'.tmps[30]?.getD undef = vs 0 := slot_in hA hap (Nat.lt_of_lt_of_eq (Nat.le_of_ble_eq_true rfl : 30 < 209) hsz.symm) (by kernel_rfl)
      rw [f0] at e30
      clear hA o1 o5 o6 o7
      have h0 : 0 ≤ (k : Int) := by omega
      have h1 : (k : Int) < 64 := by omega
      go_step
      exact hK _ _ S rfl
    · intro vs gs A' W LF hA S hR hd hu K hK
      replace hK := hK default
      have f14 : vs 14 = .pointer (some ⟨g5, k, none⟩) := hd 14 (by kernel_rfl)
      have e44 : A'.tmps[44]?.getD undef = vs 14 := slot_in hA hap (Nat.lt_of_lt_of_eq (Nat.le_of_ble_eq_true rfl : 44 < 209) hsz.symm) (by kernel_rfl)
      rw [f14] at e44
      have f13 : vs 13 = .int .u32 (((m * 256 + c) % 4294967296 : Nat) : Int) := hd 13 (by kernel_rfl)
      have e43 : A'.tmps[43]?.getD undef = vs 13 := slot_in hA hap (Nat.lt_of_lt_of_eq (Nat.le_of_ble_eq_true rfl : 43 < 209) hsz.symm) (by kernel_rfl)
      rw [f13] at e43
      clear hA o1 o5 o6 o7
      have S1 : Held w0 W (blkR g5 144 (u32A L) :: LF) := S
      have q1 := u32_cell (S1.at_ (l1 := [])) (k) _ (HM)
      have q2 := (S1.at_ (l1 := [])).frozen (k)
      have q3 := (S1.at_ (l1 := [])).lt
      go_step
      have S2 := S1.set (l1 := []) (k) (.int .u32 (((m * 256 + c) % 4294967296 : Nat) : Int))
      rw [u32A_set] at S2
      exact hK undef _ S2 trivial
  · intro vs gs W S hp
    have S : Held w0 W (blkR g5 144 (u32A (L.set k ((m * 256 + c) % 4294967296))) :: R) := by simpa only [List.flatMap_cons, List.flatMap_nil, List.append_nil, List.nil_append, List.cons_append, List.append_assoc] using S
    rw [show putAll vs (opsOf 8 Tryd.f86) 0 a = putD [(30, vs 0), (31, vs 1), (32, vs 2), (33, vs 3), (34, vs 4), (35, vs 5), (36, vs 6), (37, vs 7), (38, vs 8), (39, vs 9), (40, vs 10), (41, vs 11), (42, vs 12), (43, vs 13), (44, vs 14)] a from by kernel_rfl]
    exact hend _ W (same_putD _ a)  S
-- END rblk8
-- REG rblk15
set_option maxRecDepth 100000 in
set_option maxHeartbeats 2000000 in
theorem rblk_r15 {Q : Exit → Act → World → Prop} {a : Act} {w : World} (g2 s0 s1 s2 s3 s4 s5 s6 s7 : Nat) (HV : Hid (∀ V, Kp [] w V → ∀ i x : Nat, [s0, s1, s2, s3, s4, s5, s6, s7][i]? = some x → V.cell? ⟨g2, i, none⟩ = some (.int .u32 (x : Int)))) (hsz : a.tmps.size = 209) (o2 : Sl a 2 (.pointer (some ⟨g2, 0, none⟩)))
    (hend : ∀ (a' : Act) (W : World), Same a a' [98, 99, 100, 101, 102, 103, 104, 105, 106, 107, 108, 109, 110, 111, 112, 113, 11, 12, 13, 14, 15, 16, 17, 18] → Kp [] w.drew W → Sl a' 11 (.int .u32 ((s0 : Nat) : Int)) → Sl a' 12 (.int .u32 ((s1 : Nat) : Int)) → Sl a' 13 (.int .u32 ((s2 : Nat) : Int)) → Sl a' 14 (.int .u32 ((s3 : Nat) : Int)) → Sl a' 15 (.int .u32 ((s4 : Nat) : Int)) → Sl a' 16 (.int .u32 ((s5 : Nat) : Int)) → Sl a' 17 (.int .u32 ((s6 : Nat) : Int)) → Sl a' 18 (.int .u32 ((s7 : Nat) : Int)) → Q .normal a' W) : (Code.region 15 (opsOf 15 Tryd.f86).toArray true).wp Tryd.prog Q a w := by
  have hap : apartB (opsOf 15 Tryd.f86) = true := by kernel_rfl
  refine wp_region_inv (l := (opsOf 15 Tryd.f86)) (fun i v W => match i with | 0 => v = .pointer (some ⟨g2, 0, none⟩) | 1 => v = .int .u32 ((s0 : Nat) : Int) | 2 => v = .pointer (some ⟨g2, 1, none⟩) | 3 => v = .int .u32 ((s1 : Nat) : Int) | 4 => v = .pointer (some ⟨g2, 2, none⟩) | 5 => v = .int .u32 ((s2 : Nat) : Int) | 6 => v = .pointer (some ⟨g2, 3, none⟩) | 7 => v = .int .u32 ((s3 : Nat) : Int) | 8 => v = .pointer (some ⟨g2, 4, none⟩) | 9 => v = .int .u32 ((s4 : Nat) : Int) | 10 => v = .pointer (some ⟨g2, 5, none⟩) | 11 => v = .int .u32 ((s5 : Nat) : Int) | 12 => v = .pointer (some ⟨g2, 6, none⟩) | 13 => v = .int .u32 ((s6 : Nat) : Int) | 14 => v = .pointer (some ⟨g2, 7, none⟩) | 15 => v = .int .u32 ((s7 : Nat) : Int) | 16 => v = .int .u32 ((s0 : Nat) : Int) | 17 => v = .int .u32 ((s1 : Nat) : Int) | 18 => v = .int .u32 ((s2 : Nat) : Int) | 19 => v = .int .u32 ((s3 : Nat) : Int) | 20 => v = .int .u32 ((s4 : Nat) : Int) | 21 => v = .int .u32 ((s5 : Nat) : Int) | 22 => v = .int .u32 ((s6 : Nat) : Int) | 23 => v = .int .u32 ((s7 : Nat) : Int) | _ => True) (by kernel_rfl) hap (by kernel_rfl) ?_ ?_ ?_
  · intro i v W W' h _
    iterate 24 (rcases i with _ | i; · exact h)
    exact h
  · refine ⟨?_, ?_, ?_, ?_, ?_, ?_, ?_, ?_, ?_, ?_, ?_, ?_, ?_, ?_, ?_, ?_, ?_, ?_, ?_, ?_, ?_, ?_, ?_, ?_, trivial⟩
    · intro vs A' W hA hW hd K hK
      have e2 : A'.tmps[2]?.getD undef = .pointer (some ⟨g2, 0, none⟩) := slot_out hA hap (Nat.lt_of_lt_of_eq (Nat.le_of_ble_eq_true rfl : 2 < 209) hsz.symm) (by kernel_rfl) o2
      clear hA hd o2
      go_step
      exact hK _ _ (Kp.refl _ _) rfl
    · intro vs A' W hA hW hd K hK
      have f0 : vs 0 = .pointer (some ⟨g2, 0, none⟩) := hd 0 (by kernel_rfl)
      have e98 : A'.tmps[98]?.getD undef = vs 0 := slot_in hA hap (Nat.lt_of_lt_of_eq (Nat.le_of_ble_eq_true rfl : 98 < 209) hsz.symm) (by kernel_rfl)
      rw [f0] at e98
      clear hA hd o2
      have c0 := HV.out W ((Kp.refl [] _).drew.trans hW (by simp)) 0 s0 rfl
      go_step
      exact hK _ _ (Kp.refl _ _) rfl
    · intro vs A' W hA hW hd K hK
      have e2 : A'.tmps[2]?.getD undef = .pointer (some ⟨g2, 0, none⟩) := slot_out hA hap (Nat.lt_of_lt_of_eq (Nat.le_of_ble_eq_true rfl : 2 < 209) hsz.symm) (by kernel_rfl) o2
      clear hA hd o2
      go_step
      exact hK _ _ (Kp.refl _ _) rfl
    · intro vs A' W hA hW hd K hK
      have f2 : vs 2 = .pointer (some ⟨g2, 1, none⟩) := hd 2 (by kernel_rfl)
      have e100 : A'.tmps[100]?.getD undef = vs 2 := slot_in hA hap (Nat.lt_of_lt_of_eq (Nat.le_of_ble_eq_true rfl : 100 < 209) hsz.symm) (by kernel_rfl)
      rw [f2] at e100
      clear hA hd o2
      have c0 := HV.out W ((Kp.refl [] _).drew.trans hW (by simp)) 1 s1 rfl
      go_step
      exact hK _ _ (Kp.refl _ _) rfl
    · intro vs A' W hA hW hd K hK
      have e2 : A'.tmps[2]?.getD undef = .pointer (some ⟨g2, 0, none⟩) := slot_out hA hap (Nat.lt_of_lt_of_eq (Nat.le_of_ble_eq_true rfl : 2 < 209) hsz.symm) (by kernel_rfl) o2
      clear hA hd o2
      go_step
      exact hK _ _ (Kp.refl _ _) rfl
    · intro vs A' W hA hW hd K hK
      have f4 : vs 4 = .pointer (some ⟨g2, 2, none⟩) := hd 4 (by kernel_rfl)
      have e102 : A'.tmps[102]?.getD undef = vs 4 := slot_in hA hap (Nat.lt_of_lt_of_eq (Nat.le_of_ble_eq_true rfl : 102 < 209) hsz.symm) (by kernel_rfl)
      rw [f4] at e102
      clear hA hd o2
      have c0 := HV.out W ((Kp.refl [] _).drew.trans hW (by simp)) 2 s2 rfl
      go_step
      exact hK _ _ (Kp.refl _ _) rfl
    · intro vs A' W hA hW hd K hK
      have e2 : A'.tmps[2]?.getD undef = .pointer (some ⟨g2, 0, none⟩) := slot_out hA hap (Nat.lt_of_lt_of_eq (Nat.le_of_ble_eq_true rfl : 2 < 209) hsz.symm) (by kernel_rfl) o2
      clear hA hd o2
      go_step
      exact hK _ _ (Kp.refl _ _) rfl
    · intro vs A' W hA hW hd K hK
      have f6 : vs 6 = .pointer (some ⟨g2, 3, none⟩) := hd 6 (by kernel_rfl)
      have e104 : A'.tmps[104]?.getD undef = vs 6 := slot_in hA hap (Nat.lt_of_lt_of_eq (Nat.le_of_ble_eq_true rfl : 104 < 209) hsz.symm) (by kernel_rfl)
      rw [f6] at e104
      clear hA hd o2
      have c0 := HV.out W ((Kp.refl [] _).drew.trans hW (by simp)) 3 s3 rfl
      go_step
      exact hK _ _ (Kp.refl _ _) rfl
    · intro vs A' W hA hW hd K hK
      have e2 : A'.tmps[2]?.getD undef = .pointer (some ⟨g2, 0, none⟩) := slot_out hA hap (Nat.lt_of_lt_of_eq (Nat.le_of_ble_eq_true rfl : 2 < 209) hsz.symm) (by kernel_rfl) o2
      clear hA hd o2
      go_step
      exact hK _ _ (Kp.refl _ _) rfl
    · intro vs A' W hA hW hd K hK
      have f8 : vs 8 = .pointer (some ⟨g2, 4, none⟩) := hd 8 (by kernel_rfl)
      have e106 : A'.tmps[106]?.getD undef = vs 8 := slot_in hA hap (Nat.lt_of_lt_of_eq (Nat.le_of_ble_eq_true rfl : 106 < 209) hsz.symm) (by kernel_rfl)
      rw [f8] at e106
      clear hA hd o2
      have c0 := HV.out W ((Kp.refl [] _).drew.trans hW (by simp)) 4 s4 rfl
      go_step
      exact hK _ _ (Kp.refl _ _) rfl
    · intro vs A' W hA hW hd K hK
      have e2 : A'.tmps[2]?.getD undef = .pointer (some ⟨g2, 0, none⟩) := slot_out hA hap (Nat.lt_of_lt_of_eq (Nat.le_of_ble_eq_true rfl : 2 < 209) hsz.symm) (by kernel_rfl) o2
      clear hA hd o2
      go_step
      exact hK _ _ (Kp.refl _ _) rfl
    · intro vs A' W hA hW hd K hK
      have f10 : vs 10 = .pointer (some ⟨g2, 5, none⟩) := hd 10 (by kernel_rfl)
      have e108 : A'.tmps[108]?.getD undef = vs 10 := slot_in hA hap (Nat.lt_of_lt_of_eq (Nat.le_of_ble_eq_true rfl : 108 < 209) hsz.symm) (by kernel_rfl)
      rw [f10] at e108
      clear hA hd o2
      have c0 := HV.out W ((Kp.refl [] _).drew.trans hW (by simp)) 5 s5 rfl
      go_step
      exact hK _ _ (Kp.refl _ _) rfl
    · intro vs A' W hA hW hd K hK
      have e2 : A'.tmps[2]?.getD undef = .pointer (some ⟨g2, 0, none⟩) := slot_out hA hap (Nat.lt_of_lt_of_eq (Nat.le_of_ble_eq_true rfl : 2 < 209) hsz.symm) (by kernel_rfl) o2
      clear hA hd o2
      go_step
      exact hK _ _ (Kp.refl _ _) rfl
    · intro vs A' W hA hW hd K hK
      have f12 : vs 12 = .pointer (some ⟨g2, 6, none⟩) := hd 12 (by kernel_rfl)
      have e110 : A'.tmps[110]?.getD undef = vs 12 := slot_in hA hap (Nat.lt_of_lt_of_eq (Nat.le_of_ble_eq_true rfl : 110 < 209) hsz.symm) (by kernel_rfl)
      rw [f12] at e110
      clear hA hd o2
      have c0 := HV.out W ((Kp.refl [] _).drew.trans hW (by simp)) 6 s6 rfl
      go_step
      exact hK _ _ (Kp.refl _ _) rfl
    · intro vs A' W hA hW hd K hK
      have e2 : A'.tmps[2]?.getD undef = .pointer (some ⟨g2, 0, none⟩) := slot_out hA hap (Nat.lt_of_lt_of_eq (Nat.le_of_ble_eq_true rfl : 2 < 209) hsz.symm) (by kernel_rfl) o2
      clear hA hd o2
      go_step
      exact hK _ _ (Kp.refl _ _) rfl
    · intro vs A' W hA hW hd K hK
      have f14 : vs 14 = .pointer (some ⟨g2, 7, none⟩) := hd 14 (by kernel_rfl)
      have e112 : A'.tmps[112]?.getD undef = vs 14 := slot_in hA hap (Nat.lt_of_lt_of_eq (Nat.le_of_ble_eq_true rfl : 112 < 209) hsz.symm) (by kernel_rfl)
      rw [f14] at e112
      clear hA hd o2
      have c0 := HV.out W ((Kp.refl [] _).drew.trans hW (by simp)) 7 s7 rfl
      go_step
      exact hK _ _ (Kp.refl _ _) rfl
    · intro vs A' W hA hW hd K hK
      have f1 : vs 1 = .int .u32 ((s0 : Nat) : Int) := hd 1 (by kernel_rfl)
      have e99 : A'.tmps[99]?.getD undef = vs 1 := slot_in hA hap (Nat.lt_of_lt_of_eq (Nat.le_of_ble_eq_true rfl : 99 < 209) hsz.symm) (by kernel_rfl)
      rw [f1] at e99
      clear hA hd o2
      go_step
      exact hK _ _ (Kp.refl _ _) rfl
    · intro vs A' W hA hW hd K hK
      have f3 : vs 3 = .int .u32 ((s1 : Nat) : Int) := hd 3 (by kernel_rfl)
      have e101 : A'.tmps[101]?.getD undef = vs 3 := slot_in hA hap (Nat.lt_of_lt_of_eq (Nat.le_of_ble_eq_true rfl : 101 < 209) hsz.symm) (by kernel_rfl)
      rw [f3] at e101
      clear hA hd o2
      go_step
      exact hK _ _ (Kp.refl _ _) rfl
    · intro vs A' W hA hW hd K hK
      have f5 : vs 5 = .int .u32 ((s2 : Nat) : Int) := hd 5 (by kernel_rfl)
      have e103 : A'.tmps[103]?.getD undef = vs 5 := slot_in hA hap (Nat.lt_of_lt_of_eq (Nat.le_of_ble_eq_true rfl : 103 < 209) hsz.symm) (by kernel_rfl)
      rw [f5] at e103
      clear hA hd o2
      go_step
      exact hK _ _ (Kp.refl _ _) rfl
    · intro vs A' W hA hW hd K hK
      have f7 : vs 7 = .int .u32 ((s3 : Nat) : Int) := hd 7 (by kernel_rfl)
      have e105 : A'.tmps[105]?.getD undef = vs 7 := slot_in hA hap (Nat.lt_of_lt_of_eq (Nat.le_of_ble_eq_true rfl : 105 < 209) hsz.symm) (by kernel_rfl)
      rw [f7] at e105
      clear hA hd o2
      go_step
      exact hK _ _ (Kp.refl _ _) rfl
    · intro vs A' W hA hW hd K hK
      have f9 : vs 9 = .int .u32 ((s4 : Nat) : Int) := hd 9 (by kernel_rfl)
      have e107 : A'.tmps[107]?.getD undef = vs 9 := slot_in hA hap (Nat.lt_of_lt_of_eq (Nat.le_of_ble_eq_true rfl : 107 < 209) hsz.symm) (by kernel_rfl)
      rw [f9] at e107
      clear hA hd o2
      go_step
      exact hK _ _ (Kp.refl _ _) rfl
    · intro vs A' W hA hW hd K hK
      have f11 : vs 11 = .int .u32 ((s5 : Nat) : Int) := hd 11 (by kernel_rfl)
      have e109 : A'.tmps[109]?.getD undef = vs 11 := slot_in hA hap (Nat.lt_of_lt_of_eq (Nat.le_of_ble_eq_true rfl : 109 < 209) hsz.symm) (by kernel_rfl)
      rw [f11] at e109
      clear hA hd o2
      go_step
      exact hK _ _ (Kp.refl _ _) rfl
    · intro vs A' W hA hW hd K hK
      have f13 : vs 13 = .int .u32 ((s6 : Nat) : Int) := hd 13 (by kernel_rfl)
      have e111 : A'.tmps[111]?.getD undef = vs 13 := slot_in hA hap (Nat.lt_of_lt_of_eq (Nat.le_of_ble_eq_true rfl : 111 < 209) hsz.symm) (by kernel_rfl)
      rw [f13] at e111
      clear hA hd o2
      go_step
      exact hK _ _ (Kp.refl _ _) rfl
    · intro vs A' W hA hW hd K hK
      have f15 : vs 15 = .int .u32 ((s7 : Nat) : Int) := hd 15 (by kernel_rfl)
      have e113 : A'.tmps[113]?.getD undef = vs 15 := slot_in hA hap (Nat.lt_of_lt_of_eq (Nat.le_of_ble_eq_true rfl : 113 < 209) hsz.symm) (by kernel_rfl)
      rw [f15] at e113
      clear hA hd o2
      go_step
      exact hK _ _ (Kp.refl _ _) rfl
  · intro vs W hW hp
    rw [show putAll vs (opsOf 15 Tryd.f86) 0 a = putD [(98, vs 0), (99, vs 1), (100, vs 2), (101, vs 3), (102, vs 4), (103, vs 5), (104, vs 6), (105, vs 7), (106, vs 8), (107, vs 9), (108, vs 10), (109, vs 11), (110, vs 12), (111, vs 13), (112, vs 14), (113, vs 15), (11, vs 16), (12, vs 17), (13, vs 18), (14, vs 19), (15, vs 20), (16, vs 21), (17, vs 22), (18, vs 23)] a from by kernel_rfl]
    exact hend _ W (same_putD _ a) hW (sl_putD _ a 11 _ (by rw [show vs 16 = _ from hp 16 (Nat.le_of_ble_eq_true (by kernel_rfl))]; kernel_rfl)) (sl_putD _ a 12 _ (by rw [show vs 17 = _ from hp 17 (Nat.le_of_ble_eq_true (by kernel_rfl))]; kernel_rfl)) (sl_putD _ a 13 _ (by rw [show vs 18 = _ from hp 18 (Nat.le_of_ble_eq_true (by kernel_rfl))]; kernel_rfl)) (sl_putD _ a 14 _ (by rw [show vs 19 = _ from hp 19 (Nat.le_of_ble_eq_true (by kernel_rfl))]; kernel_rfl)) (sl_putD _ a 15 _ (by rw [show vs 20 = _ from hp 20 (Nat.le_of_ble_eq_true (by kernel_rfl))]; kernel_rfl)) (sl_putD _ a 16 _ (by rw [show vs 21 = _ from hp 21 (Nat.le_of_ble_eq_true (by kernel_rfl))]; kernel_rfl)) (sl_putD _ a 17 _ (by rw [show vs 22 = _ from hp 22 (Nat.le_of_ble_eq_true (by kernel_rfl))]; kernel_rfl)) (sl_putD _ a 18 _ (by rw [show vs 23 = _ from hp 23 (Nat.le_of_ble_eq_true (by kernel_rfl))]; kernel_rfl))
-- END rblk15
-- REG rblk19
set_option maxRecDepth 100000 in
set_option maxHeartbeats 2000000 in
theorem rblk_r19 {Q : Exit → Act → World → Prop} {a : Act} {w : World} (k g5 kk wk v4 v5 v6 v7 : Nat) (h4 : v4 < 4294967296) (h5 : v5 < 4294967296) (h6 : v6 < 4294967296) (hk : k < 64) (HK : Hid (∀ V, Calls Tryd.prog 101 #[.int .i64 (k : Int)] V fun e w' => e = .returned (.int .u32 (kk : Int)) ∧ Kp [] V w')) (HWt : Hid (∀ V, Kp [] w V → V.cell? ⟨g5, k, none⟩ = some (.int .u32 (wk : Int)))) (hsz : a.tmps.size = 209) (o5 : Sl a 5 (.pointer (some ⟨g5, 0, none⟩))) (o15 : Sl a 15 (.int .u32 ((v4 : Nat) : Int))) (o16 : Sl a 16 (.int .u32 ((v5 : Nat) : Int))) (o17 : Sl a 17 (.int .u32 ((v6 : Nat) : Int))) (o18 : Sl a 18 (.int .u32 ((v7 : Nat) : Int))) (o19 : Sl a 19 (.int .i64 ((k : Nat) : Int)))
    (hend : ∀ (a' : Act) (W : World), Same a a' [118, 119, 120, 121, 122, 123, 124, 125, 126, 127, 128, 129, 130, 131, 132, 133, 134, 135, 136, 137, 138, 139, 140, 141, 142, 143, 20] → Kp [] w.drew W → Sl a' 20 (.int .u32 ((rX v4 v5 v6 v7 kk wk : Nat) : Int)) → Q .normal a' W) : (Code.region 19 (opsOf 19 Tryd.f86).toArray true).wp Tryd.prog Q a w := by
  have hap : apartB (opsOf 19 Tryd.f86) = true := by kernel_rfl
  refine wp_region_inv (l := (opsOf 19 Tryd.f86)) (fun i v W => match i with | 0 => v = .int .u32 ((v7 : Nat) : Int) | 1 => v = .int .u32 ((v4 : Nat) : Int) | 2 => v = .int .u32 ((rotr v4 6 : Nat) : Int) | 3 => v = .int .u32 ((v4 : Nat) : Int) | 4 => v = .int .u32 ((rotr v4 11 : Nat) : Int) | 5 => v = .int .u32 (((rotr v4 6) ^^^ (rotr v4 11) : Nat) : Int) | 6 => v = .int .u32 ((v4 : Nat) : Int) | 7 => v = .int .u32 ((rotr v4 25 : Nat) : Int) | 8 => v = .int .u32 ((bS1 v4 : Nat) : Int) | 9 => v = .int .u32 (((v7 + bS1 v4) % 4294967296 : Nat) : Int) | 10 => v = .int .u32 ((v4 : Nat) : Int) | 11 => v = .int .u32 ((v5 : Nat) : Int) | 12 => v = .int .u32 ((v4 &&& v5 : Nat) : Int) | 13 => v = .int .u32 ((v4 : Nat) : Int) | 14 => v = .int .u32 ((not32 v4 : Nat) : Int) | 15 => v = .int .u32 ((v6 : Nat) : Int) | 16 => v = .int .u32 (((not32 v4) &&& v6 : Nat) : Int) | 17 => v = .int .u32 ((cho v4 v5 v6 : Nat) : Int) | 18 => v = .int .u32 (((v7 + bS1 v4 + cho v4 v5 v6) % 4294967296 : Nat) : Int) | 19 => v = .int .i64 ((k : Nat) : Int) | 20 => v = .int .u32 ((kk : Nat) : Int) | 21 => v = .int .u32 (((v7 + bS1 v4 + cho v4 v5 v6 + kk) % 4294967296 : Nat) : Int) | 22 => v = .int .i64 ((k : Nat) : Int) | 23 => v = .pointer (some ⟨g5, k, none⟩) | 24 => v = .int .u32 ((wk : Nat) : Int) | 25 => v = .int .u32 ((rX v4 v5 v6 v7 kk wk : Nat) : Int) | 26 => v = .int .u32 ((rX v4 v5 v6 v7 kk wk : Nat) : Int) | _ => True) (by kernel_rfl) hap (by kernel_rfl) ?_ ?_ ?_
  · intro i v W W' h _
    iterate 27 (rcases i with _ | i; · exact h)
    exact h
  · refine ⟨?_, ?_, ?_, ?_, ?_, ?_, ?_, ?_, ?_, ?_, ?_, ?_, ?_, ?_, ?_, ?_, ?_, ?_, ?_, ?_, ?_, ?_, ?_, ?_, ?_, ?_, ?_, trivial⟩
    · intro vs A' W hA hW hd K hK
      have e18 : A'.tmps[18]?.getD undef = .int .u32 ((v7 : Nat) : Int) := slot_out hA hap (Nat.lt_of_lt_of_eq (Nat.le_of_ble_eq_true rfl : 18 < 209) hsz.symm) (by kernel_rfl) o18
      clear hA hd o5 o15 o16 o17 o18 o19
      go_step
      exact hK _ _ (Kp.refl _ _) rfl
    · intro vs A' W hA hW hd K hK
      have e15 : A'.tmps[15]?.getD undef = .int .u32 ((v4 : Nat) : Int) := slot_out hA hap (Nat.lt_of_lt_of_eq (Nat.le_of_ble_eq_true rfl : 15 < 209) hsz.symm) (by kernel_rfl) o15
      clear hA hd o5 o15 o16 o17 o18 o19
      go_step
      exact hK _ _ (Kp.refl _ _) rfl
    · intro vs A' W hA hW hd K hK
      have f1 : vs 1 = .int .u32 ((v4 : Nat) : Int) := hd 1 (by kernel_rfl)
      have e119 : A'.tmps[119]?.getD undef = vs 1 := slot_in hA hap (Nat.lt_of_lt_of_eq (Nat.le_of_ble_eq_true rfl : 119 < 209) hsz.symm) (by kernel_rfl)
      rw [f1] at e119
      clear hA hd o5 o15 o16 o17 o18 o19
      go_step
      refine (rrot_any v4 6 6 rfl h4 (by unfold rotK; omega) W).mono ?_
      rintro e w' ⟨rfl, kq⟩
      exact hK _ _ kq rfl
    · intro vs A' W hA hW hd K hK
      have e15 : A'.tmps[15]?.getD undef = .int .u32 ((v4 : Nat) : Int) := slot_out hA hap (Nat.lt_of_lt_of_eq (Nat.le_of_ble_eq_true rfl : 15 < 209) hsz.symm) (by kernel_rfl) o15
      clear hA hd o5 o15 o16 o17 o18 o19
      go_step
      exact hK _ _ (Kp.refl _ _) rfl
    · intro vs A' W hA hW hd K hK
      have f3 : vs 3 = .int .u32 ((v4 : Nat) : Int) := hd 3 (by kernel_rfl)
      have e121 : A'.tmps[121]?.getD undef = vs 3 := slot_in hA hap (Nat.lt_of_lt_of_eq (Nat.le_of_ble_eq_true rfl : 121 < 209) hsz.symm) (by kernel_rfl)
      rw [f3] at e121
      clear hA hd o5 o15 o16 o17 o18 o19
      go_step
      refine (rrot_any v4 11 11 rfl h4 (by unfold rotK; omega) W).mono ?_
      rintro e w' ⟨rfl, kq⟩
      exact hK _ _ kq rfl
    · intro vs A' W hA hW hd K hK
      have f2 : vs 2 = .int .u32 ((rotr v4 6 : Nat) : Int) := hd 2 (by kernel_rfl)
      have e120 : A'.tmps[120]?.getD undef = vs 2 := slot_in hA hap (Nat.lt_of_lt_of_eq (Nat.le_of_ble_eq_true rfl : 120 < 209) hsz.symm) (by kernel_rfl)
      rw [f2] at e120
      have f4 : vs 4 = .int .u32 ((rotr v4 11 : Nat) : Int) := hd 4 (by kernel_rfl)
      have e122 : A'.tmps[122]?.getD undef = vs 4 := slot_in hA hap (Nat.lt_of_lt_of_eq (Nat.le_of_ble_eq_true rfl : 122 < 209) hsz.symm) (by kernel_rfl)
      rw [f4] at e122
      clear hA hd o5 o15 o16 o17 o18 o19
      go_step
      exact hK _ _ (Kp.refl _ _) (congrArg (Value.int .u32) (u32_x _ _ (rotr_lt h4) (rotr_lt h4)))
    · intro vs A' W hA hW hd K hK
      have e15 : A'.tmps[15]?.getD undef = .int .u32 ((v4 : Nat) : Int) := slot_out hA hap (Nat.lt_of_lt_of_eq (Nat.le_of_ble_eq_true rfl : 15 < 209) hsz.symm) (by kernel_rfl) o15
      clear hA hd o5 o15 o16 o17 o18 o19
      go_step
      exact hK _ _ (Kp.refl _ _) rfl
    · intro vs A' W hA hW hd K hK
      have f6 : vs 6 = .int .u32 ((v4 : Nat) : Int) := hd 6 (by kernel_rfl)
      have e124 : A'.tmps[124]?.getD undef = vs 6 := slot_in hA hap (Nat.lt_of_lt_of_eq (Nat.le_of_ble_eq_true rfl : 124 < 209) hsz.symm) (by kernel_rfl)
      rw [f6] at e124
      clear hA hd o5 o15 o16 o17 o18 o19
      go_step
      refine (rrot_any v4 25 25 rfl h4 (by unfold rotK; omega) W).mono ?_
      rintro e w' ⟨rfl, kq⟩
      exact hK _ _ kq rfl
    · intro vs A' W hA hW hd K hK
      have f5 : vs 5 = .int .u32 (((rotr v4 6) ^^^ (rotr v4 11) : Nat) : Int) := hd 5 (by kernel_rfl)
      have e123 : A'.tmps[123]?.getD undef = vs 5 := slot_in hA hap (Nat.lt_of_lt_of_eq (Nat.le_of_ble_eq_true rfl : 123 < 209) hsz.symm) (by kernel_rfl)
      rw [f5] at e123
      have f7 : vs 7 = .int .u32 ((rotr v4 25 : Nat) : Int) := hd 7 (by kernel_rfl)
      have e125 : A'.tmps[125]?.getD undef = vs 7 := slot_in hA hap (Nat.lt_of_lt_of_eq (Nat.le_of_ble_eq_true rfl : 125 < 209) hsz.symm) (by kernel_rfl)
      rw [f7] at e125
      clear hA hd o5 o15 o16 o17 o18 o19
      go_step
      exact hK _ _ (Kp.refl _ _) (congrArg (Value.int .u32) (u32_x _ _ (xor_lt (rotr_lt h4) (rotr_lt h4)) (rotr_lt h4)))
    · intro vs A' W hA hW hd K hK
      have f0 : vs 0 = .int .u32 ((v7 : Nat) : Int) := hd 0 (by kernel_rfl)
      have e118 : A'.tmps[118]?.getD undef = vs 0 := slot_in hA hap (Nat.lt_of_lt_of_eq (Nat.le_of_ble_eq_true rfl : 118 < 209) hsz.symm) (by kernel_rfl)
      rw [f0] at e118
      have f8 : vs 8 = .int .u32 ((bS1 v4 : Nat) : Int) := hd 8 (by kernel_rfl)
      have e126 : A'.tmps[126]?.getD undef = vs 8 := slot_in hA hap (Nat.lt_of_lt_of_eq (Nat.le_of_ble_eq_true rfl : 126 < 209) hsz.symm) (by kernel_rfl)
      rw [f8] at e126
      clear hA hd o5 o15 o16 o17 o18 o19
      go_step
      exact hK _ _ (Kp.refl _ _) (congrArg (Value.int .u32) (by first | omega | rfl))
    · intro vs A' W hA hW hd K hK
      have e15 : A'.tmps[15]?.getD undef = .int .u32 ((v4 : Nat) : Int) := slot_out hA hap (Nat.lt_of_lt_of_eq (Nat.le_of_ble_eq_true rfl : 15 < 209) hsz.symm) (by kernel_rfl) o15
      clear hA hd o5 o15 o16 o17 o18 o19
      go_step
      exact hK _ _ (Kp.refl _ _) rfl
    · intro vs A' W hA hW hd K hK
      have e16 : A'.tmps[16]?.getD undef = .int .u32 ((v5 : Nat) : Int) := slot_out hA hap (Nat.lt_of_lt_of_eq (Nat.le_of_ble_eq_true rfl : 16 < 209) hsz.symm) (by kernel_rfl) o16
      clear hA hd o5 o15 o16 o17 o18 o19
      go_step
      exact hK _ _ (Kp.refl _ _) rfl
    · intro vs A' W hA hW hd K hK
      have f10 : vs 10 = .int .u32 ((v4 : Nat) : Int) := hd 10 (by kernel_rfl)
      have e128 : A'.tmps[128]?.getD undef = vs 10 := slot_in hA hap (Nat.lt_of_lt_of_eq (Nat.le_of_ble_eq_true rfl : 128 < 209) hsz.symm) (by kernel_rfl)
      rw [f10] at e128
      have f11 : vs 11 = .int .u32 ((v5 : Nat) : Int) := hd 11 (by kernel_rfl)
      have e129 : A'.tmps[129]?.getD undef = vs 11 := slot_in hA hap (Nat.lt_of_lt_of_eq (Nat.le_of_ble_eq_true rfl : 129 < 209) hsz.symm) (by kernel_rfl)
      rw [f11] at e129
      clear hA hd o5 o15 o16 o17 o18 o19
      go_step
      exact hK _ _ (Kp.refl _ _) (congrArg (Value.int .u32) (u32_and_nat _ _ h4 h5))
    · intro vs A' W hA hW hd K hK
      have e15 : A'.tmps[15]?.getD undef = .int .u32 ((v4 : Nat) : Int) := slot_out hA hap (Nat.lt_of_lt_of_eq (Nat.le_of_ble_eq_true rfl : 15 < 209) hsz.symm) (by kernel_rfl) o15
      clear hA hd o5 o15 o16 o17 o18 o19
      go_step
      exact hK _ _ (Kp.refl _ _) rfl
    · intro vs A' W hA hW hd K hK
      have f13 : vs 13 = .int .u32 ((v4 : Nat) : Int) := hd 13 (by kernel_rfl)
      have e131 : A'.tmps[131]?.getD undef = vs 13 := slot_in hA hap (Nat.lt_of_lt_of_eq (Nat.le_of_ble_eq_true rfl : 131 < 209) hsz.symm) (by kernel_rfl)
      rw [f13] at e131
      clear hA hd o5 o15 o16 o17 o18 o19
      go_step
      exact hK _ _ (Kp.refl _ _) (congrArg (Value.int .u32) (u32_not v4 h4))
    · intro vs A' W hA hW hd K hK
      have e17 : A'.tmps[17]?.getD undef = .int .u32 ((v6 : Nat) : Int) := slot_out hA hap (Nat.lt_of_lt_of_eq (Nat.le_of_ble_eq_true rfl : 17 < 209) hsz.symm) (by kernel_rfl) o17
      clear hA hd o5 o15 o16 o17 o18 o19
      go_step
      exact hK _ _ (Kp.refl _ _) rfl
    · intro vs A' W hA hW hd K hK
      have f14 : vs 14 = .int .u32 ((not32 v4 : Nat) : Int) := hd 14 (by kernel_rfl)
      have e132 : A'.tmps[132]?.getD undef = vs 14 := slot_in hA hap (Nat.lt_of_lt_of_eq (Nat.le_of_ble_eq_true rfl : 132 < 209) hsz.symm) (by kernel_rfl)
      rw [f14] at e132
      have f15 : vs 15 = .int .u32 ((v6 : Nat) : Int) := hd 15 (by kernel_rfl)
      have e133 : A'.tmps[133]?.getD undef = vs 15 := slot_in hA hap (Nat.lt_of_lt_of_eq (Nat.le_of_ble_eq_true rfl : 133 < 209) hsz.symm) (by kernel_rfl)
      rw [f15] at e133
      clear hA hd o5 o15 o16 o17 o18 o19
      go_step
      exact hK _ _ (Kp.refl _ _) (congrArg (Value.int .u32) (u32_and_nat _ _ (not32_lt' v4) h6))
    · intro vs A' W hA hW hd K hK
      have f12 : vs 12 = .int .u32 ((v4 &&& v5 : Nat) : Int) := hd 12 (by kernel_rfl)
      have e130 : A'.tmps[130]?.getD undef = vs 12 := slot_in hA hap (Nat.lt_of_lt_of_eq (Nat.le_of_ble_eq_true rfl : 130 < 209) hsz.symm) (by kernel_rfl)
      rw [f12] at e130
      have f16 : vs 16 = .int .u32 (((not32 v4) &&& v6 : Nat) : Int) := hd 16 (by kernel_rfl)
      have e134 : A'.tmps[134]?.getD undef = vs 16 := slot_in hA hap (Nat.lt_of_lt_of_eq (Nat.le_of_ble_eq_true rfl : 134 < 209) hsz.symm) (by kernel_rfl)
      rw [f16] at e134
      clear hA hd o5 o15 o16 o17 o18 o19
      go_step
      exact hK _ _ (Kp.refl _ _) (congrArg (Value.int .u32) (u32_x _ _ (and_lt h4) (and_lt (not32_lt' v4))))
    · intro vs A' W hA hW hd K hK
      have f9 : vs 9 = .int .u32 (((v7 + bS1 v4) % 4294967296 : Nat) : Int) := hd 9 (by kernel_rfl)
      have e127 : A'.tmps[127]?.getD undef = vs 9 := slot_in hA hap (Nat.lt_of_lt_of_eq (Nat.le_of_ble_eq_true rfl : 127 < 209) hsz.symm) (by kernel_rfl)
      rw [f9] at e127
      have f17 : vs 17 = .int .u32 ((cho v4 v5 v6 : Nat) : Int) := hd 17 (by kernel_rfl)
      have e135 : A'.tmps[135]?.getD undef = vs 17 := slot_in hA hap (Nat.lt_of_lt_of_eq (Nat.le_of_ble_eq_true rfl : 135 < 209) hsz.symm) (by kernel_rfl)
      rw [f17] at e135
      clear hA hd o5 o15 o16 o17 o18 o19
      go_step
      exact hK _ _ (Kp.refl _ _) (congrArg (Value.int .u32) (by first | omega | rfl))
    · intro vs A' W hA hW hd K hK
      have e19 : A'.tmps[19]?.getD undef = .int .i64 ((k : Nat) : Int) := slot_out hA hap (Nat.lt_of_lt_of_eq (Nat.le_of_ble_eq_true rfl : 19 < 209) hsz.symm) (by kernel_rfl) o19
      clear hA hd o5 o15 o16 o17 o18 o19
      go_step
      exact hK _ _ (Kp.refl _ _) rfl
    · intro vs A' W hA hW hd K hK
      have f19 : vs 19 = .int .i64 ((k : Nat) : Int) := hd 19 (by kernel_rfl)
      have e137 : A'.tmps[137]?.getD undef = vs 19 := slot_in hA hap (Nat.lt_of_lt_of_eq (Nat.le_of_ble_eq_true rfl : 137 < 209) hsz.symm) (by kernel_rfl)
      rw [f19] at e137
      clear hA hd o5 o15 o16 o17 o18 o19
      go_step
      refine (HK.out W).mono ?_
      rintro e w' ⟨rfl, kq⟩
      exact hK _ _ kq rfl
    · intro vs A' W hA hW hd K hK
      have f18 : vs 18 = .int .u32 (((v7 + bS1 v4 + cho v4 v5 v6) % 4294967296 : Nat) : Int) := hd 18 (by kernel_rfl)
      have e136 : A'.tmps[136]?.getD undef = vs 18 := slot_in hA hap (Nat.lt_of_lt_of_eq (Nat.le_of_ble_eq_true rfl : 136 < 209) hsz.symm) (by kernel_rfl)
      rw [f18] at e136
      have f20 : vs 20 = .int .u32 ((kk : Nat) : Int) := hd 20 (by kernel_rfl)
      have e138 : A'.tmps[138]?.getD undef = vs 20 := slot_in hA hap (Nat.lt_of_lt_of_eq (Nat.le_of_ble_eq_true rfl : 138 < 209) hsz.symm) (by kernel_rfl)
      rw [f20] at e138
      clear hA hd o5 o15 o16 o17 o18 o19
      go_step
      exact hK _ _ (Kp.refl _ _) (congrArg (Value.int .u32) (by first | omega | rfl))
    · intro vs A' W hA hW hd K hK
      have e19 : A'.tmps[19]?.getD undef = .int .i64 ((k : Nat) : Int) := slot_out hA hap (Nat.lt_of_lt_of_eq (Nat.le_of_ble_eq_true rfl : 19 < 209) hsz.symm) (by kernel_rfl) o19
      clear hA hd o5 o15 o16 o17 o18 o19
      go_step
      exact hK _ _ (Kp.refl _ _) rfl
    · intro vs A' W hA hW hd K hK
      have e5 : A'.tmps[5]?.getD undef = .pointer (some ⟨g5, 0, none⟩) := slot_out hA hap (Nat.lt_of_lt_of_eq (Nat.le_of_ble_eq_true rfl : 5 < 209) hsz.symm) (by kernel_rfl) o5
      have f22 : vs 22 = .int .i64 ((k : Nat) : Int) := hd 22 (by kernel_rfl)
      have e140 : A'.tmps[140]?.getD undef = vs 22 := slot_in hA hap (Nat.lt_of_lt_of_eq (Nat.le_of_ble_eq_true rfl : 140 < 209) hsz.symm) (by kernel_rfl)
      rw [f22] at e140
      clear hA hd o5 o15 o16 o17 o18 o19
      have h0 : 0 ≤ (k : Int) := by omega
      have h1 : (k : Int) < 64 := by omega
      go_step
      exact hK _ _ (Kp.refl _ _) rfl
    · intro vs A' W hA hW hd K hK
      have f23 : vs 23 = .pointer (some ⟨g5, k, none⟩) := hd 23 (by kernel_rfl)
      have e141 : A'.tmps[141]?.getD undef = vs 23 := slot_in hA hap (Nat.lt_of_lt_of_eq (Nat.le_of_ble_eq_true rfl : 141 < 209) hsz.symm) (by kernel_rfl)
      rw [f23] at e141
      clear hA hd o5 o15 o16 o17 o18 o19
      have c0 := HWt.out W ((Kp.refl [] _).drew.trans hW (by simp))
      go_step
      exact hK _ _ (Kp.refl _ _) rfl
    · intro vs A' W hA hW hd K hK
      have f21 : vs 21 = .int .u32 (((v7 + bS1 v4 + cho v4 v5 v6 + kk) % 4294967296 : Nat) : Int) := hd 21 (by kernel_rfl)
      have e139 : A'.tmps[139]?.getD undef = vs 21 := slot_in hA hap (Nat.lt_of_lt_of_eq (Nat.le_of_ble_eq_true rfl : 139 < 209) hsz.symm) (by kernel_rfl)
      rw [f21] at e139
      have f24 : vs 24 = .int .u32 ((wk : Nat) : Int) := hd 24 (by kernel_rfl)
      have e142 : A'.tmps[142]?.getD undef = vs 24 := slot_in hA hap (Nat.lt_of_lt_of_eq (Nat.le_of_ble_eq_true rfl : 142 < 209) hsz.symm) (by kernel_rfl)
      rw [f24] at e142
      clear hA hd o5 o15 o16 o17 o18 o19
      go_step
      exact hK _ _ (Kp.refl _ _) (congrArg (Value.int .u32) (by unfold rX; omega))
    · intro vs A' W hA hW hd K hK
      have f25 : vs 25 = .int .u32 ((rX v4 v5 v6 v7 kk wk : Nat) : Int) := hd 25 (by kernel_rfl)
      have e143 : A'.tmps[143]?.getD undef = vs 25 := slot_in hA hap (Nat.lt_of_lt_of_eq (Nat.le_of_ble_eq_true rfl : 143 < 209) hsz.symm) (by kernel_rfl)
      rw [f25] at e143
      clear hA hd o5 o15 o16 o17 o18 o19
      go_step
      exact hK _ _ (Kp.refl _ _) rfl
  · intro vs W hW hp
    rw [show putAll vs (opsOf 19 Tryd.f86) 0 a = putD [(118, vs 0), (119, vs 1), (120, vs 2), (121, vs 3), (122, vs 4), (123, vs 5), (124, vs 6), (125, vs 7), (126, vs 8), (127, vs 9), (128, vs 10), (129, vs 11), (130, vs 12), (131, vs 13), (132, vs 14), (133, vs 15), (134, vs 16), (135, vs 17), (136, vs 18), (137, vs 19), (138, vs 20), (139, vs 21), (140, vs 22), (141, vs 23), (142, vs 24), (143, vs 25), (20, vs 26)] a from by kernel_rfl]
    exact hend _ W (same_putD _ a) hW (sl_putD _ a 20 _ (by rw [show vs 26 = _ from hp 26 (Nat.le_of_ble_eq_true (by kernel_rfl))]; kernel_rfl))
-- END rblk19
end Go.Proofs.YtapboamjpilckaaDoor
