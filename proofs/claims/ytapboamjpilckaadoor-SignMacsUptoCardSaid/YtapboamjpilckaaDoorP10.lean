/- Several texts in one: SigAH, Open, TxOpen, SigAI, WireOpen, PtOpen, SgOpen, SgLaid, Post, PostKept. -/
import Derived.ProofKit
import Derived.OpenShut
import Derived.Deep.Slices
import Derived.JoinedCond
import Derived.Carry
import Derived.Lib.SmallJoins
import Derived.Test.YtapboamjpilckaaDoorCards
import Derived.Test.YtapboamjpilckaaDoorTie
import Derived.Deep.DeepHandedRow
import Derived.Deep.DeepWitnessRowRef
import Derived.Lib.LaidTab
import Derived.LaidMore
import Derived.Stop.LaidErr
import Derived.Test.YtapboamjpilckaaDoorRows
import Derived.Test.YtapboamjpilckaaDoorP9
/- SignMacs: its regions. -/
namespace Go.Proofs.YtapboamjpilckaaDoor
open Go.RowKit
theorem wpList_appH {P : Program} {ops : Array Oper} {rest : List Oper} {o : Oper} {a : Act} {w0 w : World} {Q : Exit → Act → World → Prop} {L : List Res} (hg : o.guard = none) (s x : Operand) (t e : TypeId)
    (ho : o.op = .call { callee := .builtin .append, args := #[s, x], argTypes := #[t, t] })
    {size bytes : Nat} {z : Value} (hI : (P.info? e).map (fun i => (i.zero, i.size, i.bytes)) = some (some z, size, bytes)) (ht : P.underlying t = some (.slice e)) (hzs : z.cells.size = size) (hsz : 0 < size)
    (v : Value) (n : Nat) (xs : List Value) (hs : a.eval s = v) (S : Held w0 w (rowR e size v n xs :: L))
    (y : Value) (m : Nat) (news : List Value) (hx : a.eval x = y) (hr : Rd w size y m news) (h1 : ∀ u ∈ news, u.oneCell' = true)
    (h63 : n + m ≤ maxLen) (hbytes : (n + m) * bytes ≤ 140737488355328)
    (h : ∀ v' w', Held w0 w' (rowR e size v' (n + m) (xs ++ news) :: L) → wpList P ops Q rest (a.put o.dst v') w') : wpList P ops Q (o :: rest) a w :=
  wpList_plain hg fun _ hK => op_app s x t e ho hI ht hzs hsz v n xs hs S y m news hx hr h1 h63 hbytes (fun v' w' S' => hK _ _ (h v' w' S'))
theorem wpList_appHN {P : Program} {ops : Array Oper} {rest : List Oper} {o : Oper} {a : Act} {w0 w : World} {Q : Exit → Act → World → Prop} {L : List Res} (hg : o.guard = none) (s x : Operand) (t e : TypeId)
    (ho : o.op = .call { callee := .builtin .append, args := #[s, x], argTypes := #[t, t] })
    {size bytes : Nat} {z : Value} (hI : (P.info? e).map (fun i => (i.zero, i.size, i.bytes)) = some (some z, size, bytes)) (ht : P.underlying t = some (.slice e)) (hzs : z.cells.size = size) (hsz : 0 < size)
    (hs : a.eval s = .slice none 0 0) (S : Held w0 w L)
    (y : Value) (m : Nat) (news : List Value) (hx : a.eval x = y) (hr : Rd w size y m news) (h1 : ∀ u ∈ news, u.oneCell' = true)
    (h63 : m ≤ maxLen) (hbytes : m * bytes ≤ 140737488355328)
    (h : ∀ v' w', Held w0 w' (rowR e size v' m news :: L) → wpList P ops Q rest (a.put o.dst v') w') : wpList P ops Q (o :: rest) a w :=
  wpList_plain hg fun _ hK => op_app_nil s x t e ho hI ht hzs hsz hs S y m news hx hr h1 h63 hbytes (fun v' w' S' => hK _ _ (h v' w' S'))
-- REG smc0
set_option maxRecDepth 100000 in
set_option maxHeartbeats 2000000 in
theorem smc_r0 {Q : Exit → Act → World → Prop} {a : Act} {w : World} (w0 : World) (la lb : List UInt8) (L : List Res) (S : Held w0 w L) (hsz : a.tmps.size = 128) (o2 : Sl a 2 (.agg (hashA la))) (o3 : Sl a 3 (.agg (hashA lb)))
    (hend : ∀ (a' : Act) (W : World), Same a a' [6, 7, 8] → Sl a' 8 (.bool false) → (∃ g6 g7, Sl a' 6 (.pointer (some ⟨g6, 0, none⟩)) ∧ Sl a' 7 (.pointer (some ⟨g7, 0, none⟩)) ∧ Held w0 W (blkR g7 25 (hashA lb) :: blkR g6 25 (hashA la) :: L)) → Q .normal a' W) : (Code.region 0 (opsOf 0 Tryd.f3).toArray false).wp Tryd.prog Q a w := by
  refine wp_region_lit (l := (opsOf 0 Tryd.f3)) ?_
  conv => arg 4; whnf
  unfold Sl at o2 o3
  have S1 := Lib.hid ((S.newBlk 25 (hashA la)).newBlkN 25 (hashA lb) (g := w.heap.size + 1) (by simp))
  generalize hashA la = ca at *
  generalize hashA lb = cb at *
  go_wp2_with fail
  try simp only [Act.put]
  exact hend _ _ (by repeat (first | (with_reducible refine same_set (by decide) ?_) | (with_reducible exact same_nil))) (by unfold Sl; first | (simp [hsz]; done) | (simp [hsz]; omega)) (⟨_, _, (by unfold Sl; simp [hsz]), (by unfold Sl; simp [hsz]), S1.out⟩)
-- END smc0
-- REG smc1
set_option maxRecDepth 100000 in
set_option maxHeartbeats 2000000 in
theorem smc_r1 {Q : Exit → Act → World → Prop} {a : Act} {w : World} (w0 : World) (As : Option Addr) (cs : Nat) (sec : List UInt8) (hsl : sec.length ≤ 1073741824) (hs : Rd w0 1 (.slice As sec.length cs) sec.length (bv sec)) (L : List Res) (S : Held w0 w L) (hsz : a.tmps.size = 128) (o0 : Sl a 0 (.slice As sec.length cs))
    (hend : ∀ (a' : Act) (W : World), Same a a' [15, 16, 17, 18, 9] → (∃ vk, Sl a' 9 vk ∧ Held w0 W (rowR 5 1 vk (sec.length + 1) (bv (sec ++ [165])) :: L)) → Q .normal a' W) : (Code.region 1 (opsOf 1 Tryd.f3).toArray false).wp Tryd.prog Q a w := by
  refine wp_region_lit (l := (opsOf 1 Tryd.f3)) ?_
  conv => arg 4; whnf
  unfold Sl at o0
  have S := Lib.hid S
  have HS := Lib.hid hs
  clear hs
  have hb1 : Hid (sec.length ≤ maxLen ∧ sec.length * 1 ≤ 140737488355328 ∧ sec.length + 1 ≤ maxLen ∧ (sec.length + 1) * 1 ≤ 140737488355328) := Lib.hid (by unfold maxLen; omega)
  clear hsl
  go_wp2_with (first
    | (at_builtin; refine wpList_appHN rfl (.const (.slice none 0 0)) (.tmp 15) 22 5 rfl Tryd.infoU8 Tryd.underlying22 rfl (by decide) rfl S.out (.slice As sec.length cs) sec.length (bv sec) (by simp [Act.eval, Act.put, hsz]) (rd_old HS.out S.out.k) (bv_one _) hb1.out.1 hb1.out.2.1 ?_; intro v1 w1 S1; have S2 := Lib.hid (S1.newBlk 5 #[.int .u8 165]); clear S1; have HR : Hid (Rd (w1.alloc (.cells #[.int .u8 165] 5)) 1 (.slice (some ⟨w1.heap.size, 0, none⟩) 1 1) 1 (bv [165])) := Lib.hid (rd_lit w1 5 #[.int .u8 165] [165] rfl (by decide)))
    | (at_builtin; refine wpList_appH rfl (.tmp 16) (.tmp 17) 22 5 rfl Tryd.infoU8 Tryd.underlying22 rfl (by decide) v1 sec.length (bv sec) (by simp [Act.eval, Act.put, hsz]) (S2.out.pull 1 rfl) (.slice (some ⟨w1.heap.size, 0, none⟩) 1 1) 1 (bv [165]) (by simp [Act.eval, Act.put, hsz]) HR.out (bv_one _) hb1.out.2.2.1 hb1.out.2.2.2 ?_; intro v2 w2 S3; have S3 := Lib.hid S3))
  try simp only [Act.put]
  exact hend _ _ (by repeat (first | (with_reducible refine same_set (by decide) ?_) | (with_reducible exact same_nil))) (⟨v2, (by unfold Sl; simp [hsz]), by rw [bv_append]; exact S3.out.some_of (List.Sublist.cons_cons _ (List.sublist_append_right [_] _))⟩)
-- END smc1
-- REG smc2
set_option maxRecDepth 100000 in
set_option maxHeartbeats 2000000 in
theorem smc_r2 {Q : Exit → Act → World → Prop} {a : Act} {w : World}  (hsz : a.tmps.size = 128) 
    (hend : ∀ (a' : Act), Same a a' [10] → Sl a' 10 (.slice none 0 0) → Q .normal a' (w)) : (Code.region 2 (opsOf 2 Tryd.f3).toArray false).wp Tryd.prog Q a w := by
  refine wp_region_lit (l := (opsOf 2 Tryd.f3)) ?_
  conv => arg 4; whnf
  go_wp2_with fail
  try simp only [Act.put]
  exact hend _ (by repeat (first | (with_reducible refine same_set (by decide) ?_) | (with_reducible exact same_nil))) (by unfold Sl; first | (simp [hsz]; done) | (simp [hsz]; omega))
-- END smc2
-- REG smc3
set_option maxRecDepth 100000 in
set_option maxHeartbeats 2000000 in
theorem smc_r3 {Q : Exit → Act → World → Prop} {a : Act} {w : World}  (hsz : a.tmps.size = 128) 
    (hend : ∀ (a' : Act), Same a a' [11] → Sl a' 11 (.slice none 0 0) → Q .normal a' (w)) : (Code.region 3 (opsOf 3 Tryd.f3).toArray false).wp Tryd.prog Q a w := by
  refine wp_region_lit (l := (opsOf 3 Tryd.f3)) ?_
  conv => arg 4; whnf
  go_wp2_with fail
  try simp only [Act.put]
  exact hend _ (by repeat (first | (with_reducible refine same_set (by decide) ?_) | (with_reducible exact same_nil))) (by unfold Sl; first | (simp [hsz]; done) | (simp [hsz]; omega))
-- END smc3
-- REG smc4
set_option maxRecDepth 100000 in
set_option maxHeartbeats 2000000 in
theorem smc_r4 {Q : Exit → Act → World → Prop} {a : Act} {w : World}  (hsz : a.tmps.size = 128) 
    (hend : ∀ (a' : Act), Same a a' [12] → Sl a' 12 (.int .i64 ((0 : Nat) : Int)) → Q .normal a' (w)) : (Code.region 4 (opsOf 4 Tryd.f3).toArray false).wp Tryd.prog Q a w := by
  refine wp_region_lit (l := (opsOf 4 Tryd.f3)) ?_
  conv => arg 4; whnf
  go_wp2_with fail
  try simp only [Act.put]
  exact hend _ (by repeat (first | (with_reducible refine same_set (by decide) ?_) | (with_reducible exact same_nil))) (by unfold Sl; first | (simp [hsz]; done) | (simp [hsz]; omega))
-- END smc4
-- REG smc10
set_option maxRecDepth 100000 in
set_option maxHeartbeats 2000000 in
theorem smc_r10 {Q : Exit → Act → World → Prop} {a : Act} {w : World}  (hsz : a.tmps.size = 128) 
    (hend : ∀ (a' : Act), Same a a' [14] → Sl a' 14 (.int .i64 ((0 : Nat) : Int)) → Q .normal a' (w)) : (Code.region 10 (opsOf 10 Tryd.f3).toArray false).wp Tryd.prog Q a w := by
  refine wp_region_lit (l := (opsOf 10 Tryd.f3)) ?_
  conv => arg 4; whnf
  go_wp2_with fail
  try simp only [Act.put]
  exact hend _ (by repeat (first | (with_reducible refine same_set (by decide) ?_) | (with_reducible exact same_nil))) (by unfold Sl; first | (simp [hsz]; done) | (simp [hsz]; omega))
-- END smc10
-- REG smc5
set_option maxRecDepth 100000 in
set_option maxHeartbeats 2000000 in
theorem smc_r5 {Q : Exit → Act → World → Prop} {a : Act} {w : World} (A : Option Addr) (k n c : Nat) (hsz : a.tmps.size = 128) (o1 : Sl a 1 (.slice A n c)) (o12 : Sl a 12 (.int .i64 ((k : Nat) : Int)))
    (hend : ∀ (a' : Act), Same a a' [19, 20, 21, 22] → Sl a' 22 (.bool (decide (k < n))) → Q .normal a' (w)) : (Code.region 5 (opsOf 5 Tryd.f3).toArray false).wp Tryd.prog Q a w := by
  refine wp_region_lit (l := (opsOf 5 Tryd.f3)) ?_
  conv => arg 4; whnf
  unfold Sl at o1 o12
  go_wp2_with fail
  try simp only [Act.put]
  exact hend _ (by repeat (first | (with_reducible refine same_set (by decide) ?_) | (with_reducible exact same_nil))) (by unfold Sl; first | (simp [hsz]; done) | (simp [hsz]; omega))
-- END smc5
-- REG smc11
set_option maxRecDepth 100000 in
set_option maxHeartbeats 2000000 in
theorem smc_r11 {Q : Exit → Act → World → Prop} {a : Act} {w : World} (A : Option Addr) (k n c : Nat) (hsz : a.tmps.size = 128) (o1 : Sl a 1 (.slice A n c)) (o14 : Sl a 14 (.int .i64 ((k : Nat) : Int)))
    (hend : ∀ (a' : Act), Same a a' [53, 54, 55, 56] → Sl a' 56 (.bool (decide (k < n))) → Q .normal a' (w)) : (Code.region 11 (opsOf 11 Tryd.f3).toArray false).wp Tryd.prog Q a w := by
  refine wp_region_lit (l := (opsOf 11 Tryd.f3)) ?_
  conv => arg 4; whnf
  unfold Sl at o1 o14
  go_wp2_with fail
  try simp only [Act.put]
  exact hend _ (by repeat (first | (with_reducible refine same_set (by decide) ?_) | (with_reducible exact same_nil))) (by unfold Sl; first | (simp [hsz]; done) | (simp [hsz]; omega))
-- END smc11
-- REG smc6
set_option maxRecDepth 100000 in
set_option maxHeartbeats 2000000 in
theorem smc_r6 {Q : Exit → Act → World → Prop} {a : Act} {w : World} (k : Nat) (hk : k < 9223372036854775807) (hsz : a.tmps.size = 128) (o12 : Sl a 12 (.int .i64 ((k : Nat) : Int)))
    (hend : ∀ (a' : Act), Same a a' [23, 24, 12] → Sl a' 12 (.int .i64 ((k + 1 : Nat) : Int)) → Q .normal a' (w)) : (Code.region 6 (opsOf 6 Tryd.f3).toArray false).wp Tryd.prog Q a w := by
  refine wp_region_lit (l := (opsOf 6 Tryd.f3)) ?_
  conv => arg 4; whnf
  unfold Sl at o12
  have hw : wrap64 ((k : Int) + 1) = (k : Int) + 1 := by unfold wrap64; omega
  go_wp2_with fail
  try simp only [Act.put]
  exact hend _ (by repeat (first | (with_reducible refine same_set (by decide) ?_) | (with_reducible exact same_nil))) (by unfold Sl; first | (simp [hsz]; done) | (simp [hsz]; omega))
-- END smc6
-- REG smc12
set_option maxRecDepth 100000 in
set_option maxHeartbeats 2000000 in
theorem smc_r12 {Q : Exit → Act → World → Prop} {a : Act} {w : World} (k : Nat) (hk : k < 9223372036854775807) (hsz : a.tmps.size = 128) (o14 : Sl a 14 (.int .i64 ((k : Nat) : Int)))
    (hend : ∀ (a' : Act), Same a a' [57, 58, 14] → Sl a' 14 (.int .i64 ((k + 1 : Nat) : Int)) → Q .normal a' (w)) : (Code.region 12 (opsOf 12 Tryd.f3).toArray false).wp Tryd.prog Q a w := by
  refine wp_region_lit (l := (opsOf 12 Tryd.f3)) ?_
  conv => arg 4; whnf
  unfold Sl at o14
  have hw : wrap64 ((k : Int) + 1) = (k : Int) + 1 := by unfold wrap64; omega
  go_wp2_with fail
  try simp only [Act.put]
  exact hend _ (by repeat (first | (with_reducible refine same_set (by decide) ?_) | (with_reducible exact same_nil))) (by unfold Sl; first | (simp [hsz]; done) | (simp [hsz]; omega))
-- END smc12
-- REG smc7
set_option maxRecDepth 100000 in
set_option maxHeartbeats 2000000 in
theorem smc_r7 {Q : Exit → Act → World → Prop} {a : Act} {w : World} (w0 : World) (ad : Addr) (n c k : Nat) (hk : k < n) (Ax : Option Addr) (cx : Nat) (x : List UInt8) (hxl : x.length ≤ 1073741824) (C1 : ∀ V, Kp [] w0 V → V.cell? (ad.add k) = some (.slice Ax x.length cx)) (RX : ∀ V, Kp [] w0 V → Rd V 1 (.slice Ax x.length cx) x.length (bv x)) (u3 : Value) (Bs : List Value) (hkl : k ≤ 1073741824) (L : List Res) (hsz : a.tmps.size = 128) (o1 : Sl a 1 (.slice (some ad) n c)) (o11 : Sl a 11 (u3)) (o12 : Sl a 12 (.int .i64 (k : Int)))
    (S0 : Held w0 w (rowR 22 1 u3 k Bs :: L))
    (hend : ∀ (a' : Act) (vs : Nat → Value) (gs : Nat → Unit) (W : World), Same a a' [25, 26, 27, 28, 29, 30, 31, 32, 33, 34, 35, 36, 37, 38, 39, 40, 11] → Sl a' 38 (vs 13) → (∃ A c, vs 13 = .slice A x.length c) → Sl a' 11 (vs 15) → Held w0 W (rowR 5 1 (vs 6) 1 (bv [166]) :: rowR 5 1 (grow1 (vs 13)) (x.length + 1) (bv (x ++ [166])) :: rowR 22 1 (vs 14) 1 [vs 13] :: rowR 22 1 (vs 15) (k + 1) (Bs ++ [vs 13]) :: L) → Q .normal a' W) : (Code.region 7 (opsOf 7 Tryd.f3).toArray true).wp Tryd.prog Q a w := by
  have hap : apartB (opsOf 7 Tryd.f3) = true := by kernel_rfl
  refine wp_region_sep (Γ := Unit) (l := (opsOf 7 Tryd.f3)) 2 [0, 1, 2, 3, 4, 6, 8, 9, 10, 11, 12, 13, 14, 15, 16, 18]
    (fun i vs gs => match i with | 0 => vs 0 = u3 | 1 => vs 1 = .slice (some ad) n c | 2 => vs 2 = .int .i64 (k : Int) | 3 => vs 3 = .pointer (some (ad.add k)) | 4 => vs 4 = .slice Ax x.length cx | 8 => vs 8 = .slice (some ad) n c | 9 => vs 9 = .int .i64 (k : Int) | 10 => vs 10 = .pointer (some (ad.add k)) | 11 => vs 11 = .slice Ax x.length cx | 12 => vs 12 = .int .i64 (x.length : Int) | 13 => ∃ A c, vs 13 = .slice A x.length c | 16 => vs 16 = vs 15 | _ => True)
    (fun i vs gs => match i with | 5 => [rowR 5 1 (vs 5) x.length (bv x)] | 6 => [rowR 5 1 (vs 6) 1 (bv [166])] | 7 => [rowR 5 1 (vs 7) (x.length + 1) (bv (x ++ [166]))] | 13 => [rowR 5 1 (grow1 (vs 13)) (x.length + 1) (bv (x ++ [166]))] | 14 => [rowR 22 1 (vs 14) 1 [vs 13]] | 15 => [rowR 22 1 (vs 15) (k + 1) (Bs ++ [vs 13])] | 17 => [rowR 22 1 u3 k Bs] | 18 => L | _ => [])
    (fun i => match i with | 7 => [5] | 13 => [7] | 15 => [17] | _ => []) (fun i => match i with | 7 => [6] | 15 => [14] | _ => []) S0 (by kernel_rfl) hap (by kernel_rfl) (by kernel_rfl) (fun i => match i with | 0 => [0] | 1 => [1] | 2 => [2] | 3 => [3] | 4 => [4] | 5 => [5] | 6 => [6] | 7 => [7] | 8 => [8] | 9 => [9] | 10 => [10] | 11 => [11] | 12 => [12] | 13 => [13] | 14 => [13, 14] | 15 => [13, 15] | 16 => [15, 16] | _ => []) (by kernel_rfl) ?_ (by kernel_rfl) ?_ ?_ ?_
  · intro s vs vs' gs gs' h
    iterate 19 (rcases s with _ | s; · (first | exact ⟨rfl, id⟩ | (simp only [List.mem_cons, List.not_mem_nil, or_false, forall_eq_or_imp, forall_eq] at h; simp [h])))
    exact ⟨rfl, id⟩
  · simp only [List.range, List.range.loop, List.flatMap_cons, List.flatMap_nil, List.append_nil]
    exact List.Perm.refl _
  · clear S0 hend
    refine ⟨?_, ?_, ?_, ?_, ?_, ?_, ?_, ?_, ?_, ?_, ?_, ?_, ?_, ?_, ?_, ?_, ?_, trivial⟩
    · intro vs gs A' W LF hA S hR hd hu K hK
      replace hK := hK default
      have e11 : A'.tmps[11]?.getD undef = vs 16 := slot_in hA hap (Nat.lt_of_lt_of_eq (Nat.le_of_ble_eq_true rfl : 11 < 128) hsz.symm) (by kernel_rfl)
      rw [show vs 16 = u3 from (hu 16 _ rfl (by kernel_rfl)).trans (o11.eval (Nat.lt_of_lt_of_eq (Nat.le_of_ble_eq_true rfl : 11 < 128) hsz.symm))] at e11
      clear hA o1 o11 o12
      go_step
      exact hK _ _ S rfl
    · intro vs gs A' W LF hA S hR hd hu K hK
      replace hK := hK default
      have e1 : A'.tmps[1]?.getD undef = .slice (some ad) n c := slot_out hA hap (Nat.lt_of_lt_of_eq (Nat.le_of_ble_eq_true rfl : 1 < 128) hsz.symm) (by kernel_rfl) o1
      clear hA o1 o11 o12
      go_step
      exact hK _ _ S rfl
    · intro vs gs A' W LF hA S hR hd hu K hK
      replace hK := hK default
      have e12 : A'.tmps[12]?.getD undef = .int .i64 (k : Int) := slot_out hA hap (Nat.lt_of_lt_of_eq (Nat.le_of_ble_eq_true rfl : 12 < 128) hsz.symm) (by kernel_rfl) o12
      clear hA o1 o11 o12
      go_step
      exact hK _ _ S rfl
    · intro vs gs A' W LF hA S hR hd hu K hK
      replace hK := hK default
      have f1 : vs 1 = .slice (some ad) n c := hd 1 (by kernel_rfl)
      have e26 : A'.tmps[26]?.getD undef = vs 1 := slot_in hA hap (Nat.lt_of_lt_of_eq (Nat.le_of_ble_eq_true rfl : 26 < 128) hsz.symm) (by kernel_rfl)
      rw [f1] at e26
      have f2 : vs 2 = .int .i64 (k : Int) := hd 2 (by kernel_rfl)
      have e27 : A'.tmps[27]?.getD undef = vs 2 := slot_in hA hap (Nat.lt_of_lt_of_eq (Nat.le_of_ble_eq_true rfl : 27 < 128) hsz.symm) (by kernel_rfl)
      rw [f2] at e27
      clear hA o1 o11 o12
      have h0 : 0 ≤ (k : Int) := by omega
      have h1 : (k : Int) < (n : Int) := by omega
      go_step
      exact hK _ _ S rfl
    · intro vs gs A' W LF hA S hR hd hu K hK
      replace hK := hK default
      have f3 : vs 3 = .pointer (some (ad.add k)) := hd 3 (by kernel_rfl)
      have e28 : A'.tmps[28]?.getD undef = vs 3 := slot_in hA hap (Nat.lt_of_lt_of_eq (Nat.le_of_ble_eq_true rfl : 28 < 128) hsz.symm) (by kernel_rfl)
      rw [f3] at e28
      clear hA o1 o11 o12
      have q := C1 _ S.k
      go_step
      exact hK _ _ S rfl
    · intro vs gs A' W LF hA S hR hd hu K hK
      replace hK := hK default
      have f4 : vs 4 = .slice Ax x.length cx := hd 4 (by kernel_rfl)
      have e29 : A'.tmps[29]?.getD undef = vs 4 := slot_in hA hap (Nat.lt_of_lt_of_eq (Nat.le_of_ble_eq_true rfl : 29 < 128) hsz.symm) (by kernel_rfl)
      rw [f4] at e29
      clear hA o1 o11 o12
      exact op_app_nil (.const (.slice none 0 0)) (.tmp 29) 22 5 rfl Tryd.infoU8 Tryd.underlying22 rfl (by decide) rfl S (.slice Ax x.length cx) x.length (bv x) (by simpa [Act.eval] using e29) (RX _ S.k) (bv_one _) (by unfold maxLen; omega) (by omega) (fun v' w' S' => hK v' w' S' trivial)
    · intro vs gs A' W LF hA S hR hd hu K hK
      replace hK := hK default
      clear hA o1 o11 o12
      go_step
      exact hK _ _ (S.rownew (ow_new W 5 1 1 #[.int .u8 166] rfl (by decide)) ((Kp.refl [] W).alloc _) (fun g hg => Nat.le_of_eq (Option.some.inj hg))) trivial
    · intro vs gs A' W LF hA S hR hd hu K hK
      replace hK := hK default
      have e30 : A'.tmps[30]?.getD undef = vs 5 := slot_in hA hap (Nat.lt_of_lt_of_eq (Nat.le_of_ble_eq_true rfl : 30 < 128) hsz.symm) (by kernel_rfl)
      have e31 : A'.tmps[31]?.getD undef = vs 6 := slot_in hA hap (Nat.lt_of_lt_of_eq (Nat.le_of_ble_eq_true rfl : 31 < 128) hsz.symm) (by kernel_rfl)
      clear hA o1 o11 o12
      refine op_app (.tmp 30) (.tmp 31) 22 5 rfl Tryd.infoU8 Tryd.underlying22 rfl (by decide) (vs 5) x.length (bv x) (by simpa [Act.eval] using e30) S (vs 6) 1 (bv [166]) (by simpa [Act.eval] using e31) (rd_of_row (e := 5) S (List.mem_cons_of_mem _ (hR 6 (List.mem_singleton.2 rfl) _ (List.mem_singleton.2 rfl)))) (bv_one _) (by unfold maxLen; omega) (by omega) (fun v' w' S' => hK v' w' (by rw [← bv_append] at S'; exact S') trivial)
    · intro vs gs A' W LF hA S hR hd hu K hK
      replace hK := hK default
      have e1 : A'.tmps[1]?.getD undef = .slice (some ad) n c := slot_out hA hap (Nat.lt_of_lt_of_eq (Nat.le_of_ble_eq_true rfl : 1 < 128) hsz.symm) (by kernel_rfl) o1
      clear hA o1 o11 o12
      go_step
      exact hK _ _ S rfl
    · intro vs gs A' W LF hA S hR hd hu K hK
      replace hK := hK default
      have e12 : A'.tmps[12]?.getD undef = .int .i64 (k : Int) := slot_out hA hap (Nat.lt_of_lt_of_eq (Nat.le_of_ble_eq_true rfl : 12 < 128) hsz.symm) (by kernel_rfl) o12
      clear hA o1 o11 o12
      go_step
      exact hK _ _ S rfl
    · intro vs gs A' W LF hA S hR hd hu K hK
      replace hK := hK default
      have f8 : vs 8 = .slice (some ad) n c := hd 8 (by kernel_rfl)
      have e33 : A'.tmps[33]?.getD undef = vs 8 := slot_in hA hap (Nat.lt_of_lt_of_eq (Nat.le_of_ble_eq_true rfl : 33 < 128) hsz.symm) (by kernel_rfl)
      rw [f8] at e33
      have f9 : vs 9 = .int .i64 (k : Int) := hd 9 (by kernel_rfl)
      have e34 : A'.tmps[34]?.getD undef = vs 9 := slot_in hA hap (Nat.lt_of_lt_of_eq (Nat.le_of_ble_eq_true rfl : 34 < 128) hsz.symm) (by kernel_rfl)
      rw [f9] at e34
      clear hA o1 o11 o12
      have h0 : 0 ≤ (k : Int) := by omega
      have h1 : (k : Int) < (n : Int) := by omega
      go_step
      exact hK _ _ S rfl
    · intro vs gs A' W LF hA S hR hd hu K hK
      replace hK := hK default
      have f10 : vs 10 = .pointer (some (ad.add k)) := hd 10 (by kernel_rfl)
      have e35 : A'.tmps[35]?.getD undef = vs 10 := slot_in hA hap (Nat.lt_of_lt_of_eq (Nat.le_of_ble_eq_true rfl : 35 < 128) hsz.symm) (by kernel_rfl)
      rw [f10] at e35
      clear hA o1 o11 o12
      have q := C1 _ S.k
      go_step
      exact hK _ _ S rfl
    · intro vs gs A' W LF hA S hR hd hu K hK
      replace hK := hK default
      have f11 : vs 11 = .slice Ax x.length cx := hd 11 (by kernel_rfl)
      have e36 : A'.tmps[36]?.getD undef = vs 11 := slot_in hA hap (Nat.lt_of_lt_of_eq (Nat.le_of_ble_eq_true rfl : 36 < 128) hsz.symm) (by kernel_rfl)
      rw [f11] at e36
      clear hA o1 o11 o12
      go_step
      exact hK _ _ S rfl
    · intro vs gs A' W LF hA S hR hd hu K hK
      replace hK := hK default
      have e32 : A'.tmps[32]?.getD undef = vs 7 := slot_in hA hap (Nat.lt_of_lt_of_eq (Nat.le_of_ble_eq_true rfl : 32 < 128) hsz.symm) (by kernel_rfl)
      have f12 : vs 12 = .int .i64 (x.length : Int) := hd 12 (by kernel_rfl)
      have e37 : A'.tmps[37]?.getD undef = vs 12 := slot_in hA hap (Nat.lt_of_lt_of_eq (Nat.le_of_ble_eq_true rfl : 37 < 128) hsz.symm) (by kernel_rfl)
      rw [f12] at e37
      clear hA o1 o11 o12
      have S1 : Held w0 W (rowR 5 1 (vs 7) (x.length + 1) (bv (x ++ [166])) :: LF) := S
      obtain ⟨A7, c7, h7, h7a, h7b⟩ := ow_form (S1.at_ (l1 := []))
      clear S1
      rw [h7] at e32
      have q := fun w => cut_u8 A7 (x.length + 1) c7 x.length (x.length : Int) rfl (by omega) h7a w
      go_step
      refine hK _ _ ?_ ⟨A7, c7, rfl⟩
      have S2 : Held w0 W (rowR 5 1 (vs 7) (x.length + 1) (bv (x ++ [166])) :: LF) := S
      rw [h7] at S2
      exact S2
    · intro vs gs A' W LF hA S hR hd hu K hK
      replace hK := hK default
      have f13 : ∃ A c, vs 13 = .slice A x.length c := hd 13 (by kernel_rfl)
      have e38 : A'.tmps[38]?.getD undef = vs 13 := slot_in hA hap (Nat.lt_of_lt_of_eq (Nat.le_of_ble_eq_true rfl : 38 < 128) hsz.symm) (by kernel_rfl)
      clear hA o1 o11 o12
      obtain ⟨A1, c1, hq⟩ := f13
      rw [hq] at e38
      go_step
      have S2 := S.rownew (ow_new W 22 1 1 #[.slice A1 x.length c1] rfl (by decide)) ((Kp.refl [] W).alloc _) (fun g hg => Nat.le_of_eq (Option.some.inj hg))
      rw [← hq] at S2 ⊢
      exact hK _ _ S2 trivial
    · intro vs gs A' W LF hA S hR hd hu K hK
      replace hK := hK default
      have f0 : vs 0 = u3 := hd 0 (by kernel_rfl)
      have e25 : A'.tmps[25]?.getD undef = vs 0 := slot_in hA hap (Nat.lt_of_lt_of_eq (Nat.le_of_ble_eq_true rfl : 25 < 128) hsz.symm) (by kernel_rfl)
      rw [f0] at e25
      have e39 : A'.tmps[39]?.getD undef = vs 14 := slot_in hA hap (Nat.lt_of_lt_of_eq (Nat.le_of_ble_eq_true rfl : 39 < 128) hsz.symm) (by kernel_rfl)
      clear hA o1 o11 o12
      have hone : (vs 13).oneCell' = true := by obtain ⟨A, c, h⟩ := (hd 13 (by kernel_rfl) : ∃ A c, vs 13 = .slice A x.length c); rw [h]; rfl
      exact op_app (.tmp 25) (.tmp 39) 23 22 rfl Tryd.infoBytes Tryd.underlying23 rfl (by decide) u3 k Bs (by simpa [Act.eval] using e25) S (vs 14) 1 [vs 13] (by simpa [Act.eval] using e39) (rd_of_row (e := 22) S (List.mem_cons_of_mem _ (hR 14 (List.mem_singleton.2 rfl) _ (List.mem_singleton.2 rfl)))) (by simpa using hone) (by unfold maxLen; omega) (by omega) (fun v' w' S' => hK v' w' S' trivial)
    · intro vs gs A' W LF hA S hR hd hu K hK
      replace hK := hK default
      have e40 : A'.tmps[40]?.getD undef = vs 15 := slot_in hA hap (Nat.lt_of_lt_of_eq (Nat.le_of_ble_eq_true rfl : 40 < 128) hsz.symm) (by kernel_rfl)
      clear hA o1 o11 o12
      go_step
      exact hK _ _ S rfl
  · intro vs gs W S hp
    have S : Held w0 W (rowR 5 1 (vs 6) 1 (bv [166]) :: rowR 5 1 (grow1 (vs 13)) (x.length + 1) (bv (x ++ [166])) :: rowR 22 1 (vs 14) 1 [vs 13] :: rowR 22 1 (vs 15) (k + 1) (Bs ++ [vs 13]) :: L) := by simpa only [List.flatMap_cons, List.flatMap_nil, List.append_nil, List.nil_append, List.cons_append, List.append_assoc] using S
    rw [show putAll vs (opsOf 7 Tryd.f3) 0 a = putD [(25, vs 0), (26, vs 1), (27, vs 2), (28, vs 3), (29, vs 4), (30, vs 5), (31, vs 6), (32, vs 7), (33, vs 8), (34, vs 9), (35, vs 10), (36, vs 11), (37, vs 12), (38, vs 13), (39, vs 14), (40, vs 15), (11, vs 16)] a from by kernel_rfl]
    exact hend _ vs gs W (same_putD _ a) (sl_putD _ a 38 _ (by kernel_rfl)) (hp 13 (Nat.le_of_ble_eq_true (by kernel_rfl))) (sl_putD _ a 11 _ (by rw [show vs 16 = _ from hp 16 (Nat.le_of_ble_eq_true (by kernel_rfl))]; kernel_rfl)) S
-- END smc7
-- REG smc8
set_option maxRecDepth 100000 in
set_option maxHeartbeats 2000000 in
theorem smc_r8 {Q : Exit → Act → World → Prop} {a : Act} {w : World} (w0 : World) (ad : Addr) (n c k : Nat) (hk : k < n) (Ax : Option Addr) (cx : Nat) (x : List UInt8) (C1 : ∀ V, Kp [] w0 V → V.cell? (ad.add k) = some (.slice Ax x.length cx)) (RX : ∀ V, Kp [] w0 V → Rd V 1 (.slice Ax x.length cx) x.length (bv x)) (u : Value) (al : List UInt8) (hal : al.length + x.length ≤ 1073741824) (L : List Res) (S : Held w0 w (rowR 5 1 u al.length (bv al) :: L)) (hsz : a.tmps.size = 128) (o1 : Sl a 1 (.slice (some ad) n c)) (o10 : Sl a 10 (u)) (o12 : Sl a 12 (.int .i64 (k : Int)))
    (hend : ∀ (a' : Act) (W : World), Same a a' [41, 42, 43, 44, 45, 46, 10] → (∃ v2, Sl a' 10 v2 ∧ Held w0 W (rowR 5 1 v2 (al.length + x.length) (bv (al ++ x)) :: L)) → Q .normal a' W) : (Code.region 8 (opsOf 8 Tryd.f3).toArray false).wp Tryd.prog Q a w := by
  refine wp_region_lit (l := (opsOf 8 Tryd.f3)) ?_
  conv => arg 4; whnf
  unfold Sl at o1 o10 o12
  have h0 : 0 ≤ (k : Int) := by omega
  have h1 : (k : Int) < (n : Int) := by omega
  have hc := C1 _ S.k
  have S := Lib.hid S
  have HX := Lib.hid (RX _ S.out.k)
  clear C1 RX
  have hb1 : Hid (al.length + x.length ≤ maxLen ∧ (al.length + x.length) * 1 ≤ 140737488355328) := Lib.hid (by unfold maxLen; omega)
  clear hal
  go_wp2_with (at_builtin; refine wpList_appH rfl (.tmp 41) (.tmp 45) 22 5 rfl Tryd.infoU8 Tryd.underlying22 rfl (by decide) u al.length (bv al) (by simp [Act.eval, Act.put, hsz, o10]) S.out (.slice Ax x.length cx) x.length (bv x) (by simp [Act.eval, Act.put, hsz]) HX.out (bv_one _) hb1.out.1 hb1.out.2 ?_; intro v2 w2 S3; have S3 := Lib.hid S3)
  try simp only [Act.put]
  exact hend _ _ (by repeat (first | (with_reducible refine same_set (by decide) ?_) | (with_reducible exact same_nil))) (⟨v2, (by unfold Sl; simp [hsz]), by rw [bv_append]; exact S3.out⟩)
-- END smc8
-- REG smc9
set_option maxRecDepth 100000 in
set_option maxHeartbeats 2000000 in
theorem smc_r9 {Q : Exit → Act → World → Prop} {a : Act} {w : World} (gk ck : Nat) (As : Option Addr) (cs : Nat) (sec : List UInt8) (hsl : sec.length ≤ 1073741824) (hck : sec.length + 1 ≤ ck) (hk : Rd w 1 (.slice (some ⟨gk, 0, none⟩) sec.length ck) sec.length (bv sec)) (vm : Value) (us : List Value) (xs : List (List UInt8)) (hx : TxF w vm us xs) (hxl : xs.flatten.length ≤ 1073741824) (hsz : a.tmps.size = 128) (o0 : Sl a 0 (.slice As sec.length cs)) (o9 : Sl a 9 (.slice (some ⟨gk, 0, none⟩) (sec.length + 1) ck)) (o11 : Sl a 11 (vm))
    (hend : ∀ (a' : Act) (W : World), Same a a' [47, 48, 49, 50, 51, 52, 13] → (∃ gh, Sl a' 13 (.pointer (some ⟨gh, 0, none⟩)) ∧ Held w W [blkR gh 25 (hashA (macF sec xs.flatten))]) → Q .normal a' W) : (Code.region 9 (opsOf 9 Tryd.f3).toArray false).wp Tryd.prog Q a w := by
  refine wp_region_lit (l := (opsOf 9 Tryd.f3)) ?_
  conv => arg 4; whnf
  unfold Sl at o0 o9 o11
  obtain ⟨Am, cm, rfl⟩ := rd_form hx.1
  have HK := Lib.hid hk
  have HX := Lib.hid hx
  have Hl : Hid (sec.length < 1152921504606846976 ∧ 64 + xs.flatten.length < 1152921504606846976) := Lib.hid (by omega)
  have q := fun w => cut_u8 (some ⟨gk, 0, none⟩) (sec.length + 1) ck sec.length (sec.length : Int) rfl (by omega) hck w
  clear hk hx hsl hxl
  have HO := Lib.hid (hashA_one (macF sec xs.flatten))
  have hz2 : Hid ((hashA (macF sec xs.flatten)).size = 32) := Lib.hid (by rw [hashA_size, macF_length])
  obtain ⟨ch, hch⟩ : ∃ ch, Hid (hashA (macF sec xs.flatten) = ch) := ⟨_, Lib.hid rfl⟩
  rw [hch.out] at hend HO hz2
  go_wp2_with fail
  refine (mac_any _ [] (some ⟨gk, 0, none⟩) ck sec Hl.out.1 _ us xs Hl.out.2 _ (Held.start _) (fun V SV => rd_old HK.out SV.k) (fun V SV => HX.out.kp0 SV.k)).mono ?_
  rintro e w4 ⟨rfl, S⟩
  have S1 := Lib.hid ((Held.of_kp S.k).newBlk 25 (hashA zH))
  clear S q
  rw [hch.out]
  go_wp2_with (refine wpList_store_blk rfl 25 (.tmp 13) (.tmp 52) rfl w4.heap.size (by simp [Act.eval, Act.put, hsz]) ch (by simp [Act.eval, Act.put, hsz]) 25 _ (S1.out.at_ (l1 := [])) (by rw [hz2.out]; exact Tryd.infoHashP) (by rw [hz2.out]; rfl) HO.out ?_; intro w7 b7 k7; have S7 := Lib.hid (Held.setBlk (l1 := []) S1.out b7 k7); clear b7 k7)
  try simp only [Act.put]
  exact hend _ _ (by repeat (first | (with_reducible refine same_set (by decide) ?_) | (with_reducible exact same_nil))) (⟨w4.heap.size, (by unfold Sl; simp [hsz]), S7.out⟩)
-- END smc9
-- REG smc13
set_option maxRecDepth 100000 in
set_option maxHeartbeats 2000000 in
theorem smc_r13 {Q : Exit → Act → World → Prop} {a : Act} {w : World} (am ad : Addr) (n cm c k : Nat) (hk : k < n) (Ax : Option Addr) (cx gb cb : Nat) (x : List UInt8) (hxl : x.length ≤ 1073741824) (hcb : x.length + 1 ≤ cb) (CM : ∀ V, Kp [] w.drew V → V.cell? (am.add k) = some (.slice (some ⟨gb, 0, none⟩) x.length cb)) (CX : ∀ V, Kp [] w.drew V → V.cell? (ad.add k) = some (.slice Ax x.length cx)) (RX : ∀ V, Kp [] w.drew V → Rd V 1 (.slice Ax x.length cx) x.length (bv x)) (RB : ∀ V, Kp [] w.drew V → Rd V 1 (.slice (some ⟨gb, 0, none⟩) x.length cb) x.length (bv x)) (CB : ∀ V, Kp [] w.drew V → V.cell? ⟨gb, x.length, none⟩ = some (.int .u8 166)) (hsz : a.tmps.size = 128) (o1 : Sl a 1 (.slice (some ad) n c)) (o11 : Sl a 11 (.slice (some am) n cm)) (o14 : Sl a 14 (.int .i64 ((k : Nat) : Int)))
    (hend : ∀ (a' : Act) (W : World), Same a a' [59, 60, 61, 62, 63, 64, 65, 66, 67, 68, 69, 70, 71, 72, 73, 74, 75, 76, 77, 78, 79, 80, 81, 82, 83, 84, 85, 86, 87, 88, 89] → Kp [] w.drew W → Sl a' 89 (.bool false) → Q .normal a' W) : (Code.region 13 (opsOf 13 Tryd.f3).toArray true).wp Tryd.prog Q a w := by
  have hap : apartB (opsOf 13 Tryd.f3) = true := by kernel_rfl
  refine wp_region_invG (l := (opsOf 13 Tryd.f3)) (fun i v W => match i with | 0 => v = .slice (some am) n cm | 1 => v = .int .i64 ((k : Nat) : Int) | 2 => v = .pointer (some (am.add k)) | 3 => v = .slice (some ⟨gb, 0, none⟩) x.length cb | 4 => v = .slice (some ad) n c | 5 => v = .int .i64 ((k : Nat) : Int) | 6 => v = .pointer (some (ad.add k)) | 7 => v = .slice Ax x.length cx | 8 => v = .bool true | 9 => v = .bool false | 10 => v = .bool false | 11 => v = .slice (some am) n cm | 12 => v = .int .i64 ((k : Nat) : Int) | 13 => v = .pointer (some (am.add k)) | 14 => v = .slice (some ⟨gb, 0, none⟩) x.length cb | 15 => v = .slice (some ad) n c | 16 => v = .int .i64 ((k : Nat) : Int) | 17 => v = .pointer (some (ad.add k)) | 18 => v = .slice Ax x.length cx | 19 => v = .int .i64 (x.length : Int) | 20 => v = .int .i64 ((x.length : Int) + 1) | 21 => v = .slice (some ⟨gb, 0, none⟩) (x.length + 1) cb | 22 => v = .slice (some ad) n c | 23 => v = .int .i64 ((k : Nat) : Int) | 24 => v = .pointer (some (ad.add k)) | 25 => v = .slice Ax x.length cx | 26 => v = .int .i64 (x.length : Int) | 27 => v = .pointer (some ⟨gb, x.length, none⟩) | 28 => v = .int .u8 166 | 29 => v = .bool false | 30 => v = .bool false | _ => True) (by kernel_rfl) hap (by kernel_rfl) ?_ ?_ ?_
  · intro i v W W' h _
    iterate 31 (rcases i with _ | i; · exact h)
    exact h
  · refine ⟨?_, ?_, ?_, ?_, ?_, ?_, ?_, ?_, ?_, ?_, ?_, ?_, ?_, ?_, ?_, ?_, ?_, ?_, ?_, ?_, ?_, ?_, ?_, ?_, ?_, ?_, ?_, ?_, ?_, ?_, ?_, trivial⟩
    · intro vs A' W hA hW hd K hK
      refine wpOp_free _ rfl rfl ?_
      conv => arg 2; whnf
      have e11 : A'.tmps[11]?.getD undef = .slice (some am) n cm := slot_out hA hap (Nat.lt_of_lt_of_eq (Nat.le_of_ble_eq_true rfl : 11 < 128) hsz.symm) (by kernel_rfl) o11
      clear hA hd o1 o11 o14
      go_step
      exact hK _ _ (Kp.refl _ _) rfl
    · intro vs A' W hA hW hd K hK
      refine wpOp_free _ rfl rfl ?_
      conv => arg 2; whnf
      have e14 : A'.tmps[14]?.getD undef = .int .i64 ((k : Nat) : Int) := slot_out hA hap (Nat.lt_of_lt_of_eq (Nat.le_of_ble_eq_true rfl : 14 < 128) hsz.symm) (by kernel_rfl) o14
      clear hA hd o1 o11 o14
      go_step
      exact hK _ _ (Kp.refl _ _) rfl
    · intro vs A' W hA hW hd K hK
      refine wpOp_free _ rfl rfl ?_
      conv => arg 2; whnf
      have f0 : vs 0 = .slice (some am) n cm := hd 0 (by kernel_rfl)
      have e59 : A'.tmps[59]?.getD undef = vs 0 := slot_in hA hap (Nat.lt_of_lt_of_eq (Nat.le_of_ble_eq_true rfl : 59 < 128) hsz.symm) (by kernel_rfl)
      rw [f0] at e59
      have f1 : vs 1 = .int .i64 ((k : Nat) : Int) := hd 1 (by kernel_rfl)
      have e60 : A'.tmps[60]?.getD undef = vs 1 := slot_in hA hap (Nat.lt_of_lt_of_eq (Nat.le_of_ble_eq_true rfl : 60 < 128) hsz.symm) (by kernel_rfl)
      rw [f1] at e60
      clear hA hd o1 o11 o14
      have h0 : 0 ≤ (k : Int) := by omega
      have h1 : (k : Int) < (n : Int) := by omega
      go_step
      exact hK _ _ (Kp.refl _ _) rfl
    · intro vs A' W hA hW hd K hK
      refine wpOp_free _ rfl rfl ?_
      conv => arg 2; whnf
      have f2 : vs 2 = .pointer (some (am.add k)) := hd 2 (by kernel_rfl)
      have e61 : A'.tmps[61]?.getD undef = vs 2 := slot_in hA hap (Nat.lt_of_lt_of_eq (Nat.le_of_ble_eq_true rfl : 61 < 128) hsz.symm) (by kernel_rfl)
      rw [f2] at e61
      clear hA hd o1 o11 o14
      have c0 := CM _ hW
      go_step
      exact hK _ _ (Kp.refl _ _) rfl
    · intro vs A' W hA hW hd K hK
      refine wpOp_free _ rfl rfl ?_
      conv => arg 2; whnf
      have e1 : A'.tmps[1]?.getD undef = .slice (some ad) n c := slot_out hA hap (Nat.lt_of_lt_of_eq (Nat.le_of_ble_eq_true rfl : 1 < 128) hsz.symm) (by kernel_rfl) o1
      clear hA hd o1 o11 o14
      go_step
      exact hK _ _ (Kp.refl _ _) rfl
    · intro vs A' W hA hW hd K hK
      refine wpOp_free _ rfl rfl ?_
      conv => arg 2; whnf
      have e14 : A'.tmps[14]?.getD undef = .int .i64 ((k : Nat) : Int) := slot_out hA hap (Nat.lt_of_lt_of_eq (Nat.le_of_ble_eq_true rfl : 14 < 128) hsz.symm) (by kernel_rfl) o14
      clear hA hd o1 o11 o14
      go_step
      exact hK _ _ (Kp.refl _ _) rfl
    · intro vs A' W hA hW hd K hK
      refine wpOp_free _ rfl rfl ?_
      conv => arg 2; whnf
      have f4 : vs 4 = .slice (some ad) n c := hd 4 (by kernel_rfl)
      have e63 : A'.tmps[63]?.getD undef = vs 4 := slot_in hA hap (Nat.lt_of_lt_of_eq (Nat.le_of_ble_eq_true rfl : 63 < 128) hsz.symm) (by kernel_rfl)
      rw [f4] at e63
      have f5 : vs 5 = .int .i64 ((k : Nat) : Int) := hd 5 (by kernel_rfl)
      have e64 : A'.tmps[64]?.getD undef = vs 5 := slot_in hA hap (Nat.lt_of_lt_of_eq (Nat.le_of_ble_eq_true rfl : 64 < 128) hsz.symm) (by kernel_rfl)
      rw [f5] at e64
      clear hA hd o1 o11 o14
      have h0 : 0 ≤ (k : Int) := by omega
      have h1 : (k : Int) < (n : Int) := by omega
      go_step
      exact hK _ _ (Kp.refl _ _) rfl
    · intro vs A' W hA hW hd K hK
      refine wpOp_free _ rfl rfl ?_
      conv => arg 2; whnf
      have f6 : vs 6 = .pointer (some (ad.add k)) := hd 6 (by kernel_rfl)
      have e65 : A'.tmps[65]?.getD undef = vs 6 := slot_in hA hap (Nat.lt_of_lt_of_eq (Nat.le_of_ble_eq_true rfl : 65 < 128) hsz.symm) (by kernel_rfl)
      rw [f6] at e65
      clear hA hd o1 o11 o14
      have c0 := CX _ hW
      go_step
      exact hK _ _ (Kp.refl _ _) rfl
    · intro vs A' W hA hW hd K hK
      refine wpOp_free _ rfl rfl ?_
      conv => arg 2; whnf
      have f3 : vs 3 = .slice (some ⟨gb, 0, none⟩) x.length cb := hd 3 (by kernel_rfl)
      have e62 : A'.tmps[62]?.getD undef = vs 3 := slot_in hA hap (Nat.lt_of_lt_of_eq (Nat.le_of_ble_eq_true rfl : 62 < 128) hsz.symm) (by kernel_rfl)
      rw [f3] at e62
      have f7 : vs 7 = .slice Ax x.length cx := hd 7 (by kernel_rfl)
      have e66 : A'.tmps[66]?.getD undef = vs 7 := slot_in hA hap (Nat.lt_of_lt_of_eq (Nat.le_of_ble_eq_true rfl : 66 < 128) hsz.symm) (by kernel_rfl)
      rw [f7] at e66
      clear hA hd o1 o11 o14
      go_step
      refine (same_true _ _ x _ _ W (RB _ hW) (RX _ hW)).mono ?_
      rintro e w' ⟨rfl, rfl⟩
      exact hK _ _ (Kp.refl _ _) rfl
    · intro vs A' W hA hW hd K hK
      refine wpOp_free _ rfl rfl ?_
      conv => arg 2; whnf
      have f8 : vs 8 = .bool true := hd 8 (by kernel_rfl)
      have e67 : A'.tmps[67]?.getD undef = vs 8 := slot_in hA hap (Nat.lt_of_lt_of_eq (Nat.le_of_ble_eq_true rfl : 67 < 128) hsz.symm) (by kernel_rfl)
      rw [f8] at e67
      clear hA hd o1 o11 o14
      go_step
      exact hK _ _ (Kp.refl _ _) rfl
    · intro vs A' W hA hW hd K hK
      refine wpOp_free _ rfl rfl ?_
      conv => arg 2; whnf
      have f9 : vs 9 = .bool false := hd 9 (by kernel_rfl)
      have e68 : A'.tmps[68]?.getD undef = vs 9 := slot_in hA hap (Nat.lt_of_lt_of_eq (Nat.le_of_ble_eq_true rfl : 68 < 128) hsz.symm) (by kernel_rfl)
      rw [f9] at e68
      clear hA hd o1 o11 o14
      go_step
      exact hK _ _ (Kp.refl _ _) rfl
    · intro vs A' W hA hW hd K hK
      have f10 : vs 10 = .bool false := hd 10 (by kernel_rfl)
      have e69 : A'.tmps[69]?.getD undef = vs 10 := slot_in hA hap (Nat.lt_of_lt_of_eq (Nat.le_of_ble_eq_true rfl : 69 < 128) hsz.symm) (by kernel_rfl)
      rw [f10] at e69
      refine wpOp_go _ rfl 10 69 false rfl rfl e69 ?_
      conv => arg 2; whnf
      have e11 : A'.tmps[11]?.getD undef = .slice (some am) n cm := slot_out hA hap (Nat.lt_of_lt_of_eq (Nat.le_of_ble_eq_true rfl : 11 < 128) hsz.symm) (by kernel_rfl) o11
      clear hA hd o1 o11 o14
      go_step
      exact hK _ _ (Kp.refl _ _) rfl
    · intro vs A' W hA hW hd K hK
      have f10 : vs 10 = .bool false := hd 10 (by kernel_rfl)
      have e69 : A'.tmps[69]?.getD undef = vs 10 := slot_in hA hap (Nat.lt_of_lt_of_eq (Nat.le_of_ble_eq_true rfl : 69 < 128) hsz.symm) (by kernel_rfl)
      rw [f10] at e69
      refine wpOp_go _ rfl 10 69 false rfl rfl e69 ?_
      conv => arg 2; whnf
      have e14 : A'.tmps[14]?.getD undef = .int .i64 ((k : Nat) : Int) := slot_out hA hap (Nat.lt_of_lt_of_eq (Nat.le_of_ble_eq_true rfl : 14 < 128) hsz.symm) (by kernel_rfl) o14
      clear hA hd o1 o11 o14
      go_step
      exact hK _ _ (Kp.refl _ _) rfl
    · intro vs A' W hA hW hd K hK
      have f10 : vs 10 = .bool false := hd 10 (by kernel_rfl)
      have e69 : A'.tmps[69]?.getD undef = vs 10 := slot_in hA hap (Nat.lt_of_lt_of_eq (Nat.le_of_ble_eq_true rfl : 69 < 128) hsz.symm) (by kernel_rfl)
      rw [f10] at e69
      refine wpOp_go _ rfl 10 69 false rfl rfl e69 ?_
      conv => arg 2; whnf
      have f11 : vs 11 = .slice (some am) n cm := hd 11 (by kernel_rfl)
      have e70 : A'.tmps[70]?.getD undef = vs 11 := slot_in hA hap (Nat.lt_of_lt_of_eq (Nat.le_of_ble_eq_true rfl : 70 < 128) hsz.symm) (by kernel_rfl)
      rw [f11] at e70
      have f12 : vs 12 = .int .i64 ((k : Nat) : Int) := hd 12 (by kernel_rfl)
      have e71 : A'.tmps[71]?.getD undef = vs 12 := slot_in hA hap (Nat.lt_of_lt_of_eq (Nat.le_of_ble_eq_true rfl : 71 < 128) hsz.symm) (by kernel_rfl)
      rw [f12] at e71
      clear hA hd o1 o11 o14
      have h0 : 0 ≤ (k : Int) := by omega
      have h1 : (k : Int) < (n : Int) := by omega
      go_step
      exact hK _ _ (Kp.refl _ _) rfl
    · intro vs A' W hA hW hd K hK
      have f10 : vs 10 = .bool false := hd 10 (by kernel_rfl)
      have e69 : A'.tmps[69]?.getD undef = vs 10 := slot_in hA hap (Nat.lt_of_lt_of_eq (Nat.le_of_ble_eq_true rfl : 69 < 128) hsz.symm) (by kernel_rfl)
      rw [f10] at e69
      refine wpOp_go _ rfl 10 69 false rfl rfl e69 ?_
      conv => arg 2; whnf
      have f13 : vs 13 = .pointer (some (am.add k)) := hd 13 (by kernel_rfl)
      have e72 : A'.tmps[72]?.getD undef = vs 13 := slot_in hA hap (Nat.lt_of_lt_of_eq (Nat.le_of_ble_eq_true rfl : 72 < 128) hsz.symm) (by kernel_rfl)
      rw [f13] at e72
      clear hA hd o1 o11 o14
      have c0 := CM _ hW
      go_step
      exact hK _ _ (Kp.refl _ _) rfl
    · intro vs A' W hA hW hd K hK
      have f10 : vs 10 = .bool false := hd 10 (by kernel_rfl)
      have e69 : A'.tmps[69]?.getD undef = vs 10 := slot_in hA hap (Nat.lt_of_lt_of_eq (Nat.le_of_ble_eq_true rfl : 69 < 128) hsz.symm) (by kernel_rfl)
      rw [f10] at e69
      refine wpOp_go _ rfl 10 69 false rfl rfl e69 ?_
      conv => arg 2; whnf
      have e1 : A'.tmps[1]?.getD undef = .slice (some ad) n c := slot_out hA hap (Nat.lt_of_lt_of_eq (Nat.le_of_ble_eq_true rfl : 1 < 128) hsz.symm) (by kernel_rfl) o1
      clear hA hd o1 o11 o14
      go_step
      exact hK _ _ (Kp.refl _ _) rfl
    · intro vs A' W hA hW hd K hK
      have f10 : vs 10 = .bool false := hd 10 (by kernel_rfl)
      have e69 : A'.tmps[69]?.getD undef = vs 10 := slot_in hA hap (Nat.lt_of_lt_of_eq (Nat.le_of_ble_eq_true rfl : 69 < 128) hsz.symm) (by kernel_rfl)
      rw [f10] at e69
      refine wpOp_go _ rfl 10 69 false rfl rfl e69 ?_
      conv => arg 2; whnf
      have e14 : A'.tmps[14]?.getD undef = .int .i64 ((k : Nat) : Int) := slot_out hA hap (Nat.lt_of_lt_of_eq (Nat.le_of_ble_eq_true rfl : 14 < 128) hsz.symm) (by kernel_rfl) o14
      clear hA hd o1 o11 o14
      go_step
      exact hK _ _ (Kp.refl _ _) rfl
    · intro vs A' W hA hW hd K hK
      have f10 : vs 10 = .bool false := hd 10 (by kernel_rfl)
      have e69 : A'.tmps[69]?.getD undef = vs 10 := slot_in hA hap (Nat.lt_of_lt_of_eq (Nat.le_of_ble_eq_true rfl : 69 < 128) hsz.symm) (by kernel_rfl)
      rw [f10] at e69
      refine wpOp_go _ rfl 10 69 false rfl rfl e69 ?_
      conv => arg 2; whnf
      have f15 : vs 15 = .slice (some ad) n c := hd 15 (by kernel_rfl)
      have e74 : A'.tmps[74]?.getD undef = vs 15 := slot_in hA hap (Nat.lt_of_lt_of_eq (Nat.le_of_ble_eq_true rfl : 74 < 128) hsz.symm) (by kernel_rfl)
      rw [f15] at e74
      have f16 : vs 16 = .int .i64 ((k : Nat) : Int) := hd 16 (by kernel_rfl)
      have e75 : A'.tmps[75]?.getD undef = vs 16 := slot_in hA hap (Nat.lt_of_lt_of_eq (Nat.le_of_ble_eq_true rfl : 75 < 128) hsz.symm) (by kernel_rfl)
      rw [f16] at e75
      clear hA hd o1 o11 o14
      have h0 : 0 ≤ (k : Int) := by omega
      have h1 : (k : Int) < (n : Int) := by omega
      go_step
      exact hK _ _ (Kp.refl _ _) rfl
    · intro vs A' W hA hW hd K hK
      have f10 : vs 10 = .bool false := hd 10 (by kernel_rfl)
      have e69 : A'.tmps[69]?.getD undef = vs 10 := slot_in hA hap (Nat.lt_of_lt_of_eq (Nat.le_of_ble_eq_true rfl : 69 < 128) hsz.symm) (by kernel_rfl)
      rw [f10] at e69
      refine wpOp_go _ rfl 10 69 false rfl rfl e69 ?_
      conv => arg 2; whnf
      have f17 : vs 17 = .pointer (some (ad.add k)) := hd 17 (by kernel_rfl)
      have e76 : A'.tmps[76]?.getD undef = vs 17 := slot_in hA hap (Nat.lt_of_lt_of_eq (Nat.le_of_ble_eq_true rfl : 76 < 128) hsz.symm) (by kernel_rfl)
      rw [f17] at e76
      clear hA hd o1 o11 o14
      have c0 := CX _ hW
      go_step
      exact hK _ _ (Kp.refl _ _) rfl
    · intro vs A' W hA hW hd K hK
      have f10 : vs 10 = .bool false := hd 10 (by kernel_rfl)
      have e69 : A'.tmps[69]?.getD undef = vs 10 := slot_in hA hap (Nat.lt_of_lt_of_eq (Nat.le_of_ble_eq_true rfl : 69 < 128) hsz.symm) (by kernel_rfl)
      rw [f10] at e69
      refine wpOp_go _ rfl 10 69 false rfl rfl e69 ?_
      conv => arg 2; whnf
      have f18 : vs 18 = .slice Ax x.length cx := hd 18 (by kernel_rfl)
      have e77 : A'.tmps[77]?.getD undef = vs 18 := slot_in hA hap (Nat.lt_of_lt_of_eq (Nat.le_of_ble_eq_true rfl : 77 < 128) hsz.symm) (by kernel_rfl)
      rw [f18] at e77
      clear hA hd o1 o11 o14
      go_step
      exact hK _ _ (Kp.refl _ _) rfl
    · intro vs A' W hA hW hd K hK
      have f10 : vs 10 = .bool false := hd 10 (by kernel_rfl)
      have e69 : A'.tmps[69]?.getD undef = vs 10 := slot_in hA hap (Nat.lt_of_lt_of_eq (Nat.le_of_ble_eq_true rfl : 69 < 128) hsz.symm) (by kernel_rfl)
      rw [f10] at e69
      refine wpOp_go _ rfl 10 69 false rfl rfl e69 ?_
      conv => arg 2; whnf
      have f19 : vs 19 = .int .i64 (x.length : Int) := hd 19 (by kernel_rfl)
      have e78 : A'.tmps[78]?.getD undef = vs 19 := slot_in hA hap (Nat.lt_of_lt_of_eq (Nat.le_of_ble_eq_true rfl : 78 < 128) hsz.symm) (by kernel_rfl)
      rw [f19] at e78
      clear hA hd o1 o11 o14
      have hw : wrap64 ((x.length : Int) + 1) = (x.length : Int) + 1 := by unfold wrap64; omega
      go_step
      exact hK _ _ (Kp.refl _ _) rfl
    · intro vs A' W hA hW hd K hK
      have f10 : vs 10 = .bool false := hd 10 (by kernel_rfl)
      have e69 : A'.tmps[69]?.getD undef = vs 10 := slot_in hA hap (Nat.lt_of_lt_of_eq (Nat.le_of_ble_eq_true rfl : 69 < 128) hsz.symm) (by kernel_rfl)
      rw [f10] at e69
      refine wpOp_go _ rfl 10 69 false rfl rfl e69 ?_
      conv => arg 2; whnf
      have f14 : vs 14 = .slice (some ⟨gb, 0, none⟩) x.length cb := hd 14 (by kernel_rfl)
      have e73 : A'.tmps[73]?.getD undef = vs 14 := slot_in hA hap (Nat.lt_of_lt_of_eq (Nat.le_of_ble_eq_true rfl : 73 < 128) hsz.symm) (by kernel_rfl)
      rw [f14] at e73
      have f20 : vs 20 = .int .i64 ((x.length : Int) + 1) := hd 20 (by kernel_rfl)
      have e79 : A'.tmps[79]?.getD undef = vs 20 := slot_in hA hap (Nat.lt_of_lt_of_eq (Nat.le_of_ble_eq_true rfl : 79 < 128) hsz.symm) (by kernel_rfl)
      rw [f20] at e79
      clear hA hd o1 o11 o14
      have q := fun w => cut_u8c (some ⟨gb, 0, none⟩) x.length cb (x.length + 1) ((x.length : Int) + 1) (by omega) hcb w
      go_step
      exact hK _ _ (Kp.refl _ _) rfl
    · intro vs A' W hA hW hd K hK
      have f10 : vs 10 = .bool false := hd 10 (by kernel_rfl)
      have e69 : A'.tmps[69]?.getD undef = vs 10 := slot_in hA hap (Nat.lt_of_lt_of_eq (Nat.le_of_ble_eq_true rfl : 69 < 128) hsz.symm) (by kernel_rfl)
      rw [f10] at e69
      refine wpOp_go _ rfl 10 69 false rfl rfl e69 ?_
      conv => arg 2; whnf
      have e1 : A'.tmps[1]?.getD undef = .slice (some ad) n c := slot_out hA hap (Nat.lt_of_lt_of_eq (Nat.le_of_ble_eq_true rfl : 1 < 128) hsz.symm) (by kernel_rfl) o1
      clear hA hd o1 o11 o14
      go_step
      exact hK _ _ (Kp.refl _ _) rfl
    · intro vs A' W hA hW hd K hK
      have f10 : vs 10 = .bool false := hd 10 (by kernel_rfl)
      have e69 : A'.tmps[69]?.getD undef = vs 10 := slot_in hA hap (Nat.lt_of_lt_of_eq (Nat.le_of_ble_eq_true rfl : 69 < 128) hsz.symm) (by kernel_rfl)
      rw [f10] at e69
      refine wpOp_go _ rfl 10 69 false rfl rfl e69 ?_
      conv => arg 2; whnf
      have e14 : A'.tmps[14]?.getD undef = .int .i64 ((k : Nat) : Int) := slot_out hA hap (Nat.lt_of_lt_of_eq (Nat.le_of_ble_eq_true rfl : 14 < 128) hsz.symm) (by kernel_rfl) o14
      clear hA hd o1 o11 o14
      go_step
      exact hK _ _ (Kp.refl _ _) rfl
    · intro vs A' W hA hW hd K hK
      have f10 : vs 10 = .bool false := hd 10 (by kernel_rfl)
      have e69 : A'.tmps[69]?.getD undef = vs 10 := slot_in hA hap (Nat.lt_of_lt_of_eq (Nat.le_of_ble_eq_true rfl : 69 < 128) hsz.symm) (by kernel_rfl)
      rw [f10] at e69
      refine wpOp_go _ rfl 10 69 false rfl rfl e69 ?_
      conv => arg 2; whnf
      have f22 : vs 22 = .slice (some ad) n c := hd 22 (by kernel_rfl)
      have e81 : A'.tmps[81]?.getD undef = vs 22 := slot_in hA hap (Nat.lt_of_lt_of_eq (Nat.le_of_ble_eq_true rfl : 81 < 128) hsz.symm) (by kernel_rfl)
      rw [f22] at e81
      have f23 : vs 23 = .int .i64 ((k : Nat) : Int) := hd 23 (by kernel_rfl)
      have e82 : A'.tmps[82]?.getD undef = vs 23 := slot_in hA hap (Nat.lt_of_lt_of_eq (Nat.le_of_ble_eq_true rfl : 82 < 128) hsz.symm) (by kernel_rfl)
      rw [f23] at e82
      clear hA hd o1 o11 o14
      have h0 : 0 ≤ (k : Int) := by omega
      have h1 : (k : Int) < (n : Int) := by omega
      go_step
      exact hK _ _ (Kp.refl _ _) rfl
    · intro vs A' W hA hW hd K hK
      have f10 : vs 10 = .bool false := hd 10 (by kernel_rfl)
      have e69 : A'.tmps[69]?.getD undef = vs 10 := slot_in hA hap (Nat.lt_of_lt_of_eq (Nat.le_of_ble_eq_true rfl : 69 < 128) hsz.symm) (by kernel_rfl)
      rw [f10] at e69
      refine wpOp_go _ rfl 10 69 false rfl rfl e69 ?_
      conv => arg 2; whnf
      have f24 : vs 24 = .pointer (some (ad.add k)) := hd 24 (by kernel_rfl)
      have e83 : A'.tmps[83]?.getD undef = vs 24 := slot_in hA hap (Nat.lt_of_lt_of_eq (Nat.le_of_ble_eq_true rfl : 83 < 128) hsz.symm) (by kernel_rfl)
      rw [f24] at e83
      clear hA hd o1 o11 o14
      have c0 := CX _ hW
      go_step
      exact hK _ _ (Kp.refl _ _) rfl
    · intro vs A' W hA hW hd K hK
      have f10 : vs 10 = .bool false := hd 10 (by kernel_rfl)
      have e69 : A'.tmps[69]?.getD undef = vs 10 := slot_in hA hap (Nat.lt_of_lt_of_eq (Nat.le_of_ble_eq_true rfl : 69 < 128) hsz.symm) (by kernel_rfl)
      rw [f10] at e69
      refine wpOp_go _ rfl 10 69 false rfl rfl e69 ?_
      conv => arg 2; whnf
      have f25 : vs 25 = .slice Ax x.length cx := hd 25 (by kernel_rfl)
      have e84 : A'.tmps[84]?.getD undef = vs 25 := slot_in hA hap (Nat.lt_of_lt_of_eq (Nat.le_of_ble_eq_true rfl : 84 < 128) hsz.symm) (by kernel_rfl)
      rw [f25] at e84
      clear hA hd o1 o11 o14
      go_step
      exact hK _ _ (Kp.refl _ _) rfl
    · intro vs A' W hA hW hd K hK
      have f10 : vs 10 = .bool false := hd 10 (by kernel_rfl)
      have e69 : A'.tmps[69]?.getD undef = vs 10 := slot_in hA hap (Nat.lt_of_lt_of_eq (Nat.le_of_ble_eq_true rfl : 69 < 128) hsz.symm) (by kernel_rfl)
      rw [f10] at e69
      refine wpOp_go _ rfl 10 69 false rfl rfl e69 ?_
      conv => arg 2; whnf
      have f21 : vs 21 = .slice (some ⟨gb, 0, none⟩) (x.length + 1) cb := hd 21 (by kernel_rfl)
      have e80 : A'.tmps[80]?.getD undef = vs 21 := slot_in hA hap (Nat.lt_of_lt_of_eq (Nat.le_of_ble_eq_true rfl : 80 < 128) hsz.symm) (by kernel_rfl)
      rw [f21] at e80
      have f26 : vs 26 = .int .i64 (x.length : Int) := hd 26 (by kernel_rfl)
      have e85 : A'.tmps[85]?.getD undef = vs 26 := slot_in hA hap (Nat.lt_of_lt_of_eq (Nat.le_of_ble_eq_true rfl : 85 < 128) hsz.symm) (by kernel_rfl)
      rw [f26] at e85
      clear hA hd o1 o11 o14
      have h0 : 0 ≤ (x.length : Int) := by omega
      have h1 : (x.length : Int) < (x.length : Int) + 1 := by omega
      go_step
      exact hK _ _ (Kp.refl _ _) rfl
    · intro vs A' W hA hW hd K hK
      have f10 : vs 10 = .bool false := hd 10 (by kernel_rfl)
      have e69 : A'.tmps[69]?.getD undef = vs 10 := slot_in hA hap (Nat.lt_of_lt_of_eq (Nat.le_of_ble_eq_true rfl : 69 < 128) hsz.symm) (by kernel_rfl)
      rw [f10] at e69
      refine wpOp_go _ rfl 10 69 false rfl rfl e69 ?_
      conv => arg 2; whnf
      have f27 : vs 27 = .pointer (some ⟨gb, x.length, none⟩) := hd 27 (by kernel_rfl)
      have e86 : A'.tmps[86]?.getD undef = vs 27 := slot_in hA hap (Nat.lt_of_lt_of_eq (Nat.le_of_ble_eq_true rfl : 86 < 128) hsz.symm) (by kernel_rfl)
      rw [f27] at e86
      clear hA hd o1 o11 o14
      have c0 := CB _ hW
      go_step
      exact hK _ _ (Kp.refl _ _) rfl
    · intro vs A' W hA hW hd K hK
      have f10 : vs 10 = .bool false := hd 10 (by kernel_rfl)
      have e69 : A'.tmps[69]?.getD undef = vs 10 := slot_in hA hap (Nat.lt_of_lt_of_eq (Nat.le_of_ble_eq_true rfl : 69 < 128) hsz.symm) (by kernel_rfl)
      rw [f10] at e69
      refine wpOp_go _ rfl 10 69 false rfl rfl e69 ?_
      conv => arg 2; whnf
      have f28 : vs 28 = .int .u8 166 := hd 28 (by kernel_rfl)
      have e87 : A'.tmps[87]?.getD undef = vs 28 := slot_in hA hap (Nat.lt_of_lt_of_eq (Nat.le_of_ble_eq_true rfl : 87 < 128) hsz.symm) (by kernel_rfl)
      rw [f28] at e87
      clear hA hd o1 o11 o14
      go_step
      exact hK _ _ (Kp.refl _ _) rfl
    · intro vs A' W hA hW hd K hK
      refine wpOp_free _ rfl rfl ?_
      conv => arg 2; whnf
      have f10 : vs 10 = .bool false := hd 10 (by kernel_rfl)
      have e69 : A'.tmps[69]?.getD undef = vs 10 := slot_in hA hap (Nat.lt_of_lt_of_eq (Nat.le_of_ble_eq_true rfl : 69 < 128) hsz.symm) (by kernel_rfl)
      rw [f10] at e69
      have f29 : vs 29 = .bool false := hd 29 (by kernel_rfl)
      have e88 : A'.tmps[88]?.getD undef = vs 29 := slot_in hA hap (Nat.lt_of_lt_of_eq (Nat.le_of_ble_eq_true rfl : 88 < 128) hsz.symm) (by kernel_rfl)
      rw [f29] at e88
      clear hA hd o1 o11 o14
      go_step
      exact hK _ _ (Kp.refl _ _) rfl
  · intro vs W hW hp
    rw [show putAll vs (opsOf 13 Tryd.f3) 0 a = putD [(59, vs 0), (60, vs 1), (61, vs 2), (62, vs 3), (63, vs 4), (64, vs 5), (65, vs 6), (66, vs 7), (67, vs 8), (68, vs 9), (69, vs 10), (70, vs 11), (71, vs 12), (72, vs 13), (73, vs 14), (74, vs 15), (75, vs 16), (76, vs 17), (77, vs 18), (78, vs 19), (79, vs 20), (80, vs 21), (81, vs 22), (82, vs 23), (83, vs 24), (84, vs 25), (85, vs 26), (86, vs 27), (87, vs 28), (88, vs 29), (89, vs 30)] a from by kernel_rfl]
    exact hend _ W (same_putD _ a) hW (sl_putD _ a 89 _ (by rw [show vs 30 = _ from hp 30 (Nat.le_of_ble_eq_true (by kernel_rfl))]; kernel_rfl))
-- END smc13
-- REG smc15
set_option maxRecDepth 100000 in
set_option maxHeartbeats 2000000 in
theorem smc_r15 {Q : Exit → Act → World → Prop} {a : Act} {w : World} (LDw : LD w.drew) (As : Option Addr) (cs : Nat) (sec : List UInt8) (hsl : sec.length ≤ 1073741824) (hs : ∀ V, Kp [] w.drew V → Rd V 1 (.slice As sec.length cs) sec.length (bv sec)) (Aa : Option Addr) (ca : Nat) (al : List UInt8) (hll : al.length ≤ 1073741824) (hal : ∀ V, Kp [] w.drew V → Rd V 1 (.slice Aa al.length ca) al.length (bv al)) (la lb : List UInt8) (hla : la.length = 32) (hlb : lb.length = 32) (gh g6 g7 gk ck : Nat) (hck : sec.length + 1 ≤ ck) (hbh : Blk w.drew gh 25 (hashA (macF sec al))) (hb6 : Blk w.drew g6 25 (hashA la)) (hb7 : Blk w.drew g7 25 (hashA lb)) (hk1 : Rd w.drew 1 (.slice (some ⟨gk, 0, none⟩) sec.length ck) sec.length (bv sec)) (hk2 : w.drew.cell? ⟨gk, sec.length, none⟩ = some (.int .u8 165)) (hsz : a.tmps.size = 128) (o0 : Sl a 0 (.slice As sec.length cs)) (o6 : Sl a 6 (.pointer (some ⟨g6, 0, none⟩))) (o7 : Sl a 7 (.pointer (some ⟨g7, 0, none⟩))) (o9 : Sl a 9 (.slice (some ⟨gk, 0, none⟩) (sec.length + 1) ck)) (o10 : Sl a 10 (.slice Aa al.length ca)) (o13 : Sl a 13 (.pointer (some ⟨gh, 0, none⟩)))
    (hend : ∀ (a' : Act) (W : World), Same a a' [90, 91, 92, 93, 94, 95, 96, 97, 98, 99, 100, 101, 102, 103, 104, 105, 106, 107, 108, 109, 110, 111, 112, 113, 114, 115, 116, 117, 118, 119, 120, 121, 122, 123, 124, 125, 126, 127, 8] → Kp [] w.drew W → Sl a' 8 (.bool true) → Q .normal a' W) : (Code.region 15 (opsOf 15 Tryd.f3).toArray true).wp Tryd.prog Q a w := by
  have hap : apartB (opsOf 15 Tryd.f3) = true := by kernel_rfl
  refine wp_region_invG (l := (opsOf 15 Tryd.f3)) (fun i v W => match i with | 0 => v = .agg (hashA (macF sec al)) | 1 => v = .slice As sec.length cs | 2 => v = .slice Aa al.length ca | 3 => v = .agg (hashA (macF sec al)) | 4 => v = .bool true | 5 => v = .bool true | 6 => v = .agg (hashA la) | 7 => v = .agg (hashA lb) | 8 => v = .bool (la == lb) | 9 => v = .agg (hashA la) | 10 => v = .agg (hashA lb) | 11 => v = .bool (la == lb) | 12 => v = .bool true | 13 => v = .bool true | 14 => v = .bool true | 15 => v = .agg (hashA (macF sec al)) | 16 => v = .agg (hashA (macF sec al)) | 17 => v = .bool true | 18 => v = .bool true | 19 => v = .bool true | 20 => v = .slice (some ⟨gk, 0, none⟩) (sec.length + 1) ck | 21 => v = .slice As sec.length cs | 22 => v = .int .i64 (sec.length : Int) | 23 => v = .slice (some ⟨gk, 0, none⟩) sec.length ck | 24 => v = .slice As sec.length cs | 25 => v = .bool true | 26 => v = .bool true | 27 => v = .bool true | 28 => v = .slice (some ⟨gk, 0, none⟩) (sec.length + 1) ck | 29 => v = .slice As sec.length cs | 30 => v = .int .i64 (sec.length : Int) | 31 => v = .pointer (some ⟨gk, sec.length, none⟩) | 32 => v = .int .u8 165 | 33 => v = .bool true | 34 => v = .bool true | 35 => v = .bool true | 36 => v = .bool true | 37 => v = .bool true | 38 => v = .bool true | _ => True) (by kernel_rfl) hap (by kernel_rfl) ?_ ?_ ?_
  · intro i v W W' h _
    iterate 39 (rcases i with _ | i; · exact h)
    exact h
  · refine ⟨?_, ?_, ?_, ?_, ?_, ?_, ?_, ?_, ?_, ?_, ?_, ?_, ?_, ?_, ?_, ?_, ?_, ?_, ?_, ?_, ?_, ?_, ?_, ?_, ?_, ?_, ?_, ?_, ?_, ?_, ?_, ?_, ?_, ?_, ?_, ?_, ?_, ?_, ?_, trivial⟩
    · intro vs A' W hA hW hd K hK
      refine wpOp_free _ rfl rfl ?_
      conv => arg 2; whnf
      have e13 : A'.tmps[13]?.getD undef = .pointer (some ⟨gh, 0, none⟩) := slot_out hA hap (Nat.lt_of_lt_of_eq (Nat.le_of_ble_eq_true rfl : 13 < 128) hsz.symm) (by kernel_rfl) o13
      clear hA hd o0 o6 o7 o9 o10 o13
      refine op_runs (v := .agg (hashA (macF sec al))) (w' := W) (exec_load rfl (by simpa [Act.eval] using e13) (run_loadAt_agg W (⟨gh, 0, none⟩) 25 (hashA (macF sec al)).toList _ (Blk.agg (hbh.kp hW (by simp))) Tryd.underlying25 rfl (by rw [Array.length_toList, hashA_size, macF_length]; exact Tryd.infoHashP))) ?_
      exact hK _ _ (Kp.refl _ _) rfl
    · intro vs A' W hA hW hd K hK
      refine wpOp_free _ rfl rfl ?_
      conv => arg 2; whnf
      have e0 : A'.tmps[0]?.getD undef = .slice As sec.length cs := slot_out hA hap (Nat.lt_of_lt_of_eq (Nat.le_of_ble_eq_true rfl : 0 < 128) hsz.symm) (by kernel_rfl) o0
      clear hA hd o0 o6 o7 o9 o10 o13
      go_step
      exact hK _ _ (Kp.refl _ _) rfl
    · intro vs A' W hA hW hd K hK
      refine wpOp_free _ rfl rfl ?_
      conv => arg 2; whnf
      have e10 : A'.tmps[10]?.getD undef = .slice Aa al.length ca := slot_out hA hap (Nat.lt_of_lt_of_eq (Nat.le_of_ble_eq_true rfl : 10 < 128) hsz.symm) (by kernel_rfl) o10
      clear hA hd o0 o6 o7 o9 o10 o13
      go_step
      exact hK _ _ (Kp.refl _ _) rfl
    · intro vs A' W hA hW hd K hK
      refine wpOp_free _ rfl rfl ?_
      conv => arg 2; whnf
      have f1 : vs 1 = .slice As sec.length cs := hd 1 (by kernel_rfl)
      have e91 : A'.tmps[91]?.getD undef = vs 1 := slot_in hA hap (Nat.lt_of_lt_of_eq (Nat.le_of_ble_eq_true rfl : 91 < 128) hsz.symm) (by kernel_rfl)
      rw [f1] at e91
      have f2 : vs 2 = .slice Aa al.length ca := hd 2 (by kernel_rfl)
      have e92 : A'.tmps[92]?.getD undef = vs 2 := slot_in hA hap (Nat.lt_of_lt_of_eq (Nat.le_of_ble_eq_true rfl : 92 < 128) hsz.symm) (by kernel_rfl)
      rw [f2] at e92
      clear hA hd o0 o6 o7 o9 o10 o13
      go_step
      refine (rmac_any W [] As cs sec (by omega) Aa ca al (by omega) W (Held.start W) (fun V L' SV => rd_old (hs _ hW) SV.k) (fun V L' SV => rd_old (hal _ hW) SV.k)).mono ?_
      rintro e w' ⟨rfl, S⟩
      exact hK _ _ S.k rfl
    · intro vs A' W hA hW hd K hK
      refine wpOp_free _ rfl rfl ?_
      conv => arg 2; whnf
      have f0 : vs 0 = .agg (hashA (macF sec al)) := hd 0 (by kernel_rfl)
      have e90 : A'.tmps[90]?.getD undef = vs 0 := slot_in hA hap (Nat.lt_of_lt_of_eq (Nat.le_of_ble_eq_true rfl : 90 < 128) hsz.symm) (by kernel_rfl)
      rw [f0] at e90
      have f3 : vs 3 = .agg (hashA (macF sec al)) := hd 3 (by kernel_rfl)
      have e93 : A'.tmps[93]?.getD undef = vs 3 := slot_in hA hap (Nat.lt_of_lt_of_eq (Nat.le_of_ble_eq_true rfl : 93 < 128) hsz.symm) (by kernel_rfl)
      rw [f3] at e93
      clear hA hd o0 o6 o7 o9 o10 o13
      refine op_runs (v := .bool ((macF sec al) == (macF sec al))) (w' := W) (exec_bin_agg rfl (by simpa [Act.eval] using e90) (by simpa [Act.eval] using e93) Tryd.eqGuardType25 (eql_hash W (macF sec al) (macF sec al) (macF_length ..) (macF_length ..))) ?_
      exact hK _ _ (Kp.refl _ _) (congrArg Value.bool (beq_self_eq_true _))
    · intro vs A' W hA hW hd K hK
      refine wpOp_free _ rfl rfl ?_
      conv => arg 2; whnf
      have f4 : vs 4 = .bool true := hd 4 (by kernel_rfl)
      have e94 : A'.tmps[94]?.getD undef = vs 4 := slot_in hA hap (Nat.lt_of_lt_of_eq (Nat.le_of_ble_eq_true rfl : 94 < 128) hsz.symm) (by kernel_rfl)
      rw [f4] at e94
      clear hA hd o0 o6 o7 o9 o10 o13
      go_step
      exact hK _ _ (Kp.refl _ _) rfl
    · intro vs A' W hA hW hd K hK
      have f5 : vs 5 = .bool true := hd 5 (by kernel_rfl)
      have e95 : A'.tmps[95]?.getD undef = vs 5 := slot_in hA hap (Nat.lt_of_lt_of_eq (Nat.le_of_ble_eq_true rfl : 95 < 128) hsz.symm) (by kernel_rfl)
      rw [f5] at e95
      refine wpOp_go _ rfl 5 95 true rfl rfl e95 ?_
      conv => arg 2; whnf
      have e6 : A'.tmps[6]?.getD undef = .pointer (some ⟨g6, 0, none⟩) := slot_out hA hap (Nat.lt_of_lt_of_eq (Nat.le_of_ble_eq_true rfl : 6 < 128) hsz.symm) (by kernel_rfl) o6
      clear hA hd o0 o6 o7 o9 o10 o13
      refine op_runs (v := .agg (hashA la)) (w' := W) (exec_load rfl (by simpa [Act.eval] using e6) (run_loadAt_agg W (⟨g6, 0, none⟩) 25 (hashA la).toList _ (Blk.agg (hb6.kp hW (by simp))) Tryd.underlying25 rfl (by rw [Array.length_toList, hashA_size, hla]; exact Tryd.infoHashP))) ?_
      exact hK _ _ (Kp.refl _ _) rfl
    · intro vs A' W hA hW hd K hK
      have f5 : vs 5 = .bool true := hd 5 (by kernel_rfl)
      have e95 : A'.tmps[95]?.getD undef = vs 5 := slot_in hA hap (Nat.lt_of_lt_of_eq (Nat.le_of_ble_eq_true rfl : 95 < 128) hsz.symm) (by kernel_rfl)
      rw [f5] at e95
      refine wpOp_go _ rfl 5 95 true rfl rfl e95 ?_
      conv => arg 2; whnf
      have e7 : A'.tmps[7]?.getD undef = .pointer (some ⟨g7, 0, none⟩) := slot_out hA hap (Nat.lt_of_lt_of_eq (Nat.le_of_ble_eq_true rfl : 7 < 128) hsz.symm) (by kernel_rfl) o7
      clear hA hd o0 o6 o7 o9 o10 o13
      refine op_runs (v := .agg (hashA lb)) (w' := W) (exec_load rfl (by simpa [Act.eval] using e7) (run_loadAt_agg W (⟨g7, 0, none⟩) 25 (hashA lb).toList _ (Blk.agg (hb7.kp hW (by simp))) Tryd.underlying25 rfl (by rw [Array.length_toList, hashA_size, hlb]; exact Tryd.infoHashP))) ?_
      exact hK _ _ (Kp.refl _ _) rfl
    · intro vs A' W hA hW hd K hK
      have f5 : vs 5 = .bool true := hd 5 (by kernel_rfl)
      have e95 : A'.tmps[95]?.getD undef = vs 5 := slot_in hA hap (Nat.lt_of_lt_of_eq (Nat.le_of_ble_eq_true rfl : 95 < 128) hsz.symm) (by kernel_rfl)
      rw [f5] at e95
      refine wpOp_go _ rfl 5 95 true rfl rfl e95 ?_
      conv => arg 2; whnf
      have f6 : vs 6 = .agg (hashA la) := hd 6 (by kernel_rfl)
      have e96 : A'.tmps[96]?.getD undef = vs 6 := slot_in hA hap (Nat.lt_of_lt_of_eq (Nat.le_of_ble_eq_true rfl : 96 < 128) hsz.symm) (by kernel_rfl)
      rw [f6] at e96
      have f7 : vs 7 = .agg (hashA lb) := hd 7 (by kernel_rfl)
      have e97 : A'.tmps[97]?.getD undef = vs 7 := slot_in hA hap (Nat.lt_of_lt_of_eq (Nat.le_of_ble_eq_true rfl : 97 < 128) hsz.symm) (by kernel_rfl)
      rw [f7] at e97
      clear hA hd o0 o6 o7 o9 o10 o13
      simp only at *
      go_step
      refine (sgeq_any la lb hla hlb W).mono ?_
      rintro e w' ⟨rfl, k⟩
      exact hK _ _ k rfl
    · intro vs A' W hA hW hd K hK
      have f5 : vs 5 = .bool true := hd 5 (by kernel_rfl)
      have e95 : A'.tmps[95]?.getD undef = vs 5 := slot_in hA hap (Nat.lt_of_lt_of_eq (Nat.le_of_ble_eq_true rfl : 95 < 128) hsz.symm) (by kernel_rfl)
      rw [f5] at e95
      refine wpOp_go _ rfl 5 95 true rfl rfl e95 ?_
      conv => arg 2; whnf
      have e6 : A'.tmps[6]?.getD undef = .pointer (some ⟨g6, 0, none⟩) := slot_out hA hap (Nat.lt_of_lt_of_eq (Nat.le_of_ble_eq_true rfl : 6 < 128) hsz.symm) (by kernel_rfl) o6
      clear hA hd o0 o6 o7 o9 o10 o13
      refine op_runs (v := .agg (hashA la)) (w' := W) (exec_load rfl (by simpa [Act.eval] using e6) (run_loadAt_agg W (⟨g6, 0, none⟩) 25 (hashA la).toList _ (Blk.agg (hb6.kp hW (by simp))) Tryd.underlying25 rfl (by rw [Array.length_toList, hashA_size, hla]; exact Tryd.infoHashP))) ?_
      exact hK _ _ (Kp.refl _ _) rfl
    · intro vs A' W hA hW hd K hK
      have f5 : vs 5 = .bool true := hd 5 (by kernel_rfl)
      have e95 : A'.tmps[95]?.getD undef = vs 5 := slot_in hA hap (Nat.lt_of_lt_of_eq (Nat.le_of_ble_eq_true rfl : 95 < 128) hsz.symm) (by kernel_rfl)
      rw [f5] at e95
      refine wpOp_go _ rfl 5 95 true rfl rfl e95 ?_
      conv => arg 2; whnf
      have e7 : A'.tmps[7]?.getD undef = .pointer (some ⟨g7, 0, none⟩) := slot_out hA hap (Nat.lt_of_lt_of_eq (Nat.le_of_ble_eq_true rfl : 7 < 128) hsz.symm) (by kernel_rfl) o7
      clear hA hd o0 o6 o7 o9 o10 o13
      refine op_runs (v := .agg (hashA lb)) (w' := W) (exec_load rfl (by simpa [Act.eval] using e7) (run_loadAt_agg W (⟨g7, 0, none⟩) 25 (hashA lb).toList _ (Blk.agg (hb7.kp hW (by simp))) Tryd.underlying25 rfl (by rw [Array.length_toList, hashA_size, hlb]; exact Tryd.infoHashP))) ?_
      exact hK _ _ (Kp.refl _ _) rfl
    · intro vs A' W hA hW hd K hK
      have f5 : vs 5 = .bool true := hd 5 (by kernel_rfl)
      have e95 : A'.tmps[95]?.getD undef = vs 5 := slot_in hA hap (Nat.lt_of_lt_of_eq (Nat.le_of_ble_eq_true rfl : 95 < 128) hsz.symm) (by kernel_rfl)
      rw [f5] at e95
      refine wpOp_go _ rfl 5 95 true rfl rfl e95 ?_
      conv => arg 2; whnf
      have f9 : vs 9 = .agg (hashA la) := hd 9 (by kernel_rfl)
      have e99 : A'.tmps[99]?.getD undef = vs 9 := slot_in hA hap (Nat.lt_of_lt_of_eq (Nat.le_of_ble_eq_true rfl : 99 < 128) hsz.symm) (by kernel_rfl)
      rw [f9] at e99
      have f10 : vs 10 = .agg (hashA lb) := hd 10 (by kernel_rfl)
      have e100 : A'.tmps[100]?.getD undef = vs 10 := slot_in hA hap (Nat.lt_of_lt_of_eq (Nat.le_of_ble_eq_true rfl : 100 < 128) hsz.symm) (by kernel_rfl)
      rw [f10] at e100
      clear hA hd o0 o6 o7 o9 o10 o13
      refine op_runs (v := .bool (la == lb)) (w' := W) (exec_bin_agg rfl (by simpa [Act.eval] using e99) (by simpa [Act.eval] using e100) Tryd.eqGuardType25 (eql_hash W la lb hla hlb)) ?_
      exact hK _ _ (Kp.refl _ _) rfl
    · intro vs A' W hA hW hd K hK
      have f5 : vs 5 = .bool true := hd 5 (by kernel_rfl)
      have e95 : A'.tmps[95]?.getD undef = vs 5 := slot_in hA hap (Nat.lt_of_lt_of_eq (Nat.le_of_ble_eq_true rfl : 95 < 128) hsz.symm) (by kernel_rfl)
      rw [f5] at e95
      refine wpOp_go _ rfl 5 95 true rfl rfl e95 ?_
      conv => arg 2; whnf
      have f8 : vs 8 = .bool (la == lb) := hd 8 (by kernel_rfl)
      have e98 : A'.tmps[98]?.getD undef = vs 8 := slot_in hA hap (Nat.lt_of_lt_of_eq (Nat.le_of_ble_eq_true rfl : 98 < 128) hsz.symm) (by kernel_rfl)
      rw [f8] at e98
      have f11 : vs 11 = .bool (la == lb) := hd 11 (by kernel_rfl)
      have e101 : A'.tmps[101]?.getD undef = vs 11 := slot_in hA hap (Nat.lt_of_lt_of_eq (Nat.le_of_ble_eq_true rfl : 101 < 128) hsz.symm) (by kernel_rfl)
      rw [f11] at e101
      clear hA hd o0 o6 o7 o9 o10 o13
      go_step
      exact hK _ _ (Kp.refl _ _) (by cases (la == lb) <;> rfl)
    · intro vs A' W hA hW hd K hK
      refine wpOp_free _ rfl rfl ?_
      conv => arg 2; whnf
      have f5 : vs 5 = .bool true := hd 5 (by kernel_rfl)
      have e95 : A'.tmps[95]?.getD undef = vs 5 := slot_in hA hap (Nat.lt_of_lt_of_eq (Nat.le_of_ble_eq_true rfl : 95 < 128) hsz.symm) (by kernel_rfl)
      rw [f5] at e95
      have f12 : vs 12 = .bool true := hd 12 (by kernel_rfl)
      have e102 : A'.tmps[102]?.getD undef = vs 12 := slot_in hA hap (Nat.lt_of_lt_of_eq (Nat.le_of_ble_eq_true rfl : 102 < 128) hsz.symm) (by kernel_rfl)
      rw [f12] at e102
      clear hA hd o0 o6 o7 o9 o10 o13
      go_step
      exact hK _ _ (Kp.refl _ _) rfl
    · intro vs A' W hA hW hd K hK
      refine wpOp_free _ rfl rfl ?_
      conv => arg 2; whnf
      have f13 : vs 13 = .bool true := hd 13 (by kernel_rfl)
      have e103 : A'.tmps[103]?.getD undef = vs 13 := slot_in hA hap (Nat.lt_of_lt_of_eq (Nat.le_of_ble_eq_true rfl : 103 < 128) hsz.symm) (by kernel_rfl)
      rw [f13] at e103
      clear hA hd o0 o6 o7 o9 o10 o13
      go_step
      exact hK _ _ (Kp.refl _ _) rfl
    · intro vs A' W hA hW hd K hK
      have f14 : vs 14 = .bool true := hd 14 (by kernel_rfl)
      have e104 : A'.tmps[104]?.getD undef = vs 14 := slot_in hA hap (Nat.lt_of_lt_of_eq (Nat.le_of_ble_eq_true rfl : 104 < 128) hsz.symm) (by kernel_rfl)
      rw [f14] at e104
      refine wpOp_go _ rfl 14 104 true rfl rfl e104 ?_
      conv => arg 2; whnf
      have e13 : A'.tmps[13]?.getD undef = .pointer (some ⟨gh, 0, none⟩) := slot_out hA hap (Nat.lt_of_lt_of_eq (Nat.le_of_ble_eq_true rfl : 13 < 128) hsz.symm) (by kernel_rfl) o13
      clear hA hd o0 o6 o7 o9 o10 o13
      refine op_runs (v := .agg (hashA (macF sec al))) (w' := W) (exec_load rfl (by simpa [Act.eval] using e13) (run_loadAt_agg W (⟨gh, 0, none⟩) 25 (hashA (macF sec al)).toList _ (Blk.agg (hbh.kp hW (by simp))) Tryd.underlying25 rfl (by rw [Array.length_toList, hashA_size, macF_length]; exact Tryd.infoHashP))) ?_
      exact hK _ _ (Kp.refl _ _) rfl
    · intro vs A' W hA hW hd K hK
      have f14 : vs 14 = .bool true := hd 14 (by kernel_rfl)
      have e104 : A'.tmps[104]?.getD undef = vs 14 := slot_in hA hap (Nat.lt_of_lt_of_eq (Nat.le_of_ble_eq_true rfl : 104 < 128) hsz.symm) (by kernel_rfl)
      rw [f14] at e104
      refine wpOp_go _ rfl 14 104 true rfl rfl e104 ?_
      conv => arg 2; whnf
      have e13 : A'.tmps[13]?.getD undef = .pointer (some ⟨gh, 0, none⟩) := slot_out hA hap (Nat.lt_of_lt_of_eq (Nat.le_of_ble_eq_true rfl : 13 < 128) hsz.symm) (by kernel_rfl) o13
      clear hA hd o0 o6 o7 o9 o10 o13
      refine op_runs (v := .agg (hashA (macF sec al))) (w' := W) (exec_load rfl (by simpa [Act.eval] using e13) (run_loadAt_agg W (⟨gh, 0, none⟩) 25 (hashA (macF sec al)).toList _ (Blk.agg (hbh.kp hW (by simp))) Tryd.underlying25 rfl (by rw [Array.length_toList, hashA_size, macF_length]; exact Tryd.infoHashP))) ?_
      exact hK _ _ (Kp.refl _ _) rfl
    · intro vs A' W hA hW hd K hK
      have f14 : vs 14 = .bool true := hd 14 (by kernel_rfl)
      have e104 : A'.tmps[104]?.getD undef = vs 14 := slot_in hA hap (Nat.lt_of_lt_of_eq (Nat.le_of_ble_eq_true rfl : 104 < 128) hsz.symm) (by kernel_rfl)
      rw [f14] at e104
      refine wpOp_go _ rfl 14 104 true rfl rfl e104 ?_
      conv => arg 2; whnf
      have f15 : vs 15 = .agg (hashA (macF sec al)) := hd 15 (by kernel_rfl)
      have e105 : A'.tmps[105]?.getD undef = vs 15 := slot_in hA hap (Nat.lt_of_lt_of_eq (Nat.le_of_ble_eq_true rfl : 105 < 128) hsz.symm) (by kernel_rfl)
      rw [f15] at e105
      have f16 : vs 16 = .agg (hashA (macF sec al)) := hd 16 (by kernel_rfl)
      have e106 : A'.tmps[106]?.getD undef = vs 16 := slot_in hA hap (Nat.lt_of_lt_of_eq (Nat.le_of_ble_eq_true rfl : 106 < 128) hsz.symm) (by kernel_rfl)
      rw [f16] at e106
      clear hA hd o0 o6 o7 o9 o10 o13
      simp only at *
      go_step
      refine (sgeq_any _ _ (macF_length ..) (macF_length ..) W).mono ?_
      rintro e w' ⟨rfl, k⟩
      exact hK _ _ k (congrArg Value.bool (beq_self_eq_true _))
    · intro vs A' W hA hW hd K hK
      refine wpOp_free _ rfl rfl ?_
      conv => arg 2; whnf
      have f14 : vs 14 = .bool true := hd 14 (by kernel_rfl)
      have e104 : A'.tmps[104]?.getD undef = vs 14 := slot_in hA hap (Nat.lt_of_lt_of_eq (Nat.le_of_ble_eq_true rfl : 104 < 128) hsz.symm) (by kernel_rfl)
      rw [f14] at e104
      have f17 : vs 17 = .bool true := hd 17 (by kernel_rfl)
      have e107 : A'.tmps[107]?.getD undef = vs 17 := slot_in hA hap (Nat.lt_of_lt_of_eq (Nat.le_of_ble_eq_true rfl : 107 < 128) hsz.symm) (by kernel_rfl)
      rw [f17] at e107
      clear hA hd o0 o6 o7 o9 o10 o13
      go_step
      exact hK _ _ (Kp.refl _ _) rfl
    · intro vs A' W hA hW hd K hK
      refine wpOp_free _ rfl rfl ?_
      conv => arg 2; whnf
      have f18 : vs 18 = .bool true := hd 18 (by kernel_rfl)
      have e108 : A'.tmps[108]?.getD undef = vs 18 := slot_in hA hap (Nat.lt_of_lt_of_eq (Nat.le_of_ble_eq_true rfl : 108 < 128) hsz.symm) (by kernel_rfl)
      rw [f18] at e108
      clear hA hd o0 o6 o7 o9 o10 o13
      go_step
      exact hK _ _ (Kp.refl _ _) rfl
    · intro vs A' W hA hW hd K hK
      have f19 : vs 19 = .bool true := hd 19 (by kernel_rfl)
      have e109 : A'.tmps[109]?.getD undef = vs 19 := slot_in hA hap (Nat.lt_of_lt_of_eq (Nat.le_of_ble_eq_true rfl : 109 < 128) hsz.symm) (by kernel_rfl)
      rw [f19] at e109
      refine wpOp_go _ rfl 19 109 true rfl rfl e109 ?_
      conv => arg 2; whnf
      have e9 : A'.tmps[9]?.getD undef = .slice (some ⟨gk, 0, none⟩) (sec.length + 1) ck := slot_out hA hap (Nat.lt_of_lt_of_eq (Nat.le_of_ble_eq_true rfl : 9 < 128) hsz.symm) (by kernel_rfl) o9
      clear hA hd o0 o6 o7 o9 o10 o13
      go_step
      exact hK _ _ (Kp.refl _ _) rfl
    · intro vs A' W hA hW hd K hK
      have f19 : vs 19 = .bool true := hd 19 (by kernel_rfl)
      have e109 : A'.tmps[109]?.getD undef = vs 19 := slot_in hA hap (Nat.lt_of_lt_of_eq (Nat.le_of_ble_eq_true rfl : 109 < 128) hsz.symm) (by kernel_rfl)
      rw [f19] at e109
      refine wpOp_go _ rfl 19 109 true rfl rfl e109 ?_
      conv => arg 2; whnf
      have e0 : A'.tmps[0]?.getD undef = .slice As sec.length cs := slot_out hA hap (Nat.lt_of_lt_of_eq (Nat.le_of_ble_eq_true rfl : 0 < 128) hsz.symm) (by kernel_rfl) o0
      clear hA hd o0 o6 o7 o9 o10 o13
      go_step
      exact hK _ _ (Kp.refl _ _) rfl
    · intro vs A' W hA hW hd K hK
      have f19 : vs 19 = .bool true := hd 19 (by kernel_rfl)
      have e109 : A'.tmps[109]?.getD undef = vs 19 := slot_in hA hap (Nat.lt_of_lt_of_eq (Nat.le_of_ble_eq_true rfl : 109 < 128) hsz.symm) (by kernel_rfl)
      rw [f19] at e109
      refine wpOp_go _ rfl 19 109 true rfl rfl e109 ?_
      conv => arg 2; whnf
      have f21 : vs 21 = .slice As sec.length cs := hd 21 (by kernel_rfl)
      have e111 : A'.tmps[111]?.getD undef = vs 21 := slot_in hA hap (Nat.lt_of_lt_of_eq (Nat.le_of_ble_eq_true rfl : 111 < 128) hsz.symm) (by kernel_rfl)
      rw [f21] at e111
      clear hA hd o0 o6 o7 o9 o10 o13
      go_step
      exact hK _ _ (Kp.refl _ _) rfl
    · intro vs A' W hA hW hd K hK
      have f19 : vs 19 = .bool true := hd 19 (by kernel_rfl)
      have e109 : A'.tmps[109]?.getD undef = vs 19 := slot_in hA hap (Nat.lt_of_lt_of_eq (Nat.le_of_ble_eq_true rfl : 109 < 128) hsz.symm) (by kernel_rfl)
      rw [f19] at e109
      refine wpOp_go _ rfl 19 109 true rfl rfl e109 ?_
      conv => arg 2; whnf
      have f20 : vs 20 = .slice (some ⟨gk, 0, none⟩) (sec.length + 1) ck := hd 20 (by kernel_rfl)
      have e110 : A'.tmps[110]?.getD undef = vs 20 := slot_in hA hap (Nat.lt_of_lt_of_eq (Nat.le_of_ble_eq_true rfl : 110 < 128) hsz.symm) (by kernel_rfl)
      rw [f20] at e110
      have f22 : vs 22 = .int .i64 (sec.length : Int) := hd 22 (by kernel_rfl)
      have e112 : A'.tmps[112]?.getD undef = vs 22 := slot_in hA hap (Nat.lt_of_lt_of_eq (Nat.le_of_ble_eq_true rfl : 112 < 128) hsz.symm) (by kernel_rfl)
      rw [f22] at e112
      clear hA hd o0 o6 o7 o9 o10 o13
      have q := fun w => cut_u8 (some ⟨gk, 0, none⟩) (sec.length + 1) ck sec.length (sec.length : Int) rfl (by omega) hck w
      go_step
      exact hK _ _ (Kp.refl _ _) rfl
    · intro vs A' W hA hW hd K hK
      have f19 : vs 19 = .bool true := hd 19 (by kernel_rfl)
      have e109 : A'.tmps[109]?.getD undef = vs 19 := slot_in hA hap (Nat.lt_of_lt_of_eq (Nat.le_of_ble_eq_true rfl : 109 < 128) hsz.symm) (by kernel_rfl)
      rw [f19] at e109
      refine wpOp_go _ rfl 19 109 true rfl rfl e109 ?_
      conv => arg 2; whnf
      have e0 : A'.tmps[0]?.getD undef = .slice As sec.length cs := slot_out hA hap (Nat.lt_of_lt_of_eq (Nat.le_of_ble_eq_true rfl : 0 < 128) hsz.symm) (by kernel_rfl) o0
      clear hA hd o0 o6 o7 o9 o10 o13
      go_step
      exact hK _ _ (Kp.refl _ _) rfl
    · intro vs A' W hA hW hd K hK
      have f19 : vs 19 = .bool true := hd 19 (by kernel_rfl)
      have e109 : A'.tmps[109]?.getD undef = vs 19 := slot_in hA hap (Nat.lt_of_lt_of_eq (Nat.le_of_ble_eq_true rfl : 109 < 128) hsz.symm) (by kernel_rfl)
      rw [f19] at e109
      refine wpOp_go _ rfl 19 109 true rfl rfl e109 ?_
      conv => arg 2; whnf
      have f23 : vs 23 = .slice (some ⟨gk, 0, none⟩) sec.length ck := hd 23 (by kernel_rfl)
      have e113 : A'.tmps[113]?.getD undef = vs 23 := slot_in hA hap (Nat.lt_of_lt_of_eq (Nat.le_of_ble_eq_true rfl : 113 < 128) hsz.symm) (by kernel_rfl)
      rw [f23] at e113
      have f24 : vs 24 = .slice As sec.length cs := hd 24 (by kernel_rfl)
      have e114 : A'.tmps[114]?.getD undef = vs 24 := slot_in hA hap (Nat.lt_of_lt_of_eq (Nat.le_of_ble_eq_true rfl : 114 < 128) hsz.symm) (by kernel_rfl)
      rw [f24] at e114
      clear hA hd o0 o6 o7 o9 o10 o13
      go_step
      refine (same_true _ _ sec _ _ W (rd_old hk1 hW) (hs _ hW)).mono ?_
      rintro e w' ⟨rfl, rfl⟩
      exact hK _ _ (Kp.refl _ _) rfl
    · intro vs A' W hA hW hd K hK
      refine wpOp_free _ rfl rfl ?_
      conv => arg 2; whnf
      have f19 : vs 19 = .bool true := hd 19 (by kernel_rfl)
      have e109 : A'.tmps[109]?.getD undef = vs 19 := slot_in hA hap (Nat.lt_of_lt_of_eq (Nat.le_of_ble_eq_true rfl : 109 < 128) hsz.symm) (by kernel_rfl)
      rw [f19] at e109
      have f25 : vs 25 = .bool true := hd 25 (by kernel_rfl)
      have e115 : A'.tmps[115]?.getD undef = vs 25 := slot_in hA hap (Nat.lt_of_lt_of_eq (Nat.le_of_ble_eq_true rfl : 115 < 128) hsz.symm) (by kernel_rfl)
      rw [f25] at e115
      clear hA hd o0 o6 o7 o9 o10 o13
      go_step
      exact hK _ _ (Kp.refl _ _) rfl
    · intro vs A' W hA hW hd K hK
      refine wpOp_free _ rfl rfl ?_
      conv => arg 2; whnf
      have f26 : vs 26 = .bool true := hd 26 (by kernel_rfl)
      have e116 : A'.tmps[116]?.getD undef = vs 26 := slot_in hA hap (Nat.lt_of_lt_of_eq (Nat.le_of_ble_eq_true rfl : 116 < 128) hsz.symm) (by kernel_rfl)
      rw [f26] at e116
      clear hA hd o0 o6 o7 o9 o10 o13
      go_step
      exact hK _ _ (Kp.refl _ _) rfl
    · intro vs A' W hA hW hd K hK
      have f27 : vs 27 = .bool true := hd 27 (by kernel_rfl)
      have e117 : A'.tmps[117]?.getD undef = vs 27 := slot_in hA hap (Nat.lt_of_lt_of_eq (Nat.le_of_ble_eq_true rfl : 117 < 128) hsz.symm) (by kernel_rfl)
      rw [f27] at e117
      refine wpOp_go _ rfl 27 117 true rfl rfl e117 ?_
      conv => arg 2; whnf
      have e9 : A'.tmps[9]?.getD undef = .slice (some ⟨gk, 0, none⟩) (sec.length + 1) ck := slot_out hA hap (Nat.lt_of_lt_of_eq (Nat.le_of_ble_eq_true rfl : 9 < 128) hsz.symm) (by kernel_rfl) o9
      clear hA hd o0 o6 o7 o9 o10 o13
      go_step
      exact hK _ _ (Kp.refl _ _) rfl
    · intro vs A' W hA hW hd K hK
      have f27 : vs 27 = .bool true := hd 27 (by kernel_rfl)
      have e117 : A'.tmps[117]?.getD undef = vs 27 := slot_in hA hap (Nat.lt_of_lt_of_eq (Nat.le_of_ble_eq_true rfl : 117 < 128) hsz.symm) (by kernel_rfl)
      rw [f27] at e117
      refine wpOp_go _ rfl 27 117 true rfl rfl e117 ?_
      conv => arg 2; whnf
      have e0 : A'.tmps[0]?.getD undef = .slice As sec.length cs := slot_out hA hap (Nat.lt_of_lt_of_eq (Nat.le_of_ble_eq_true rfl : 0 < 128) hsz.symm) (by kernel_rfl) o0
      clear hA hd o0 o6 o7 o9 o10 o13
      go_step
      exact hK _ _ (Kp.refl _ _) rfl
    · intro vs A' W hA hW hd K hK
      have f27 : vs 27 = .bool true := hd 27 (by kernel_rfl)
      have e117 : A'.tmps[117]?.getD undef = vs 27 := slot_in hA hap (Nat.lt_of_lt_of_eq (Nat.le_of_ble_eq_true rfl : 117 < 128) hsz.symm) (by kernel_rfl)
      rw [f27] at e117
      refine wpOp_go _ rfl 27 117 true rfl rfl e117 ?_
      conv => arg 2; whnf
      have f29 : vs 29 = .slice As sec.length cs := hd 29 (by kernel_rfl)
      have e119 : A'.tmps[119]?.getD undef = vs 29 := slot_in hA hap (Nat.lt_of_lt_of_eq (Nat.le_of_ble_eq_true rfl : 119 < 128) hsz.symm) (by kernel_rfl)
      rw [f29] at e119
      clear hA hd o0 o6 o7 o9 o10 o13
      go_step
      exact hK _ _ (Kp.refl _ _) rfl
    · intro vs A' W hA hW hd K hK
      have f27 : vs 27 = .bool true := hd 27 (by kernel_rfl)
      have e117 : A'.tmps[117]?.getD undef = vs 27 := slot_in hA hap (Nat.lt_of_lt_of_eq (Nat.le_of_ble_eq_true rfl : 117 < 128) hsz.symm) (by kernel_rfl)
      rw [f27] at e117
      refine wpOp_go _ rfl 27 117 true rfl rfl e117 ?_
      conv => arg 2; whnf
      have f28 : vs 28 = .slice (some ⟨gk, 0, none⟩) (sec.length + 1) ck := hd 28 (by kernel_rfl)
      have e118 : A'.tmps[118]?.getD undef = vs 28 := slot_in hA hap (Nat.lt_of_lt_of_eq (Nat.le_of_ble_eq_true rfl : 118 < 128) hsz.symm) (by kernel_rfl)
      rw [f28] at e118
      have f30 : vs 30 = .int .i64 (sec.length : Int) := hd 30 (by kernel_rfl)
      have e120 : A'.tmps[120]?.getD undef = vs 30 := slot_in hA hap (Nat.lt_of_lt_of_eq (Nat.le_of_ble_eq_true rfl : 120 < 128) hsz.symm) (by kernel_rfl)
      rw [f30] at e120
      clear hA hd o0 o6 o7 o9 o10 o13
      have h0 : 0 ≤ (sec.length : Int) := by omega
      have h1 : (sec.length : Int) < (sec.length : Int) + 1 := by omega
      go_step
      exact hK _ _ (Kp.refl _ _) rfl
    · intro vs A' W hA hW hd K hK
      have f27 : vs 27 = .bool true := hd 27 (by kernel_rfl)
      have e117 : A'.tmps[117]?.getD undef = vs 27 := slot_in hA hap (Nat.lt_of_lt_of_eq (Nat.le_of_ble_eq_true rfl : 117 < 128) hsz.symm) (by kernel_rfl)
      rw [f27] at e117
      refine wpOp_go _ rfl 27 117 true rfl rfl e117 ?_
      conv => arg 2; whnf
      have f31 : vs 31 = .pointer (some ⟨gk, sec.length, none⟩) := hd 31 (by kernel_rfl)
      have e121 : A'.tmps[121]?.getD undef = vs 31 := slot_in hA hap (Nat.lt_of_lt_of_eq (Nat.le_of_ble_eq_true rfl : 121 < 128) hsz.symm) (by kernel_rfl)
      rw [f31] at e121
      clear hA hd o0 o6 o7 o9 o10 o13
      have c0 := cell_kept hk2 hW
      go_step
      exact hK _ _ (Kp.refl _ _) rfl
    · intro vs A' W hA hW hd K hK
      have f27 : vs 27 = .bool true := hd 27 (by kernel_rfl)
      have e117 : A'.tmps[117]?.getD undef = vs 27 := slot_in hA hap (Nat.lt_of_lt_of_eq (Nat.le_of_ble_eq_true rfl : 117 < 128) hsz.symm) (by kernel_rfl)
      rw [f27] at e117
      refine wpOp_go _ rfl 27 117 true rfl rfl e117 ?_
      conv => arg 2; whnf
      have f32 : vs 32 = .int .u8 165 := hd 32 (by kernel_rfl)
      have e122 : A'.tmps[122]?.getD undef = vs 32 := slot_in hA hap (Nat.lt_of_lt_of_eq (Nat.le_of_ble_eq_true rfl : 122 < 128) hsz.symm) (by kernel_rfl)
      rw [f32] at e122
      clear hA hd o0 o6 o7 o9 o10 o13
      go_step
      exact hK _ _ (Kp.refl _ _) rfl
    · intro vs A' W hA hW hd K hK
      refine wpOp_free _ rfl rfl ?_
      conv => arg 2; whnf
      have f27 : vs 27 = .bool true := hd 27 (by kernel_rfl)
      have e117 : A'.tmps[117]?.getD undef = vs 27 := slot_in hA hap (Nat.lt_of_lt_of_eq (Nat.le_of_ble_eq_true rfl : 117 < 128) hsz.symm) (by kernel_rfl)
      rw [f27] at e117
      have f33 : vs 33 = .bool true := hd 33 (by kernel_rfl)
      have e123 : A'.tmps[123]?.getD undef = vs 33 := slot_in hA hap (Nat.lt_of_lt_of_eq (Nat.le_of_ble_eq_true rfl : 123 < 128) hsz.symm) (by kernel_rfl)
      rw [f33] at e123
      clear hA hd o0 o6 o7 o9 o10 o13
      go_step
      exact hK _ _ (Kp.refl _ _) rfl
    · intro vs A' W hA hW hd K hK
      refine wpOp_free _ rfl rfl ?_
      conv => arg 2; whnf
      have f34 : vs 34 = .bool true := hd 34 (by kernel_rfl)
      have e124 : A'.tmps[124]?.getD undef = vs 34 := slot_in hA hap (Nat.lt_of_lt_of_eq (Nat.le_of_ble_eq_true rfl : 124 < 128) hsz.symm) (by kernel_rfl)
      rw [f34] at e124
      clear hA hd o0 o6 o7 o9 o10 o13
      go_step
      exact hK _ _ (Kp.refl _ _) rfl
    · intro vs A' W hA hW hd K hK
      have f35 : vs 35 = .bool true := hd 35 (by kernel_rfl)
      have e125 : A'.tmps[125]?.getD undef = vs 35 := slot_in hA hap (Nat.lt_of_lt_of_eq (Nat.le_of_ble_eq_true rfl : 125 < 128) hsz.symm) (by kernel_rfl)
      rw [f35] at e125
      refine wpOp_go _ rfl 35 125 true rfl rfl e125 ?_
      conv => arg 2; whnf
      clear hA hd o0 o6 o7 o9 o10 o13
      go_step
      refine (sknown_any W (LDw.kp hW)).mono ?_
      rintro e w' ⟨rfl, k⟩
      exact hK _ _ k rfl
    · intro vs A' W hA hW hd K hK
      refine wpOp_free _ rfl rfl ?_
      conv => arg 2; whnf
      have f35 : vs 35 = .bool true := hd 35 (by kernel_rfl)
      have e125 : A'.tmps[125]?.getD undef = vs 35 := slot_in hA hap (Nat.lt_of_lt_of_eq (Nat.le_of_ble_eq_true rfl : 125 < 128) hsz.symm) (by kernel_rfl)
      rw [f35] at e125
      have f36 : vs 36 = .bool true := hd 36 (by kernel_rfl)
      have e126 : A'.tmps[126]?.getD undef = vs 36 := slot_in hA hap (Nat.lt_of_lt_of_eq (Nat.le_of_ble_eq_true rfl : 126 < 128) hsz.symm) (by kernel_rfl)
      rw [f36] at e126
      clear hA hd o0 o6 o7 o9 o10 o13
      go_step
      exact hK _ _ (Kp.refl _ _) rfl
    · intro vs A' W hA hW hd K hK
      refine wpOp_free _ rfl rfl ?_
      conv => arg 2; whnf
      have f37 : vs 37 = .bool true := hd 37 (by kernel_rfl)
      have e127 : A'.tmps[127]?.getD undef = vs 37 := slot_in hA hap (Nat.lt_of_lt_of_eq (Nat.le_of_ble_eq_true rfl : 127 < 128) hsz.symm) (by kernel_rfl)
      rw [f37] at e127
      clear hA hd o0 o6 o7 o9 o10 o13
      go_step
      exact hK _ _ (Kp.refl _ _) rfl
  · intro vs W hW hp
    rw [show putAll vs (opsOf 15 Tryd.f3) 0 a = putD [(90, vs 0), (91, vs 1), (92, vs 2), (93, vs 3), (94, vs 4), (95, vs 5), (96, vs 6), (97, vs 7), (98, vs 8), (99, vs 9), (100, vs 10), (101, vs 11), (102, vs 12), (103, vs 13), (104, vs 14), (105, vs 15), (106, vs 16), (107, vs 17), (108, vs 18), (109, vs 19), (110, vs 20), (111, vs 21), (112, vs 22), (113, vs 23), (114, vs 24), (115, vs 25), (116, vs 26), (117, vs 27), (118, vs 28), (119, vs 29), (120, vs 30), (121, vs 31), (122, vs 32), (123, vs 33), (124, vs 34), (125, vs 35), (126, vs 36), (127, vs 37), (8, vs 38)] a from by kernel_rfl]
    exact hend _ W (same_putD _ a) hW (sl_putD _ a 8 _ (by rw [show vs 38 = _ from hp 38 (Nat.le_of_ble_eq_true (by kernel_rfl))]; kernel_rfl))
-- END smc15
end Go.Proofs.YtapboamjpilckaaDoor
/- What comes in, opened: slices of bytes; how much there is of it. -/
namespace Go.Proofs.YtapboamjpilckaaDoor
open Go.RowKit Go.WideShapes Go.ChangeShapes

section
variable {H : Type} {enc : TypeId × Value → H} {P : Program}
/-! ### Bulk -/
theorem bulk_pos (d : DataW H) : 1 ≤ Rows.uptoBulk d := by
  cases d with
  | lit l => cases l <;> simp [Rows.uptoBulk]
  | nil => simp [Rows.uptoBulk]
  | ptr d => simp [Rows.uptoBulk]
  | slice elems spare => simp [Rows.uptoBulk]
  | agg parts => simp [Rows.uptoBulk]
  | iface t d => simp [Rows.uptoBulk]
  | map entries => simp [Rows.uptoBulk]
  | held h => simp [Rows.uptoBulk]
theorem bulk_len (l : List (DataW H)) : l.length ≤ Rows.uptoBulkAll l := by
  induction l with
  | nil => simp [Rows.uptoBulkAll]
  | cons x r ih => have := bulk_pos x; simp only [Rows.uptoBulkAll, List.length_cons]; omega
theorem bulk_slice (l r : List (DataW H)) : Rows.uptoBulk (.slice l r) = Rows.uptoBulkAll l + Rows.uptoBulkAll r + 1 := by simp [Rows.uptoBulk]
/-- Sums, place by place. -/
def sumTo (f : Nat → Nat) : Nat → Nat
  | 0 => 0
  | n + 1 => sumTo f n + f n
theorem bulk_append (l r : List (DataW H)) : Rows.uptoBulkAll (l ++ r) = Rows.uptoBulkAll l + Rows.uptoBulkAll r := by
  induction l with
  | nil => simp [Rows.uptoBulkAll]
  | cons x l ih => simp only [List.cons_append, Rows.uptoBulkAll, ih]; omega
theorem bulk_range (D : Nat → DataW H) (n : Nat) : Rows.uptoBulkAll ((List.range n).map D) = sumTo (fun i => Rows.uptoBulk (D i)) n := by
  induction n with
  | zero => rfl
  | succ n ih => rw [List.range_succ, List.map_append, bulk_append, ih]; simp [Rows.uptoBulkAll, sumTo]
theorem sumTo_mono {f : Nat → Nat} {m n : Nat} (h : m ≤ n) : sumTo f m ≤ sumTo f n := by
  induction n with
  | zero => rw [show m = 0 by omega]; exact Nat.le_refl _
  | succ n ih =>
    by_cases e : m = n + 1
    · subst e; exact Nat.le_refl _
    · exact Nat.le_trans (ih (by omega)) (Nat.le_add_right _ _)
theorem sumTo_at {f : Nat → Nat} {i n : Nat} (h : i < n) : f i ≤ sumTo f n := Nat.le_trans (Nat.le_add_left _ _) (sumTo_mono (f := f) (show i + 1 ≤ n by omega))
theorem bulk_bound {l : List (DataW H)} (hk : Rows.uptoSmall H l = true) : Rows.uptoBulkAll l ≤ 1048576 := of_decide_eq_true hk

/-! ### A slice of bytes -/
theorem u8_lit {z : Int} (h : (Lit.int .u8 z).wf = true) : 0 ≤ z ∧ z ≤ 255 := by simpa [Lit.wf, IntKind.min, IntKind.max, IntKind.signed, IntKind.bits] using h
theorem open_bytes {W : World} {n : Nat} {t e : TypeId} {cs : List Value} {x : DataW H × List MemPlace} (ht : P.underlying t = some (.slice e)) (he : P.underlying e = some (.int .u8)) (hc : P.cellsOf e = 1)
    (h : DataW.trod enc P W 0 (fun _ => true) true n t cs = some x) : ∃ B bs, cs = [B] ∧ Rd W 1 B bs.length (bv bs) ∧ bs.length + 1 ≤ Rows.uptoBulk x.1 := by
  rcases open_ints ht he hc h with ⟨rfl, rfl⟩ | ⟨a, len, cap, zs, rfl, _, hl, hm, hz, rfl, hcell, hwf⟩
  · exact ⟨_, [], rfl, Rd.nil _ _, by simp [Rows.uptoBulk]⟩
  · simp only [if_true] at hz
    have hbl : ((zs.take len).map fun z => UInt8.ofNat z.toNat).length = len := by rw [List.length_map, List.length_take]; omega
    refine ⟨_, (zs.take len).map fun z => UInt8.ofNat z.toNat, rfl, ?_, ?_⟩
    · rw [hbl]
      refine ⟨by rw [bv_length, hbl]; omega, some a, cap, rfl, hl, hm, (fun h => by cases h), fun ad had j u hu => ?_⟩
      cases had
      rw [bv_get, List.getElem?_map] at hu
      cases hj : (zs.take len)[j]? with
      | none => rw [hj] at hu; simp at hu
      | some z =>
        rw [hj] at hu
        have hz' : zs[j]? = some z := by
          rw [List.getElem?_take] at hj
          split at hj
          · exact hj
          · cases hj
        have hlt : j < zs.length := (List.getElem?_eq_some_iff.1 hz').1
        have hw := u8_lit (hwf z (List.mem_of_getElem? hz'))
        have hg := hcell j hlt
        rw [List.getD_eq_getElem?_getD, hz', Option.getD_some] at hg
        rw [hg]
        simp only [Option.map_some, Option.some.injEq] at hu
        rw [← hu, UInt8.toNat_ofNat', Nat.mod_eq_of_lt (by omega)]
        congr 2
        omega
    · rw [bulk_slice]
      have := bulk_len (lits (H := H) .u8 (zs.take len))
      rw [hbl]
      have hll : (lits (H := H) .u8 (zs.take len)).length = len := by simp [lits]; omega
      omega
/-- The same, with the reading's length. -/
theorem open_bytes_len {W : World} {n : Nat} {t e : TypeId} {cs : List Value} {x : DataW H × List MemPlace} (ht : P.underlying t = some (.slice e)) (he : P.underlying e = some (.int .u8)) (hc : P.cellsOf e = 1)
    (h : DataW.trod enc P W 0 (fun _ => true) true n t cs = some x) : ∃ B bs, cs = [B] ∧ Rd W 1 B bs.length (bv bs) ∧ bs.length + 1 ≤ Rows.uptoBulk x.1 ∧ (bs = [] ∨ ∃ elems spare, x.1 = .slice elems spare ∧ elems.length = bs.length) := by
  obtain ⟨B, bs, h1, h2, h3⟩ := open_bytes ht he hc h
  refine ⟨B, bs, h1, h2, h3, ?_⟩
  rcases open_ints ht he hc h with ⟨hB, _⟩ | ⟨a, len, cap, zs, hB, _, _, _, hz, hx, _, _⟩
  · left
    obtain ⟨A, c, hv, _⟩ := h2.2
    rw [h1, hv] at hB
    simp only [List.cons.injEq, Value.slice.injEq, and_true] at hB
    exact List.eq_nil_of_length_eq_zero hB.2.1
  · right
    simp only [if_true] at hz
    refine ⟨_, _, by rw [hx], ?_⟩
    obtain ⟨A, c, hv, _⟩ := h2.2
    rw [h1, hv] at hB
    simp only [List.cons.injEq, Value.slice.injEq, and_true] at hB
    simp [lits]
    omega
end
end Go.Proofs.YtapboamjpilckaaDoor
/- Slices of texts that came in, opened. -/
namespace Go.Proofs.YtapboamjpilckaaDoor
open Go.RowKit Go.WideShapes Go.ChangeShapes
/-- How much a list of texts is, in a bulk of b. -/
structure TxsLe (L : List (List UInt8)) (b : Nat) : Prop where
  n : L.length ≤ b
  each : ∀ l, l ∈ L → l.length ≤ b
  all : (L.map List.length).sum + L.length ≤ b
theorem TxsLe.le {L : List (List UInt8)} {b c : Nat} (h : TxsLe L b) (hc : b ≤ c) : TxsLe L c := ⟨by have := h.n; omega, fun r hr => by have := h.each r hr; omega, by have := h.all; omega⟩
theorem sum_take_succ {L : List (List UInt8)} {i : Nat} {l : List UInt8} (h : L[i]? = some l) : ((L.take (i + 1)).map List.length).sum = ((L.take i).map List.length).sum + l.length := by
  rw [List.take_add_one, h, Option.toList_some, List.map_append, List.sum_append]
  simp
section
variable {H : Type} {enc : TypeId × Value → H}
theorem Tryd.cellsBytesO : Tryd.prog.cellsOf 22 = 1 := by kernel_rfl
theorem Tryd.cellsU8O : Tryd.prog.cellsOf 5 = 1 := by kernel_rfl
theorem open_texts {W : World} {n : Nat} {v : Value} {x : DataW H × List MemPlace} (h : DataW.trod enc Tryd.prog W 0 (fun _ => true) true n 23 [v] = some x) :
    ∃ L, Txs W v L ∧ TxsLe L (Rows.uptoBulk x.1) := by
  rcases Deep.open_slice Tryd.underlying23 h with ⟨hv, rfl⟩ | ⟨a, len, cap, m, k, D, Pl, hv, _, hl, hm, hmm, rfl, hel⟩
  · cases hv
    exact ⟨[], ⟨[], Rd.nil _ _, fun i hi => by simp at hi⟩, ⟨by simp, by simp, by simp [Rows.uptoBulk]⟩⟩
  · cases hv
    simp only [if_true] at hmm
    obtain ⟨G, hG⟩ := Deep.choose_lt (α := Option (List UInt8 × Value)) (n := len) (p := fun i o => ∃ r B, o = some (r, B) ∧ W.cell? (a.add i) = some B ∧ Rd W 1 B r.length (bv r) ∧ r.length + 1 ≤ Rows.uptoBulk (D i)) (fun i hi => by
      obtain ⟨cs, h1, h2⟩ := hel i (by omega)
      rw [Tryd.cellsBytesO, Nat.mul_one] at h1
      obtain ⟨B, r, rfl, hr, hb⟩ := open_bytes Tryd.underlying22 Tryd.underlying5 Tryd.cellsU8O h2
      obtain ⟨_, hlen, hcell⟩ := World.cells?_some h1
      have hc0 := hcell 0 (by simp)
      exact ⟨_, r, B, rfl, by simpa [Addr.add] using hc0, hr, hb⟩)
    have hps : ∀ i, i < len → ∃ r B, ((List.range len).map fun i => match G i with | some (r, _) => r | none => [])[i]? = some r ∧ ((List.range len).map fun i => match G i with | some (_, B) => B | none => undef)[i]? = some B ∧ W.cell? (a.add i) = some B ∧ Rd W 1 B r.length (bv r) ∧ r.length + 1 ≤ Rows.uptoBulk (D i) := fun i hi => by
      obtain ⟨r, B, hg, h1, h2, h3⟩ := hG i hi
      refine ⟨r, B, ?_, ?_, h1, h2, h3⟩
      · rw [List.getElem?_map, List.getElem?_range hi]
        simp [hg]
      · rw [List.getElem?_map, List.getElem?_range hi]
        simp [hg]
    have hlen : ((List.range len).map fun i => match G i with | some (r, _) => r | none => ([] : List UInt8)).length = len := by simp
    have hlenB : ((List.range len).map fun i => match G i with | some (_, B) => B | none => undef).length = len := by simp
    generalize ((List.range len).map fun i => match G i with | some (r, _) => r | none => ([] : List UInt8)) = L at hps hlen
    generalize ((List.range len).map fun i => match G i with | some (_, B) => B | none => undef) = Bs at hps hlenB
    subst hlen
    rw [bulk_slice, bulk_range]
    have hfr : ∀ i, i ≤ L.length → ((L.take i).map List.length).sum + i ≤ sumTo (fun i => Rows.uptoBulk (D i)) i := by
      intro i
      induction i with
      | zero => intro _; simp
      | succ i ih =>
        intro hi
        obtain ⟨r, B, hg, _, _, _, h2⟩ := hps i (by omega)
        rw [sum_take_succ hg]
        have := ih (by omega)
        show _ ≤ sumTo (fun i => Rows.uptoBulk (D i)) i + Rows.uptoBulk (D i)
        omega
    have hall := hfr L.length (Nat.le_refl _)
    rw [List.take_length] at hall
    have hmono := sumTo_mono (f := fun i => Rows.uptoBulk (D i)) (show L.length ≤ m by omega)
    refine ⟨L, ⟨Bs, ⟨by omega, some a, cap, rfl, hl, hm, (fun h => by cases h), fun ad had j u hu => ?_⟩, fun i hi => ?_⟩, ⟨by omega, fun r hr => ?_, by omega⟩⟩
    · cases had
      obtain ⟨r, B, _, hB, hc, _⟩ := hps j (by have := (List.getElem?_eq_some_iff.1 hu).1; omega)
      rw [hu] at hB
      cases hB
      exact hc
    · obtain ⟨r, B, hg, hB, _, hr, _⟩ := hps i hi
      rw [List.getElem?_eq_getElem hi] at hg
      cases hg
      exact ⟨B, hB, hr⟩
    · obtain ⟨i, hi, rfl⟩ := List.getElem_of_mem hr
      obtain ⟨r', B, hg, _, _, _, h2⟩ := hps i hi
      rw [List.getElem?_eq_getElem hi] at hg
      cases hg
      have := sumTo_at (f := fun i => Rows.uptoBulk (D i)) hi
      omega
end
end Go.Proofs.YtapboamjpilckaaDoor
/- SignMacs: the walk. -/
namespace Go.Proofs.YtapboamjpilckaaDoor
open Go.RowKit
/-- Texts with a mark behind each. -/
def mkQ (m : UInt8) : List (List UInt8) → List Value → List Res
  | l :: ls, B :: Bs => rowR 5 1 (grow1 B) (l.length + 1) (bv (l ++ [m])) :: mkQ m ls Bs
  | _, _ => []
theorem mkQ_snoc (m : UInt8) : ∀ (ls : List (List UInt8)) (Bs : List Value) (l : List UInt8) (B : Value), ls.length = Bs.length → mkQ m (ls ++ [l]) (Bs ++ [B]) = mkQ m ls Bs ++ [rowR 5 1 (grow1 B) (l.length + 1) (bv (l ++ [m]))]
  | [], [], _, _, _ => rfl
  | _ :: ls, _ :: Bs, l, B, h => by simp only [List.cons_append, mkQ, mkQ_snoc m ls Bs l B (by simpa using h)]
  | [], _ :: _, _, _, h => by simp at h
  | _ :: _, [], _, _, h => by simp at h
theorem mkQ_mem (m : UInt8) : ∀ (ls : List (List UInt8)) (Bs : List Value) (i : Nat) (l : List UInt8) (B : Value), ls[i]? = some l → Bs[i]? = some B → rowR 5 1 (grow1 B) (l.length + 1) (bv (l ++ [m])) ∈ mkQ m ls Bs
  | l0 :: ls, B0 :: Bs, 0, l, B, h1, h2 => by cases h1; cases h2; exact List.mem_cons_self ..
  | l0 :: ls, B0 :: Bs, i + 1, l, B, h1, h2 => List.mem_cons_of_mem _ (mkQ_mem m ls Bs i l B h1 h2)
  | [], _, _, _, _, h1, _ => by simp at h1
  | _ :: _, [], _, _, _, _, h2 => by simp at h2
theorem markQ_rd {w : World} {B : Value} {l : List UInt8} {m : UInt8} (h : Ow w 5 1 (grow1 B) (l.length + 1) (bv (l ++ [m]))) : Rd w 1 B l.length (bv l) := by
  obtain ⟨A, c, rfl, hc⟩ := grow1_form h
  obtain ⟨h1, A', c', e, h2, h3, h4, h5⟩ := Rd.of_own h
  simp only [grow1] at e
  cases e
  refine ⟨by rw [bv_length]; omega, A, c, rfl, by omega, h3, (fun hA => ?_), (fun ad had j u hu => h5 ad had j u ?_)⟩
  · have := h4 hA; omega
  · rw [bv_append]
    have hj := (List.getElem?_eq_some_iff.1 hu).1
    rw [List.getElem?_append_left hj]
    exact hu
/-- What a marked text is, at one look. -/
theorem markQ_at {w : World} {B : Value} {l : List UInt8} {m : UInt8} (h : Ow w 5 1 (grow1 B) (l.length + 1) (bv (l ++ [m]))) : ∃ g c, B = .slice (some ⟨g, 0, none⟩) l.length c ∧ l.length + 1 ≤ c ∧ Rd w 1 B l.length (bv l) ∧ w.cell? ⟨g, l.length, none⟩ = some (.int .u8 (m.toNat : Int)) := by
  obtain ⟨A, c, e, hc⟩ := grow1_form h
  obtain ⟨g, c', e2, -, -⟩ := ow_some h (by omega)
  subst e
  simp only [grow1] at e2
  cases e2
  have hq := (show Ow w 5 1 (.slice (some ⟨g, 0, none⟩) (l.length + 1) c) (l.length + 1) (bv (l ++ [m])) from h).cellAt l.length (by omega)
  rw [bv_append, List.getElem?_append_right (by rw [bv_length]; omega), bv_length, Nat.sub_self] at hq
  exact ⟨g, c, rfl, hc, markQ_rd h, hq⟩
theorem txf_addr {W : World} {A : Option Addr} {n c : Nat} {us : List Value} {ls : List (List UInt8)} (h : TxF W (.slice A n c) us ls) (hn : 0 < ls.length) : ∃ ad, A = some ad := by
  cases A with
  | some ad => exact ⟨ad, rfl⟩
  | none =>
    obtain ⟨hvl, A', c', he, -, -, hnil, -⟩ := h.1
    cases he
    have := hnil rfl
    omega
theorem take_flat {xs : List (List UInt8)} {k : Nat} {x : List UInt8} (h : xs[k]? = some x) : (xs.take (k + 1)).flatten = (xs.take k).flatten ++ x := by
  rw [List.take_add_one, h]
  simp
theorem take_flat_le (xs : List (List UInt8)) (k : Nat) : (xs.take k).flatten.length ≤ xs.flatten.length := by
  conv => rhs; rw [← List.take_append_drop k xs, List.flatten_append, List.length_append]
  omega
theorem mem_flat_le {xs : List (List UInt8)} {x : List UInt8} (h : x ∈ xs) : x.length ≤ xs.flatten.length := by
  induction xs with
  | nil => cases h
  | cons a l ih =>
    rw [List.flatten_cons, List.length_append]
    rcases List.mem_cons.1 h with rfl | h
    · omega
    · have := ih h; omega
def dsLMac0 : List Nat := [19, 20, 21, 22, 25, 26, 27, 28, 29, 30, 31, 32, 33, 34, 35, 36, 37, 38, 39, 40, 11, 41, 42, 43, 44, 45, 46, 10, 23, 24, 12]
def dsLMac2 : List Nat := [53, 54, 55, 56, 59, 60, 61, 62, 63, 64, 65, 66, 67, 68, 69, 70, 71, 72, 73, 74, 75, 76, 77, 78, 79, 80, 81, 82, 83, 84, 85, 86, 87, 88, 89, 57, 58, 14]
set_option maxRecDepth 100000 in
set_option maxHeartbeats 4000000 in
theorem smc_l0 {Q : Exit → Act → World → Prop} {a : Act} {w0 w : World} (A : Option Addr) (c : Nat) (us : List Value) (xs : List (List UInt8)) (hx : TxF w0 (.slice A xs.length c) us xs) (hn : xs.length ≤ 1073741824) (hfl : xs.flatten.length ≤ 1073741824) (L : List Res)
    (hsz : a.tmps.size = 128) (o1 : Sl a 1 (.slice A xs.length c)) (o10 : Sl a 10 (.slice none 0 0)) (o11 : Sl a 11 (.slice none 0 0)) (o12 : Sl a 12 (.int .i64 ((0 : Nat) : Int))) (S : Held w0 w L)
    (hend : ∀ (a' : Act) (W : World) (vm va : Value) (Bs : List Value), Same a a' dsLMac0 → Sl a' 10 va → Sl a' 11 vm → Bs.length = xs.length → Held w0 W (rowR 22 1 vm xs.length Bs :: rowR 5 1 va xs.flatten.length (bv xs.flatten) :: (L ++ mkQ 166 xs Bs)) → Q .normal a' W) :
    (Code.block 0 (blockOf 0 Tryd.f3)).wp Tryd.prog Q a w := by
  refine wp_block ?_
  conv => arg 2; whnf
  refine wp_loop (fun a' w' => ∃ (k : Nat) (vm va : Value) (Bs : List Value), k ≤ xs.length ∧ Bs.length = k ∧ Same a a' dsLMac0 ∧ Sl a' 12 (.int .i64 ((k : Nat) : Int)) ∧ Sl a' 10 va ∧ Sl a' 11 vm ∧ Held w0 w' (rowR 22 1 vm k Bs :: rowR 5 1 va (xs.take k).flatten.length (bv (xs.take k).flatten) :: (L ++ mkQ 166 (xs.take k) Bs))) (fun a' _ => xs.length - (intOf (a'.eval (.tmp 12))).toNat) ⟨0, _, _, [], Nat.zero_le _, rfl, Same.refl _ _, o12, o10, o11, ?_⟩ ?_
  · have S1 := (S.rownew (e := 5) (s := 1) (World.ownsRow_nil _ _ _ _) (Kp.refl [] w) (by simp [Value.ownBlock])).rownew (e := 22) (s := 1) (World.ownsRow_nil _ _ _ _) (Kp.refl [] w) (by simp [Value.ownBlock])
    rw [show mkQ 166 (xs.take 0) [] = [] from by rw [List.take_zero]; rfl, List.append_nil]
    exact S1
  clear o12 o10 o11 S
  rintro a1 w1 ⟨k, vm, va, Bs, hk, hB, T, o12, o10, o11, S⟩
  have hz1 := T.size.trans hsz
  have o1 := T.keep 1 _ (by decide) o1
  have e12 := o12.eval (by rw [hz1]; decide)
  refine wp_seq (wp_seq (smc_r5 A k xs.length c hz1 o1 o12 (fun a2 hs2 o22 => ?_)))
  have hz2 := hs2.size.trans hz1
  have o1 := hs2.keep 1 _ (by decide) o1
  have o10 := hs2.keep 10 _ (by decide) o10
  have o11 := hs2.keep 11 _ (by decide) o11
  have o12 := hs2.keep 12 _ (by decide) o12
  have T := T.trans hs2
  by_cases hlt : k < xs.length
  · refine wp_cond_true ((o22.eval (by rw [hz2]; decide)).trans (by rw [decide_eq_true hlt])) (wp_skip ?_)
    simp only [Exit.then]
    obtain ⟨ad, rfl⟩ := txf_addr hx (by omega)
    obtain ⟨x, hxk⟩ : ∃ x, xs[k]? = some x := ⟨_, List.getElem?_eq_getElem hlt⟩
    have hxe : xs[k] = x := (List.getElem?_eq_some_iff.1 hxk).2
    have hxm := mem_flat_le (List.mem_of_getElem? hxk)
    have htk : xs.take (k + 1) = xs.take k ++ [x] := by rw [List.take_add_one, hxk]; rfl
    obtain ⟨u, hu, hru⟩ := hx.2 k hlt
    rw [hxe] at hru
    obtain ⟨Ax, cx, rfl⟩ := rd_form hru
    have C1 : ∀ V, Kp [] w0 V → V.cell? (ad.add k) = some (.slice Ax x.length cx) := fun V kV => (hx.kp0 kV).at_ hu
    have RX : ∀ V, Kp [] w0 V → Rd V 1 (.slice Ax x.length cx) x.length (bv x) := fun V kV => rd_old hru kV
    have hal := take_flat_le xs (k + 1)
    rw [take_flat hxk, List.length_append] at hal
    refine wp_seq (wp_block ?_)
    refine wp_seq (smc_r7 w0 ad xs.length c k hlt Ax cx x (by omega) C1 RX vm Bs (by omega) _ hz2 o1 o11 o12 S (fun a3 vs gs w3 hs3 o38 hf o11 S => ?_))
    have hz3 := hs3.size.trans hz2
    have o1 := hs3.keep 1 _ (by decide) o1
    have o10 := hs3.keep 10 _ (by decide) o10
    have o12 := hs3.keep 12 _ (by decide) o12
    have T := T.trans hs3
    have S : Held w0 w3 (rowR 5 1 (grow1 (vs 13)) (x.length + 1) (bv (x ++ [166])) :: rowR 22 1 (vs 15) (k + 1) (Bs ++ [vs 13]) :: rowR 5 1 va (xs.take k).flatten.length (bv (xs.take k).flatten) :: (L ++ mkQ 166 (xs.take k) Bs)) := S.some_of (List.Sublist.cons _ (List.Sublist.cons_cons _ (List.Sublist.cons _ (List.Sublist.refl _))))
    have S : Held w0 w3 (rowR 5 1 va (xs.take k).flatten.length (bv (xs.take k).flatten) :: rowR 5 1 (grow1 (vs 13)) (x.length + 1) (bv (x ++ [166])) :: rowR 22 1 (vs 15) (k + 1) (Bs ++ [vs 13]) :: (L ++ mkQ 166 (xs.take k) Bs)) := S.pull 2 rfl
    refine smc_r8 w0 ad xs.length c k hlt Ax cx x C1 RX va (xs.take k).flatten (by omega) _ S hz3 o1 o10 o12 (fun a4 w4 hs4 h4 => ?_)
    obtain ⟨va2, o10, S⟩ := h4
    have hz4 := hs4.size.trans hz3
    have o1 := hs4.keep 1 _ (by decide) o1
    have o11 := hs4.keep 11 _ (by decide) o11
    have o12 := hs4.keep 12 _ (by decide) o12
    have T := T.trans hs4
    simp only [Exit.inBlock, Exit.then]
    refine smc_r6 k (by omega) hz4 o12 (fun a5 hs5 o12 => ?_)
    have hz5 := hs5.size.trans hz4
    have o1 := hs5.keep 1 _ (by decide) o1
    have o10 := hs5.keep 10 _ (by decide) o10
    have o11 := hs5.keep 11 _ (by decide) o11
    have T := T.trans hs5
    have S : Held w0 w4 (rowR 22 1 (vs 15) (k + 1) (Bs ++ [vs 13]) :: rowR 5 1 va2 (xs.take (k + 1)).flatten.length (bv (xs.take (k + 1)).flatten) :: (L ++ mkQ 166 (xs.take (k + 1)) (Bs ++ [vs 13]))) := by
      rw [take_flat hxk, List.length_append, htk, mkQ_snoc _ _ _ _ _ (by rw [List.length_take, hB]; omega), ← List.append_assoc]
      exact (S.pull 2 rfl).perm (List.Perm.cons _ (List.Perm.cons _ (List.perm_append_singleton _ _).symm))
    refine ⟨⟨k + 1, _, _, _, by omega, by simp [hB], T.more (by decide +kernel), o12, o10, o11, S⟩, ?_⟩
    show xs.length - (intOf _).toNat < xs.length - (intOf _).toNat
    rw [e12, o12.eval (by rw [hz5]; decide)]
    simp only [intOf]; omega
  · refine wp_cond_false ((o22.eval (by rw [hz2]; decide)).trans (by rw [decide_eq_false hlt])) (wp_exit ?_)
    simp only [Exit.then, Exit.inBlock]
    obtain rfl : k = xs.length := by omega
    rw [List.take_length] at S
    exact hend _ _ vm va Bs (T.more (by decide +kernel)) o10 o11 hB S
set_option maxRecDepth 100000 in
set_option maxHeartbeats 4000000 in
theorem smc_l2 {Q : Exit → Act → World → Prop} {a : Act} {w0 w : World} (A Am : Option Addr) (c cm : Nat) (xs : List (List UInt8)) (hn : xs.length ≤ 1073741824) (hfl : xs.flatten.length ≤ 1073741824)
    (hX : ∀ (k : Nat) (x : List UInt8), xs[k]? = some x → ∃ ad am Ax cx gb cb, A = some ad ∧ Am = some am ∧ x.length + 1 ≤ cb ∧ ∀ V, Kp [] w0 V → V.cell? (am.add k) = some (.slice (some ⟨gb, 0, none⟩) x.length cb) ∧ V.cell? (ad.add k) = some (.slice Ax x.length cx) ∧ Rd V 1 (.slice Ax x.length cx) x.length (bv x) ∧ Rd V 1 (.slice (some ⟨gb, 0, none⟩) x.length cb) x.length (bv x) ∧ V.cell? ⟨gb, x.length, none⟩ = some (.int .u8 166))
    (hsz : a.tmps.size = 128) (o1 : Sl a 1 (.slice A xs.length c)) (o11 : Sl a 11 (.slice Am xs.length cm)) (o14 : Sl a 14 (.int .i64 ((0 : Nat) : Int))) (K : Kp [] w0 w)
    (hend : ∀ (a' : Act) (W : World), Same a a' dsLMac2 → Kp [] w0 W → Q .normal a' W) :
    (Code.block 2 (blockOf 2 Tryd.f3)).wp Tryd.prog Q a w := by
  refine wp_block ?_
  conv => arg 2; whnf
  refine wp_loop (fun a' w' => ∃ (k : Nat), k ≤ xs.length ∧ Same a a' dsLMac2 ∧ Sl a' 14 (.int .i64 ((k : Nat) : Int)) ∧ Kp [] w0 w') (fun a' _ => xs.length - (intOf (a'.eval (.tmp 14))).toNat) ⟨0, Nat.zero_le _, Same.refl _ _, o14, K⟩ ?_
  clear o14 K
  rintro a1 w1 ⟨k, hk, T, o14, K⟩
  have hz1 := T.size.trans hsz
  have o1 := T.keep 1 _ (by decide) o1
  have o11 := T.keep 11 _ (by decide) o11
  have e14 := o14.eval (by rw [hz1]; decide)
  refine wp_seq (wp_seq (smc_r11 A k xs.length c hz1 o1 o14 (fun a2 hs2 o56 => ?_)))
  have hz2 := hs2.size.trans hz1
  have o1 := hs2.keep 1 _ (by decide) o1
  have o11 := hs2.keep 11 _ (by decide) o11
  have o14 := hs2.keep 14 _ (by decide) o14
  have T := T.trans hs2
  by_cases hlt : k < xs.length
  · refine wp_cond_true ((o56.eval (by rw [hz2]; decide)).trans (by rw [decide_eq_true hlt])) (wp_skip ?_)
    simp only [Exit.then]
    obtain ⟨x, hxk⟩ : ∃ x, xs[k]? = some x := ⟨_, List.getElem?_eq_getElem hlt⟩
    have hxm := mem_flat_le (List.mem_of_getElem? hxk)
    obtain ⟨ad, am, Ax, cx, gb, cb, rfl, rfl, hcb, hV⟩ := hX k x hxk
    have hV : ∀ V, Kp [] w1.drew V → _ := fun V kV => hV V (K.drew.trans kV (by simp))
    refine wp_seq (wp_block ?_)
    refine wp_seq (smc_r13 am ad xs.length cm c k hlt Ax cx gb cb x (by omega) hcb (fun V kV => (hV V kV).1) (fun V kV => (hV V kV).2.1) (fun V kV => (hV V kV).2.2.1) (fun V kV => (hV V kV).2.2.2.1) (fun V kV => (hV V kV).2.2.2.2) hz2 o1 o11 o14 (fun a3 w3 hs3 k3 o89 => ?_))
    have hz3 := hs3.size.trans hz2
    have o1 := hs3.keep 1 _ (by decide) o1
    have o11 := hs3.keep 11 _ (by decide) o11
    have o14 := hs3.keep 14 _ (by decide) o14
    have o56 := hs3.keep 56 _ (by decide) o56
    have T := T.trans hs3
    have K := K.drew.trans k3 (by simp)
    refine wp_cond_false (o89.eval (by rw [hz3]; decide)) (wp_skip ?_)
    simp only [Exit.inBlock, Exit.then]
    refine smc_r12 k (by omega) hz3 o14 (fun a4 hs4 o14 => ?_)
    have hz4 := hs4.size.trans hz3
    have o1 := hs4.keep 1 _ (by decide) o1
    have o11 := hs4.keep 11 _ (by decide) o11
    have o56 := hs4.keep 56 _ (by decide) o56
    have o89 := hs4.keep 89 _ (by decide) o89
    have T := T.trans hs4
    refine ⟨⟨k + 1, by omega, T.more (by decide +kernel), o14, K⟩, ?_⟩
    show xs.length - (intOf _).toNat < xs.length - (intOf _).toNat
    rw [e14, o14.eval (by rw [hz4]; decide)]
    simp only [intOf]; omega
  · refine wp_cond_false ((o56.eval (by rw [hz2]; decide)).trans (by rw [decide_eq_false hlt])) (wp_exit ?_)
    simp only [Exit.then, Exit.inBlock]
    exact hend _ _ (T.more (by decide +kernel)) K
set_option maxRecDepth 100000 in
set_option maxHeartbeats 4000000 in
theorem signmacs_any (As : Option Addr) (cs : Nat) (sec : List UInt8) (hsl : sec.length ≤ 1073741824) (w : World) (hs : Rd w 1 (.slice As sec.length cs) sec.length (bv sec)) (v : Value) (xs : List (List UInt8)) (hx : Txs w v xs) (hn : xs.length ≤ 1073741824) (hfl : xs.flatten.length ≤ 1073741824) (la : List UInt8) (hla : la.length = 32) (lb : List UInt8) (hlb : lb.length = 32) (LDw : LD w) :
    Calls Tryd.prog 3 #[.slice As sec.length cs, v, .agg (hashA la), .agg (hashA lb)] w fun e w' => e = .returned (.bool true) ∧ Kp [] w w' := by
  obtain ⟨us, hx⟩ := hx.f
  obtain ⟨A, c, rfl⟩ := rd_form hx.1
  refine calls_fr Tryd.func3 rfl 128 rfl (fun a0 hsz hdf hAr => ?_)
  have hz0 : a0.tmps.size = 128 := hsz
  have D := hdf
  have o0 := hAr 0 _ rfl
  have o1 := hAr 1 _ rfl
  have o2 := hAr 2 _ rfl
  have o3 := hAr 3 _ rfl
  refine wp_seq (smc_r0 w la lb [] (Held.start w) hz0 o2 o3 (fun a1 w1 hs1 o8 h1 => ?_))
  have hz1 := hs1.size.trans hz0
  have o0 := hs1.keep 0 _ (by decide) o0
  have o1 := hs1.keep 1 _ (by decide) o1
  have o2 := hs1.keep 2 _ (by decide) o2
  have o3 := hs1.keep 3 _ (by decide) o3
  have D := hs1.defers.trans D
  obtain ⟨g6, g7, o6, o7, S⟩ := h1
  refine wp_seq (smc_r1 w As cs sec hsl hs _ S hz1 o0 (fun a2 w2 hs2 h2 => ?_))
  have hz2 := hs2.size.trans hz1
  have o0 := hs2.keep 0 _ (by decide) o0
  have o1 := hs2.keep 1 _ (by decide) o1
  have o6 := hs2.keep 6 _ (by decide) o6
  have o7 := hs2.keep 7 _ (by decide) o7
  have D := hs2.defers.trans D
  obtain ⟨vk, o9, S⟩ := h2
  refine wp_seq (smc_r2 hz2 (fun a3 hs3 o10 => ?_))
  have hz3 := hs3.size.trans hz2
  have o0 := hs3.keep 0 _ (by decide) o0
  have o1 := hs3.keep 1 _ (by decide) o1
  have o6 := hs3.keep 6 _ (by decide) o6
  have o7 := hs3.keep 7 _ (by decide) o7
  have o9 := hs3.keep 9 _ (by decide) o9
  have D := hs3.defers.trans D
  refine wp_seq (smc_r3 hz3 (fun a4 hs4 o11 => ?_))
  have hz4 := hs4.size.trans hz3
  have o0 := hs4.keep 0 _ (by decide) o0
  have o1 := hs4.keep 1 _ (by decide) o1
  have o6 := hs4.keep 6 _ (by decide) o6
  have o7 := hs4.keep 7 _ (by decide) o7
  have o9 := hs4.keep 9 _ (by decide) o9
  have o10 := hs4.keep 10 _ (by decide) o10
  have D := hs4.defers.trans D
  refine wp_seq (wp_seq (smc_r4 hz4 (fun a5 hs5 o12 => ?_)))
  have hz5 := hs5.size.trans hz4
  have o0 := hs5.keep 0 _ (by decide) o0
  have o1 := hs5.keep 1 _ (by decide) o1
  have o6 := hs5.keep 6 _ (by decide) o6
  have o7 := hs5.keep 7 _ (by decide) o7
  have o9 := hs5.keep 9 _ (by decide) o9
  have o10 := hs5.keep 10 _ (by decide) o10
  have o11 := hs5.keep 11 _ (by decide) o11
  have D := hs5.defers.trans D
  refine smc_l0 A c us xs hx hn hfl _ hz5 o1 o10 o11 o12 S (fun a6 w3 vm va Bs hs6 o10 o11 hB S => ?_)
  have hz6 := hs6.size.trans hz5
  have o0 := hs6.keep 0 _ (by decide) o0
  have o1 := hs6.keep 1 _ (by decide) o1
  have o6 := hs6.keep 6 _ (by decide) o6
  have o7 := hs6.keep 7 _ (by decide) o7
  have o9 := hs6.keep 9 _ (by decide) o9
  have D := hs6.defers.trans D
  simp only [Exit.then]
  have K3 := S.k
  obtain ⟨gk, ck, hvk, hck, -⟩ := ow_some (show Ow w3 5 1 vk (sec.length + 1) (bv (sec ++ [165])) from S.ok (rowR 5 1 vk (sec.length + 1) (bv (sec ++ [165]))) (by simp)) (by omega)
  subst hvk
  have hok : Ow w3 5 1 (.slice (some ⟨gk, 0, none⟩) (sec.length + 1) ck) (sec.length + 1) (bv (sec ++ [165])) := S.ok (rowR 5 1 (.slice (some ⟨gk, 0, none⟩) (sec.length + 1) ck) (sec.length + 1) (bv (sec ++ [165]))) (by simp)
  have hk1 : Rd w3 1 (.slice (some ⟨gk, 0, none⟩) sec.length ck) sec.length (bv sec) := markQ_rd (m := 165) hok
  have hk2 := hok.cellAt sec.length (by omega)
  rw [bv_append, List.getElem?_append_right (by rw [bv_length]; omega), bv_length, Nat.sub_self] at hk2
  have hk2 : w3.cell? ⟨gk, sec.length, none⟩ = some (.int .u8 165) := hk2
  have hb6 : Blk w3 g6 25 (hashA la) := S.ok (blkR g6 25 (hashA la)) (by simp)
  have hb7 : Blk w3 g7 25 (hashA lb) := S.ok (blkR g7 25 (hashA lb)) (by simp)
  have hmk : ∀ (i : Nat) (x : List UInt8), xs[i]? = some x → ∃ g cb, Bs[i]? = some (Value.slice (some ⟨g, 0, none⟩) x.length cb) ∧ x.length + 1 ≤ cb ∧ Rd w3 1 (.slice (some ⟨g, 0, none⟩) x.length cb) x.length (bv x) ∧ w3.cell? ⟨g, x.length, none⟩ = some (.int .u8 166) := by
    intro i x hi
    have hlt := (List.getElem?_eq_some_iff.1 hi).1
    obtain ⟨B, hBi⟩ : ∃ B, Bs[i]? = some B := ⟨_, List.getElem?_eq_getElem (by omega)⟩
    obtain ⟨g, cb, hBe, h1, h2, h3⟩ := markQ_at (show Ow w3 5 1 (grow1 B) (x.length + 1) (bv (x ++ [166])) from S.ok (rowR 5 1 (grow1 B) (x.length + 1) (bv (x ++ [166]))) (List.mem_cons_of_mem _ (List.mem_cons_of_mem _ (List.mem_append_right _ (mkQ_mem 166 xs Bs i x B hi hBi)))))
    subst hBe
    exact ⟨g, cb, hBi, h1, h2, h3⟩
  have hrm : Rd w3 1 vm xs.length Bs := Rd.of_own (S.at_ (l1 := []))
  have hxm : TxF w3 vm Bs xs := ⟨hrm, fun i hi => by
    obtain ⟨g, cb, h1, -, h2, -⟩ := hmk i xs[i] (List.getElem?_eq_getElem hi)
    exact ⟨_, h1, h2⟩⟩
  have hra : Rd w3 1 va xs.flatten.length (bv xs.flatten) := Rd.of_own (S.at_ (l1 := [_]))
  obtain ⟨Aa, ca, rfl⟩ := rd_form hra
  obtain ⟨Am, cm, rfl⟩ := rd_form hrm
  refine wp_seq (smc_r9 gk ck As cs sec hsl hck hk1 _ Bs xs hxm hfl hz6 o0 o9 o11 (fun a7 w4 hs7 h4 => ?_))
  have hz7 := hs7.size.trans hz6
  have o0 := hs7.keep 0 _ (by decide) o0
  have o1 := hs7.keep 1 _ (by decide) o1
  have o6 := hs7.keep 6 _ (by decide) o6
  have o7 := hs7.keep 7 _ (by decide) o7
  have o9 := hs7.keep 9 _ (by decide) o9
  have o10 := hs7.keep 10 _ (by decide) o10
  have o11 := hs7.keep 11 _ (by decide) o11
  have D := hs7.defers.trans D
  obtain ⟨gh, o13, S4⟩ := h4
  refine wp_seq (wp_seq (smc_r10 hz7 (fun a8 hs8 o14 => ?_)))
  have hz8 := hs8.size.trans hz7
  have o0 := hs8.keep 0 _ (by decide) o0
  have o1 := hs8.keep 1 _ (by decide) o1
  have o6 := hs8.keep 6 _ (by decide) o6
  have o7 := hs8.keep 7 _ (by decide) o7
  have o9 := hs8.keep 9 _ (by decide) o9
  have o10 := hs8.keep 10 _ (by decide) o10
  have o11 := hs8.keep 11 _ (by decide) o11
  have o13 := hs8.keep 13 _ (by decide) o13
  have D := hs8.defers.trans D
  have hX : ∀ (i : Nat) (x : List UInt8), xs[i]? = some x → ∃ ad am Ax cx gb cb, A = some ad ∧ Am = some am ∧ x.length + 1 ≤ cb ∧ ∀ V, Kp [] w4 V → V.cell? (am.add i) = some (.slice (some ⟨gb, 0, none⟩) x.length cb) ∧ V.cell? (ad.add i) = some (.slice Ax x.length cx) ∧ Rd V 1 (.slice Ax x.length cx) x.length (bv x) ∧ Rd V 1 (.slice (some ⟨gb, 0, none⟩) x.length cb) x.length (bv x) ∧ V.cell? ⟨gb, x.length, none⟩ = some (.int .u8 166) := by
    intro i x hi
    have hlt := (List.getElem?_eq_some_iff.1 hi).1
    have hxe : xs[i] = x := (List.getElem?_eq_some_iff.1 hi).2
    obtain ⟨ad, rfl⟩ := txf_addr hx (by omega)
    obtain ⟨am, rfl⟩ := txf_addr hxm (by omega)
    obtain ⟨u, hu, hru⟩ := hx.2 i hlt
    rw [hxe] at hru
    obtain ⟨Ax, cx, rfl⟩ := rd_form hru
    obtain ⟨g, cb, h1, h2, h3, h4⟩ := hmk i x hi
    refine ⟨ad, am, Ax, cx, g, cb, rfl, rfl, h2, fun V kV => ?_⟩
    have k3 := S4.k.trans kV (by simp)
    have k0 := K3.trans k3 (by simp)
    exact ⟨(hxm.kp0 k3).at_ h1, (hx.kp0 k0).at_ hu, rd_old hru k0, rd_old h3 k3, cell_kept h4 k3⟩
  refine smc_l2 A Am c cm xs hn hfl hX hz8 o1 o11 o14 (Kp.refl _ _) (fun a9 w5 hs9 k5 => ?_)
  have hz9 := hs9.size.trans hz8
  have o0 := hs9.keep 0 _ (by decide) o0
  have o6 := hs9.keep 6 _ (by decide) o6
  have o7 := hs9.keep 7 _ (by decide) o7
  have o9 := hs9.keep 9 _ (by decide) o9
  have o10 := hs9.keep 10 _ (by decide) o10
  have o13 := hs9.keep 13 _ (by decide) o13
  have D := hs9.defers.trans D
  simp only [Exit.then]
  have k35 := (S4.k.trans k5 (by simp)).drew
  have k05 := K3.trans k35 (by simp)
  have hbh := S4.at_ (l1 := [])
  refine wp_seq (smc_r15 (LDw.kp k05) As cs sec hsl (fun V kV => rd_old hs (k05.trans kV (by simp))) Aa ca xs.flatten hfl (fun V kV => rd_old hra (k35.trans kV (by simp))) la lb hla hlb gh g6 g7 gk ck hck (hbh.kp k5.drew (by simp)) (hb6.kp k35 (by simp)) (hb7.kp k35 (by simp)) (rd_old hk1 k35) (cell_kept hk2 k35) hz9 o0 o6 o7 o9 o10 o13 (fun a10 w6 hs10 k6 o8 => ?_))
  have hz10 := hs10.size.trans hz9
  have o0 := hs10.keep 0 _ (by decide) o0
  have o6 := hs10.keep 6 _ (by decide) o6
  have o7 := hs10.keep 7 _ (by decide) o7
  have o9 := hs10.keep 9 _ (by decide) o9
  have o10 := hs10.keep 10 _ (by decide) o10
  have o13 := hs10.keep 13 _ (by decide) o13
  have D := hs10.defers.trans D
  refine wp_ret ?_
  exact (bodyPost_ret (results_t1 (by rfl) (o8.eval (by rw [hz10]; decide))) D ⟨rfl, k05.trans k6 (by simp)⟩)
theorem signmacs_law (w : World) (y : Value) (sec : List UInt8) (hs : Rd w 1 y sec.length (bv sec)) (hsl : sec.length ≤ 1048576) (v : Value) (xs : List (List UInt8)) (hx : Txs w v xs) (le : TxsLe xs 1048576) (la : List UInt8) (hla : la.length = 32) (lb : List UInt8) (hlb : lb.length = 32) (LDw : LD w) :
    Calls Tryd.prog 3 #[y, v, .agg (hashA la), .agg (hashA lb)] w fun e w' => e = .returned (.bool true) ∧ Kp [] w w' := by
  obtain ⟨A, c, rfl⟩ := rd_form hs
  have h1 := le.all
  refine signmacs_any A c sec (by omega) w hs v xs hx (by have := le.n; omega) ?_ la hla lb hlb LDw
  rw [List.length_flatten]
  omega
end Go.Proofs.YtapboamjpilckaaDoor
/- What comes in, opened: slices of Puts. -/
namespace Go.Proofs.YtapboamjpilckaaDoor
open Go.RowKit Go.WideShapes Go.ChangeShapes

section
variable {H : Type} {enc : TypeId × Value → H}
/-- An array of 32 bytes. -/
theorem open_hash {P : Program} {W : World} {n m : Nat} {t e : TypeId} {cs : List Value} {x : DataW H × List MemPlace} (ht : P.underlying t = some (.array m e)) (he : P.underlying e = some (.int .u8)) (hc : P.cellsOf e = 1) (hct : P.cellsOf t = m)
    (h : DataW.trod enc P W 0 (fun _ => true) true n t cs = some x) : ∃ h : List UInt8, h.length = m ∧ cs = bv h ∧ m + 1 ≤ Rows.uptoBulk x.1 := by
  obtain ⟨xs, k, rfl, rfl, hl, hxl, hel⟩ := DataW.trod_array ht h
  rw [hct] at hl
  have one : ∀ i, i < m → ∃ z : Int, cs[i]? = some (.int .u8 z) ∧ 0 ≤ z ∧ z ≤ 255 := fun i hi => by
    have h1 := hel i hi
    rw [hc, Nat.mul_one, cut_one] at h1
    have hx : xs[i]? = some xs[i] := List.getElem?_eq_getElem (by omega)
    rw [hx] at h1
    obtain ⟨z, hz, _, hw⟩ := DataW.trod_int he h1
    have hw := u8_lit hw
    cases hcs : cs[i]? with
    | none => rw [hcs] at hz; cases hz
    | some v => rw [hcs] at hz; cases hz; exact ⟨z, rfl, hw.1, hw.2⟩
  refine ⟨(List.range m).map fun i => (match (cs[i]? : Option Value) with | some (Value.int _ z) => UInt8.ofNat z.toNat | _ => 0), by simp, ?_, ?_⟩
  · apply List.ext_getElem?
    intro i
    rw [bv_get, List.getElem?_map]
    by_cases hi : i < m
    · obtain ⟨z, hz, h1, h2⟩ := one i hi
      rw [hz, List.getElem?_range hi]
      simp only [Option.map_some]
      rw [hz]
      simp only [UInt8.toNat_ofNat', Nat.mod_eq_of_lt (show z.toNat < 2 ^ 8 by omega)]
      congr 2
      omega
    · rw [List.getElem?_eq_none (by omega), List.getElem?_eq_none (by simp; omega)]
      rfl
  · simp only [Rows.uptoBulk]
    have := bulk_len (xs.map (·.1))
    rw [List.length_map, hxl] at this
    omega

theorem Tryd.cellsHash : Tryd.prog.cellsOf 25 = 32 := by kernel_rfl
end
end Go.Proofs.YtapboamjpilckaaDoor
/- Points that came in, opened. -/
namespace Go.Proofs.YtapboamjpilckaaDoor
open Go.RowKit Go.WideShapes Go.ChangeShapes
section
variable {H : Type} {enc : TypeId × Value → H}
end
end Go.Proofs.YtapboamjpilckaaDoor
/- Hashes that came in, opened. -/
namespace Go.Proofs.YtapboamjpilckaaDoor
open Go.RowKit Go.WideShapes Go.ChangeShapes
section
variable {H : Type} {enc : TypeId × Value → H}
set_option maxRecDepth 100000 in
theorem open_hash_arg {W : World} {b0 : Nat} {v : Value} {d : DataW H} {pl : List MemPlace} (hv : Value.okWide Tryd.prog W .any b0 25 v) (h : DataW.Trod enc Tryd.prog W 0 (fun _ => true) true 25 v d pl) :
    ∃ (hh : List UInt8), v = .agg (hashA hh) ∧ hh.length = 32 := by
  simp only [Value.okWide, Tryd.underlying25] at hv
  obtain ⟨cs, rfl, -⟩ := hv
  obtain ⟨fuel, hf⟩ := h
  obtain ⟨hh, h1, h2, -⟩ := open_hash Tryd.underlying25 Tryd.underlying5 Tryd.cellsU8 Tryd.cellsHash hf
  refine ⟨hh, ?_, h1⟩
  congr 1
  apply Array.ext'
  exact h2
end
end Go.Proofs.YtapboamjpilckaaDoor
/- What the listed variables give; a world for the witness. -/
namespace Go.Proofs.YtapboamjpilckaaDoor
open Go.ChangeShapes Go.WideShapes Go.ChangeAt Go.RowKit
theorem door_met (os : Os) (args : Array Value) : laidMet Tryd.prog Rows.signMacsRow.laid ((World.doorLaid Tryd.prog 2000 os).forCall (fun _ _ => 0) ⟨#[], args, []⟩).memory :=
  laidMet_of_run' 8 (by kernel_rfl) (by kernel_rfl)
theorem LD_laid {W : World} (h : laidMet Tryd.prog Rows.signMacsRow.laid W) : LD W := by
  have h3 := h.tail.tail
  first
    | exact ⟨Lib.tabIs_of_head (g := 0) (by decide +kernel) (by decide +kernel) Tryd.underlying166 Tryd.underlying136 (by kernel_rfl) (by kernel_rfl) h3⟩
    | exact ⟨Lib.tabIs_of_head (g := 1) (by decide +kernel) (by decide +kernel) Tryd.underlying166 Tryd.underlying136 (by kernel_rfl) (by kernel_rfl) h3⟩
    | exact ⟨Lib.tabIs_of_head (g := 2) (by decide +kernel) (by decide +kernel) Tryd.underlying166 Tryd.underlying136 (by kernel_rfl) (by kernel_rfl) h3⟩
    | exact ⟨Lib.tabIs_of_head (g := 3) (by decide +kernel) (by decide +kernel) Tryd.underlying166 Tryd.underlying136 (by kernel_rfl) (by kernel_rfl) h3⟩
    | exact ⟨Lib.tabIs_of_head (g := 4) (by decide +kernel) (by decide +kernel) Tryd.underlying166 Tryd.underlying136 (by kernel_rfl) (by kernel_rfl) h3⟩
    | exact ⟨Lib.tabIs_of_head (g := 5) (by decide +kernel) (by decide +kernel) Tryd.underlying166 Tryd.underlying136 (by kernel_rfl) (by kernel_rfl) h3⟩
end Go.Proofs.YtapboamjpilckaaDoor
/- The row's last step, where a walk has left 'Below' of the world it began in. -/
namespace Go.Proofs.YtapboamjpilckaaDoor
open Go.RowKit Go.WideShapes Go.ChangeShapes

theorem own_knob : ownKnob Tryd.prog.godebug = none := by kernel_rfl

section
variable {H : Type} {enc : TypeId × Value → H} {P : Program}
/-- 'post_of_same' for a world of which 'Below' alone is known (old cells and old marks are as they were). -/
theorem post_below {f : Func} {s : ChangeSpec} {apart fresh handsOn again : Bool} {W W' : World} {args : Array Value} {v : Value} {ds gs : List (DataW H)} {before pa pv : List MemPlace}
    (hW : DataW.Whole enc P f.params.toList s.vars apart W args.toList ds gs before)
    (hres : ∀ (b : Nat) (sp : Nat → Bool) (hd : Bool), DataW.TrodAll enc P W' b sp hd f.resultTypes.toList (v.resultList f.resultTypes.size) (s.fn H (ds ++ gs)).results [])
    (hargs : ∀ sp : Nat → Bool, (∀ p ∈ before, sp p.block = true) → DataW.TrodAll enc P W' 0 sp true f.params.toList args.toList (s.fn H (ds ++ gs)).args pa)
    (hvars : ∀ sp : Nat → Bool, (∀ p ∈ before, sp p.block = true) → DataW.TrodVars enc P W' sp s.vars (s.fn H (ds ++ gs)).vars pv)
    (hps : before = pa ++ pv) (hb : Below W.heap.size W W')
    (hok : ∀ (j : Nat) (t : TypeId) (r : Value), f.resultTypes[j]? = some t → (v.resultList f.resultTypes.size)[j]? = some r → Value.okWide P W' .any 0 t r) :
    s.post enc P f apart fresh handsOn again W args v W' := by
  have hlt : ∀ p ∈ before, p.block < W.heap.size := fun p hp => hW.lt p hp
  have hold : ∀ p ∈ before, (fun b => decide (b < W.heap.size)) p.block = true := fun p hp => by simpa using hlt p hp
  refine ⟨ds, gs, before, [], pa, pv, hW, hres _ _ _, hargs _ hold, hvars _ hold, World.keptBut_mono (fun p hp => ⟨hp, ?_⟩) (hb.frame (· ∈ before)), fun _ => ?_⟩
  · rw [hps, List.mem_append] at hp
    exact Or.inr hp
  · obtain ⟨_, _, _, _, _, hz, hn⟩ := hW
    refine ⟨hok, _, _, ([] ++ pa) ++ pv, ⟨[] ++ pa, pv, trodAll_append (hargs _ (fun _ _ => rfl)) (hres _ _ _), hvars _ (fun _ _ => rfl), rfl, ?_, ?_⟩, ?_⟩
    · intro b off hp
      have hin : MemPlace.cell b off ∈ before := by rw [hps]; simpa using hp
      rw [hb.frozen (hlt _ hin)]
      exact hz b off hin
    · intro ha
      have := hn ha
      rw [hps] at this
      simpa using this
    · intro p hp _
      rw [hps]
      simpa using hp
end
theorem Kp.below0 {w w' : World} (h : Kp [] w w') : Below w.heap.size w w' := h.below (Nat.le_refl _) (by simp)
end Go.Proofs.YtapboamjpilckaaDoor
/- The row's last step, where the arguments read as they did (out of 'Below' alone). -/
namespace Go.Proofs.YtapboamjpilckaaDoor
open Go.RowKit Go.WideShapes Go.ChangeShapes

section
variable {H : Type} {enc : TypeId × Value → H} {P : Program}
theorem trodAll_stays (hl : laidOutB P = true) {W W' : World} {sp' : Nat → Bool} : ∀ {ts : List TypeId} {vs : List Value} {ds : List (DataW H)} {ps : List MemPlace}, ts.all (fun t => P.readableRec t && decide (t < P.types.size)) = true →
    DataW.TrodAll enc P W 0 (fun _ => true) true ts vs ds ps → (∀ p ∈ ps, W.sameAt W' p) → (∀ p ∈ ps, sp' p.block = true) → DataW.TrodAll enc P W' 0 sp' true ts vs ds ps
  | [], [], [], _, _, h, _, _ => h
  | t :: ts, v :: vs, d :: ds, _, hr, ⟨p, q, h1, h2, e⟩, hm, hs => by
    simp only [List.all_cons, Bool.and_eq_true, decide_eq_true_eq] at hr
    exact ⟨p, q, WideElems.Trod_stays hl hr.1.1 hr.1.2 h1 (fun x hx => hm x (by rw [e]; exact List.mem_append_left _ hx)) (fun x hx => hs x (by rw [e]; exact List.mem_append_left _ hx)),
      trodAll_stays hl hr.2 h2 (fun x hx => hm x (by rw [e]; exact List.mem_append_right _ hx)) (fun x hx => hs x (by rw [e]; exact List.mem_append_right _ hx)), e⟩

theorem post_kept {f : Func} {s : ChangeSpec} {apart fresh handsOn again : Bool} {W W' : World} {args : Array Value} {v : Value} {ds gs : List (DataW H)} {before : List MemPlace}
    (hl : laidOutB P = true) (hr : f.params.toList.all (fun t => P.readableRec t && decide (t < P.types.size)) = true) (hsv : s.vars = [])
    (hW : DataW.Whole enc P f.params.toList s.vars apart W args.toList ds gs before)
    (hres : ∀ (b : Nat) (sp : Nat → Bool) (hd : Bool), DataW.TrodAll enc P W' b sp hd f.resultTypes.toList (v.resultList f.resultTypes.size) (s.fn H (ds ++ gs)).results [])
    (hfa : (s.fn H (ds ++ gs)).args = ds) (hfv : (s.fn H (ds ++ gs)).vars = []) (hb : Below W.heap.size W W')
    (hok : ∀ (j : Nat) (t : TypeId) (r : Value), f.resultTypes[j]? = some t → (v.resultList f.resultTypes.size)[j]? = some r → Value.okWide P W' .any 0 t r) :
    s.post enc P f apart fresh handsOn again W args v W' := by
  have hlt : ∀ p ∈ before, p.block < W.heap.size := fun p hp => hW.lt p hp
  have hW2 := hW
  obtain ⟨p, q, hA, hV, rfl, hz, hn⟩ := hW2
  rw [hsv] at hV
  obtain ⟨rfl, rfl⟩ := trodVars_none hV
  refine post_below (pa := p) (pv := []) hW hres (fun sp hs => ?_) (fun sp hs => ?_) rfl hb hok
  · rw [hfa]
    exact trodAll_stays hl hr hA (fun x hx => hb.same (hlt x (List.mem_append_left _ hx))) (fun x hx => hs x (List.mem_append_left _ hx))
  · rw [hsv, hfv]; exact rfl
end
theorem laid_out : laidOutB Tryd.prog = true := by kernel_rfl
end Go.Proofs.YtapboamjpilckaaDoor
