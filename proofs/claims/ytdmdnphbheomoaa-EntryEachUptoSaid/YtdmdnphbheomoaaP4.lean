/- Several texts in one: EeA, EeB, EeC, EeD, EeE, EeF, EeG, InR. -/
import Derived.Shelf.RegionOpen
import Derived.Test.YtdmdnphbheomoaaP3
set_option linter.unusedVariables false
set_option linter.unusedSimpArgs false
set_option maxRecDepth 100000
set_option maxHeartbeats 8000000
namespace Go.Proofs.Ytdmdnphbheomoaa
/- entry.Each, and its iterator: their regions. -/
section
open Go.RowKit Go.Shelf
attribute [local go_sem] Oper.semAt_some
theorem Try.infoBat : (Try.prog.info? 24).map (·.size) = some 2 := by kernel_rfl
theorem Try.infoBatZ : (Try.prog.info? 24).map (fun i => (i.zero, i.size, i.bytes)) = some (some (.agg #[.int .i64 0, .slice none 0 0]), 2, 32) := by kernel_rfl
set_option maxRecDepth 100000 in
set_option maxHeartbeats 2000000 in
theorem ebb_r6 {Q : Exit → Act → World → Prop} {a : Act} {w : World} (l m : Nat) (f z : Int) (k : Nat) (hz : wrap64 (f + (k : Int)) = z) (x v2 : Value) (g4 : Nat) (e : List UInt8) (hb4 : Blk w g4 24 #[.int .i64 f, v2]) (hx : Rd w 1 x e.length (bv e)) (he : e.length ≤ 140737488355200) (R : Value → Ending → World → Prop)
    (HY : ∀ u W, Kp [] w W → (∀ w0 L, Held w0 w L → Held w0 W (rowR 5 1 u e.length (bv e) :: L)) → ∃ fn tmps assign body, (Instr.yield l #[.int .i64 z, u]).run Try.prog W = .ok (.round l fn tmps assign body) W ∧ RoundIn Fence.wide m Try.prog l fn tmps assign body W (R u))
    (hR : ∀ u e W, R u e W → ∃ b, e = .returned (.bool b)) (hsz : a.tmps.size = 32) (o0 : Sl a 0 (.func (.yield l) #[] #[])) (o4 : Sl a 4 (.pointer (some ⟨g4, 0, none⟩))) (o5 : Sl a 5 (.int .i64 (k : Int))) (o6 : Sl a 6 x)
    (hend : ∀ (a' : Act) (W : World) (b : Bool) (u : Value), Same a a' [21, 22, 23, 24, 25, 26, 27, 28, 29] → Sl a' 29 (.bool (!b)) → R u (.returned (.bool b)) W → Q .normal a' W) : (Code.region 6 (opsOf 6 Try.f58).toArray true).wp Try.prog Q a w := by
  refine (wpIn_wide (n := m + 1)).1 ?_
  refine wpIn_mono (Q := Qn Q) ?_ (fun x a w h => by obtain ⟨rfl, h⟩ := h; exact h)
  unfold Sl at o0 o4 o5 o6
  have c0 : w.drew.cell? ⟨g4, 0, none⟩ = some (.int .i64 f) := hb4.cell 0
  have Hx := Lib.hid (rd_old hx ((Kp.refl [] w).drew))
  have HY := Lib.hid HY
  have hmx : Try.prog.follows .mixedOrders = true := by kernel_rfl
  clear hx hb4
  refine wpIn_region_any hmx ?_
  change wpAnyIn _ _ _ _ _ _ _ _ _ (World.drew _)
  conv => arg 5; reduce
  trace_state
  refine wpAnyIn_take (i := 0) (v := .func (.yield l) #[] #[]) rfl rfl (by kernel_rfl) (by kernel_rfl) (by kernel_rfl) (fun _ _ _ h => by cases h.1) ⟨Or.inl ⟨by rfl, fun w => ?_⟩, fun _ => rfl⟩ ?_
  · go_simp
  refine wpAnyIn_take (i := 1) (v := .pointer (some ⟨g4, 0, none⟩)) rfl rfl (by kernel_rfl) (by kernel_rfl) (by kernel_rfl) (fun _ _ _ h => by cases h.1) ⟨Or.inl ⟨by rfl, fun w => ?_⟩, fun _ => rfl⟩ ?_
  · go_simp
  refine wpAnyIn_take (i := 3) (v := .int .i64 (k : Int)) rfl rfl (by kernel_rfl) (by kernel_rfl) (by kernel_rfl) (fun _ _ _ h => by cases h.1) ⟨Or.inl ⟨by rfl, fun w => ?_⟩, fun _ => rfl⟩ ?_
  · go_simp
  refine wpAnyIn_take (i := 5) (v := x) rfl rfl (by kernel_rfl) (by kernel_rfl) (by kernel_rfl) (fun _ _ _ h => by cases h.1) ⟨Or.inl ⟨by rfl, fun w => ?_⟩, fun _ => rfl⟩ ?_
  · go_simp
  refine wpAnyIn_ready (rs := [2, 6]) (by kernel_rfl) (by simp) ?_
  refine AllReadyIn.cons rfl (fun K hK => ?_) (AllReadyIn.cons rfl (fun K hK => ?_) AllReadyIn.nil)
  · skip
    go_simp
    refine hK _ _ ?_
    clear hK K
    refine wpAnyIn_take (i := 4) (v := .int .i64 z) rfl rfl (by kernel_rfl) (by kernel_rfl) (by kernel_rfl) (fun _ _ _ h => by cases h.1) ⟨Or.inl ⟨by rfl, fun w => ?_⟩, fun _ => rfl⟩ ?_
    · go_simp; rw [IntKind.wrap_i64]; unfold wrap64 at hz; exact hz
    refine wpAnyIn_ready (rs := [6]) (by kernel_rfl) (by simp) ?_
    refine AllReadyIn.cons rfl (fun K hK => ?_) AllReadyIn.nil
    go_simp
    refine ⟨trivial, ?_⟩
    refine (callsIn_wide.2 (clone15_any x e _ Hx.out he)).mono ?_
    rintro r w1 ⟨u, rfl, h1, h2, h3⟩
    have c1 : w1.cell? ⟨g4, 0, none⟩ = some (.int .i64 f) := cell_kept c0 h2
    obtain ⟨fn, tmps, assign, body, hy, hRd⟩ := HY.out u w1 (((Kp.refl [] w).drew).trans h2 (by simp)) (fun w0 L S => (S.kp ((Kp.refl [] w).drew)).rownew h1 h2 h3)
    have hRd := Lib.hid hRd
    clear h1 h2 h3
    gi_wp2
    refine wpAnyIn_ready (rs := [7]) (by kernel_rfl) (by simp) ?_
    refine AllReadyIn.cons rfl (fun K hK => ?_) AllReadyIn.nil
    go_simp
    refine hRd.out.mono ?_
    intro r W h
    obtain ⟨b, rfl⟩ := hR u r W h
    gi_wp2
    refine wpAnyIn_ready (rs := [8]) (by kernel_rfl) (by simp) ?_
    refine AllReadyIn.cons rfl (fun K hK => ?_) AllReadyIn.nil
    go_simp
    refine hK _ _ ?_
    clear hK K
    refine wpAnyIn_done (by kernel_rfl) ?_ _
    refine ⟨rfl, hend _ _ b u (by repeat (first | (with_reducible refine same_set (by decide) ?_) | (with_reducible exact same_nil))) (by unfold Sl; first | (simp [hsz]; done) | (simp [hsz]; omega)) h⟩
  · skip
    go_simp
    refine ⟨trivial, ?_⟩
    refine (callsIn_wide.2 (clone15_any x e _ Hx.out he)).mono ?_
    rintro r w1 ⟨u, rfl, h1, h2, h3⟩
    have c1 : w1.cell? ⟨g4, 0, none⟩ = some (.int .i64 f) := cell_kept c0 h2
    obtain ⟨fn, tmps, assign, body, hy, hRd⟩ := HY.out u w1 (((Kp.refl [] w).drew).trans h2 (by simp)) (fun w0 L S => (S.kp ((Kp.refl [] w).drew)).rownew h1 h2 h3)
    have hRd := Lib.hid hRd
    clear h1 h2 h3
    gi_wp2
    refine wpAnyIn_ready (rs := [2]) (by kernel_rfl) (by simp) ?_
    refine AllReadyIn.cons rfl (fun K hK => ?_) AllReadyIn.nil
    go_simp
    refine hK _ _ ?_
    clear hK K
    refine wpAnyIn_take (i := 4) (v := .int .i64 z) rfl rfl (by kernel_rfl) (by kernel_rfl) (by kernel_rfl) (fun _ _ _ h => by cases h.1) ⟨Or.inl ⟨by rfl, fun w => ?_⟩, fun _ => rfl⟩ ?_
    · go_simp; rw [IntKind.wrap_i64]; unfold wrap64 at hz; exact hz
    refine wpAnyIn_ready (rs := [7]) (by kernel_rfl) (by simp) ?_
    refine AllReadyIn.cons rfl (fun K hK => ?_) AllReadyIn.nil
    go_simp
    refine hRd.out.mono ?_
    intro r W h
    obtain ⟨b, rfl⟩ := hR u r W h
    gi_wp2
    refine wpAnyIn_ready (rs := [8]) (by kernel_rfl) (by simp) ?_
    refine AllReadyIn.cons rfl (fun K hK => ?_) AllReadyIn.nil
    go_simp
    refine hK _ _ ?_
    clear hK K
    refine wpAnyIn_done (by kernel_rfl) ?_ _
    refine ⟨rfl, hend _ _ b u (by repeat (first | (with_reducible refine same_set (by decide) ?_) | (with_reducible exact same_nil))) (by unfold Sl; first | (simp [hsz]; done) | (simp [hsz]; omega)) h⟩
-- REG eea0
set_option maxRecDepth 100000 in
set_option maxHeartbeats 2000000 in
theorem eea_r0 {Q : Exit → Act → World → Prop} {a : Act} {w : World}  (hsz : a.tmps.size = 22) 
    (hend : ∀ (a' : Act), Same a a' [2] → Sl a' 2 (.nilFunc) → Q .normal a' (w)) : (Code.region 0 (opsOf 0 Try.f31).toArray false).wp Try.prog Q a w := by
  refine wp_region_lit (l := (opsOf 0 Try.f31)) ?_
  conv => arg 4; whnf
  go_wp2_with fail
  try simp only [Act.put]
  exact hend _ (by repeat (first | (with_reducible refine same_set (by decide) ?_) | (with_reducible exact same_nil))) (by unfold Sl; first | (simp [hsz]; done) | (simp [hsz]; omega))
-- END eea0
-- REG eea1
set_option maxRecDepth 100000 in
set_option maxHeartbeats 2000000 in
theorem eea_r1 {Q : Exit → Act → World → Prop} {a : Act} {w : World} (w0 : World) (L : List Res) (S : Held w0 w L) (hsz : a.tmps.size = 22) 
    (hend : ∀ (a' : Act) (W : World), Same a a' [3] → (∃ gA, Sl a' 3 (.pointer (some ⟨gA, 0, none⟩)) ∧ Held w0 W (blkR gA 56 #[.slice none 0 0] :: L)) → Q .normal a' W) : (Code.region 1 (opsOf 1 Try.f31).toArray false).wp Try.prog Q a w := by
  refine wp_region_lit (l := (opsOf 1 Try.f31)) ?_
  conv => arg 4; whnf
  have S1 := Lib.hid (S.newBlk 56 #[.slice none 0 0])
  go_wp2_with fail
  try simp only [Act.put]
  exact hend _ _ (by repeat (first | (with_reducible refine same_set (by decide) ?_) | (with_reducible exact same_nil))) (⟨_, (by unfold Sl; simp [hsz]), S1.out⟩)
-- END eea1
-- REG eea2
set_option maxRecDepth 100000 in
set_option maxHeartbeats 2000000 in
theorem eea_r2 {Q : Exit → Act → World → Prop} {a : Act} {w : World} (A : Option Addr) (n c : Nat) (hsz : a.tmps.size = 22) (o0 : Sl a 0 (.slice A n c))
    (hend : ∀ (a' : Act), Same a a' [6, 7, 8] → Sl a' 6 (.slice A n c) → Sl a' 7 (.int .i64 ((n : Nat) : Int)) → Sl a' 8 (.int .i64 ((0 : Nat) : Int)) → Q .normal a' (w)) : (Code.region 2 (opsOf 2 Try.f31).toArray false).wp Try.prog Q a w := by
  refine wp_region_lit (l := (opsOf 2 Try.f31)) ?_
  conv => arg 4; whnf
  unfold Sl at o0
  go_wp2_with fail
  try simp only [Act.put]
  exact hend _ (by repeat (first | (with_reducible refine same_set (by decide) ?_) | (with_reducible exact same_nil))) (by unfold Sl; first | (simp [hsz]; done) | (simp [hsz]; omega)) (by unfold Sl; first | (simp [hsz]; done) | (simp [hsz]; omega)) (by unfold Sl; first | (simp [hsz]; done) | (simp [hsz]; omega))
-- END eea2
-- REG eea3
set_option maxRecDepth 100000 in
set_option maxHeartbeats 2000000 in
theorem eea_r3 {Q : Exit → Act → World → Prop} {a : Act} {w : World} (k n : Nat) (hsz : a.tmps.size = 22) (o7 : Sl a 7 (.int .i64 ((n : Nat) : Int))) (o8 : Sl a 8 (.int .i64 ((k : Nat) : Int)))
    (hend : ∀ (a' : Act), Same a a' [9] → Sl a' 9 (.bool (decide (k < n))) → Q .normal a' (w)) : (Code.region 3 (opsOf 3 Try.f31).toArray false).wp Try.prog Q a w := by
  refine wp_region_lit (l := (opsOf 3 Try.f31)) ?_
  conv => arg 4; whnf
  unfold Sl at o7 o8
  go_wp2_with fail
  try simp only [Act.put]
  exact hend _ (by repeat (first | (with_reducible refine same_set (by decide) ?_) | (with_reducible exact same_nil))) (by unfold Sl; first | (simp [hsz]; done) | (simp [hsz]; omega))
-- END eea3
-- REG eea4
set_option maxRecDepth 100000 in
set_option maxHeartbeats 2000000 in
theorem eea_r4 {Q : Exit → Act → World → Prop} {a : Act} {w : World} (w0 : World) (ad : Addr) (k n c : Nat) (hk : k < n) (f : Int) (Ab : Option Addr) (nb cb : Nat) (hc : ∀ j u, (#[.int .i64 f, .slice Ab nb cb] : Array Value).toList[j]? = some u → w.cell? ((ad.add (k * 2)).add j) = some u) (L : List Res) (S : Held w0 w L) (hsz : a.tmps.size = 22) (o6 : Sl a 6 (.slice (some ad) n c)) (o8 : Sl a 8 (.int .i64 ((k : Nat) : Int)))
    (hend : ∀ (a' : Act) (W : World), Same a a' [10, 11, 5] → (∃ g5, Sl a' 5 (.pointer (some ⟨g5, 0, none⟩)) ∧ Held w0 W (blkR g5 24 #[.int .i64 f, .slice Ab nb cb] :: L)) → (Kp [] w W) → Q .normal a' W) : (Code.region 4 (opsOf 4 Try.f31).toArray false).wp Try.prog Q a w := by
  refine wp_region_lit (l := (opsOf 4 Try.f31)) ?_
  conv => arg 4; whnf
  unfold Sl at o6 o8
  have S := Lib.hid S
  have h0 : 0 ≤ (k : Int) := by omega
  have h1 : (k : Int) < (n : Int) := by omega
  have HC := Lib.hid hc
  clear hc
  have S7 := Lib.hid (S.out.newBlk 24 #[.int .i64 f, .slice Ab nb cb])
  have K7 := Lib.hid ((Kp.refl [] w).alloc (.cells #[.int .i64 f, .slice Ab nb cb] 24))
  go_wp2_with (refine wpList_load_agg rfl 24 (.tmp 10) rfl (ad.add (k * 2)) (by simp [Act.eval, Act.put, hsz]) (#[.int .i64 f, .slice Ab nb cb] : Array Value).toList _ HC.out Try.underlying24 rfl (by rw [Array.length_toList]; exact Try.infoBat) ?_)
  try simp only [Act.put]
  exact hend _ _ (by repeat (first | (with_reducible refine same_set (by decide) ?_) | (with_reducible exact same_nil))) (⟨_, (by unfold Sl; simp [hsz]), S7.out⟩) (K7.out)
-- END eea4
-- REG eea5
set_option maxRecDepth 100000 in
set_option maxHeartbeats 2000000 in
theorem eea_r5 {Q : Exit → Act → World → Prop} {a : Act} {w : World} (g5 x : Nat) (f : Int) (Ab : Option Addr) (nb cb : Nat) (hb5 : Blk w g5 24 #[.int .i64 f, .slice Ab nb cb]) (HC0 : Calls Try.prog 16 #[.agg #[.int .i64 f, .slice Ab nb cb]] w fun e w' => e = .returned (.int .i64 ((x : Nat) : Int)) ∧ Kp [] w w') (b : Bool) (hb : (((x : Nat) : Int) == 0) = b) (hsz : a.tmps.size = 22) (o5 : Sl a 5 (.pointer (some ⟨g5, 0, none⟩)))
    (hend : ∀ (a' : Act) (W : World), Same a a' [12, 13, 14] → Sl a' 14 (.bool b) → (Kp [] w W) → Q .normal a' W) : (Code.region 5 (opsOf 5 Try.f31).toArray false).wp Try.prog Q a w := by
  refine wp_region_lit (l := (opsOf 5 Try.f31)) ?_
  conv => arg 4; whnf
  unfold Sl at o5
  have HC := Lib.hid HC0
  have HB := Lib.hid hb5
  clear HC0 hb5
  go_wp2_with (refine wpList_load_agg rfl 24 (.tmp 5) rfl ⟨g5, 0, none⟩ (by simp [Act.eval, Act.put, hsz, o5]) (#[.int .i64 f, .slice Ab nb cb] : Array Value).toList _ HB.out.agg Try.underlying24 rfl (by rw [Array.length_toList]; exact Try.infoBat) ?_)
  refine HC.out.mono ?_
  rintro e w1 ⟨rfl, k1⟩
  have k1 := Lib.hid k1
  go_wp2_with fail
  try simp only [Act.put]
  exact hend _ _ (by repeat (first | (with_reducible refine same_set (by decide) ?_) | (with_reducible exact same_nil))) (by unfold Sl; first | (simp [hsz]; done) | (simp [hsz]; omega)) (k1.out)
-- END eea5
-- REG eea6
set_option maxRecDepth 100000 in
set_option maxHeartbeats 2000000 in
theorem eea_r6 {Q : Exit → Act → World → Prop} {a : Act} {w : World} (w0 : World) (gA g5 q : Nat) (f : Int) (Ab : Option Addr) (nb cb : Nat) (u : Value) (X : List (List UInt8)) (xs : List Value) (hq : (q + 1) * 32 ≤ 140737488355328) (HC0 : ∀ V, Kp [] w0 V → Calls Try.prog 32 #[.agg #[.int .i64 f, .slice Ab nb cb], .int .i64 0] V fun e w' => ∃ v' Bs, e = .returned (.agg #[.int .i64 f, v']) ∧ Held V w' (rowR 25 1 v' X.length Bs :: textR X Bs)) (L : List Res) (hsz : a.tmps.size = 22) (o3 : Sl a 3 (.pointer (some ⟨gA, 0, none⟩))) (o5 : Sl a 5 (.pointer (some ⟨g5, 0, none⟩)))
    (S0 : Held w0 w (blkR gA 56 #[u] :: blkR g5 24 #[.int .i64 f, .slice Ab nb cb] :: rowR 24 2 u q xs :: L))
    (hend : ∀ (a' : Act) (vs : Nat → Value) (gs : Nat → Value × List Value) (W : World), Same a a' [15, 16, 17, 18, 19] → Held w0 W ((rowR 25 1 (gs 2).1 X.length (gs 2).2 :: textR X (gs 2).2) ++ (rowR 24 2 (vs 3) 1 [.int .i64 f, (gs 2).1] :: rowR 24 2 (vs 4) (q + 1) (xs ++ [.int .i64 f, (gs 2).1]) :: blkR gA 56 #[vs 4] :: blkR g5 24 #[.int .i64 f, .slice Ab nb cb] :: L)) → Q .normal a' W) : (Code.region 6 (opsOf 6 Try.f31).toArray true).wp Try.prog Q a w := by
  have hap : apartB (opsOf 6 Try.f31) = true := by kernel_rfl
  refine wp_region_sep (Γ := Value × List Value) (l := (opsOf 6 Try.f31)) 4 [0, 1, 2, 3, 4, 5, 7, 9]
    (fun i vs gs => match i with | 0 => vs 0 = u | 1 => vs 1 = .agg #[.int .i64 f, .slice Ab nb cb] | 2 => vs 2 = .agg #[.int .i64 f, (gs 2).1] | _ => True)
    (fun i vs gs => match i with | 2 => (rowR 25 1 (gs 2).1 X.length (gs 2).2 :: textR X (gs 2).2) | 3 => [rowR 24 2 (vs 3) 1 [.int .i64 f, (gs 2).1]] | 4 => [rowR 24 2 (vs 4) (q + 1) (xs ++ [.int .i64 f, (gs 2).1])] | 5 => [blkR gA 56 #[vs 4]] | 6 => [blkR gA 56 #[u]] | 7 => [blkR g5 24 #[.int .i64 f, .slice Ab nb cb]] | 8 => [rowR 24 2 u q xs] | 9 => L | _ => [])
    (fun i => match i with | 4 => [8] | 5 => [6] | _ => []) (fun i => match i with | 0 => [6] | 1 => [7] | 3 => [2] | 4 => [3, 2] | 5 => [4] | _ => []) S0 (by kernel_rfl) hap (by kernel_rfl) (by kernel_rfl) (fun i => match i with | 0 => [0] | 1 => [1] | 2 => [2] | 3 => [2, 3] | 4 => [2, 4] | 5 => [4] | _ => []) (by kernel_rfl) ?_ (by kernel_rfl) ?_ ?_ ?_
  · intro s vs vs' gs gs' h
    iterate 10 (rcases s with _ | s; · (first | exact ⟨rfl, id⟩ | (simp only [List.mem_cons, List.not_mem_nil, or_false, forall_eq_or_imp, forall_eq] at h; simp [h])))
    exact ⟨rfl, id⟩
  · simp only [List.range, List.range.loop, List.flatMap_cons, List.flatMap_nil, List.append_nil, List.cons_append, List.nil_append]
    exact List.Perm.refl _
  · clear S0 hend
    refine ⟨?_, ?_, ?_, ?_, ?_, ?_, trivial⟩
    · intro vs gs A' W LF hA S hR hd hu K hK
      replace hK := hK default
      have e3 : A'.tmps[3]?.getD undef = .pointer (some ⟨gA, 0, none⟩) := slot_out hA hap (Nat.lt_of_lt_of_eq (Nat.le_of_ble_eq_true rfl : 3 < 22) hsz.symm) (by kernel_rfl) o3
      clear hA o3 o5
      have c0 : W.cell? ⟨gA, 0, none⟩ = some u := (show Blk W gA 56 #[u] from (S.ok (blkR gA 56 #[u]) (hR 6 (List.mem_singleton.2 rfl) _ (List.mem_singleton.2 rfl)))).cell 0
      go_step
      exact hK _ _ S rfl
    · intro vs gs A' W LF hA S hR hd hu K hK
      replace hK := hK default
      have e5 : A'.tmps[5]?.getD undef = .pointer (some ⟨g5, 0, none⟩) := slot_out hA hap (Nat.lt_of_lt_of_eq (Nat.le_of_ble_eq_true rfl : 5 < 22) hsz.symm) (by kernel_rfl) o5
      clear hA o3 o5
      refine op_runs (v := .agg #[.int .i64 f, .slice Ab nb cb]) (w' := W) (exec_load rfl (by simpa [Act.eval] using e5) (run_loadAt_agg W (⟨g5, 0, none⟩) 24 (#[.int .i64 f, .slice Ab nb cb] : Array Value).toList _ (Blk.agg (show Blk W g5 24 #[.int .i64 f, .slice Ab nb cb] from (S.ok (blkR g5 24 #[.int .i64 f, .slice Ab nb cb]) (hR 7 (List.mem_singleton.2 rfl) _ (List.mem_singleton.2 rfl))))) Try.underlying24 rfl (by rw [Array.length_toList]; exact Try.infoBat))) ?_
      exact hK _ _ S rfl
    · intro vs gs A' W LF hA S hR hd hu K hK
      have f1 : vs 1 = .agg #[.int .i64 f, .slice Ab nb cb] := hd 1 (by kernel_rfl)
      have e16 : A'.tmps[16]?.getD undef = vs 1 := slot_in hA hap (Nat.lt_of_lt_of_eq (Nat.le_of_ble_eq_true rfl : 16 < 22) hsz.symm) (by kernel_rfl)
      rw [f1] at e16
      clear hA o3 o5
      go_step
      refine (HC0 W S.k).mono ?_
      rintro e w' ⟨v', Bs, rfl, H⟩
      exact hK (v', Bs) _ w' ((S.join H).perm List.perm_append_comm) rfl
    · intro vs gs A' W LF hA S hR hd hu K hK
      replace hK := hK default
      have f2 : vs 2 = .agg #[.int .i64 f, (gs 2).1] := hd 2 (by kernel_rfl)
      have e17 : A'.tmps[17]?.getD undef = vs 2 := slot_in hA hap (Nat.lt_of_lt_of_eq (Nat.le_of_ble_eq_true rfl : 17 < 22) hsz.symm) (by kernel_rfl)
      rw [f2] at e17
      clear hA o3 o5
      obtain ⟨Av, cv, hv, -, -⟩ := ow_form (show Ow W 25 1 (gs 2).1 X.length (gs 2).2 from S.ok (rowR 25 1 (gs 2).1 X.length (gs 2).2) (hR 2 (List.mem_singleton.2 rfl) _ (List.mem_cons_self ..)))
      rw [hv] at e17
      go_step
      have o3 := ow_new W 24 2 1 #[.int .i64 f, .slice Av X.length cv] rfl (by decide)
      have o4 : Ow (W.alloc (.cells #[.int .i64 f, .slice Av X.length cv] 24)) 24 2 (.slice (some ⟨W.heap.size, 0, none⟩) 1 1) 1 [.int .i64 f, (gs 2).1] := by rw [hv]; exact o3
      exact hK _ _ (S.rownew o4 ((Kp.refl [] W).alloc _) (fun g hg => Nat.le_of_eq (Option.some.inj hg))) trivial
    · intro vs gs A' W LF hA S hR hd hu K hK
      replace hK := hK default
      have f0 : vs 0 = u := hd 0 (by kernel_rfl)
      have e15 : A'.tmps[15]?.getD undef = vs 0 := slot_in hA hap (Nat.lt_of_lt_of_eq (Nat.le_of_ble_eq_true rfl : 15 < 22) hsz.symm) (by kernel_rfl)
      rw [f0] at e15
      have e18 : A'.tmps[18]?.getD undef = vs 3 := slot_in hA hap (Nat.lt_of_lt_of_eq (Nat.le_of_ble_eq_true rfl : 18 < 22) hsz.symm) (by kernel_rfl)
      clear hA o3 o5
      obtain ⟨Av, cv, hv, -, -⟩ := ow_form (show Ow W 25 1 (gs 2).1 X.length (gs 2).2 from S.ok (rowR 25 1 (gs 2).1 X.length (gs 2).2) (List.mem_cons_of_mem _ (hR 2 (List.mem_cons_of_mem _ (List.mem_singleton.2 rfl)) _ (List.mem_cons_self ..))))
      refine op_app (.tmp 15) (.tmp 18) 56 24 rfl Try.infoBatZ Try.underlying56 rfl (by decide) u q xs (by simpa [Act.eval] using e15) S (vs 3) 1 [.int .i64 f, (gs 2).1] (by simpa [Act.eval] using e18) (rd_of_row (e := 24) S (List.mem_cons_of_mem _ (hR 3 (List.mem_cons_self ..) _ (List.mem_singleton.2 rfl)))) (by intro x hx; simp at hx; rcases hx with rfl | rfl <;> first | rfl | (rw [hv]; rfl)) (by unfold maxLen; omega) (by omega) (fun v' w' S' => hK v' w' S' trivial)
    · intro vs gs A' W LF hA S hR hd hu K hK
      replace hK := hK default
      have e3 : A'.tmps[3]?.getD undef = .pointer (some ⟨gA, 0, none⟩) := slot_out hA hap (Nat.lt_of_lt_of_eq (Nat.le_of_ble_eq_true rfl : 3 < 22) hsz.symm) (by kernel_rfl) o3
      have e19 : A'.tmps[19]?.getD undef = vs 4 := slot_in hA hap (Nat.lt_of_lt_of_eq (Nat.le_of_ble_eq_true rfl : 19 < 22) hsz.symm) (by kernel_rfl)
      clear hA o3 o5
      have S1 : Held w0 W (blkR gA 56 #[u] :: LF) := S
      obtain ⟨A1, c1, hq, -, -⟩ := ow_form (show Ow W 24 2 (vs 4) (q + 1) (xs ++ [.int .i64 f, (gs 2).1]) from S.ok (rowR 24 2 (vs 4) (q + 1) (xs ++ [.int .i64 f, (gs 2).1])) (List.mem_cons_of_mem _ (hR 4 (List.mem_singleton.2 rfl) _ (List.mem_singleton.2 rfl))))
      rw [hq] at e19
      have S2 := S1.set (l1 := []) 0 (vs 4)
      have c33 : W.cell? ⟨gA, 0, none⟩ = some u := (S1.at_ (l1 := [])).cell 0
      have f33 := (show Blk W gA _ _ from S1.at_ (l1 := [])).frozen 0
      rw [hq] at S2
      have S3 : Held w0 (W.setCell ⟨gA, 0, none⟩ (.slice A1 (q + 1) c1)) (blkR gA 56 #[vs 4] :: LF) := by rw [hq]; exact S2
      go_step
      exact hK undef _ S3 trivial
  · intro vs gs W S hp
    have S : Held w0 W ((rowR 25 1 (gs 2).1 X.length (gs 2).2 :: textR X (gs 2).2) ++ (rowR 24 2 (vs 3) 1 [.int .i64 f, (gs 2).1] :: rowR 24 2 (vs 4) (q + 1) (xs ++ [.int .i64 f, (gs 2).1]) :: blkR gA 56 #[vs 4] :: blkR g5 24 #[.int .i64 f, .slice Ab nb cb] :: L)) := by simpa only [List.flatMap_cons, List.flatMap_nil, List.append_nil, List.nil_append, List.cons_append, List.append_assoc] using S
    rw [show putAll vs (opsOf 6 Try.f31) 0 a = putD [(15, vs 0), (16, vs 1), (17, vs 2), (18, vs 3), (19, vs 4)] a from by kernel_rfl]
    exact hend _ vs gs W (same_putD _ a)  S
-- END eea6
-- REG eea7
set_option maxRecDepth 100000 in
set_option maxHeartbeats 2000000 in
theorem eea_r7 {Q : Exit → Act → World → Prop} {a : Act} {w : World} (k : Nat) (hk : k < 9223372036854775807) (hsz : a.tmps.size = 22) (o8 : Sl a 8 (.int .i64 ((k : Nat) : Int)))
    (hend : ∀ (a' : Act), Same a a' [20, 8] → Sl a' 8 (.int .i64 ((k + 1 : Nat) : Int)) → Q .normal a' (w)) : (Code.region 7 (opsOf 7 Try.f31).toArray false).wp Try.prog Q a w := by
  refine wp_region_lit (l := (opsOf 7 Try.f31)) ?_
  conv => arg 4; whnf
  unfold Sl at o8
  have hw : wrap64 ((k : Int) + 1) = (k : Int) + 1 := by unfold wrap64; omega
  go_wp2_with fail
  try simp only [Act.put]
  exact hend _ (by repeat (first | (with_reducible refine same_set (by decide) ?_) | (with_reducible exact same_nil))) (by unfold Sl; first | (simp [hsz]; done) | (simp [hsz]; omega))
-- END eea7
-- REG eea8
set_option maxRecDepth 100000 in
set_option maxHeartbeats 2000000 in
theorem eea_r8 {Q : Exit → Act → World → Prop} {a : Act} {w : World} (gA : Nat) (hsz : a.tmps.size = 22) (o3 : Sl a 3 (.pointer (some ⟨gA, 0, none⟩)))
    (hend : ∀ (a' : Act), Same a a' [21, 2] → Sl a' 2 (.func (.func 58) #[] #[.pointer (some ⟨gA, 0, none⟩)]) → Q .normal a' (w)) : (Code.region 8 (opsOf 8 Try.f31).toArray false).wp Try.prog Q a w := by
  refine wp_region_lit (l := (opsOf 8 Try.f31)) ?_
  conv => arg 4; whnf
  unfold Sl at o3
  go_wp2_with fail
  try simp only [Act.put]
  exact hend _ (by repeat (first | (with_reducible refine same_set (by decide) ?_) | (with_reducible exact same_nil))) (by unfold Sl; first | (simp [hsz]; done) | (simp [hsz]; omega))
-- END eea8
-- REG ebb0
set_option maxRecDepth 100000 in
set_option maxHeartbeats 2000000 in
theorem ebb_r0 {Q : Exit → Act → World → Prop} {a : Act} {w : World} (gA : Nat) (A : Option Addr) (n c : Nat) (hbA : Blk w gA 56 #[.slice A n c]) (hsz : a.tmps.size = 32) (o1 : Sl a 1 (.pointer (some ⟨gA, 0, none⟩)))
    (hend : ∀ (a' : Act), Same a a' [7, 8, 9] → Sl a' 7 (.slice A n c) → Sl a' 8 (.int .i64 ((n : Nat) : Int)) → Sl a' 9 (.int .i64 ((0 : Nat) : Int)) → Q .normal a' (w)) : (Code.region 0 (opsOf 0 Try.f58).toArray false).wp Try.prog Q a w := by
  refine wp_region_lit (l := (opsOf 0 Try.f58)) ?_
  conv => arg 4; whnf
  unfold Sl at o1
  have c0 : w.cell? ⟨gA, 0, none⟩ = some (.slice A n c) := hbA.cell 0
  go_wp2_with fail
  try simp only [Act.put]
  exact hend _ (by repeat (first | (with_reducible refine same_set (by decide) ?_) | (with_reducible exact same_nil))) (by unfold Sl; first | (simp [hsz]; done) | (simp [hsz]; omega)) (by unfold Sl; first | (simp [hsz]; done) | (simp [hsz]; omega)) (by unfold Sl; first | (simp [hsz]; done) | (simp [hsz]; omega))
-- END ebb0
-- REG ebb1
set_option maxRecDepth 100000 in
set_option maxHeartbeats 2000000 in
theorem ebb_r1 {Q : Exit → Act → World → Prop} {a : Act} {w : World} (k n : Nat) (hsz : a.tmps.size = 32) (o8 : Sl a 8 (.int .i64 ((n : Nat) : Int))) (o9 : Sl a 9 (.int .i64 ((k : Nat) : Int)))
    (hend : ∀ (a' : Act), Same a a' [10] → Sl a' 10 (.bool (decide (k < n))) → Q .normal a' (w)) : (Code.region 1 (opsOf 1 Try.f58).toArray false).wp Try.prog Q a w := by
  refine wp_region_lit (l := (opsOf 1 Try.f58)) ?_
  conv => arg 4; whnf
  unfold Sl at o8 o9
  go_wp2_with fail
  try simp only [Act.put]
  exact hend _ (by repeat (first | (with_reducible refine same_set (by decide) ?_) | (with_reducible exact same_nil))) (by unfold Sl; first | (simp [hsz]; done) | (simp [hsz]; omega))
-- END ebb1
-- REG ebb2
set_option maxRecDepth 100000 in
set_option maxHeartbeats 2000000 in
theorem ebb_r2 {Q : Exit → Act → World → Prop} {a : Act} {w : World} (w0 : World) (ad : Addr) (k n c : Nat) (hk : k < n) (f : Int) (Ab : Option Addr) (nb cb : Nat) (hc : ∀ j u, (#[.int .i64 f, .slice Ab nb cb] : Array Value).toList[j]? = some u → w.cell? ((ad.add (k * 2)).add j) = some u) (L : List Res) (S : Held w0 w L) (hsz : a.tmps.size = 32) (o7 : Sl a 7 (.slice (some ad) n c)) (o9 : Sl a 9 (.int .i64 ((k : Nat) : Int)))
    (hend : ∀ (a' : Act) (W : World), Same a a' [11, 12, 4] → (∃ g5, Sl a' 4 (.pointer (some ⟨g5, 0, none⟩)) ∧ Held w0 W (blkR g5 24 #[.int .i64 f, .slice Ab nb cb] :: L)) → (Kp [] w W) → Q .normal a' W) : (Code.region 2 (opsOf 2 Try.f58).toArray false).wp Try.prog Q a w := by
  refine wp_region_lit (l := (opsOf 2 Try.f58)) ?_
  conv => arg 4; whnf
  unfold Sl at o7 o9
  have S := Lib.hid S
  have h0 : 0 ≤ (k : Int) := by omega
  have h1 : (k : Int) < (n : Int) := by omega
  have HC := Lib.hid hc
  clear hc
  have S7 := Lib.hid (S.out.newBlk 24 #[.int .i64 f, .slice Ab nb cb])
  have K7 := Lib.hid ((Kp.refl [] w).alloc (.cells #[.int .i64 f, .slice Ab nb cb] 24))
  go_wp2_with (refine wpList_load_agg rfl 24 (.tmp 11) rfl (ad.add (k * 2)) (by simp [Act.eval, Act.put, hsz]) (#[.int .i64 f, .slice Ab nb cb] : Array Value).toList _ HC.out Try.underlying24 rfl (by rw [Array.length_toList]; exact Try.infoBat) ?_)
  try simp only [Act.put]
  exact hend _ _ (by repeat (first | (with_reducible refine same_set (by decide) ?_) | (with_reducible exact same_nil))) (⟨_, (by unfold Sl; simp [hsz]), S7.out⟩) (K7.out)
-- END ebb2
-- REG ebb3
set_option maxRecDepth 100000 in
set_option maxHeartbeats 2000000 in
theorem ebb_r3 {Q : Exit → Act → World → Prop} {a : Act} {w : World} (g4 : Nat) (f : Int) (A : Option Addr) (n c : Nat) (hb4 : Blk w g4 24 #[.int .i64 f, .slice A n c]) (hsz : a.tmps.size = 32) (o4 : Sl a 4 (.pointer (some ⟨g4, 0, none⟩)))
    (hend : ∀ (a' : Act), Same a a' [13, 14, 15, 16] → Sl a' 14 (.slice A n c) → Sl a' 15 (.int .i64 ((n : Nat) : Int)) → Sl a' 16 (.int .i64 ((0 : Nat) : Int)) → Q .normal a' (w)) : (Code.region 3 (opsOf 3 Try.f58).toArray false).wp Try.prog Q a w := by
  refine wp_region_lit (l := (opsOf 3 Try.f58)) ?_
  conv => arg 4; whnf
  unfold Sl at o4
  have c1 : w.cell? ⟨g4, 1, none⟩ = some (.slice A n c) := hb4.cell 1
  go_wp2_with fail
  try simp only [Act.put]
  exact hend _ (by repeat (first | (with_reducible refine same_set (by decide) ?_) | (with_reducible exact same_nil))) (by unfold Sl; first | (simp [hsz]; done) | (simp [hsz]; omega)) (by unfold Sl; first | (simp [hsz]; done) | (simp [hsz]; omega)) (by unfold Sl; first | (simp [hsz]; done) | (simp [hsz]; omega))
-- END ebb3
-- REG ebb4
set_option maxRecDepth 100000 in
set_option maxHeartbeats 2000000 in
theorem ebb_r4 {Q : Exit → Act → World → Prop} {a : Act} {w : World} (k n : Nat) (hsz : a.tmps.size = 32) (o15 : Sl a 15 (.int .i64 ((n : Nat) : Int))) (o16 : Sl a 16 (.int .i64 ((k : Nat) : Int)))
    (hend : ∀ (a' : Act), Same a a' [17] → Sl a' 17 (.bool (decide (k < n))) → Q .normal a' (w)) : (Code.region 4 (opsOf 4 Try.f58).toArray false).wp Try.prog Q a w := by
  refine wp_region_lit (l := (opsOf 4 Try.f58)) ?_
  conv => arg 4; whnf
  unfold Sl at o15 o16
  go_wp2_with fail
  try simp only [Act.put]
  exact hend _ (by repeat (first | (with_reducible refine same_set (by decide) ?_) | (with_reducible exact same_nil))) (by unfold Sl; first | (simp [hsz]; done) | (simp [hsz]; omega))
-- END ebb4
-- REG ebb5
set_option maxRecDepth 100000 in
set_option maxHeartbeats 2000000 in
theorem ebb_r5 {Q : Exit → Act → World → Prop} {a : Act} {w : World} (ad : Addr) (k n c : Nat) (hk : k < n) (x : Value) (hc : w.cell? (ad.add k) = some x) (hsz : a.tmps.size = 32) (o14 : Sl a 14 (.slice (some ad) n c)) (o16 : Sl a 16 (.int .i64 ((k : Nat) : Int)))
    (hend : ∀ (a' : Act), Same a a' [18, 19, 20, 5, 6] → Sl a' 5 (.int .i64 ((k : Nat) : Int)) → Sl a' 6 (x) → Q .normal a' (w)) : (Code.region 5 (opsOf 5 Try.f58).toArray false).wp Try.prog Q a w := by
  refine wp_region_lit (l := (opsOf 5 Try.f58)) ?_
  conv => arg 4; whnf
  unfold Sl at o14 o16
  have h0 : 0 ≤ (k : Int) := by omega
  have h1 : (k : Int) < (n : Int) := by omega
  have HC := hc
  go_wp2_with fail
  try simp only [Act.put]
  exact hend _ (by repeat (first | (with_reducible refine same_set (by decide) ?_) | (with_reducible exact same_nil))) (by unfold Sl; first | (simp [hsz]; done) | (simp [hsz]; omega)) (by unfold Sl; first | (simp [hsz]; done) | (simp [hsz]; omega))
-- END ebb5
-- REG ebb7
set_option maxRecDepth 100000 in
set_option maxHeartbeats 2000000 in
theorem ebb_r7 {Q : Exit → Act → World → Prop} {a : Act} {w : World} (k : Nat) (hk : k < 9223372036854775807) (hsz : a.tmps.size = 32) (o16 : Sl a 16 (.int .i64 ((k : Nat) : Int)))
    (hend : ∀ (a' : Act), Same a a' [30, 16] → Sl a' 16 (.int .i64 ((k + 1 : Nat) : Int)) → Q .normal a' (w)) : (Code.region 7 (opsOf 7 Try.f58).toArray false).wp Try.prog Q a w := by
  refine wp_region_lit (l := (opsOf 7 Try.f58)) ?_
  conv => arg 4; whnf
  unfold Sl at o16
  have hw : wrap64 ((k : Int) + 1) = (k : Int) + 1 := by unfold wrap64; omega
  go_wp2_with fail
  try simp only [Act.put]
  exact hend _ (by repeat (first | (with_reducible refine same_set (by decide) ?_) | (with_reducible exact same_nil))) (by unfold Sl; first | (simp [hsz]; done) | (simp [hsz]; omega))
-- END ebb7
-- REG ebb8
set_option maxRecDepth 100000 in
set_option maxHeartbeats 2000000 in
theorem ebb_r8 {Q : Exit → Act → World → Prop} {a : Act} {w : World} (k : Nat) (hk : k < 9223372036854775807) (hsz : a.tmps.size = 32) (o9 : Sl a 9 (.int .i64 ((k : Nat) : Int)))
    (hend : ∀ (a' : Act), Same a a' [31, 9] → Sl a' 9 (.int .i64 ((k + 1 : Nat) : Int)) → Q .normal a' (w)) : (Code.region 8 (opsOf 8 Try.f58).toArray false).wp Try.prog Q a w := by
  refine wp_region_lit (l := (opsOf 8 Try.f58)) ?_
  conv => arg 4; whnf
  unfold Sl at o9
  have hw : wrap64 ((k : Int) + 1) = (k : Int) + 1 := by unfold wrap64; omega
  go_wp2_with fail
  try simp only [Act.put]
  exact hend _ (by repeat (first | (with_reducible refine same_set (by decide) ?_) | (with_reducible exact same_nil))) (by unfold Sl; first | (simp [hsz]; done) | (simp [hsz]; omega))
-- END ebb8
end
/- entry.Each, whole. -/
section
open Go.RowKit Go.Shelf
theorem res_one {P : Program} {fn : Func} {w : World} {tmps : Array Value} {u : Nat} {x : Value} (h : fn.results = #[.tmp u]) (hx : tmps.getD u undef = x) : (results fn tmps).run P w = .ok x w := by
  simp only [Array.getD_eq_getD_getElem?] at hx
  simp [results, h, hx]
theorem res_none {P : Program} {fn : Func} {w : World} {tmps : Array Value} (h : fn.results = #[]) : (results fn tmps).run P w = .ok (.tuple #[]) w := by
  simp [results, h]
/-- A batch that came in. -/
structure BtV where
  f : Int
  A : Option Addr
  c : Nat
  L : List (List UInt8)
def BtV.C (x : BtV) : Array Value := #[.int .i64 x.f, .slice x.A x.L.length x.c]
structure BtOk (V : World) (x : BtV) : Prop where
  txs : Txs V (.slice x.A x.L.length x.c) x.L
  hf : -9223372036854775808 ≤ x.f ∧ x.f ≤ 9223372036854775807
  hl : x.L.length ≤ 1073741824
  hb : ∀ e ∈ x.L, e.length ≤ 140737488355200
/-- Batches in memory. -/
def BtsF (V : World) (A : Option Addr) (l : List BtV) : Prop := ∀ (k : Nat) (x : BtV), l[k]? = some x → ∃ ad, A = some ad ∧ (∀ j u, x.C.toList[j]? = some u → V.cell? ((ad.add (k * 2)).add j) = some u) ∧ BtOk V x
theorem BtOk.kp {V V' : World} {x : BtV} (h : BtOk V x) (k : Kp [] V V') : BtOk V' x := ⟨h.txs.kp0 k, h.hf, h.hl, h.hb⟩
theorem BtsF.kp {V V' : World} {A : Option Addr} {l : List BtV} (h : BtsF V A l) (k : Kp [] V V') : BtsF V' A l := fun i x hx => by
  obtain ⟨ad, h1, h2, h3⟩ := h i x hx
  exact ⟨ad, h1, fun j u hu => cell_kept (h2 j u hu) k, h3.kp k⟩
/-- A batch that Each keeps. -/
structure CtV where
  f : Int
  L : List (List UInt8)
  v : Value
  Bs : List Value
def ctC (ys : List CtV) : List Value := ys.flatMap fun y => [.int .i64 y.f, y.v]
def ctR (ys : List CtV) : List Res := ys.flatMap fun y => rowR 25 1 y.v y.L.length y.Bs :: textR y.L y.Bs
theorem ctC_snoc (ys : List CtV) (y : CtV) : ctC (ys ++ [y]) = ctC ys ++ [.int .i64 y.f, y.v] := by simp [ctC]
theorem ctR_snoc (ys : List CtV) (y : CtV) : ctR (ys ++ [y]) = ctR ys ++ (rowR 25 1 y.v y.L.length y.Bs :: textR y.L y.Bs) := by simp [ctR]
/-- The batches that may be. -/
def okL (l : List BtV) : List (Int × List (List UInt8)) := (l.filter fun x => chk x.f x.L == 0).map fun x => (x.f, x.L)
theorem okL_yes {l : List BtV} {k : Nat} {x : BtV} (hx : l[k]? = some x) (h : chk x.f x.L = 0) : okL (l.take (k + 1)) = okL (l.take k) ++ [(x.f, x.L)] := by
  simp [okL, List.take_add_one, hx, List.filter_append, h]
theorem okL_no {l : List BtV} {k : Nat} {x : BtV} (hx : l[k]? = some x) (h : ¬ chk x.f x.L = 0) : okL (l.take (k + 1)) = okL (l.take k) := by
  simp [okL, List.take_add_one, hx, List.filter_append, h]
theorem chk0 {f : Int} {L : List (List UInt8)} (h : chk f L = 0) : 0 ≤ f ∧ f ≤ 4611686018427387904 ∧ (L.length : Int) ≤ 4611686018427387904 - f + 1 ∧ L.length ≠ 0 := by
  by_cases h4 : f < 0 ∨ 4611686018427387904 < f ∨ 4611686018427387904 - f + 1 < (L.length : Int)
  · rw [chk_4 h4] at h; cases h
  · refine ⟨by omega, by omega, by omega, fun h0 => ?_⟩
    rw [chk_2 (by omega) (by omega) h0] at h
    cases h
theorem cut_zero {f : Int} {L : List (List UInt8)} (h : chk f L = 0) : cutB f 0 L = (f, L) := by
  obtain ⟨h1, -, -, h2⟩ := chk0 h
  have hk : cutK f 0 = 0 := if_neg (by omega)
  rw [cutB_ok (by rw [hk]; omega), hk]
  simp
theorem held6 {w0 w : World} {T C : List Res} {r3 r4 g g5 : Res} (S : Held w0 w (T ++ (r3 :: r4 :: g :: g5 :: C))) : Held w0 w (g :: r4 :: (C ++ T)) := by
  have S : Held w0 w (r3 :: r4 :: g :: g5 :: (C ++ T)) := S.perm List.perm_append_comm
  have S := S.drop.pull 1 rfl
  exact S.some_of (List.Sublist.cons_cons _ (List.Sublist.cons_cons _ (List.Sublist.cons _ (List.Sublist.refl _))))
set_option maxRecDepth 100000 in
set_option maxHeartbeats 4000000 in
theorem each_any (A : Option Addr) (c : Nat) (l : List BtV) (hll : l.length ≤ 1000000) (w : World) (hf : BtsF w A l) :
    Calls Try.prog 31 #[.slice A l.length c] w fun e w' => ∃ gA v ys, e = .returned (.func (.func 58) #[] #[.pointer (some ⟨gA, 0, none⟩)]) ∧ ys.map (fun y : CtV => (y.f, y.L)) = okL l ∧ ys.length ≤ l.length ∧ Held w w' (blkR gA 56 #[v] :: rowR 24 2 v ys.length (ctC ys) :: ctR ys) := by
  refine calls_fr Try.func31 rfl 22 rfl (fun a0 hsz hdf hAr => ?_)
  have hz0 : a0.tmps.size = 22 := hsz
  have D := hdf
  have o0 := hAr 0 _ rfl
  refine wp_seq (eea_r0 hz0 (fun a1 hs1 o2 => ?_))
  have hz1 := hs1.size.trans hz0
  have o0 := hs1.keep 0 _ (by decide) o0
  have D := hs1.defers.trans D
  refine wp_seq (eea_r1 w [] (Held.start w) hz1 (fun a2 w2 hs2 h2 => ?_))
  have hz2 := hs2.size.trans hz1
  have o0 := hs2.keep 0 _ (by decide) o0
  have D := hs2.defers.trans D
  obtain ⟨gA, o3, S⟩ := h2
  refine wp_seq (wp_seq (eea_r2 A l.length c hz2 o0 (fun a3 hs3 o6 o7 o8 => ?_)))
  have hz3 := hs3.size.trans hz2
  have o0 := hs3.keep 0 _ (by decide) o0
  have o3 := hs3.keep 3 _ (by decide) o3
  have D := hs3.defers.trans D
  have h0 : Ow w2 24 2 (.slice none 0 0) 0 [] := World.ownsRow_nil _ _ _ _
  have S := (S.rownew h0 (Kp.refl [] w2) (fun g hg => by cases hg)).pull 1 rfl
  have S : Held w w2 (blkR gA 56 #[.slice none 0 0] :: rowR 24 2 (.slice none 0 0) ([] : List CtV).length (ctC []) :: ctR []) := S
  refine wp_block ?_
  conv => arg 2; whnf
  refine wp_loop (fun a' w' => ∃ (k : Nat) (ys : List CtV) (u : Value), k ≤ l.length ∧ ys.length ≤ k ∧ ys.map (fun y : CtV => (y.f, y.L)) = okL (l.take k) ∧ a'.tmps.size = 22 ∧ a'.defers = [] ∧ Sl a' 3 (.pointer (some ⟨gA, 0, none⟩)) ∧ Sl a' 6 (.slice A l.length c) ∧ Sl a' 7 (.int .i64 ((l.length : Nat) : Int)) ∧ Sl a' 8 (.int .i64 ((k : Nat) : Int)) ∧ Held w w' (blkR gA 56 #[u] :: rowR 24 2 u ys.length (ctC ys) :: ctR ys)) (fun a' _ => l.length - (intOf (a'.eval (.tmp 8))).toNat) ⟨0, [], _, Nat.zero_le _, Nat.le_refl _, rfl, hz3, D, o3, o6, o7, o8, S⟩ ?_
  iterate 9 (try clear o0)
  iterate 9 (try clear o3)
  iterate 9 (try clear o6)
  iterate 9 (try clear o7)
  iterate 9 (try clear o8)
  iterate 9 (try clear S)
  iterate 9 (try clear D)
  iterate 9 (try clear h0)
  rintro a3 w3 ⟨k, ys, u, hk, hyk, hys, hz3, D, o3, o6, o7, o8, S⟩
  have e8 := o8.eval (by rw [hz3]; decide)
  refine wp_seq (eea_r3 k l.length hz3 o7 o8 (fun a4 hs4 o9 => ?_))
  have hz4 := hs4.size.trans hz3
  have o3 := hs4.keep 3 _ (by decide) o3
  have o6 := hs4.keep 6 _ (by decide) o6
  have o7 := hs4.keep 7 _ (by decide) o7
  have o8 := hs4.keep 8 _ (by decide) o8
  have D := hs4.defers.trans D
  by_cases hlt : k < l.length
  · refine wp_seq (wp_cond_true ((o9.eval (by rw [hz4]; decide)).trans (by rw [decide_eq_true hlt])) (wp_skip ?_))
    simp only [Exit.then]
    obtain ⟨x, hx⟩ : ∃ x, l[k]? = some x := ⟨_, List.getElem?_eq_getElem hlt⟩
    obtain ⟨ad, rfl, hcell, hok⟩ := (hf.kp S.k) k x hx
    have hok2 : ∀ V, Kp [] w V → BtOk V x := fun V kV => by obtain ⟨_, _, _, h⟩ := (hf.kp kV) k x hx; exact h
    clear hok
    refine wp_seq (wp_block ?_)
    refine wp_seq (eea_r4 w ad k l.length c hlt x.f x.A x.L.length x.c hcell _ S hz4 o6 o8 (fun a5 w5 hs5 h5 k5 => ?_))
    have hz5 := hs5.size.trans hz4
    have o3 := hs5.keep 3 _ (by decide) o3
    have o6 := hs5.keep 6 _ (by decide) o6
    have o7 := hs5.keep 7 _ (by decide) o7
    have o8 := hs5.keep 8 _ (by decide) o8
    have o9 := hs5.keep 9 _ (by decide) o9
    have D := hs5.defers.trans D
    obtain ⟨g5, o5, S⟩ := h5
    have HC := check_any x.f (hok2 w5 S.k).hf _ _ w5 (hok2 w5 S.k).txs
    by_cases h0 : chk x.f x.L = 0
    · skip
      refine wp_seq (eea_r5 g5 _ x.f x.A x.L.length x.c (S.at_ (l1 := [])) HC true (by rw [h0]; rfl) hz5 o5 (fun a6 w6 hs6 o14 k6 => ?_))
      have hz6 := hs6.size.trans hz5
      have o3 := hs6.keep 3 _ (by decide) o3
      have o5 := hs6.keep 5 _ (by decide) o5
      have o6 := hs6.keep 6 _ (by decide) o6
      have o7 := hs6.keep 7 _ (by decide) o7
      have o8 := hs6.keep 8 _ (by decide) o8
      have D := hs6.defers.trans D
      have S := (S.kp k6).pull 1 rfl
      refine wp_cond_true (o14.eval (by rw [hz6]; decide)) ?_
      have HT : ∀ V, Kp [] w V → Calls Try.prog 32 #[.agg #[.int .i64 x.f, .slice x.A x.L.length x.c], .int .i64 0] V fun e w' => ∃ v' Bs, e = .returned (.agg #[.int .i64 x.f, v']) ∧ Held V w' (rowR 25 1 v' x.L.length Bs :: textR x.L Bs) := fun V kV => by
        refine (cut15_any x.f (hok2 V kV).hf _ 0 (by omega) x.L V (hok2 V kV).txs (hok2 V kV).hl (hok2 V kV).hb).mono ?_
        rintro e w' ⟨v', Bs, h1, h2, h3⟩
        rw [cut_zero h0] at h1 h3
        exact ⟨v', Bs, h1, h3⟩
      refine eea_r6 w gA g5 ys.length x.f x.A x.L.length x.c u x.L (ctC ys) (by omega) HT (ctR ys) hz6 o3 o5 S (fun a7 vs gs w7 hs7 S => ?_)
      have hz7 := hs7.size.trans hz6
      have D := hs7.defers.trans D
      have o3 := hs7.keep 3 _ (by decide) o3
      have o6 := hs7.keep 6 _ (by decide) o6
      have o7 := hs7.keep 7 _ (by decide) o7
      have o8 := hs7.keep 8 _ (by decide) o8
      have S := held6 S
      have S : Held w w7 (blkR gA 56 #[vs 4] :: rowR 24 2 (vs 4) (ys ++ [⟨x.f, x.L, (gs 2).1, (gs 2).2⟩] : List CtV).length (ctC (ys ++ [⟨x.f, x.L, (gs 2).1, (gs 2).2⟩])) :: ctR (ys ++ [⟨x.f, x.L, (gs 2).1, (gs 2).2⟩])) := by
        rw [ctC_snoc, ctR_snoc, List.length_append]
        exact S
      simp only [Exit.inBlock, Exit.then]
      refine eea_r7 k (by omega) hz7 o8 (fun a8 hs8 o8 => ?_)
      have hz8 := hs8.size.trans hz7
      refine ⟨⟨k + 1, _, _, hlt, by rw [List.length_append, List.length_singleton]; omega, by rw [List.map_append, hys, okL_yes hx h0]; rfl, hz8, hs8.defers.trans D, hs8.keep 3 _ (by decide) o3, hs8.keep 6 _ (by decide) o6, hs8.keep 7 _ (by decide) o7, o8, S⟩, ?_⟩
      show l.length - (intOf _).toNat < l.length - (intOf _).toNat
      rw [e8, o8.eval (by rw [hz8]; decide)]
      simp only [intOf]; omega
    · skip
      refine wp_seq (eea_r5 g5 _ x.f x.A x.L.length x.c (S.at_ (l1 := [])) HC false (beq_false_of_ne (by omega)) hz5 o5 (fun a6 w6 hs6 o14 k6 => ?_))
      have hz6 := hs6.size.trans hz5
      have o3 := hs6.keep 3 _ (by decide) o3
      have o5 := hs6.keep 5 _ (by decide) o5
      have o6 := hs6.keep 6 _ (by decide) o6
      have o7 := hs6.keep 7 _ (by decide) o7
      have o8 := hs6.keep 8 _ (by decide) o8
      have D := hs6.defers.trans D
      have S := (S.kp k6).drop
      refine wp_cond_false (o14.eval (by rw [hz6]; decide)) (wp_skip ?_)
      simp only [Exit.inBlock, Exit.then]
      refine eea_r7 k (by omega) hz6 o8 (fun a8 hs8 o8 => ?_)
      have hz8 := hs8.size.trans hz6
      refine ⟨⟨k + 1, ys, _, hlt, by omega, by rw [hys, okL_no hx h0], hz8, hs8.defers.trans D, hs8.keep 3 _ (by decide) o3, hs8.keep 6 _ (by decide) o6, hs8.keep 7 _ (by decide) o7, o8, S⟩, ?_⟩
      show l.length - (intOf _).toNat < l.length - (intOf _).toNat
      rw [e8, o8.eval (by rw [hz8]; decide)]
      simp only [intOf]; omega
  · refine wp_seq (wp_cond_false ((o9.eval (by rw [hz4]; decide)).trans (by rw [decide_eq_false hlt])) (wp_exit ?_))
    simp only [Exit.then, Exit.inBlock]
    refine wp_seq (eea_r8 gA hz4 o3 (fun a8 hs8 o2 => ?_))
    refine wp_ret ?_
    rw [List.take_of_length_le (by omega)] at hys
    exact bodyPost_ret (res_one (by rfl) (o2.eval (by rw [hs8.size, hz4]; decide))) (hs8.defers.trans D) ⟨gA, u, ys, rfl, hys, by omega, S⟩
end
/- What entry.Each tells, one by one. -/
section
open Go.RowKit Go.Shelf
/-- What the iterator tells: the number, the entry, its slice; where the batch lies meanwhile. -/
structure EX where
  num : Int
  e : List UInt8
  v : Value
  g : Nat
  b : CtV
def EX.encs (x : EX) : Array Value := #[.int .i64 x.num, x.v]
abbrev eaL (gA : Nat) (v : Value) (ys : List CtV) : List Res := blkR gA 56 #[v] :: rowR 24 2 v ys.length (ctC ys) :: ctR ys
def EX.Z (w0 : World) (B gA : Nat) (v : Value) (ys : List CtV) (x : EX) (W : World) : Prop := Held w0 W (blkR x.g 24 #[.int .i64 x.b.f, x.b.v] :: eaL gA v ys) ∧ B ≤ W.heap.size
def rowE (y : CtV) : List (Int × List UInt8) := (List.range y.L.length).map fun (j : Nat) => ((y.f + (j : Int), y.L.getD j []) : Int × List UInt8)
def elsE (ys : List CtV) : List (Int × List UInt8) := ys.flatMap rowE
def EX.X (w0 : World) (B gA : Nat) (v : Value) (ys : List CtV) (pre : List EX) (x : EX) (W0 W1 : World) : Prop :=
  (∀ w L, Held w W0 L → Held w W1 (rowR 5 1 x.v x.e.length (bv x.e) :: L)) ∧ (elsE ys)[pre.length]? = some (x.num, x.e) ∧ B ≤ x.g ∧ Held w0 W0 (blkR x.g 24 #[.int .i64 x.b.f, x.b.v] :: eaL gA v ys)
theorem rowE_length (y : CtV) : (rowE y).length = y.L.length := by simp [rowE]
theorem rowE_get {y : CtV} {j : Nat} (h : j < y.L.length) : (rowE y)[j]? = some (y.f + (j : Int), y.L[j]) := by
  simp [rowE, List.getElem?_map, List.getElem?_range h, List.getD_eq_getElem?_getD, List.getElem?_eq_getElem h]
theorem elsE_cut {ys : List CtV} {i : Nat} {y : CtV} (h : ys[i]? = some y) : elsE ys = elsE (ys.take i) ++ (rowE y ++ elsE (ys.drop (i + 1))) := by
  have hi := (List.getElem?_eq_some_iff.1 h).1
  have h2 : ys = ys.take i ++ y :: ys.drop (i + 1) := by
    have h3 := List.take_append_drop i ys
    rw [List.drop_eq_getElem_cons hi, (List.getElem?_eq_some_iff.1 h).2] at h3
    exact h3.symm
  conv => lhs; rw [h2]
  simp [elsE]
theorem elsE_at {ys : List CtV} {i j : Nat} {y : CtV} (h : ys[i]? = some y) (hj : j < y.L.length) : (elsE ys)[(elsE (ys.take i)).length + j]? = some (y.f + (j : Int), y.L[j]) := by
  rw [elsE_cut h, List.getElem?_append_right (by omega), Nat.add_sub_cancel_left, List.getElem?_append_left (by rw [rowE_length]; exact hj), rowE_get hj]
theorem elsE_next {ys : List CtV} {i : Nat} {y : CtV} (h : ys[i]? = some y) : (elsE (ys.take (i + 1))).length = (elsE (ys.take i)).length + y.L.length := by
  simp [elsE, List.take_add_one, h, rowE_length]
theorem ctC_get : ∀ {ys : List CtV} {i : Nat} {y : CtV}, ys[i]? = some y → (ctC ys)[i * 2]? = some (.int .i64 y.f) ∧ (ctC ys)[i * 2 + 1]? = some y.v
  | x :: ys, 0, y, h => by
    cases h
    exact ⟨rfl, rfl⟩
  | x :: ys, i + 1, y, h => by
    have := ctC_get (ys := ys) (i := i) (y := y) h
    rw [show (i + 1) * 2 = i * 2 + 1 + 1 by omega]
    exact this
theorem ctR_row {ys : List CtV} {i : Nat} {y : CtV} (h : ys[i]? = some y) : rowR 25 1 y.v y.L.length y.Bs ∈ ctR ys := List.mem_flatMap.2 ⟨y, List.mem_of_getElem? h, List.mem_cons_self ..⟩
theorem ctR_text {ys : List CtV} {i : Nat} {y : CtV} (h : ys[i]? = some y) : ∀ r, r ∈ textR y.L y.Bs → r ∈ ctR ys := fun r hr => List.mem_flatMap.2 ⟨y, List.mem_of_getElem? h, List.mem_cons_of_mem _ hr⟩
/-- What is known of the batches that Each keeps. -/
def EaOk (ys : List CtV) : Prop := ∀ (i : Nat) (y : CtV), ys[i]? = some y → 0 ≤ y.f ∧ y.f + (y.L.length : Int) ≤ 4611686018427387905 ∧ ∀ e ∈ y.L, e.length ≤ 140737488355200
set_option maxRecDepth 100000 in
set_option maxHeartbeats 4000000 in
theorem ee_seq (w0 : World) (gA : Nat) (A : Option Addr) (c : Nat) (ys : List CtV) (hll : ys.length ≤ 1000000) (hok : EaOk ys) (w : World) (hw : Held w0 w (eaL gA (.slice A ys.length c) ys)) (n : Nat) :
    SeqW Try.prog n 58 #[.pointer (some ⟨gA, 0, none⟩)] EX.encs (EX.Z w0 w.heap.size gA (.slice A ys.length c) ys) (EX.X w0 w.heap.size gA (.slice A ys.length c) ys) (fun xs => xs.length = (elsE ys).length) (fun _ => True) (elsE ys).length w := by
  intro l J Jx W hk hJ hJx hY h0
  have HP := hw.kp hk
  refine callsIn_wide.2 ?_
  refine calls_fr Try.func58 rfl 32 rfl (fun a0 hsz hdf hAr => ?_)
  have hz0 : a0.tmps.size = 32 := hsz
  have D := hdf
  have o0 := hAr 0 _ rfl
  have o1 := hAr 1 _ rfl
  refine wp_seq (ebb_r0 gA A ys.length c (HP.at_ (l1 := [])) hz0 o1 (fun a1 hs1 o7 o8 o9 => ?_))
  have hz1 := hs1.size.trans hz0
  have o0 := hs1.keep 0 _ (by decide) o0
  have o1 := hs1.keep 1 _ (by decide) o1
  have D := hs1.defers.trans D
  refine wp_block ?_
  conv => arg 2; whnf
  refine wp_loop (fun a' w' => ∃ (pre : List EX) (i : Nat), i ≤ ys.length ∧ pre.length = (elsE (ys.take i)).length ∧ a'.tmps.size = 32 ∧ a'.defers = [] ∧ Sl a' 0 (.func (.yield l) #[] #[]) ∧ Sl a' 1 (.pointer (some ⟨gA, 0, none⟩)) ∧ Sl a' 7 (.slice A ys.length c) ∧ Sl a' 8 (.int .i64 ((ys.length : Nat) : Int)) ∧ Sl a' 9 (.int .i64 ((i : Nat) : Int)) ∧ J pre w' ∧ Held w0 w' (eaL gA (.slice A ys.length c) ys) ∧ w.heap.size ≤ w'.heap.size) (fun a' _ => ys.length - (intOf (a'.eval (.tmp 9))).toNat) ⟨[], 0, Nat.zero_le _, rfl, hz1, D, o0, o1, o7, o8, o9, h0, HP, hk.size⟩ ?_
  iterate 9 (try clear o0)
  iterate 9 (try clear o1)
  iterate 9 (try clear o7)
  iterate 9 (try clear o8)
  iterate 9 (try clear o9)
  iterate 9 (try clear h0)
  iterate 9 (try clear HP)
  iterate 9 (try clear D)
  rintro a2 w2 ⟨pre, i, hi, hpl, hz2, D, o0, o1, o7, o8, o9, hJ2, HP, hB2⟩
  have e9 := o9.eval (by rw [hz2]; decide)
  refine wp_seq (ebb_r1 i ys.length hz2 o8 o9 (fun a3 hs3 o10 => ?_))
  have hz3 := hs3.size.trans hz2
  have o0 := hs3.keep 0 _ (by decide) o0
  have o1 := hs3.keep 1 _ (by decide) o1
  have o7 := hs3.keep 7 _ (by decide) o7
  have o8 := hs3.keep 8 _ (by decide) o8
  have o9 := hs3.keep 9 _ (by decide) o9
  have D := hs3.defers.trans D
  by_cases hlt : i < ys.length
  · refine wp_seq (wp_cond_true ((o10.eval (by rw [hz3]; decide)).trans (by rw [decide_eq_true hlt])) (wp_skip ?_))
    simp only [Exit.then]
    obtain ⟨y, hy⟩ : ∃ y, ys[i]? = some y := ⟨_, List.getElem?_eq_getElem hlt⟩
    obtain ⟨hyf, hyl, hyb⟩ := hok i y hy
    have hyr : ∀ V, Held w0 V (eaL gA (.slice A ys.length c) ys) → Ow V 25 1 y.v y.L.length y.Bs := fun V SV => SV.ok (rowR 25 1 y.v y.L.length y.Bs) (List.mem_cons_of_mem _ (List.mem_cons_of_mem _ (ctR_row hy)))
    obtain ⟨Ay, cy, hyv, -, -⟩ := ow_form (hyr w2 HP)
    obtain ⟨gr, cr, hA, -, -⟩ := ow_some (HP.at_ (l1 := [_])) (show 0 < ys.length by omega)
    obtain rfl : A = some ⟨gr, 0, none⟩ := by injection hA
    clear hA
    have hyt : ∀ V, Held w0 V (eaL gA (.slice (some ⟨gr, 0, none⟩) ys.length c) ys) → Txs V (.slice Ay y.L.length cy) y.L := fun V SV => by
      have h1 := hyr V SV
      rw [← hyv]
      exact txs_ok (by have := h1.1; omega) SV (List.mem_cons_of_mem _ (List.mem_cons_of_mem _ (ctR_row hy))) (fun r hr => List.mem_cons_of_mem _ (List.mem_cons_of_mem _ (ctR_text hy r hr)))
    have hcell : ∀ j u, (#[.int .i64 y.f, .slice Ay y.L.length cy] : Array Value).toList[j]? = some u → w2.cell? (((⟨gr, 0, none⟩ : Addr).add (i * 2)).add j) = some u := fun j u hu => by
      obtain ⟨h1, h2⟩ := ctC_get hy
      rw [hyv] at h2
      rw [add_of_add]
      obtain ⟨-, A', c', he, -, -, -, h5⟩ := Rd.of_own (show Ow w2 24 2 (.slice (some ⟨gr, 0, none⟩) ys.length c) ys.length (ctC ys) from HP.at_ (l1 := [_]))
      cases he
      refine h5 _ rfl _ _ ?_
      rcases j with _ | j
      · cases hu; exact h1
      rcases j with _ | j
      · cases hu; exact h2
      · cases hu
    refine wp_seq (wp_block ?_)
    refine wp_seq (ebb_r2 w2 ⟨gr, 0, none⟩ i ys.length c hlt y.f Ay y.L.length cy hcell _ (Held.start w2) hz3 o7 o9 (fun a4 w4 hs4 h4 k4 => ?_))
    have hz4 := hs4.size.trans hz3
    have o0 := hs4.keep 0 _ (by decide) o0
    have o1 := hs4.keep 1 _ (by decide) o1
    have o7 := hs4.keep 7 _ (by decide) o7
    have o8 := hs4.keep 8 _ (by decide) o8
    have o9 := hs4.keep 9 _ (by decide) o9
    have o10 := hs4.keep 10 _ (by decide) o10
    have D := hs4.defers.trans D
    obtain ⟨g4, o4, T4⟩ := h4
    have hg4 : w.heap.size ≤ g4 := Nat.le_trans hB2 (T4.base _ (List.mem_cons_self ..) g4 (by simp [blkR]))
    have HP : Held w0 w4 (blkR g4 24 #[.int .i64 y.f, .slice Ay y.L.length cy] :: eaL gA (.slice (some ⟨gr, 0, none⟩) ys.length c) ys) := (HP.join T4).perm List.perm_append_comm
    have hB4 := Nat.le_trans hB2 k4.size
    have hJ4 := hJ _ _ _ hJ2 k4
    clear hJ2 hcell
    refine wp_seq (ebb_r3 g4 y.f Ay y.L.length cy (HP.at_ (l1 := [])) hz4 o4 (fun a5 hs5 o14 o15 o16 => ?_))
    have hz5 := hs5.size.trans hz4
    have o0 := hs5.keep 0 _ (by decide) o0
    have o1 := hs5.keep 1 _ (by decide) o1
    have o4 := hs5.keep 4 _ (by decide) o4
    have o7 := hs5.keep 7 _ (by decide) o7
    have o8 := hs5.keep 8 _ (by decide) o8
    have o9 := hs5.keep 9 _ (by decide) o9
    have D := hs5.defers.trans D
    refine wp_block ?_
    conv => arg 2; whnf
    refine wp_loop (fun a' w' => ∃ (pre : List EX) (j : Nat), j ≤ y.L.length ∧ pre.length = (elsE (ys.take i)).length + j ∧ a'.tmps.size = 32 ∧ a'.defers = [] ∧ Sl a' 0 (.func (.yield l) #[] #[]) ∧ Sl a' 1 (.pointer (some ⟨gA, 0, none⟩)) ∧ Sl a' 4 (.pointer (some ⟨g4, 0, none⟩)) ∧ Sl a' 7 (.slice (some ⟨gr, 0, none⟩) ys.length c) ∧ Sl a' 8 (.int .i64 ((ys.length : Nat) : Int)) ∧ Sl a' 9 (.int .i64 ((i : Nat) : Int)) ∧ Sl a' 14 (.slice Ay y.L.length cy) ∧ Sl a' 15 (.int .i64 ((y.L.length : Nat) : Int)) ∧ Sl a' 16 (.int .i64 ((j : Nat) : Int)) ∧ J pre w' ∧ Held w0 w' (blkR g4 24 #[.int .i64 y.f, .slice Ay y.L.length cy] :: eaL gA (.slice (some ⟨gr, 0, none⟩) ys.length c) ys) ∧ w.heap.size ≤ w'.heap.size) (fun a' _ => y.L.length - (intOf (a'.eval (.tmp 16))).toNat) ⟨pre, 0, Nat.zero_le _, hpl, hz5, D, o0, o1, o4, o7, o8, o9, o14, o15, o16, hJ4, HP, hB4⟩ ?_
    iterate 9 (try clear o0)
    iterate 9 (try clear o1)
    iterate 9 (try clear o4)
    iterate 9 (try clear o7)
    iterate 9 (try clear o8)
    iterate 9 (try clear o9)
    iterate 9 (try clear o14)
    iterate 9 (try clear o15)
    iterate 9 (try clear o16)
    iterate 9 (try clear hJ4)
    iterate 9 (try clear HP)
    iterate 9 (try clear D)
    clear hpl pre
    rintro a6 w6 ⟨pre, j, hj, hpl, hz6, D, o0, o1, o4, o7, o8, o9, o14, o15, o16, hJ6, HP, hB6⟩
    have e16 := o16.eval (by rw [hz6]; decide)
    refine wp_seq (ebb_r4 j y.L.length hz6 o15 o16 (fun a7 hs7 o17 => ?_))
    have hz7 := hs7.size.trans hz6
    have o0 := hs7.keep 0 _ (by decide) o0
    have o1 := hs7.keep 1 _ (by decide) o1
    have o4 := hs7.keep 4 _ (by decide) o4
    have o7 := hs7.keep 7 _ (by decide) o7
    have o8 := hs7.keep 8 _ (by decide) o8
    have o9 := hs7.keep 9 _ (by decide) o9
    have o14 := hs7.keep 14 _ (by decide) o14
    have o15 := hs7.keep 15 _ (by decide) o15
    have o16 := hs7.keep 16 _ (by decide) o16
    have D := hs7.defers.trans D
    by_cases hlj : j < y.L.length
    · refine wp_seq (wp_cond_true ((o17.eval (by rw [hz7]; decide)).trans (by rw [decide_eq_true hlj])) (wp_skip ?_))
      simp only [Exit.then]
      refine wp_seq (wp_block ?_)
      obtain ⟨ady, rfl⟩ : ∃ ady, Ay = some ady := by
        obtain ⟨ga, ca, h1, -, -⟩ := ow_some (hyr w6 HP.drop) (by omega)
        rw [hyv] at h1
        injection h1 with h1
        exact ⟨_, h1⟩
      obtain ⟨Ax, cx, hcx, hrx⟩ := (hyt w6 HP.drop).at_ hlj
      refine wp_seq (ebb_r5 ady j y.L.length cy hlj _ hcx hz7 o14 o16 (fun a8 hs8 o5 o6 => ?_))
      have hz8 := hs8.size.trans hz7
      have o0 := hs8.keep 0 _ (by decide) o0
      have o1 := hs8.keep 1 _ (by decide) o1
      have o4 := hs8.keep 4 _ (by decide) o4
      have o7 := hs8.keep 7 _ (by decide) o7
      have o8 := hs8.keep 8 _ (by decide) o8
      have o9 := hs8.keep 9 _ (by decide) o9
      have o14 := hs8.keep 14 _ (by decide) o14
      have o15 := hs8.keep 15 _ (by decide) o15
      have o16 := hs8.keep 16 _ (by decide) o16
      have D := hs8.defers.trans D
      have hat := elsE_at hy hlj
      rw [← hpl] at hat
      have hlN : pre.length < (elsE ys).length := (List.getElem?_eq_some_iff.1 hat).1
      refine wp_seq (ebb_r6 l (n - 1) y.f (y.f + (j : Int)) j (by unfold wrap64; omega) _ _ g4 y.L[j] (HP.at_ (l1 := [])) hrx (hyb _ (List.getElem_mem hlj)) (fun u e W' => e = .returned (.bool true) ∧ J (pre ++ [(⟨y.f + (j : Int), y.L[j], u, g4, y⟩ : EX)]) W' ∧ EX.Z w0 w.heap.size gA (.slice (some ⟨gr, 0, none⟩) ys.length c) ys ⟨y.f + (j : Int), y.L[j], u, g4, y⟩ W' ∨ e = .returned (.bool false) ∧ Jx (pre ++ [(⟨y.f + (j : Int), y.L[j], u, g4, y⟩ : EX)]) W') (fun u V kV hH => hY pre ⟨y.f + (j : Int), y.L[j], u, g4, y⟩ w6 V hJ6 kV ⟨hH, hat, hg4, by rw [← hyv] at HP; exact HP⟩ hlN) (fun u e V h => by rcases h with ⟨rfl, -⟩ | ⟨rfl, -⟩ <;> exact ⟨_, rfl⟩) hz8 o0 o4 o5 o6 (fun a9 w9 b u hs9 o29 h9 => ?_))
      have hz9 := hs9.size.trans hz8
      have D := hs9.defers.trans D
      have o0 := hs9.keep 0 _ (by decide) o0
      have o1 := hs9.keep 1 _ (by decide) o1
      have o4 := hs9.keep 4 _ (by decide) o4
      have o7 := hs9.keep 7 _ (by decide) o7
      have o8 := hs9.keep 8 _ (by decide) o8
      have o9 := hs9.keep 9 _ (by decide) o9
      have o14 := hs9.keep 14 _ (by decide) o14
      have o15 := hs9.keep 15 _ (by decide) o15
      have o16 := hs9.keep 16 _ (by decide) o16
      rcases h9 with ⟨e, hJ9, hZ9⟩ | ⟨e, hJx9⟩
      · cases e
        refine wp_cond_false (o29.eval (by rw [hz9]; decide)) (wp_skip ?_)
        simp only [Exit.inBlock, Exit.then]
        refine ebb_r7 j (by omega) hz9 o16 (fun a10 hs10 o16 => ?_)
        have hz10 := hs10.size.trans hz9
        have hY9 : Held w0 w9 (blkR g4 24 #[.int .i64 y.f, y.v] :: eaL gA (.slice (some ⟨gr, 0, none⟩) ys.length c) ys) := hZ9.1
        have hB9 := hZ9.2
        rw [hyv] at hY9
        refine ⟨⟨_, j + 1, hlj, by rw [List.length_append, List.length_singleton]; omega, hz10, hs10.defers.trans D, hs10.keep 0 _ (by decide) o0, hs10.keep 1 _ (by decide) o1, hs10.keep 4 _ (by decide) o4, hs10.keep 7 _ (by decide) o7, hs10.keep 8 _ (by decide) o8, hs10.keep 9 _ (by decide) o9, hs10.keep 14 _ (by decide) o14, hs10.keep 15 _ (by decide) o15, o16, hJ9, hY9, hB9⟩, ?_⟩
        show y.L.length - (intOf _).toNat < y.L.length - (intOf _).toNat
        rw [e16, o16.eval (by rw [hz10]; decide)]
        simp only [intOf]; omega
      · cases e
        refine wp_cond_true (o29.eval (by rw [hz9]; decide)) ?_
        refine wp_ret ?_
        simp only [Exit.then, Exit.inBlock]
        exact ⟨D, _, res_none (by rfl), ⟨_, rfl⟩, .inr ⟨_, trivial, hJx9⟩⟩
    · refine wp_seq (wp_cond_false ((o17.eval (by rw [hz7]; decide)).trans (by rw [decide_eq_false hlj])) (wp_exit ?_))
      simp only [Exit.then, Exit.inBlock]
      refine ebb_r8 i (by omega) hz7 o9 (fun a8 hs8 o9 => ?_)
      have hz8 := hs8.size.trans hz7
      refine ⟨⟨pre, i + 1, hlt, by rw [elsE_next hy]; omega, hz8, hs8.defers.trans D, hs8.keep 0 _ (by decide) o0, hs8.keep 1 _ (by decide) o1, hs8.keep 7 _ (by decide) o7, hs8.keep 8 _ (by decide) o8, o9, hJ6, HP.drop, hB6⟩, ?_⟩
      show ys.length - (intOf _).toNat < ys.length - (intOf _).toNat
      rw [e9, o9.eval (by rw [hz8]; decide)]
      simp only [intOf]; omega
  · refine wp_seq (wp_cond_false ((o10.eval (by rw [hz3]; decide)).trans (by rw [decide_eq_false hlt])) (wp_exit ?_))
    simp only [Exit.then, Exit.inBlock]
    exact ⟨D, _, res_none (by rfl), ⟨_, rfl⟩, .inl ⟨pre, by rw [hpl, List.take_of_length_le (by omega)], hJ2⟩⟩
end
/- EntryEach: its regions, up to the loops. -/
section
open Go.RowKit Go.Shelf
-- REG ecc0
set_option maxRecDepth 100000 in
set_option maxHeartbeats 2000000 in
theorem ecc_r0 {Q : Exit → Act → World → Prop} {a : Act} {w : World} (w0 : World) (lv : Int) (L : List Res) (S : Held w0 w L) (hsz : a.tmps.size = 193) (o1 : Sl a 1 (.int .i64 lv))
    (hend : ∀ (a' : Act) (W : World), Same a a' [3, 4] → (∃ gL gR, Sl a' 3 (.pointer (some ⟨gL, 0, none⟩)) ∧ Sl a' 4 (.pointer (some ⟨gR, 0, none⟩)) ∧ Held w0 W (blkR gR 4 #[.bool false] :: blkR gL 3 #[.int .i64 lv] :: L)) → Q .normal a' W) : (Code.region 0 (opsOf 0 Try.f7).toArray false).wp Try.prog Q a w := by
  refine wp_region_lit (l := (opsOf 0 Try.f7)) ?_
  conv => arg 4; whnf
  unfold Sl at o1
  have S1 := Lib.hid ((S.newBlk 3 #[.int .i64 lv]).newBlkN 4 #[.bool false] (g := w.heap.size + 1) (by simp))
  go_wp2_with fail
  try simp only [Act.put]
  exact hend _ _ (by repeat (first | (with_reducible refine same_set (by decide) ?_) | (with_reducible exact same_nil))) (⟨_, _, (by unfold Sl; simp [hsz]), (by unfold Sl; simp [hsz]), S1.out⟩)
-- END ecc0
-- REG ecc1
set_option maxRecDepth 100000 in
set_option maxHeartbeats 2000000 in
theorem ecc_r1 {Q : Exit → Act → World → Prop} {a : Act} {w : World} (A : Option Addr) (n c : Nat) (hsz : a.tmps.size = 193) (o0 : Sl a 0 (.slice A n c))
    (hend : ∀ (a' : Act), Same a a' [17, 18, 19] → Sl a' 19 (.bool (decide ((20 : Int) < (n : Int)))) → Q .normal a' (w)) : (Code.region 1 (opsOf 1 Try.f7).toArray false).wp Try.prog Q a w := by
  refine wp_region_lit (l := (opsOf 1 Try.f7)) ?_
  conv => arg 4; whnf
  unfold Sl at o0
  go_wp2_with fail
  try simp only [Act.put]
  exact hend _ (by repeat (first | (with_reducible refine same_set (by decide) ?_) | (with_reducible exact same_nil))) (by unfold Sl; first | (simp [hsz]; done) | (simp [hsz]; omega))
-- END ecc1
-- REG ecc2
set_option maxRecDepth 100000 in
set_option maxHeartbeats 2000000 in
theorem ecc_r2 {Q : Exit → Act → World → Prop} {a : Act} {w : World} (w0 : World) (gR : Nat) (u : Value) (L : List Res) (S : Held w0 w (blkR gR 4 #[u] :: L)) (hsz : a.tmps.size = 193) (o4 : Sl a 4 (.pointer (some ⟨gR, 0, none⟩)))
    (hend : ∀ (a' : Act) (W : World), Same a a' [20] → (Held w0 W (blkR gR 4 #[.bool true] :: L)) → Q .normal a' W) : (Code.region 2 (opsOf 2 Try.f7).toArray false).wp Try.prog Q a w := by
  refine wp_region_lit (l := (opsOf 2 Try.f7)) ?_
  conv => arg 4; whnf
  unfold Sl at o4
  have S := Lib.hid S
  go_wp2_with fail
  refine (known15_true w).mono ?_
  rintro e w1 ⟨rfl, k1⟩
  have S1 := S.out.kp k1
  obtain ⟨c1, c2, c3⟩ := Blk.c1 (S1.at_ (l1 := []))
  have S2 := Lib.hid (S1.set (l1 := []) 0 (.bool true))
  clear S1
  go_wp2_with fail
  try simp only [Act.put]
  exact hend _ _ (by repeat (first | (with_reducible refine same_set (by decide) ?_) | (with_reducible exact same_nil))) (S2.out)
-- END ecc2
-- REG ecc10
set_option maxRecDepth 100000 in
set_option maxHeartbeats 2000000 in
theorem ecc_r10 {Q : Exit → Act → World → Prop} {a : Act} {w : World} (w0 : World) (gR : Nat) (u : Value) (L : List Res) (S : Held w0 w (blkR gR 4 #[u] :: L)) (hsz : a.tmps.size = 193) (o4 : Sl a 4 (.pointer (some ⟨gR, 0, none⟩)))
    (hend : ∀ (a' : Act) (W : World), Same a a' [34] → (Held w0 W (blkR gR 4 #[.bool true] :: L)) → Q .normal a' W) : (Code.region 10 (opsOf 10 Try.f7).toArray false).wp Try.prog Q a w := by
  refine wp_region_lit (l := (opsOf 10 Try.f7)) ?_
  conv => arg 4; whnf
  unfold Sl at o4
  have S := Lib.hid S
  go_wp2_with fail
  refine (known15_true w).mono ?_
  rintro e w1 ⟨rfl, k1⟩
  have S1 := S.out.kp k1
  obtain ⟨c1, c2, c3⟩ := Blk.c1 (S1.at_ (l1 := []))
  have S2 := Lib.hid (S1.set (l1 := []) 0 (.bool true))
  clear S1
  go_wp2_with fail
  try simp only [Act.put]
  exact hend _ _ (by repeat (first | (with_reducible refine same_set (by decide) ?_) | (with_reducible exact same_nil))) (S2.out)
-- END ecc10
-- REG ecc46
set_option maxRecDepth 100000 in
set_option maxHeartbeats 2000000 in
theorem ecc_r46 {Q : Exit → Act → World → Prop} {a : Act} {w : World} (w0 : World) (gR : Nat) (u : Value) (L : List Res) (S : Held w0 w (blkR gR 4 #[u] :: L)) (hsz : a.tmps.size = 193) (o4 : Sl a 4 (.pointer (some ⟨gR, 0, none⟩)))
    (hend : ∀ (a' : Act) (W : World), Same a a' [192] → (Held w0 W (blkR gR 4 #[.bool true] :: L)) → Q .normal a' W) : (Code.region 46 (opsOf 46 Try.f7).toArray false).wp Try.prog Q a w := by
  refine wp_region_lit (l := (opsOf 46 Try.f7)) ?_
  conv => arg 4; whnf
  unfold Sl at o4
  have S := Lib.hid S
  go_wp2_with fail
  refine (known15_true w).mono ?_
  rintro e w1 ⟨rfl, k1⟩
  have S1 := S.out.kp k1
  obtain ⟨c1, c2, c3⟩ := Blk.c1 (S1.at_ (l1 := []))
  have S2 := Lib.hid (S1.set (l1 := []) 0 (.bool true))
  clear S1
  go_wp2_with fail
  try simp only [Act.put]
  exact hend _ _ (by repeat (first | (with_reducible refine same_set (by decide) ?_) | (with_reducible exact same_nil))) (S2.out)
-- END ecc46
-- REG ecc3
set_option maxRecDepth 100000 in
set_option maxHeartbeats 2000000 in
theorem ecc_r3 {Q : Exit → Act → World → Prop} {a : Act} {w : World}  (hsz : a.tmps.size = 193) 
    (hend : ∀ (a' : Act), Same a a' [5] → Sl a' 5 (.slice none 0 0) → Q .normal a' (w)) : (Code.region 3 (opsOf 3 Try.f7).toArray false).wp Try.prog Q a w := by
  refine wp_region_lit (l := (opsOf 3 Try.f7)) ?_
  conv => arg 4; whnf
  go_wp2_with fail
  try simp only [Act.put]
  exact hend _ (by repeat (first | (with_reducible refine same_set (by decide) ?_) | (with_reducible exact same_nil))) (by unfold Sl; first | (simp [hsz]; done) | (simp [hsz]; omega))
-- END ecc3
-- REG ecc4
set_option maxRecDepth 100000 in
set_option maxHeartbeats 2000000 in
theorem ecc_r4 {Q : Exit → Act → World → Prop} {a : Act} {w : World} (w0 : World) (L : List Res) (S : Held w0 w L) (hsz : a.tmps.size = 193) 
    (hend : ∀ (a' : Act) (W : World), Same a a' [6] → (∃ g, Sl a' 6 (.pointer (some ⟨g, 0, none⟩)) ∧ Held w0 W (blkR g 57 #[.slice none 0 0] :: L)) → Q .normal a' W) : (Code.region 4 (opsOf 4 Try.f7).toArray false).wp Try.prog Q a w := by
  refine wp_region_lit (l := (opsOf 4 Try.f7)) ?_
  conv => arg 4; whnf
  have S1 := Lib.hid (S.newBlk 57 #[.slice none 0 0])
  go_wp2_with fail
  try simp only [Act.put]
  exact hend _ _ (by repeat (first | (with_reducible refine same_set (by decide) ?_) | (with_reducible exact same_nil))) (⟨_, (by unfold Sl; simp [hsz]), S1.out⟩)
-- END ecc4
-- REG ecc5
set_option maxRecDepth 100000 in
set_option maxHeartbeats 2000000 in
theorem ecc_r5 {Q : Exit → Act → World → Prop} {a : Act} {w : World} (w0 : World) (L : List Res) (S : Held w0 w L) (hsz : a.tmps.size = 193) 
    (hend : ∀ (a' : Act) (W : World), Same a a' [7] → (∃ g, Sl a' 7 (.pointer (some ⟨g, 0, none⟩)) ∧ Held w0 W (blkR g 22 #[.slice none 0 0] :: L)) → Q .normal a' W) : (Code.region 5 (opsOf 5 Try.f7).toArray false).wp Try.prog Q a w := by
  refine wp_region_lit (l := (opsOf 5 Try.f7)) ?_
  conv => arg 4; whnf
  have S1 := Lib.hid (S.newBlk 22 #[.slice none 0 0])
  go_wp2_with fail
  try simp only [Act.put]
  exact hend _ _ (by repeat (first | (with_reducible refine same_set (by decide) ?_) | (with_reducible exact same_nil))) (⟨_, (by unfold Sl; simp [hsz]), S1.out⟩)
-- END ecc5
-- REG ecc6
set_option maxRecDepth 100000 in
set_option maxHeartbeats 2000000 in
theorem ecc_r6 {Q : Exit → Act → World → Prop} {a : Act} {w : World}  (hsz : a.tmps.size = 193) 
    (hend : ∀ (a' : Act), Same a a' [8] → Sl a' 8 (.int .i64 ((0 : Nat) : Int)) → Q .normal a' (w)) : (Code.region 6 (opsOf 6 Try.f7).toArray false).wp Try.prog Q a w := by
  refine wp_region_lit (l := (opsOf 6 Try.f7)) ?_
  conv => arg 4; whnf
  go_wp2_with fail
  try simp only [Act.put]
  exact hend _ (by repeat (first | (with_reducible refine same_set (by decide) ?_) | (with_reducible exact same_nil))) (by unfold Sl; first | (simp [hsz]; done) | (simp [hsz]; omega))
-- END ecc6
-- REG ecc12
set_option maxRecDepth 100000 in
set_option maxHeartbeats 2000000 in
theorem ecc_r12 {Q : Exit → Act → World → Prop} {a : Act} {w : World}  (hsz : a.tmps.size = 193) 
    (hend : ∀ (a' : Act), Same a a' [9] → Sl a' 9 (.int .i64 ((0 : Nat) : Int)) → Q .normal a' (w)) : (Code.region 12 (opsOf 12 Try.f7).toArray false).wp Try.prog Q a w := by
  refine wp_region_lit (l := (opsOf 12 Try.f7)) ?_
  conv => arg 4; whnf
  go_wp2_with fail
  try simp only [Act.put]
  exact hend _ (by repeat (first | (with_reducible refine same_set (by decide) ?_) | (with_reducible exact same_nil))) (by unfold Sl; first | (simp [hsz]; done) | (simp [hsz]; omega))
-- END ecc12
-- REG ecc20
set_option maxRecDepth 100000 in
set_option maxHeartbeats 2000000 in
theorem ecc_r20 {Q : Exit → Act → World → Prop} {a : Act} {w : World}  (hsz : a.tmps.size = 193) 
    (hend : ∀ (a' : Act), Same a a' [11] → Sl a' 11 (.int .i64 ((0 : Nat) : Int)) → Q .normal a' (w)) : (Code.region 20 (opsOf 20 Try.f7).toArray false).wp Try.prog Q a w := by
  refine wp_region_lit (l := (opsOf 20 Try.f7)) ?_
  conv => arg 4; whnf
  go_wp2_with fail
  try simp only [Act.put]
  exact hend _ (by repeat (first | (with_reducible refine same_set (by decide) ?_) | (with_reducible exact same_nil))) (by unfold Sl; first | (simp [hsz]; done) | (simp [hsz]; omega))
-- END ecc20
-- REG ecc7
set_option maxRecDepth 100000 in
set_option maxHeartbeats 2000000 in
theorem ecc_r7 {Q : Exit → Act → World → Prop} {a : Act} {w : World} (A : Option Addr) (n c k : Nat) (hsz : a.tmps.size = 193) (o0 : Sl a 0 (.slice A n c)) (o8 : Sl a 8 (.int .i64 ((k : Nat) : Int)))
    (hend : ∀ (a' : Act), Same a a' [21, 22, 23, 24] → Sl a' 24 (.bool (decide (k < n))) → Q .normal a' (w)) : (Code.region 7 (opsOf 7 Try.f7).toArray false).wp Try.prog Q a w := by
  refine wp_region_lit (l := (opsOf 7 Try.f7)) ?_
  conv => arg 4; whnf
  unfold Sl at o0 o8
  go_wp2_with fail
  try simp only [Act.put]
  exact hend _ (by repeat (first | (with_reducible refine same_set (by decide) ?_) | (with_reducible exact same_nil))) (by unfold Sl; first | (simp [hsz]; done) | (simp [hsz]; omega))
-- END ecc7
-- REG ecc21
set_option maxRecDepth 100000 in
set_option maxHeartbeats 2000000 in
theorem ecc_r21 {Q : Exit → Act → World → Prop} {a : Act} {w : World} (A : Option Addr) (n c k : Nat) (hsz : a.tmps.size = 193) (o0 : Sl a 0 (.slice A n c)) (o11 : Sl a 11 (.int .i64 ((k : Nat) : Int)))
    (hend : ∀ (a' : Act), Same a a' [93, 94, 95, 96] → Sl a' 96 (.bool (decide (k < n))) → Q .normal a' (w)) : (Code.region 21 (opsOf 21 Try.f7).toArray false).wp Try.prog Q a w := by
  refine wp_region_lit (l := (opsOf 21 Try.f7)) ?_
  conv => arg 4; whnf
  unfold Sl at o0 o11
  go_wp2_with fail
  try simp only [Act.put]
  exact hend _ (by repeat (first | (with_reducible refine same_set (by decide) ?_) | (with_reducible exact same_nil))) (by unfold Sl; first | (simp [hsz]; done) | (simp [hsz]; omega))
-- END ecc21
-- REG ecc9
set_option maxRecDepth 100000 in
set_option maxHeartbeats 2000000 in
theorem ecc_r9 {Q : Exit → Act → World → Prop} {a : Act} {w : World} (ad : Addr) (k n c : Nat) (hk : k < n) (f : Int) (Ab : Option Addr) (nb cb : Nat) (hc : ∀ j u, (#[.int .i64 f, .slice Ab nb cb] : Array Value).toList[j]? = some u → w.cell? ((ad.add (k * 2)).add j) = some u) (hsz : a.tmps.size = 193) (o0 : Sl a 0 (.slice (some ad) n c)) (o8 : Sl a 8 (.int .i64 ((k : Nat) : Int)))
    (hend : ∀ (a' : Act), Same a a' [27, 28, 29, 30, 31, 32, 33] → Sl a' 33 (.bool (decide ((50 : Int) < (nb : Int)))) → Q .normal a' (w)) : (Code.region 9 (opsOf 9 Try.f7).toArray false).wp Try.prog Q a w := by
  refine wp_region_lit (l := (opsOf 9 Try.f7)) ?_
  conv => arg 4; whnf
  unfold Sl at o0 o8
  have h0 : 0 ≤ (k : Int) := by omega
  have h1 : (k : Int) < (n : Int) := by omega
  have c0 : w.cell? (ad.add (k * 2)) = some (.int .i64 f) := hc 0 _ rfl
  have c0' : w.cell? ((ad.add (k * 2)).add 0) = some (.int .i64 f) := hc 0 _ rfl
  have c1 : w.cell? ((ad.add (k * 2)).add 1) = some (.slice Ab nb cb) := hc 1 _ rfl
  have c1' : w.cell? (ad.add (k * 2 + 1)) = some (.slice Ab nb cb) := by rw [← add_of_add]; exact c1
  have c2 : w.cell? ⟨(ad.add (k * 2)).block, (ad.add (k * 2)).off + 1, none⟩ = some (.slice Ab nb cb) := c1
  go_wp2_with fail
  try simp only [Act.put]
  exact hend _ (by repeat (first | (with_reducible refine same_set (by decide) ?_) | (with_reducible exact same_nil))) (by unfold Sl; first | (simp [hsz]; done) | (simp [hsz]; omega))
-- END ecc9
-- REG ecc14
set_option maxRecDepth 100000 in
set_option maxHeartbeats 2000000 in
theorem ecc_r14 {Q : Exit → Act → World → Prop} {a : Act} {w : World} (k : Nat) (hk : k < 9223372036854775807) (hsz : a.tmps.size = 193) (o9 : Sl a 9 (.int .i64 ((k : Nat) : Int)))
    (hend : ∀ (a' : Act), Same a a' [66, 67, 9] → Sl a' 9 (.int .i64 ((k + 1 : Nat) : Int)) → Q .normal a' (w)) : (Code.region 14 (opsOf 14 Try.f7).toArray false).wp Try.prog Q a w := by
  refine wp_region_lit (l := (opsOf 14 Try.f7)) ?_
  conv => arg 4; whnf
  unfold Sl at o9
  have hw : wrap64 ((k : Int) + 1) = (k : Int) + 1 := by unfold wrap64; omega
  go_wp2_with fail
  try simp only [Act.put]
  exact hend _ (by repeat (first | (with_reducible refine same_set (by decide) ?_) | (with_reducible exact same_nil))) (by unfold Sl; first | (simp [hsz]; done) | (simp [hsz]; omega))
-- END ecc14
-- REG ecc8
set_option maxRecDepth 100000 in
set_option maxHeartbeats 2000000 in
theorem ecc_r8 {Q : Exit → Act → World → Prop} {a : Act} {w : World} (k : Nat) (hk : k < 9223372036854775807) (hsz : a.tmps.size = 193) (o8 : Sl a 8 (.int .i64 ((k : Nat) : Int)))
    (hend : ∀ (a' : Act), Same a a' [25, 26, 8] → Sl a' 8 (.int .i64 ((k + 1 : Nat) : Int)) → Q .normal a' (w)) : (Code.region 8 (opsOf 8 Try.f7).toArray false).wp Try.prog Q a w := by
  refine wp_region_lit (l := (opsOf 8 Try.f7)) ?_
  conv => arg 4; whnf
  unfold Sl at o8
  have hw : wrap64 ((k : Int) + 1) = (k : Int) + 1 := by unfold wrap64; omega
  go_wp2_with fail
  try simp only [Act.put]
  exact hend _ (by repeat (first | (with_reducible refine same_set (by decide) ?_) | (with_reducible exact same_nil))) (by unfold Sl; first | (simp [hsz]; done) | (simp [hsz]; omega))
-- END ecc8
-- REG ecc22
set_option maxRecDepth 100000 in
set_option maxHeartbeats 2000000 in
theorem ecc_r22 {Q : Exit → Act → World → Prop} {a : Act} {w : World} (k : Nat) (hk : k < 9223372036854775807) (hsz : a.tmps.size = 193) (o11 : Sl a 11 (.int .i64 ((k : Nat) : Int)))
    (hend : ∀ (a' : Act), Same a a' [97, 98, 11] → Sl a' 11 (.int .i64 ((k + 1 : Nat) : Int)) → Q .normal a' (w)) : (Code.region 22 (opsOf 22 Try.f7).toArray false).wp Try.prog Q a w := by
  refine wp_region_lit (l := (opsOf 22 Try.f7)) ?_
  conv => arg 4; whnf
  unfold Sl at o11
  have hw : wrap64 ((k : Int) + 1) = (k : Int) + 1 := by unfold wrap64; omega
  go_wp2_with fail
  try simp only [Act.put]
  exact hend _ (by repeat (first | (with_reducible refine same_set (by decide) ?_) | (with_reducible exact same_nil))) (by unfold Sl; first | (simp [hsz]; done) | (simp [hsz]; omega))
-- END ecc22
end
/- EntryEach: its regions in the first loops. -/
section
open Go.RowKit Go.Shelf
theorem Try.infoI64Z : (Try.prog.info? 2).map (fun i => (i.zero, i.size, i.bytes)) = some (some (.int .i64 0), 1, 8) := by kernel_rfl
theorem Try.infoBytesZ : (Try.prog.info? 25).map (fun i => (i.zero, i.size, i.bytes)) = some (some (.slice none 0 0), 1, 24) := by kernel_rfl
theorem Try.built_bat (f : Int) (A : Option Addr) (n c : Nat) : Try.prog.built 24 [(0, .int .i64 f), (1, .slice A n c)] = some #[.int .i64 f, .slice A n c] := by kernel_rfl
-- REG ecc11
set_option maxRecDepth 100000 in
set_option maxHeartbeats 2000000 in
theorem ecc_r11 {Q : Exit → Act → World → Prop} {a : Act} {w : World} (w0 : World) (ad : Addr) (k n c q : Nat) (hk : k < n) (f : Int) (Ab : Option Addr) (cb : Nat) (u : Value) (X : List (List UInt8)) (xs : List Value) (hq : (q + 1) * 32 ≤ 140737488355328) (hXl : X.length ≤ 1073741824) (hXb : ∀ e ∈ X, e.length ≤ 140737488355200) (hT : ∀ V, Kp [] w0 V → Txs V (.slice Ab X.length cb) X) (hcV : ∀ V, Kp [] w0 V → ∀ j u, (#[.int .i64 f, .slice Ab X.length cb] : Array Value).toList[j]? = some u → V.cell? ((ad.add (k * 2)).add j) = some u) (L : List Res) (hsz : a.tmps.size = 193) (o0 : Sl a 0 (.slice (some ad) n c)) (o5 : Sl a 5 (u)) (o8 : Sl a 8 (.int .i64 ((k : Nat) : Int)))
    (S0 : Held w0 w (rowR 24 2 u q xs :: L))
    (hend : ∀ (a' : Act) (vs : Nat → Value) (gs : Nat → LentG) (W : World), Same a a' [35, 36, 37, 38, 39, 40, 41, 42, 43, 44, 45, 46, 47, 48, 49, 5] → Sl a' 46 (vs 11) → (vs 11 = (.slice (some ⟨(gs 11).1, 0, none⟩) X.length (gs 11).2.1) ∧ (gs 11).2.2.1.length = X.length) → Sl a' 5 (vs 14) → Held w0 W (lentL (gs 11) X ++ (rowR 24 2 (vs 13) 1 [.int .i64 f, (.slice (some ⟨(gs 11).1, 0, none⟩) X.length (gs 11).2.1)] :: rowR 24 2 (vs 14) (q + 1) (xs ++ [.int .i64 f, (.slice (some ⟨(gs 11).1, 0, none⟩) X.length (gs 11).2.1)]) :: L)) → Q .normal a' W) : (Code.region 11 (opsOf 11 Try.f7).toArray true).wp Try.prog Q a w := by
  have hap : apartB (opsOf 11 Try.f7) = true := by kernel_rfl
  refine wp_region_sep (Γ := LentG) (l := (opsOf 11 Try.f7)) 2 [0, 1, 2, 3, 4, 5, 6, 7, 8, 9, 10, 11, 12, 13, 14, 15, 17]
    (fun i vs gs => match i with | 0 => vs 0 = u | 1 => vs 1 = .slice (some ad) n c | 2 => vs 2 = .int .i64 ((k : Nat) : Int) | 3 => vs 3 = .pointer (some (ad.add (k * 2))) | 4 => vs 4 = .pointer (some (ad.add (k * 2))) | 5 => vs 5 = .int .i64 f | 6 => vs 6 = .slice (some ad) n c | 7 => vs 7 = .int .i64 ((k : Nat) : Int) | 8 => vs 8 = .pointer (some (ad.add (k * 2))) | 9 => vs 9 = .pointer (some ⟨(ad.add (k * 2)).block, (ad.add (k * 2)).off + 1, none⟩) | 10 => vs 10 = .slice Ab X.length cb | 11 => vs 11 = (.slice (some ⟨(gs 11).1, 0, none⟩) X.length (gs 11).2.1) ∧ (gs 11).2.2.1.length = X.length | 12 => vs 12 = .agg #[.int .i64 f, (.slice (some ⟨(gs 11).1, 0, none⟩) X.length (gs 11).2.1)] | 15 => vs 15 = vs 14 | _ => True)
    (fun i vs gs => match i with | 11 => lentL (gs 11) X | 13 => [rowR 24 2 (vs 13) 1 [.int .i64 f, (.slice (some ⟨(gs 11).1, 0, none⟩) X.length (gs 11).2.1)]] | 14 => [rowR 24 2 (vs 14) (q + 1) (xs ++ [.int .i64 f, (.slice (some ⟨(gs 11).1, 0, none⟩) X.length (gs 11).2.1)])] | 16 => [rowR 24 2 u q xs] | 17 => L | _ => [])
    (fun i => match i with | 14 => [16] | _ => []) (fun i => match i with | 14 => [13] | _ => []) S0 (by kernel_rfl) hap (by kernel_rfl) (by kernel_rfl) (fun i => match i with | 0 => [0] | 1 => [1] | 2 => [2] | 3 => [3] | 4 => [4] | 5 => [5] | 6 => [6] | 7 => [7] | 8 => [8] | 9 => [9] | 10 => [10] | 11 => [11] | 12 => [11, 12] | 13 => [11, 13] | 14 => [11, 14] | 15 => [14, 15] | _ => []) (by kernel_rfl) ?_ (by kernel_rfl) ?_ ?_ ?_
  · intro s vs vs' gs gs' h
    iterate 18 (rcases s with _ | s; · (first | exact ⟨rfl, id⟩ | (simp only [List.mem_cons, List.not_mem_nil, or_false, forall_eq_or_imp, forall_eq] at h; simp [h])))
    exact ⟨rfl, id⟩
  · simp only [List.range, List.range.loop, List.flatMap_cons, List.flatMap_nil, List.append_nil, List.cons_append, List.nil_append]
    exact List.Perm.refl _
  · clear S0 hend
    refine ⟨?_, ?_, ?_, ?_, ?_, ?_, ?_, ?_, ?_, ?_, ?_, ?_, ?_, ?_, ?_, ?_, trivial⟩
    · intro vs gs A' W LF hA S hR hd hu K hK
      replace hK := hK default
      have e5 : A'.tmps[5]?.getD undef = vs 15 := slot_in hA hap (Nat.lt_of_lt_of_eq (Nat.le_of_ble_eq_true rfl : 5 < 193) hsz.symm) (by kernel_rfl)
      rw [show vs 15 = u from (hu 15 _ rfl (by kernel_rfl)).trans (o5.eval (Nat.lt_of_lt_of_eq (Nat.le_of_ble_eq_true rfl : 5 < 193) hsz.symm))] at e5
      clear hA o0 o5 o8
      go_step
      exact hK _ _ S rfl
    · intro vs gs A' W LF hA S hR hd hu K hK
      replace hK := hK default
      have e0 : A'.tmps[0]?.getD undef = .slice (some ad) n c := slot_out hA hap (Nat.lt_of_lt_of_eq (Nat.le_of_ble_eq_true rfl : 0 < 193) hsz.symm) (by kernel_rfl) o0
      clear hA o0 o5 o8
      go_step
      exact hK _ _ S rfl
    · intro vs gs A' W LF hA S hR hd hu K hK
      replace hK := hK default
      have e8 : A'.tmps[8]?.getD undef = .int .i64 ((k : Nat) : Int) := slot_out hA hap (Nat.lt_of_lt_of_eq (Nat.le_of_ble_eq_true rfl : 8 < 193) hsz.symm) (by kernel_rfl) o8
      clear hA o0 o5 o8
      go_step
      exact hK _ _ S rfl
    · intro vs gs A' W LF hA S hR hd hu K hK
      replace hK := hK default
      have f1 : vs 1 = .slice (some ad) n c := hd 1 (by kernel_rfl)
      have e36 : A'.tmps[36]?.getD undef = vs 1 := slot_in hA hap (Nat.lt_of_lt_of_eq (Nat.le_of_ble_eq_true rfl : 36 < 193) hsz.symm) (by kernel_rfl)
      rw [f1] at e36
      have f2 : vs 2 = .int .i64 ((k : Nat) : Int) := hd 2 (by kernel_rfl)
      have e37 : A'.tmps[37]?.getD undef = vs 2 := slot_in hA hap (Nat.lt_of_lt_of_eq (Nat.le_of_ble_eq_true rfl : 37 < 193) hsz.symm) (by kernel_rfl)
      rw [f2] at e37
      clear hA o0 o5 o8
      have h0 : 0 ≤ (k : Int) := by omega
      have h1 : (k : Int) < (n : Int) := by omega
      go_step
      exact hK _ _ S rfl
    · intro vs gs A' W LF hA S hR hd hu K hK
      replace hK := hK default
      have f3 : vs 3 = .pointer (some (ad.add (k * 2))) := hd 3 (by kernel_rfl)
      have e38 : A'.tmps[38]?.getD undef = vs 3 := slot_in hA hap (Nat.lt_of_lt_of_eq (Nat.le_of_ble_eq_true rfl : 38 < 193) hsz.symm) (by kernel_rfl)
      rw [f3] at e38
      clear hA o0 o5 o8
      go_step
      exact hK _ _ S rfl
    · intro vs gs A' W LF hA S hR hd hu K hK
      replace hK := hK default
      have f4 : vs 4 = .pointer (some (ad.add (k * 2))) := hd 4 (by kernel_rfl)
      have e39 : A'.tmps[39]?.getD undef = vs 4 := slot_in hA hap (Nat.lt_of_lt_of_eq (Nat.le_of_ble_eq_true rfl : 39 < 193) hsz.symm) (by kernel_rfl)
      rw [f4] at e39
      clear hA o0 o5 o8
      have c0 : W.cell? (ad.add (k * 2)) = some (.int .i64 f) := hcV W S.k 0 _ rfl
      go_step
      exact hK _ _ S rfl
    · intro vs gs A' W LF hA S hR hd hu K hK
      replace hK := hK default
      have e0 : A'.tmps[0]?.getD undef = .slice (some ad) n c := slot_out hA hap (Nat.lt_of_lt_of_eq (Nat.le_of_ble_eq_true rfl : 0 < 193) hsz.symm) (by kernel_rfl) o0
      clear hA o0 o5 o8
      go_step
      exact hK _ _ S rfl
    · intro vs gs A' W LF hA S hR hd hu K hK
      replace hK := hK default
      have e8 : A'.tmps[8]?.getD undef = .int .i64 ((k : Nat) : Int) := slot_out hA hap (Nat.lt_of_lt_of_eq (Nat.le_of_ble_eq_true rfl : 8 < 193) hsz.symm) (by kernel_rfl) o8
      clear hA o0 o5 o8
      go_step
      exact hK _ _ S rfl
    · intro vs gs A' W LF hA S hR hd hu K hK
      replace hK := hK default
      have f6 : vs 6 = .slice (some ad) n c := hd 6 (by kernel_rfl)
      have e41 : A'.tmps[41]?.getD undef = vs 6 := slot_in hA hap (Nat.lt_of_lt_of_eq (Nat.le_of_ble_eq_true rfl : 41 < 193) hsz.symm) (by kernel_rfl)
      rw [f6] at e41
      have f7 : vs 7 = .int .i64 ((k : Nat) : Int) := hd 7 (by kernel_rfl)
      have e42 : A'.tmps[42]?.getD undef = vs 7 := slot_in hA hap (Nat.lt_of_lt_of_eq (Nat.le_of_ble_eq_true rfl : 42 < 193) hsz.symm) (by kernel_rfl)
      rw [f7] at e42
      clear hA o0 o5 o8
      have h0 : 0 ≤ (k : Int) := by omega
      have h1 : (k : Int) < (n : Int) := by omega
      go_step
      exact hK _ _ S rfl
    · intro vs gs A' W LF hA S hR hd hu K hK
      replace hK := hK default
      have f8 : vs 8 = .pointer (some (ad.add (k * 2))) := hd 8 (by kernel_rfl)
      have e43 : A'.tmps[43]?.getD undef = vs 8 := slot_in hA hap (Nat.lt_of_lt_of_eq (Nat.le_of_ble_eq_true rfl : 43 < 193) hsz.symm) (by kernel_rfl)
      rw [f8] at e43
      clear hA o0 o5 o8
      go_step
      exact hK _ _ S rfl
    · intro vs gs A' W LF hA S hR hd hu K hK
      replace hK := hK default
      have f9 : vs 9 = .pointer (some ⟨(ad.add (k * 2)).block, (ad.add (k * 2)).off + 1, none⟩) := hd 9 (by kernel_rfl)
      have e44 : A'.tmps[44]?.getD undef = vs 9 := slot_in hA hap (Nat.lt_of_lt_of_eq (Nat.le_of_ble_eq_true rfl : 44 < 193) hsz.symm) (by kernel_rfl)
      rw [f9] at e44
      clear hA o0 o5 o8
      have c0 : W.cell? ⟨(ad.add (k * 2)).block, (ad.add (k * 2)).off + 1, none⟩ = some (.slice Ab X.length cb) := hcV W S.k 1 _ rfl
      go_step
      exact hK _ _ S rfl
    · intro vs gs A' W LF hA S hR hd hu K hK
      have f10 : vs 10 = .slice Ab X.length cb := hd 10 (by kernel_rfl)
      have e45 : A'.tmps[45]?.getD undef = vs 10 := slot_in hA hap (Nat.lt_of_lt_of_eq (Nat.le_of_ble_eq_true rfl : 45 < 193) hsz.symm) (by kernel_rfl)
      rw [f10] at e45
      clear hA o0 o5 o8
      go_step
      refine (lent15_any _ X W (hT W S.k) hXl hXb).mono ?_
      rintro e w' ⟨g, c', Bs, M, rfl, hB, T⟩
      exact hK (g, c', Bs, M) _ w' ((S.join T).perm List.perm_append_comm) ⟨rfl, hB⟩
    · intro vs gs A' W LF hA S hR hd hu K hK
      replace hK := hK default
      have f5 : vs 5 = .int .i64 f := hd 5 (by kernel_rfl)
      have e40 : A'.tmps[40]?.getD undef = vs 5 := slot_in hA hap (Nat.lt_of_lt_of_eq (Nat.le_of_ble_eq_true rfl : 40 < 193) hsz.symm) (by kernel_rfl)
      rw [f5] at e40
      have f11 : vs 11 = (.slice (some ⟨(gs 11).1, 0, none⟩) X.length (gs 11).2.1) ∧ (gs 11).2.2.1.length = X.length := hd 11 (by kernel_rfl)
      have e46 : A'.tmps[46]?.getD undef = vs 11 := slot_in hA hap (Nat.lt_of_lt_of_eq (Nat.le_of_ble_eq_true rfl : 46 < 193) hsz.symm) (by kernel_rfl)
      clear hA o0 o5 o8
      obtain ⟨hq, -⟩ := f11
      rw [hq] at e46
      refine op_build 24 _ rfl [(0, .int .i64 f), (1, (.slice (some ⟨(gs 11).1, 0, none⟩) X.length (gs 11).2.1))] (by simp [Act.eval, e40, e46]) _ (Try.built_bat f _ X.length _) ?_
      exact hK _ _ S rfl
    · intro vs gs A' W LF hA S hR hd hu K hK
      replace hK := hK default
      have f12 : vs 12 = .agg #[.int .i64 f, (.slice (some ⟨(gs 11).1, 0, none⟩) X.length (gs 11).2.1)] := hd 12 (by kernel_rfl)
      have e47 : A'.tmps[47]?.getD undef = vs 12 := slot_in hA hap (Nat.lt_of_lt_of_eq (Nat.le_of_ble_eq_true rfl : 47 < 193) hsz.symm) (by kernel_rfl)
      rw [f12] at e47
      clear hA o0 o5 o8
      go_step
      have o3 := ow_new W 24 2 1 #[.int .i64 f, (.slice (some ⟨(gs 11).1, 0, none⟩) X.length (gs 11).2.1)] rfl (by decide)
      exact hK _ _ (S.rownew o3 ((Kp.refl [] W).alloc _) (fun g hg => Nat.le_of_eq (Option.some.inj hg))) trivial
    · intro vs gs A' W LF hA S hR hd hu K hK
      replace hK := hK default
      have f0 : vs 0 = u := hd 0 (by kernel_rfl)
      have e35 : A'.tmps[35]?.getD undef = vs 0 := slot_in hA hap (Nat.lt_of_lt_of_eq (Nat.le_of_ble_eq_true rfl : 35 < 193) hsz.symm) (by kernel_rfl)
      rw [f0] at e35
      have e48 : A'.tmps[48]?.getD undef = vs 13 := slot_in hA hap (Nat.lt_of_lt_of_eq (Nat.le_of_ble_eq_true rfl : 48 < 193) hsz.symm) (by kernel_rfl)
      clear hA o0 o5 o8
      refine op_app (.tmp 35) (.tmp 48) 56 24 rfl Try.infoBatZ Try.underlying56 rfl (by decide) u q xs (by simpa [Act.eval] using e35) S (vs 13) 1 [.int .i64 f, (.slice (some ⟨(gs 11).1, 0, none⟩) X.length (gs 11).2.1)] (by simpa [Act.eval] using e48) (rd_of_row (e := 24) S (List.mem_cons_of_mem _ (hR 13 (List.mem_singleton.2 rfl) _ (List.mem_singleton.2 rfl)))) (by intro x hx; simp at hx; rcases hx with rfl | rfl <;> rfl) (by unfold maxLen; omega) (by omega) (fun v' w' S' => hK v' w' S' trivial)
    · intro vs gs A' W LF hA S hR hd hu K hK
      replace hK := hK default
      have e49 : A'.tmps[49]?.getD undef = vs 14 := slot_in hA hap (Nat.lt_of_lt_of_eq (Nat.le_of_ble_eq_true rfl : 49 < 193) hsz.symm) (by kernel_rfl)
      clear hA o0 o5 o8
      go_step
      exact hK _ _ S rfl
  · intro vs gs W S hp
    have S : Held w0 W (lentL (gs 11) X ++ (rowR 24 2 (vs 13) 1 [.int .i64 f, (.slice (some ⟨(gs 11).1, 0, none⟩) X.length (gs 11).2.1)] :: rowR 24 2 (vs 14) (q + 1) (xs ++ [.int .i64 f, (.slice (some ⟨(gs 11).1, 0, none⟩) X.length (gs 11).2.1)]) :: L)) := by simpa only [List.flatMap_cons, List.flatMap_nil, List.append_nil, List.nil_append, List.cons_append, List.append_assoc] using S
    rw [show putAll vs (opsOf 11 Try.f7) 0 a = putD [(35, vs 0), (36, vs 1), (37, vs 2), (38, vs 3), (39, vs 4), (40, vs 5), (41, vs 6), (42, vs 7), (43, vs 8), (44, vs 9), (45, vs 10), (46, vs 11), (47, vs 12), (48, vs 13), (49, vs 14), (5, vs 15)] a from by kernel_rfl]
    exact hend _ vs gs W (same_putD _ a) (sl_putD _ a 46 _ (by kernel_rfl)) (hp 11 (Nat.le_of_ble_eq_true (by kernel_rfl))) (sl_putD _ a 5 _ (by rw [show vs 15 = _ from hp 15 (Nat.le_of_ble_eq_true (by kernel_rfl))]; kernel_rfl)) S
-- END ecc11
-- REG ecc15
set_option maxRecDepth 100000 in
set_option maxHeartbeats 2000000 in
theorem ecc_r15 {Q : Exit → Act → World → Prop} {a : Act} {w : World} (w0 : World) (ad : Addr) (k n c q jx g6 : Nat) (hk : k < n) (f : Int) (Ab : Option Addr) (nb cb : Nat) (hfj : 0 ≤ f ∧ f + (jx : Int) ≤ 4611686018427387905) (u : Value) (xs : List Value) (hq : (q + 1) * 8 ≤ 140737488355328) (hcV : ∀ V, Kp [] w0 V → ∀ j u, (#[.int .i64 f, .slice Ab nb cb] : Array Value).toList[j]? = some u → V.cell? ((ad.add (k * 2)).add j) = some u) (L : List Res) (hsz : a.tmps.size = 193) (o0 : Sl a 0 (.slice (some ad) n c)) (o6 : Sl a 6 (.pointer (some ⟨g6, 0, none⟩))) (o8 : Sl a 8 (.int .i64 ((k : Nat) : Int))) (o9 : Sl a 9 (.int .i64 ((jx : Nat) : Int)))
    (S0 : Held w0 w (blkR g6 57 #[u] :: rowR 2 1 u q xs :: L))
    (hend : ∀ (a' : Act) (vs : Nat → Value) (gs : Nat → Unit) (W : World), Same a a' [68, 69, 70, 71, 72, 73, 74, 75, 76, 77] → Held w0 W (rowR 2 1 (vs 8) 1 [(.int .i64 (f + (jx : Int)) : Value)] :: rowR 2 1 (vs 9) (q + 1) (xs ++ [(.int .i64 (f + (jx : Int)) : Value)]) :: blkR g6 57 #[vs 9] :: L) → Q .normal a' W) : (Code.region 15 (opsOf 15 Try.f7).toArray true).wp Try.prog Q a w := by
  have hap : apartB (opsOf 15 Try.f7) = true := by kernel_rfl
  refine wp_region_sep (Γ := Unit) (l := (opsOf 15 Try.f7)) 3 [0, 1, 2, 3, 4, 5, 6, 7, 8, 9, 10, 13]
    (fun i vs gs => match i with | 0 => vs 0 = u | 1 => vs 1 = .slice (some ad) n c | 2 => vs 2 = .int .i64 ((k : Nat) : Int) | 3 => vs 3 = .pointer (some (ad.add (k * 2))) | 4 => vs 4 = .pointer (some (ad.add (k * 2))) | 5 => vs 5 = .int .i64 f | 6 => vs 6 = .int .i64 ((jx : Nat) : Int) | 7 => vs 7 = .int .i64 (f + (jx : Int)) | _ => True)
    (fun i vs gs => match i with | 8 => [rowR 2 1 (vs 8) 1 [(.int .i64 (f + (jx : Int)) : Value)]] | 9 => [rowR 2 1 (vs 9) (q + 1) (xs ++ [(.int .i64 (f + (jx : Int)) : Value)])] | 10 => [blkR g6 57 #[vs 9]] | 11 => [blkR g6 57 #[u]] | 12 => [rowR 2 1 u q xs] | 13 => L | _ => [])
    (fun i => match i with | 9 => [12] | 10 => [11] | _ => []) (fun i => match i with | 0 => [11] | 9 => [8] | 10 => [9] | _ => []) S0 (by kernel_rfl) hap (by kernel_rfl) (by kernel_rfl) (fun i => match i with | 0 => [0] | 1 => [1] | 2 => [2] | 3 => [3] | 4 => [4] | 5 => [5] | 6 => [6] | 7 => [7] | 8 => [8] | 9 => [9] | 10 => [9] | _ => []) (by kernel_rfl) ?_ (by kernel_rfl) ?_ ?_ ?_
  · intro s vs vs' gs gs' h
    iterate 14 (rcases s with _ | s; · (first | exact ⟨rfl, id⟩ | (simp only [List.mem_cons, List.not_mem_nil, or_false, forall_eq_or_imp, forall_eq] at h; simp [h])))
    exact ⟨rfl, id⟩
  · simp only [List.range, List.range.loop, List.flatMap_cons, List.flatMap_nil, List.append_nil, List.cons_append, List.nil_append]
    exact List.Perm.refl _
  · clear S0 hend
    refine ⟨?_, ?_, ?_, ?_, ?_, ?_, ?_, ?_, ?_, ?_, ?_, trivial⟩
    · intro vs gs A' W LF hA S hR hd hu K hK
      replace hK := hK default
      have e6 : A'.tmps[6]?.getD undef = .pointer (some ⟨g6, 0, none⟩) := slot_out hA hap (Nat.lt_of_lt_of_eq (Nat.le_of_ble_eq_true rfl : 6 < 193) hsz.symm) (by kernel_rfl) o6
      clear hA o0 o6 o8 o9
      have c0 : W.cell? ⟨g6, 0, none⟩ = some u := (show Blk W g6 57 #[u] from (S.ok (blkR g6 57 #[u]) (hR 11 (List.mem_singleton.2 rfl) _ (List.mem_singleton.2 rfl)))).cell 0
      go_step
      exact hK _ _ S rfl
    · intro vs gs A' W LF hA S hR hd hu K hK
      replace hK := hK default
      have e0 : A'.tmps[0]?.getD undef = .slice (some ad) n c := slot_out hA hap (Nat.lt_of_lt_of_eq (Nat.le_of_ble_eq_true rfl : 0 < 193) hsz.symm) (by kernel_rfl) o0
      clear hA o0 o6 o8 o9
      go_step
      exact hK _ _ S rfl
    · intro vs gs A' W LF hA S hR hd hu K hK
      replace hK := hK default
      have e8 : A'.tmps[8]?.getD undef = .int .i64 ((k : Nat) : Int) := slot_out hA hap (Nat.lt_of_lt_of_eq (Nat.le_of_ble_eq_true rfl : 8 < 193) hsz.symm) (by kernel_rfl) o8
      clear hA o0 o6 o8 o9
      go_step
      exact hK _ _ S rfl
    · intro vs gs A' W LF hA S hR hd hu K hK
      replace hK := hK default
      have f1 : vs 1 = .slice (some ad) n c := hd 1 (by kernel_rfl)
      have e69 : A'.tmps[69]?.getD undef = vs 1 := slot_in hA hap (Nat.lt_of_lt_of_eq (Nat.le_of_ble_eq_true rfl : 69 < 193) hsz.symm) (by kernel_rfl)
      rw [f1] at e69
      have f2 : vs 2 = .int .i64 ((k : Nat) : Int) := hd 2 (by kernel_rfl)
      have e70 : A'.tmps[70]?.getD undef = vs 2 := slot_in hA hap (Nat.lt_of_lt_of_eq (Nat.le_of_ble_eq_true rfl : 70 < 193) hsz.symm) (by kernel_rfl)
      rw [f2] at e70
      clear hA o0 o6 o8 o9
      have h0 : 0 ≤ (k : Int) := by omega
      have h1 : (k : Int) < (n : Int) := by omega
      go_step
      exact hK _ _ S rfl
    · intro vs gs A' W LF hA S hR hd hu K hK
      replace hK := hK default
      have f3 : vs 3 = .pointer (some (ad.add (k * 2))) := hd 3 (by kernel_rfl)
      have e71 : A'.tmps[71]?.getD undef = vs 3 := slot_in hA hap (Nat.lt_of_lt_of_eq (Nat.le_of_ble_eq_true rfl : 71 < 193) hsz.symm) (by kernel_rfl)
      rw [f3] at e71
      clear hA o0 o6 o8 o9
      go_step
      exact hK _ _ S rfl
    · intro vs gs A' W LF hA S hR hd hu K hK
      replace hK := hK default
      have f4 : vs 4 = .pointer (some (ad.add (k * 2))) := hd 4 (by kernel_rfl)
      have e72 : A'.tmps[72]?.getD undef = vs 4 := slot_in hA hap (Nat.lt_of_lt_of_eq (Nat.le_of_ble_eq_true rfl : 72 < 193) hsz.symm) (by kernel_rfl)
      rw [f4] at e72
      clear hA o0 o6 o8 o9
      have c0 : W.cell? (ad.add (k * 2)) = some (.int .i64 f) := hcV W S.k 0 _ rfl
      go_step
      exact hK _ _ S rfl
    · intro vs gs A' W LF hA S hR hd hu K hK
      replace hK := hK default
      have e9 : A'.tmps[9]?.getD undef = .int .i64 ((jx : Nat) : Int) := slot_out hA hap (Nat.lt_of_lt_of_eq (Nat.le_of_ble_eq_true rfl : 9 < 193) hsz.symm) (by kernel_rfl) o9
      clear hA o0 o6 o8 o9
      go_step
      exact hK _ _ S rfl
    · intro vs gs A' W LF hA S hR hd hu K hK
      replace hK := hK default
      have f5 : vs 5 = .int .i64 f := hd 5 (by kernel_rfl)
      have e73 : A'.tmps[73]?.getD undef = vs 5 := slot_in hA hap (Nat.lt_of_lt_of_eq (Nat.le_of_ble_eq_true rfl : 73 < 193) hsz.symm) (by kernel_rfl)
      rw [f5] at e73
      have f6 : vs 6 = .int .i64 ((jx : Nat) : Int) := hd 6 (by kernel_rfl)
      have e74 : A'.tmps[74]?.getD undef = vs 6 := slot_in hA hap (Nat.lt_of_lt_of_eq (Nat.le_of_ble_eq_true rfl : 74 < 193) hsz.symm) (by kernel_rfl)
      rw [f6] at e74
      clear hA o0 o6 o8 o9
      have hw : wrap64 (f + (jx : Int)) = f + (jx : Int) := by unfold wrap64; omega
      go_step
      exact hK _ _ S rfl
    · intro vs gs A' W LF hA S hR hd hu K hK
      replace hK := hK default
      have f7 : vs 7 = .int .i64 (f + (jx : Int)) := hd 7 (by kernel_rfl)
      have e75 : A'.tmps[75]?.getD undef = vs 7 := slot_in hA hap (Nat.lt_of_lt_of_eq (Nat.le_of_ble_eq_true rfl : 75 < 193) hsz.symm) (by kernel_rfl)
      rw [f7] at e75
      clear hA o0 o6 o8 o9
      go_step
      exact hK _ _ (S.rownew (ow_new W 2 1 1 #[(.int .i64 (f + (jx : Int)) : Value)] rfl (by decide)) ((Kp.refl [] W).alloc _) (fun g hg => Nat.le_of_eq (Option.some.inj hg))) trivial
    · intro vs gs A' W LF hA S hR hd hu K hK
      replace hK := hK default
      have f0 : vs 0 = u := hd 0 (by kernel_rfl)
      have e68 : A'.tmps[68]?.getD undef = vs 0 := slot_in hA hap (Nat.lt_of_lt_of_eq (Nat.le_of_ble_eq_true rfl : 68 < 193) hsz.symm) (by kernel_rfl)
      rw [f0] at e68
      have e76 : A'.tmps[76]?.getD undef = vs 8 := slot_in hA hap (Nat.lt_of_lt_of_eq (Nat.le_of_ble_eq_true rfl : 76 < 193) hsz.symm) (by kernel_rfl)
      clear hA o0 o6 o8 o9
      refine op_app (.tmp 68) (.tmp 76) 57 2 rfl Try.infoI64Z Try.underlying57 rfl (by decide) u q xs (by simpa [Act.eval] using e68) S (vs 8) 1 [(.int .i64 (f + (jx : Int)) : Value)] (by simpa [Act.eval] using e76) (rd_of_row (e := 2) S (List.mem_cons_of_mem _ (hR 8 (List.mem_singleton.2 rfl) _ (List.mem_singleton.2 rfl)))) (by intro x hx; simp at hx; rcases hx with rfl <;> rfl) (by unfold maxLen; omega) (by omega) (fun v' w' S' => hK v' w' S' trivial)
    · intro vs gs A' W LF hA S hR hd hu K hK
      replace hK := hK default
      have e6 : A'.tmps[6]?.getD undef = .pointer (some ⟨g6, 0, none⟩) := slot_out hA hap (Nat.lt_of_lt_of_eq (Nat.le_of_ble_eq_true rfl : 6 < 193) hsz.symm) (by kernel_rfl) o6
      have e77 : A'.tmps[77]?.getD undef = vs 9 := slot_in hA hap (Nat.lt_of_lt_of_eq (Nat.le_of_ble_eq_true rfl : 77 < 193) hsz.symm) (by kernel_rfl)
      clear hA o0 o6 o8 o9
      have S1 : Held w0 W (blkR g6 57 #[u] :: LF) := S
      obtain ⟨A1, c1, hq, -, -⟩ := ow_form (show Ow W 2 1 (vs 9) (q + 1) (xs ++ [(.int .i64 (f + (jx : Int)) : Value)]) from S.ok (rowR 2 1 (vs 9) (q + 1) (xs ++ [(.int .i64 (f + (jx : Int)) : Value)])) (List.mem_cons_of_mem _ (hR 9 (List.mem_singleton.2 rfl) _ (List.mem_singleton.2 rfl))))
      rw [hq] at e77
      have S2 := S1.set (l1 := []) 0 (vs 9)
      have c33 : W.cell? ⟨g6, 0, none⟩ = some u := (S1.at_ (l1 := [])).cell 0
      have f33 := (show Blk W g6 _ _ from S1.at_ (l1 := [])).frozen 0
      rw [hq] at S2
      have S3 : Held w0 (W.setCell ⟨g6, 0, none⟩ (.slice A1 (q + 1) c1)) (blkR g6 57 #[vs 9] :: LF) := by rw [hq]; exact S2
      go_step
      exact hK undef _ S3 trivial
  · intro vs gs W S hp
    have S : Held w0 W (rowR 2 1 (vs 8) 1 [(.int .i64 (f + (jx : Int)) : Value)] :: rowR 2 1 (vs 9) (q + 1) (xs ++ [(.int .i64 (f + (jx : Int)) : Value)]) :: blkR g6 57 #[vs 9] :: L) := by simpa only [List.flatMap_cons, List.flatMap_nil, List.append_nil, List.nil_append, List.cons_append, List.append_assoc] using S
    rw [show putAll vs (opsOf 15 Try.f7) 0 a = putD [(68, vs 0), (69, vs 1), (70, vs 2), (71, vs 3), (72, vs 4), (73, vs 5), (74, vs 6), (75, vs 7), (76, vs 8), (77, vs 9)] a from by kernel_rfl]
    exact hend _ vs gs W (same_putD _ a)  S
-- END ecc15
-- REG ecc16
set_option maxRecDepth 100000 in
set_option maxHeartbeats 2000000 in
theorem ecc_r16 {Q : Exit → Act → World → Prop} {a : Act} {w : World} (w0 : World) (ad ade : Addr) (k n c q jx g7 : Nat) (hk : k < n) (f : Int) (nb cb : Nat) (hj : jx < nb) (Ax : Option Addr) (nx cx : Nat) (hcx : ∀ V, Kp [] w0 V → V.cell? (ade.add jx) = some (.slice Ax nx cx)) (u : Value) (xs : List Value) (hq : (q + 1) * 24 ≤ 140737488355328) (hcV : ∀ V, Kp [] w0 V → ∀ j u, (#[.int .i64 f, .slice (some ade) nb cb] : Array Value).toList[j]? = some u → V.cell? ((ad.add (k * 2)).add j) = some u) (L : List Res) (hsz : a.tmps.size = 193) (o0 : Sl a 0 (.slice (some ad) n c)) (o7 : Sl a 7 (.pointer (some ⟨g7, 0, none⟩))) (o8 : Sl a 8 (.int .i64 ((k : Nat) : Int))) (o9 : Sl a 9 (.int .i64 ((jx : Nat) : Int)))
    (S0 : Held w0 w (blkR g7 22 #[u] :: rowR 25 1 u q xs :: L))
    (hend : ∀ (a' : Act) (vs : Nat → Value) (gs : Nat → Unit) (W : World), Same a a' [78, 79, 80, 81, 82, 83, 84, 85, 86, 87, 88] → Held w0 W (rowR 25 1 (vs 9) 1 [(.slice Ax nx cx : Value)] :: rowR 25 1 (vs 10) (q + 1) (xs ++ [(.slice Ax nx cx : Value)]) :: blkR g7 22 #[vs 10] :: L) → Q .normal a' W) : (Code.region 16 (opsOf 16 Try.f7).toArray true).wp Try.prog Q a w := by
  have hap : apartB (opsOf 16 Try.f7) = true := by kernel_rfl
  refine wp_region_sep (Γ := Unit) (l := (opsOf 16 Try.f7)) 3 [0, 1, 2, 3, 4, 5, 6, 7, 8, 9, 10, 11, 14]
    (fun i vs gs => match i with | 0 => vs 0 = u | 1 => vs 1 = .slice (some ad) n c | 2 => vs 2 = .int .i64 ((k : Nat) : Int) | 3 => vs 3 = .pointer (some (ad.add (k * 2))) | 4 => vs 4 = .pointer (some ⟨(ad.add (k * 2)).block, (ad.add (k * 2)).off + 1, none⟩) | 5 => vs 5 = .slice (some ade) nb cb | 6 => vs 6 = .int .i64 ((jx : Nat) : Int) | 7 => vs 7 = .pointer (some (ade.add jx)) | 8 => vs 8 = .slice Ax nx cx | _ => True)
    (fun i vs gs => match i with | 9 => [rowR 25 1 (vs 9) 1 [(.slice Ax nx cx : Value)]] | 10 => [rowR 25 1 (vs 10) (q + 1) (xs ++ [(.slice Ax nx cx : Value)])] | 11 => [blkR g7 22 #[vs 10]] | 12 => [blkR g7 22 #[u]] | 13 => [rowR 25 1 u q xs] | 14 => L | _ => [])
    (fun i => match i with | 10 => [13] | 11 => [12] | _ => []) (fun i => match i with | 0 => [12] | 10 => [9] | 11 => [10] | _ => []) S0 (by kernel_rfl) hap (by kernel_rfl) (by kernel_rfl) (fun i => match i with | 0 => [0] | 1 => [1] | 2 => [2] | 3 => [3] | 4 => [4] | 5 => [5] | 6 => [6] | 7 => [7] | 8 => [8] | 9 => [9] | 10 => [10] | 11 => [10] | _ => []) (by kernel_rfl) ?_ (by kernel_rfl) ?_ ?_ ?_
  · intro s vs vs' gs gs' h
    iterate 15 (rcases s with _ | s; · (first | exact ⟨rfl, id⟩ | (simp only [List.mem_cons, List.not_mem_nil, or_false, forall_eq_or_imp, forall_eq] at h; simp [h])))
    exact ⟨rfl, id⟩
  · simp only [List.range, List.range.loop, List.flatMap_cons, List.flatMap_nil, List.append_nil, List.cons_append, List.nil_append]
    exact List.Perm.refl _
  · clear S0 hend
    refine ⟨?_, ?_, ?_, ?_, ?_, ?_, ?_, ?_, ?_, ?_, ?_, ?_, trivial⟩
    · intro vs gs A' W LF hA S hR hd hu K hK
      replace hK := hK default
      have e7 : A'.tmps[7]?.getD undef = .pointer (some ⟨g7, 0, none⟩) := slot_out hA hap (Nat.lt_of_lt_of_eq (Nat.le_of_ble_eq_true rfl : 7 < 193) hsz.symm) (by kernel_rfl) o7
      clear hA o0 o7 o8 o9
      have c0 : W.cell? ⟨g7, 0, none⟩ = some u := (show Blk W g7 22 #[u] from (S.ok (blkR g7 22 #[u]) (hR 12 (List.mem_singleton.2 rfl) _ (List.mem_singleton.2 rfl)))).cell 0
      go_step
      exact hK _ _ S rfl
    · intro vs gs A' W LF hA S hR hd hu K hK
      replace hK := hK default
      have e0 : A'.tmps[0]?.getD undef = .slice (some ad) n c := slot_out hA hap (Nat.lt_of_lt_of_eq (Nat.le_of_ble_eq_true rfl : 0 < 193) hsz.symm) (by kernel_rfl) o0
      clear hA o0 o7 o8 o9
      go_step
      exact hK _ _ S rfl
    · intro vs gs A' W LF hA S hR hd hu K hK
      replace hK := hK default
      have e8 : A'.tmps[8]?.getD undef = .int .i64 ((k : Nat) : Int) := slot_out hA hap (Nat.lt_of_lt_of_eq (Nat.le_of_ble_eq_true rfl : 8 < 193) hsz.symm) (by kernel_rfl) o8
      clear hA o0 o7 o8 o9
      go_step
      exact hK _ _ S rfl
    · intro vs gs A' W LF hA S hR hd hu K hK
      replace hK := hK default
      have f1 : vs 1 = .slice (some ad) n c := hd 1 (by kernel_rfl)
      have e79 : A'.tmps[79]?.getD undef = vs 1 := slot_in hA hap (Nat.lt_of_lt_of_eq (Nat.le_of_ble_eq_true rfl : 79 < 193) hsz.symm) (by kernel_rfl)
      rw [f1] at e79
      have f2 : vs 2 = .int .i64 ((k : Nat) : Int) := hd 2 (by kernel_rfl)
      have e80 : A'.tmps[80]?.getD undef = vs 2 := slot_in hA hap (Nat.lt_of_lt_of_eq (Nat.le_of_ble_eq_true rfl : 80 < 193) hsz.symm) (by kernel_rfl)
      rw [f2] at e80
      clear hA o0 o7 o8 o9
      have h0 : 0 ≤ (k : Int) := by omega
      have h1 : (k : Int) < (n : Int) := by omega
      go_step
      exact hK _ _ S rfl
    · intro vs gs A' W LF hA S hR hd hu K hK
      replace hK := hK default
      have f3 : vs 3 = .pointer (some (ad.add (k * 2))) := hd 3 (by kernel_rfl)
      have e81 : A'.tmps[81]?.getD undef = vs 3 := slot_in hA hap (Nat.lt_of_lt_of_eq (Nat.le_of_ble_eq_true rfl : 81 < 193) hsz.symm) (by kernel_rfl)
      rw [f3] at e81
      clear hA o0 o7 o8 o9
      go_step
      exact hK _ _ S rfl
    · intro vs gs A' W LF hA S hR hd hu K hK
      replace hK := hK default
      have f4 : vs 4 = .pointer (some ⟨(ad.add (k * 2)).block, (ad.add (k * 2)).off + 1, none⟩) := hd 4 (by kernel_rfl)
      have e82 : A'.tmps[82]?.getD undef = vs 4 := slot_in hA hap (Nat.lt_of_lt_of_eq (Nat.le_of_ble_eq_true rfl : 82 < 193) hsz.symm) (by kernel_rfl)
      rw [f4] at e82
      clear hA o0 o7 o8 o9
      have c0 : W.cell? ⟨(ad.add (k * 2)).block, (ad.add (k * 2)).off + 1, none⟩ = some (.slice (some ade) nb cb) := hcV W S.k 1 _ rfl
      go_step
      exact hK _ _ S rfl
    · intro vs gs A' W LF hA S hR hd hu K hK
      replace hK := hK default
      have e9 : A'.tmps[9]?.getD undef = .int .i64 ((jx : Nat) : Int) := slot_out hA hap (Nat.lt_of_lt_of_eq (Nat.le_of_ble_eq_true rfl : 9 < 193) hsz.symm) (by kernel_rfl) o9
      clear hA o0 o7 o8 o9
      go_step
      exact hK _ _ S rfl
    · intro vs gs A' W LF hA S hR hd hu K hK
      replace hK := hK default
      have f5 : vs 5 = .slice (some ade) nb cb := hd 5 (by kernel_rfl)
      have e83 : A'.tmps[83]?.getD undef = vs 5 := slot_in hA hap (Nat.lt_of_lt_of_eq (Nat.le_of_ble_eq_true rfl : 83 < 193) hsz.symm) (by kernel_rfl)
      rw [f5] at e83
      have f6 : vs 6 = .int .i64 ((jx : Nat) : Int) := hd 6 (by kernel_rfl)
      have e84 : A'.tmps[84]?.getD undef = vs 6 := slot_in hA hap (Nat.lt_of_lt_of_eq (Nat.le_of_ble_eq_true rfl : 84 < 193) hsz.symm) (by kernel_rfl)
      rw [f6] at e84
      clear hA o0 o7 o8 o9
      have h0 : 0 ≤ (jx : Int) := by omega
      have h1 : (jx : Int) < (nb : Int) := by omega
      go_step
      exact hK _ _ S rfl
    · intro vs gs A' W LF hA S hR hd hu K hK
      replace hK := hK default
      have f7 : vs 7 = .pointer (some (ade.add jx)) := hd 7 (by kernel_rfl)
      have e85 : A'.tmps[85]?.getD undef = vs 7 := slot_in hA hap (Nat.lt_of_lt_of_eq (Nat.le_of_ble_eq_true rfl : 85 < 193) hsz.symm) (by kernel_rfl)
      rw [f7] at e85
      clear hA o0 o7 o8 o9
      have c0 : W.cell? (ade.add jx) = some (.slice Ax nx cx) := hcx W S.k
      go_step
      exact hK _ _ S rfl
    · intro vs gs A' W LF hA S hR hd hu K hK
      replace hK := hK default
      have f8 : vs 8 = .slice Ax nx cx := hd 8 (by kernel_rfl)
      have e86 : A'.tmps[86]?.getD undef = vs 8 := slot_in hA hap (Nat.lt_of_lt_of_eq (Nat.le_of_ble_eq_true rfl : 86 < 193) hsz.symm) (by kernel_rfl)
      rw [f8] at e86
      clear hA o0 o7 o8 o9
      go_step
      exact hK _ _ (S.rownew (ow_new W 25 1 1 #[(.slice Ax nx cx : Value)] rfl (by decide)) ((Kp.refl [] W).alloc _) (fun g hg => Nat.le_of_eq (Option.some.inj hg))) trivial
    · intro vs gs A' W LF hA S hR hd hu K hK
      replace hK := hK default
      have f0 : vs 0 = u := hd 0 (by kernel_rfl)
      have e78 : A'.tmps[78]?.getD undef = vs 0 := slot_in hA hap (Nat.lt_of_lt_of_eq (Nat.le_of_ble_eq_true rfl : 78 < 193) hsz.symm) (by kernel_rfl)
      rw [f0] at e78
      have e87 : A'.tmps[87]?.getD undef = vs 9 := slot_in hA hap (Nat.lt_of_lt_of_eq (Nat.le_of_ble_eq_true rfl : 87 < 193) hsz.symm) (by kernel_rfl)
      clear hA o0 o7 o8 o9
      refine op_app (.tmp 78) (.tmp 87) 22 25 rfl Try.infoBytesZ Try.underlying22 rfl (by decide) u q xs (by simpa [Act.eval] using e78) S (vs 9) 1 [(.slice Ax nx cx : Value)] (by simpa [Act.eval] using e87) (rd_of_row (e := 25) S (List.mem_cons_of_mem _ (hR 9 (List.mem_singleton.2 rfl) _ (List.mem_singleton.2 rfl)))) (by intro x hx; simp at hx; rcases hx with rfl <;> rfl) (by unfold maxLen; omega) (by omega) (fun v' w' S' => hK v' w' S' trivial)
    · intro vs gs A' W LF hA S hR hd hu K hK
      replace hK := hK default
      have e7 : A'.tmps[7]?.getD undef = .pointer (some ⟨g7, 0, none⟩) := slot_out hA hap (Nat.lt_of_lt_of_eq (Nat.le_of_ble_eq_true rfl : 7 < 193) hsz.symm) (by kernel_rfl) o7
      have e88 : A'.tmps[88]?.getD undef = vs 10 := slot_in hA hap (Nat.lt_of_lt_of_eq (Nat.le_of_ble_eq_true rfl : 88 < 193) hsz.symm) (by kernel_rfl)
      clear hA o0 o7 o8 o9
      have S1 : Held w0 W (blkR g7 22 #[u] :: LF) := S
      obtain ⟨A1, c1, hq, -, -⟩ := ow_form (show Ow W 25 1 (vs 10) (q + 1) (xs ++ [(.slice Ax nx cx : Value)]) from S.ok (rowR 25 1 (vs 10) (q + 1) (xs ++ [(.slice Ax nx cx : Value)])) (List.mem_cons_of_mem _ (hR 10 (List.mem_singleton.2 rfl) _ (List.mem_singleton.2 rfl))))
      rw [hq] at e88
      have S2 := S1.set (l1 := []) 0 (vs 10)
      have c33 : W.cell? ⟨g7, 0, none⟩ = some u := (S1.at_ (l1 := [])).cell 0
      have f33 := (show Blk W g7 _ _ from S1.at_ (l1 := [])).frozen 0
      rw [hq] at S2
      have S3 : Held w0 (W.setCell ⟨g7, 0, none⟩ (.slice A1 (q + 1) c1)) (blkR g7 22 #[vs 10] :: LF) := by rw [hq]; exact S2
      go_step
      exact hK undef _ S3 trivial
  · intro vs gs W S hp
    have S : Held w0 W (rowR 25 1 (vs 9) 1 [(.slice Ax nx cx : Value)] :: rowR 25 1 (vs 10) (q + 1) (xs ++ [(.slice Ax nx cx : Value)]) :: blkR g7 22 #[vs 10] :: L) := by simpa only [List.flatMap_cons, List.flatMap_nil, List.append_nil, List.nil_append, List.cons_append, List.append_assoc] using S
    rw [show putAll vs (opsOf 16 Try.f7) 0 a = putD [(78, vs 0), (79, vs 1), (80, vs 2), (81, vs 3), (82, vs 4), (83, vs 5), (84, vs 6), (85, vs 7), (86, vs 8), (87, vs 9), (88, vs 10)] a from by kernel_rfl]
    exact hend _ vs gs W (same_putD _ a)  S
-- END ecc16
end
/- EntryEach: more of its regions. -/
section
open Go.RowKit Go.Shelf
-- REG ecc13Y
set_option maxRecDepth 100000 in
set_option maxHeartbeats 2000000 in
theorem ecc_r13Y {Q : Exit → Act → World → Prop} {a : Act} {w : World} (ad : Addr) (k n c jx : Nat) (hk : k < n) (f : Int) (Ab : Option Addr) (nb cb : Nat) (hj : jx < nb) (hc : ∀ V, Kp [] w V → ∀ j u, (#[.int .i64 f, .slice Ab nb cb] : Array Value).toList[j]? = some u → V.cell? ((ad.add (k * 2)).add j) = some u) (x : Nat) (HC0 : ∀ V, Kp [] w V → Calls Try.prog 17 #[.agg #[.int .i64 f, .slice Ab nb cb]] V fun e w' => e = .returned (.int .i64 ((x : Nat) : Int)) ∧ Kp [] V w') (b : Bool) (hb : (((x : Nat) : Int) == 0) = b) (hsz : a.tmps.size = 193) (o0 : Sl a 0 (.slice (some ad) n c)) (o8 : Sl a 8 (.int .i64 ((k : Nat) : Int))) (o9 : Sl a 9 (.int .i64 ((jx : Nat) : Int)))
    (hend : ∀ (a' : Act) (W : World), Same a a' [50, 51, 52, 53, 54, 55, 56, 57, 58, 59, 60, 61, 62, 63, 64, 65] → Kp [] w W → Sl a' 65 (.bool b) → Q .normal a' W) : (Code.region 13 (opsOf 13 Try.f7).toArray false).wp Try.prog Q a w := by
  have hap : apartB (opsOf 13 Try.f7) = true := by kernel_rfl
  refine wp_region_invS (l := (opsOf 13 Try.f7)) (fun i v W => match i with | 0 => v = .int .i64 ((jx : Nat) : Int) | 1 => v = .slice (some ad) n c | 2 => v = .int .i64 ((k : Nat) : Int) | 3 => v = .pointer (some (ad.add (k * 2))) | 4 => v = .pointer (some ⟨(ad.add (k * 2)).block, (ad.add (k * 2)).off + 1, none⟩) | 5 => v = .slice Ab nb cb | 6 => v = .int .i64 ((nb : Nat) : Int) | 7 => v = .bool true | 8 => v = .bool true | 9 => v = .slice (some ad) n c | 10 => v = .int .i64 ((k : Nat) : Int) | 11 => v = .pointer (some (ad.add (k * 2))) | 12 => v = .agg #[.int .i64 f, .slice Ab nb cb] | 13 => v = .int .i64 ((x : Nat) : Int) | 14 => v = .bool b | 15 => v = .bool b | _ => True) hap ?_ ?_ ?_
  · intro i v W W' h _
    iterate 16 (rcases i with _ | i; · exact h)
    exact h
  · refine ⟨?_, ?_, ?_, ?_, ?_, ?_, ?_, ?_, ?_, ?_, ?_, ?_, ?_, ?_, ?_, ?_, trivial⟩
    · intro vs A' W hA hW hd hu K hK
      refine wpOp_free _ rfl rfl ?_
      conv => arg 2; whnf
      have e9 : A'.tmps[9]?.getD undef = .int .i64 ((jx : Nat) : Int) := slot_out hA hap (Nat.lt_of_lt_of_eq (Nat.le_of_ble_eq_true rfl : 9 < 193) hsz.symm) (by kernel_rfl) o9
      clear hA hd hu o0 o8 o9
      go_step
      exact hK _ _ (Kp.refl _ _) rfl
    · intro vs A' W hA hW hd hu K hK
      refine wpOp_free _ rfl rfl ?_
      conv => arg 2; whnf
      have e0 : A'.tmps[0]?.getD undef = .slice (some ad) n c := slot_out hA hap (Nat.lt_of_lt_of_eq (Nat.le_of_ble_eq_true rfl : 0 < 193) hsz.symm) (by kernel_rfl) o0
      clear hA hd hu o0 o8 o9
      go_step
      exact hK _ _ (Kp.refl _ _) rfl
    · intro vs A' W hA hW hd hu K hK
      refine wpOp_free _ rfl rfl ?_
      conv => arg 2; whnf
      have e8 : A'.tmps[8]?.getD undef = .int .i64 ((k : Nat) : Int) := slot_out hA hap (Nat.lt_of_lt_of_eq (Nat.le_of_ble_eq_true rfl : 8 < 193) hsz.symm) (by kernel_rfl) o8
      clear hA hd hu o0 o8 o9
      go_step
      exact hK _ _ (Kp.refl _ _) rfl
    · intro vs A' W hA hW hd hu K hK
      refine wpOp_free _ rfl rfl ?_
      conv => arg 2; whnf
      have f1 : vs 1 = .slice (some ad) n c := hd 1 (by kernel_rfl)
      have e51 : A'.tmps[51]?.getD undef = vs 1 := slot_in hA hap (Nat.lt_of_lt_of_eq (Nat.le_of_ble_eq_true rfl : 51 < 193) hsz.symm) (by kernel_rfl)
      rw [f1] at e51
      have f2 : vs 2 = .int .i64 ((k : Nat) : Int) := hd 2 (by kernel_rfl)
      have e52 : A'.tmps[52]?.getD undef = vs 2 := slot_in hA hap (Nat.lt_of_lt_of_eq (Nat.le_of_ble_eq_true rfl : 52 < 193) hsz.symm) (by kernel_rfl)
      rw [f2] at e52
      clear hA hd hu o0 o8 o9
      have h0 : 0 ≤ (k : Int) := by omega
      have h1 : (k : Int) < (n : Int) := by omega
      go_step
      exact hK _ _ (Kp.refl _ _) rfl
    · intro vs A' W hA hW hd hu K hK
      refine wpOp_free _ rfl rfl ?_
      conv => arg 2; whnf
      have f3 : vs 3 = .pointer (some (ad.add (k * 2))) := hd 3 (by kernel_rfl)
      have e53 : A'.tmps[53]?.getD undef = vs 3 := slot_in hA hap (Nat.lt_of_lt_of_eq (Nat.le_of_ble_eq_true rfl : 53 < 193) hsz.symm) (by kernel_rfl)
      rw [f3] at e53
      clear hA hd hu o0 o8 o9
      go_step
      exact hK _ _ (Kp.refl _ _) rfl
    · intro vs A' W hA hW hd hu K hK
      refine wpOp_free _ rfl rfl ?_
      conv => arg 2; whnf
      have f4 : vs 4 = .pointer (some ⟨(ad.add (k * 2)).block, (ad.add (k * 2)).off + 1, none⟩) := hd 4 (by kernel_rfl)
      have e54 : A'.tmps[54]?.getD undef = vs 4 := slot_in hA hap (Nat.lt_of_lt_of_eq (Nat.le_of_ble_eq_true rfl : 54 < 193) hsz.symm) (by kernel_rfl)
      rw [f4] at e54
      clear hA hd hu o0 o8 o9
      have c0 : W.cell? ⟨(ad.add (k * 2)).block, (ad.add (k * 2)).off + 1, none⟩ = some (.slice Ab nb cb) := hc W hW 1 _ rfl
      go_step
      exact hK _ _ (Kp.refl _ _) rfl
    · intro vs A' W hA hW hd hu K hK
      refine wpOp_free _ rfl rfl ?_
      conv => arg 2; whnf
      have f5 : vs 5 = .slice Ab nb cb := hd 5 (by kernel_rfl)
      have e55 : A'.tmps[55]?.getD undef = vs 5 := slot_in hA hap (Nat.lt_of_lt_of_eq (Nat.le_of_ble_eq_true rfl : 55 < 193) hsz.symm) (by kernel_rfl)
      rw [f5] at e55
      clear hA hd hu o0 o8 o9
      go_step
      exact hK _ _ (Kp.refl _ _) rfl
    · intro vs A' W hA hW hd hu K hK
      refine wpOp_free _ rfl rfl ?_
      conv => arg 2; whnf
      have f0 : vs 0 = .int .i64 ((jx : Nat) : Int) := hd 0 (by kernel_rfl)
      have e50 : A'.tmps[50]?.getD undef = vs 0 := slot_in hA hap (Nat.lt_of_lt_of_eq (Nat.le_of_ble_eq_true rfl : 50 < 193) hsz.symm) (by kernel_rfl)
      rw [f0] at e50
      have f6 : vs 6 = .int .i64 ((nb : Nat) : Int) := hd 6 (by kernel_rfl)
      have e56 : A'.tmps[56]?.getD undef = vs 6 := slot_in hA hap (Nat.lt_of_lt_of_eq (Nat.le_of_ble_eq_true rfl : 56 < 193) hsz.symm) (by kernel_rfl)
      rw [f6] at e56
      clear hA hd hu o0 o8 o9
      go_step
      exact hK _ _ (Kp.refl _ _) (by first | rfl | exact congrArg Value.bool (decide_eq_true (by omega)))
    · intro vs A' W hA hW hd hu K hK
      refine wpOp_free _ rfl rfl ?_
      conv => arg 2; whnf
      have f7 : vs 7 = .bool true := hd 7 (by kernel_rfl)
      have e57 : A'.tmps[57]?.getD undef = vs 7 := slot_in hA hap (Nat.lt_of_lt_of_eq (Nat.le_of_ble_eq_true rfl : 57 < 193) hsz.symm) (by kernel_rfl)
      rw [f7] at e57
      clear hA hd hu o0 o8 o9
      go_step
      exact hK _ _ (Kp.refl _ _) rfl
    · intro vs A' W hA hW hd hu K hK
      have f8 : vs 8 = .bool true := hd 8 (by kernel_rfl)
      have e58 : A'.tmps[58]?.getD undef = vs 8 := slot_in hA hap (Nat.lt_of_lt_of_eq (Nat.le_of_ble_eq_true rfl : 58 < 193) hsz.symm) (by kernel_rfl)
      rw [f8] at e58
      refine wpOp_go _ rfl 8 58 true rfl rfl e58 ?_
      conv => arg 2; whnf
      have e0 : A'.tmps[0]?.getD undef = .slice (some ad) n c := slot_out hA hap (Nat.lt_of_lt_of_eq (Nat.le_of_ble_eq_true rfl : 0 < 193) hsz.symm) (by kernel_rfl) o0
      clear hA hd hu o0 o8 o9
      go_step
      exact hK _ _ (Kp.refl _ _) rfl
    · intro vs A' W hA hW hd hu K hK
      have f8 : vs 8 = .bool true := hd 8 (by kernel_rfl)
      have e58 : A'.tmps[58]?.getD undef = vs 8 := slot_in hA hap (Nat.lt_of_lt_of_eq (Nat.le_of_ble_eq_true rfl : 58 < 193) hsz.symm) (by kernel_rfl)
      rw [f8] at e58
      refine wpOp_go _ rfl 8 58 true rfl rfl e58 ?_
      conv => arg 2; whnf
      have e8 : A'.tmps[8]?.getD undef = .int .i64 ((k : Nat) : Int) := slot_out hA hap (Nat.lt_of_lt_of_eq (Nat.le_of_ble_eq_true rfl : 8 < 193) hsz.symm) (by kernel_rfl) o8
      clear hA hd hu o0 o8 o9
      go_step
      exact hK _ _ (Kp.refl _ _) rfl
    · intro vs A' W hA hW hd hu K hK
      have f8 : vs 8 = .bool true := hd 8 (by kernel_rfl)
      have e58 : A'.tmps[58]?.getD undef = vs 8 := slot_in hA hap (Nat.lt_of_lt_of_eq (Nat.le_of_ble_eq_true rfl : 58 < 193) hsz.symm) (by kernel_rfl)
      rw [f8] at e58
      refine wpOp_go _ rfl 8 58 true rfl rfl e58 ?_
      conv => arg 2; whnf
      have f9 : vs 9 = .slice (some ad) n c := hd 9 (by kernel_rfl)
      have e59 : A'.tmps[59]?.getD undef = vs 9 := slot_in hA hap (Nat.lt_of_lt_of_eq (Nat.le_of_ble_eq_true rfl : 59 < 193) hsz.symm) (by kernel_rfl)
      rw [f9] at e59
      have f10 : vs 10 = .int .i64 ((k : Nat) : Int) := hd 10 (by kernel_rfl)
      have e60 : A'.tmps[60]?.getD undef = vs 10 := slot_in hA hap (Nat.lt_of_lt_of_eq (Nat.le_of_ble_eq_true rfl : 60 < 193) hsz.symm) (by kernel_rfl)
      rw [f10] at e60
      clear hA hd hu o0 o8 o9
      have h0 : 0 ≤ (k : Int) := by omega
      have h1 : (k : Int) < (n : Int) := by omega
      go_step
      exact hK _ _ (Kp.refl _ _) rfl
    · intro vs A' W hA hW hd hu K hK
      have f8 : vs 8 = .bool true := hd 8 (by kernel_rfl)
      have e58 : A'.tmps[58]?.getD undef = vs 8 := slot_in hA hap (Nat.lt_of_lt_of_eq (Nat.le_of_ble_eq_true rfl : 58 < 193) hsz.symm) (by kernel_rfl)
      rw [f8] at e58
      refine wpOp_go _ rfl 8 58 true rfl rfl e58 ?_
      conv => arg 2; whnf
      have f11 : vs 11 = .pointer (some (ad.add (k * 2))) := hd 11 (by kernel_rfl)
      have e61 : A'.tmps[61]?.getD undef = vs 11 := slot_in hA hap (Nat.lt_of_lt_of_eq (Nat.le_of_ble_eq_true rfl : 61 < 193) hsz.symm) (by kernel_rfl)
      rw [f11] at e61
      clear hA hd hu o0 o8 o9
      refine op_runs (v := .agg #[.int .i64 f, .slice Ab nb cb]) (w' := W) (exec_load rfl (by simpa [Act.eval] using e61) (run_loadAt_agg W (ad.add (k * 2)) 24 (#[.int .i64 f, .slice Ab nb cb] : Array Value).toList _ (hc W hW) Try.underlying24 rfl (by rw [Array.length_toList]; exact Try.infoBat))) ?_
      exact hK _ _ (Kp.refl _ _) rfl
    · intro vs A' W hA hW hd hu K hK
      have f8 : vs 8 = .bool true := hd 8 (by kernel_rfl)
      have e58 : A'.tmps[58]?.getD undef = vs 8 := slot_in hA hap (Nat.lt_of_lt_of_eq (Nat.le_of_ble_eq_true rfl : 58 < 193) hsz.symm) (by kernel_rfl)
      rw [f8] at e58
      refine wpOp_go _ rfl 8 58 true rfl rfl e58 ?_
      conv => arg 2; whnf
      have f12 : vs 12 = .agg #[.int .i64 f, .slice Ab nb cb] := hd 12 (by kernel_rfl)
      have e62 : A'.tmps[62]?.getD undef = vs 12 := slot_in hA hap (Nat.lt_of_lt_of_eq (Nat.le_of_ble_eq_true rfl : 62 < 193) hsz.symm) (by kernel_rfl)
      rw [f12] at e62
      clear hA hd hu o0 o8 o9
      go_step
      refine (HC0 W hW).mono ?_
      rintro e w' ⟨rfl, k9⟩
      exact hK _ _ k9 rfl
    · intro vs A' W hA hW hd hu K hK
      have f8 : vs 8 = .bool true := hd 8 (by kernel_rfl)
      have e58 : A'.tmps[58]?.getD undef = vs 8 := slot_in hA hap (Nat.lt_of_lt_of_eq (Nat.le_of_ble_eq_true rfl : 58 < 193) hsz.symm) (by kernel_rfl)
      rw [f8] at e58
      refine wpOp_go _ rfl 8 58 true rfl rfl e58 ?_
      conv => arg 2; whnf
      have f13 : vs 13 = .int .i64 ((x : Nat) : Int) := hd 13 (by kernel_rfl)
      have e63 : A'.tmps[63]?.getD undef = vs 13 := slot_in hA hap (Nat.lt_of_lt_of_eq (Nat.le_of_ble_eq_true rfl : 63 < 193) hsz.symm) (by kernel_rfl)
      rw [f13] at e63
      clear hA hd hu o0 o8 o9
      go_step
      exact hK _ _ (Kp.refl _ _) (by first | rfl | exact congrArg Value.bool hb)
    · intro vs A' W hA hW hd hu K hK
      refine wpOp_free _ rfl rfl ?_
      conv => arg 2; whnf
      have f8 : vs 8 = .bool true := hd 8 (by kernel_rfl)
      have e58 : A'.tmps[58]?.getD undef = vs 8 := slot_in hA hap (Nat.lt_of_lt_of_eq (Nat.le_of_ble_eq_true rfl : 58 < 193) hsz.symm) (by kernel_rfl)
      rw [f8] at e58
      have f14 : vs 14 = .bool b := hd 14 (by kernel_rfl)
      have e64 : A'.tmps[64]?.getD undef = vs 14 := slot_in hA hap (Nat.lt_of_lt_of_eq (Nat.le_of_ble_eq_true rfl : 64 < 193) hsz.symm) (by kernel_rfl)
      rw [f14] at e64
      clear hA hd hu o0 o8 o9
      go_step
      exact hK _ _ (Kp.refl _ _) rfl
  · intro vs W hW hp
    rw [show putAll vs (opsOf 13 Try.f7) 0 a = putD [(50, vs 0), (51, vs 1), (52, vs 2), (53, vs 3), (54, vs 4), (55, vs 5), (56, vs 6), (57, vs 7), (58, vs 8), (59, vs 9), (60, vs 10), (61, vs 11), (62, vs 12), (63, vs 13), (64, vs 14), (65, vs 15)] a from by kernel_rfl]
    exact hend _ W (same_putD _ a) hW (sl_putD _ a 65 _ (by rw [show vs 15 = _ from hp 15 (Nat.le_of_ble_eq_true (by kernel_rfl))]; kernel_rfl))
-- END ecc13Y
-- REG ecc13N
set_option maxRecDepth 100000 in
set_option maxHeartbeats 2000000 in
theorem ecc_r13N {Q : Exit → Act → World → Prop} {a : Act} {w : World} (ad : Addr) (k n c jx : Nat) (hk : k < n) (f : Int) (Ab : Option Addr) (nb cb : Nat) (hj : ¬ jx < nb) (hc : ∀ V, Kp [] w V → ∀ j u, (#[.int .i64 f, .slice Ab nb cb] : Array Value).toList[j]? = some u → V.cell? ((ad.add (k * 2)).add j) = some u) (hsz : a.tmps.size = 193) (o0 : Sl a 0 (.slice (some ad) n c)) (o8 : Sl a 8 (.int .i64 ((k : Nat) : Int))) (o9 : Sl a 9 (.int .i64 ((jx : Nat) : Int)))
    (hend : ∀ (a' : Act) (W : World), Same a a' [50, 51, 52, 53, 54, 55, 56, 57, 58, 59, 60, 61, 62, 63, 64, 65] → Kp [] w W → Sl a' 65 (.bool false) → Q .normal a' W) : (Code.region 13 (opsOf 13 Try.f7).toArray false).wp Try.prog Q a w := by
  have hap : apartB (opsOf 13 Try.f7) = true := by kernel_rfl
  refine wp_region_invS (l := (opsOf 13 Try.f7)) (fun i v W => match i with | 0 => v = .int .i64 ((jx : Nat) : Int) | 1 => v = .slice (some ad) n c | 2 => v = .int .i64 ((k : Nat) : Int) | 3 => v = .pointer (some (ad.add (k * 2))) | 4 => v = .pointer (some ⟨(ad.add (k * 2)).block, (ad.add (k * 2)).off + 1, none⟩) | 5 => v = .slice Ab nb cb | 6 => v = .int .i64 ((nb : Nat) : Int) | 7 => v = .bool false | 8 => v = .bool false | 15 => v = .bool false | _ => True) hap ?_ ?_ ?_
  · intro i v W W' h _
    iterate 16 (rcases i with _ | i; · exact h)
    exact h
  · refine ⟨?_, ?_, ?_, ?_, ?_, ?_, ?_, ?_, ?_, ?_, ?_, ?_, ?_, ?_, ?_, ?_, trivial⟩
    · intro vs A' W hA hW hd hu K hK
      refine wpOp_free _ rfl rfl ?_
      conv => arg 2; whnf
      have e9 : A'.tmps[9]?.getD undef = .int .i64 ((jx : Nat) : Int) := slot_out hA hap (Nat.lt_of_lt_of_eq (Nat.le_of_ble_eq_true rfl : 9 < 193) hsz.symm) (by kernel_rfl) o9
      clear hA hd hu o0 o8 o9
      go_step
      exact hK _ _ (Kp.refl _ _) rfl
    · intro vs A' W hA hW hd hu K hK
      refine wpOp_free _ rfl rfl ?_
      conv => arg 2; whnf
      have e0 : A'.tmps[0]?.getD undef = .slice (some ad) n c := slot_out hA hap (Nat.lt_of_lt_of_eq (Nat.le_of_ble_eq_true rfl : 0 < 193) hsz.symm) (by kernel_rfl) o0
      clear hA hd hu o0 o8 o9
      go_step
      exact hK _ _ (Kp.refl _ _) rfl
    · intro vs A' W hA hW hd hu K hK
      refine wpOp_free _ rfl rfl ?_
      conv => arg 2; whnf
      have e8 : A'.tmps[8]?.getD undef = .int .i64 ((k : Nat) : Int) := slot_out hA hap (Nat.lt_of_lt_of_eq (Nat.le_of_ble_eq_true rfl : 8 < 193) hsz.symm) (by kernel_rfl) o8
      clear hA hd hu o0 o8 o9
      go_step
      exact hK _ _ (Kp.refl _ _) rfl
    · intro vs A' W hA hW hd hu K hK
      refine wpOp_free _ rfl rfl ?_
      conv => arg 2; whnf
      have f1 : vs 1 = .slice (some ad) n c := hd 1 (by kernel_rfl)
      have e51 : A'.tmps[51]?.getD undef = vs 1 := slot_in hA hap (Nat.lt_of_lt_of_eq (Nat.le_of_ble_eq_true rfl : 51 < 193) hsz.symm) (by kernel_rfl)
      rw [f1] at e51
      have f2 : vs 2 = .int .i64 ((k : Nat) : Int) := hd 2 (by kernel_rfl)
      have e52 : A'.tmps[52]?.getD undef = vs 2 := slot_in hA hap (Nat.lt_of_lt_of_eq (Nat.le_of_ble_eq_true rfl : 52 < 193) hsz.symm) (by kernel_rfl)
      rw [f2] at e52
      clear hA hd hu o0 o8 o9
      have h0 : 0 ≤ (k : Int) := by omega
      have h1 : (k : Int) < (n : Int) := by omega
      go_step
      exact hK _ _ (Kp.refl _ _) rfl
    · intro vs A' W hA hW hd hu K hK
      refine wpOp_free _ rfl rfl ?_
      conv => arg 2; whnf
      have f3 : vs 3 = .pointer (some (ad.add (k * 2))) := hd 3 (by kernel_rfl)
      have e53 : A'.tmps[53]?.getD undef = vs 3 := slot_in hA hap (Nat.lt_of_lt_of_eq (Nat.le_of_ble_eq_true rfl : 53 < 193) hsz.symm) (by kernel_rfl)
      rw [f3] at e53
      clear hA hd hu o0 o8 o9
      go_step
      exact hK _ _ (Kp.refl _ _) rfl
    · intro vs A' W hA hW hd hu K hK
      refine wpOp_free _ rfl rfl ?_
      conv => arg 2; whnf
      have f4 : vs 4 = .pointer (some ⟨(ad.add (k * 2)).block, (ad.add (k * 2)).off + 1, none⟩) := hd 4 (by kernel_rfl)
      have e54 : A'.tmps[54]?.getD undef = vs 4 := slot_in hA hap (Nat.lt_of_lt_of_eq (Nat.le_of_ble_eq_true rfl : 54 < 193) hsz.symm) (by kernel_rfl)
      rw [f4] at e54
      clear hA hd hu o0 o8 o9
      have c0 : W.cell? ⟨(ad.add (k * 2)).block, (ad.add (k * 2)).off + 1, none⟩ = some (.slice Ab nb cb) := hc W hW 1 _ rfl
      go_step
      exact hK _ _ (Kp.refl _ _) rfl
    · intro vs A' W hA hW hd hu K hK
      refine wpOp_free _ rfl rfl ?_
      conv => arg 2; whnf
      have f5 : vs 5 = .slice Ab nb cb := hd 5 (by kernel_rfl)
      have e55 : A'.tmps[55]?.getD undef = vs 5 := slot_in hA hap (Nat.lt_of_lt_of_eq (Nat.le_of_ble_eq_true rfl : 55 < 193) hsz.symm) (by kernel_rfl)
      rw [f5] at e55
      clear hA hd hu o0 o8 o9
      go_step
      exact hK _ _ (Kp.refl _ _) rfl
    · intro vs A' W hA hW hd hu K hK
      refine wpOp_free _ rfl rfl ?_
      conv => arg 2; whnf
      have f0 : vs 0 = .int .i64 ((jx : Nat) : Int) := hd 0 (by kernel_rfl)
      have e50 : A'.tmps[50]?.getD undef = vs 0 := slot_in hA hap (Nat.lt_of_lt_of_eq (Nat.le_of_ble_eq_true rfl : 50 < 193) hsz.symm) (by kernel_rfl)
      rw [f0] at e50
      have f6 : vs 6 = .int .i64 ((nb : Nat) : Int) := hd 6 (by kernel_rfl)
      have e56 : A'.tmps[56]?.getD undef = vs 6 := slot_in hA hap (Nat.lt_of_lt_of_eq (Nat.le_of_ble_eq_true rfl : 56 < 193) hsz.symm) (by kernel_rfl)
      rw [f6] at e56
      clear hA hd hu o0 o8 o9
      go_step
      exact hK _ _ (Kp.refl _ _) (by first | rfl | exact congrArg Value.bool (decide_eq_false (by omega)))
    · intro vs A' W hA hW hd hu K hK
      refine wpOp_free _ rfl rfl ?_
      conv => arg 2; whnf
      have f7 : vs 7 = .bool false := hd 7 (by kernel_rfl)
      have e57 : A'.tmps[57]?.getD undef = vs 7 := slot_in hA hap (Nat.lt_of_lt_of_eq (Nat.le_of_ble_eq_true rfl : 57 < 193) hsz.symm) (by kernel_rfl)
      rw [f7] at e57
      clear hA hd hu o0 o8 o9
      go_step
      exact hK _ _ (Kp.refl _ _) rfl
    · intro vs A' W hA hW hd hu K hK
      have f8 : vs 8 = .bool false := hd 8 (by kernel_rfl)
      have e58 : A'.tmps[58]?.getD undef = vs 8 := slot_in hA hap (Nat.lt_of_lt_of_eq (Nat.le_of_ble_eq_true rfl : 58 < 193) hsz.symm) (by kernel_rfl)
      rw [f8] at e58
      refine wpOp_skip _ rfl 8 58 true rfl rfl e58 ?_
      exact hK _ _ (Kp.refl _ _) trivial
    · intro vs A' W hA hW hd hu K hK
      have f8 : vs 8 = .bool false := hd 8 (by kernel_rfl)
      have e58 : A'.tmps[58]?.getD undef = vs 8 := slot_in hA hap (Nat.lt_of_lt_of_eq (Nat.le_of_ble_eq_true rfl : 58 < 193) hsz.symm) (by kernel_rfl)
      rw [f8] at e58
      refine wpOp_skip _ rfl 8 58 true rfl rfl e58 ?_
      exact hK _ _ (Kp.refl _ _) trivial
    · intro vs A' W hA hW hd hu K hK
      have f8 : vs 8 = .bool false := hd 8 (by kernel_rfl)
      have e58 : A'.tmps[58]?.getD undef = vs 8 := slot_in hA hap (Nat.lt_of_lt_of_eq (Nat.le_of_ble_eq_true rfl : 58 < 193) hsz.symm) (by kernel_rfl)
      rw [f8] at e58
      refine wpOp_skip _ rfl 8 58 true rfl rfl e58 ?_
      exact hK _ _ (Kp.refl _ _) trivial
    · intro vs A' W hA hW hd hu K hK
      have f8 : vs 8 = .bool false := hd 8 (by kernel_rfl)
      have e58 : A'.tmps[58]?.getD undef = vs 8 := slot_in hA hap (Nat.lt_of_lt_of_eq (Nat.le_of_ble_eq_true rfl : 58 < 193) hsz.symm) (by kernel_rfl)
      rw [f8] at e58
      refine wpOp_skip _ rfl 8 58 true rfl rfl e58 ?_
      exact hK _ _ (Kp.refl _ _) trivial
    · intro vs A' W hA hW hd hu K hK
      have f8 : vs 8 = .bool false := hd 8 (by kernel_rfl)
      have e58 : A'.tmps[58]?.getD undef = vs 8 := slot_in hA hap (Nat.lt_of_lt_of_eq (Nat.le_of_ble_eq_true rfl : 58 < 193) hsz.symm) (by kernel_rfl)
      rw [f8] at e58
      refine wpOp_skip _ rfl 8 58 true rfl rfl e58 ?_
      exact hK _ _ (Kp.refl _ _) trivial
    · intro vs A' W hA hW hd hu K hK
      have f8 : vs 8 = .bool false := hd 8 (by kernel_rfl)
      have e58 : A'.tmps[58]?.getD undef = vs 8 := slot_in hA hap (Nat.lt_of_lt_of_eq (Nat.le_of_ble_eq_true rfl : 58 < 193) hsz.symm) (by kernel_rfl)
      rw [f8] at e58
      refine wpOp_skip _ rfl 8 58 true rfl rfl e58 ?_
      exact hK _ _ (Kp.refl _ _) trivial
    · intro vs A' W hA hW hd hu K hK
      refine wpOp_free _ rfl rfl ?_
      conv => arg 2; whnf
      have f8 : vs 8 = .bool false := hd 8 (by kernel_rfl)
      have e58 : A'.tmps[58]?.getD undef = vs 8 := slot_in hA hap (Nat.lt_of_lt_of_eq (Nat.le_of_ble_eq_true rfl : 58 < 193) hsz.symm) (by kernel_rfl)
      rw [f8] at e58
      have e64 : A'.tmps[64]?.getD undef = vs 14 := slot_in hA hap (Nat.lt_of_lt_of_eq (Nat.le_of_ble_eq_true rfl : 64 < 193) hsz.symm) (by kernel_rfl)
      clear hA hd hu o0 o8 o9
      go_step
      exact hK _ _ (Kp.refl _ _) rfl
  · intro vs W hW hp
    rw [show putAll vs (opsOf 13 Try.f7) 0 a = putD [(50, vs 0), (51, vs 1), (52, vs 2), (53, vs 3), (54, vs 4), (55, vs 5), (56, vs 6), (57, vs 7), (58, vs 8), (59, vs 9), (60, vs 10), (61, vs 11), (62, vs 12), (63, vs 13), (64, vs 14), (65, vs 15)] a from by kernel_rfl]
    exact hend _ W (same_putD _ a) hW (sl_putD _ a 65 _ (by rw [show vs 15 = _ from hp 15 (Nat.le_of_ble_eq_true (by kernel_rfl))]; kernel_rfl))
-- END ecc13N
-- REG ecc17
set_option maxRecDepth 100000 in
set_option maxHeartbeats 2000000 in
theorem ecc_r17 {Q : Exit → Act → World → Prop} {a : Act} {w : World} (u : Value) (R : Nat → World → Prop) (HC0 : Calls Try.prog 31 #[u] w fun e w' => ∃ gA, e = .returned (.func (.func 58) #[] #[.pointer (some ⟨gA, 0, none⟩)]) ∧ R gA w') (hsz : a.tmps.size = 193) (o5 : Sl a 5 (u))
    (hend : ∀ (a' : Act) (W : World), Same a a' [89, 90, 10] → (∃ gA, Sl a' 10 (.func (.func 58) #[] #[.pointer (some ⟨gA, 0, none⟩)]) ∧ R gA W) → Q .normal a' W) : (Code.region 17 (opsOf 17 Try.f7).toArray false).wp Try.prog Q a w := by
  refine wp_region_lit (l := (opsOf 17 Try.f7)) ?_
  conv => arg 4; whnf
  unfold Sl at o5
  have HC := Lib.hid HC0
  clear HC0
  go_wp2_with fail
  refine HC.out.mono ?_
  rintro e w1 ⟨gA, rfl, hR⟩
  have hR := Lib.hid hR
  go_wp2_with fail
  try simp only [Act.put]
  exact hend _ _ (by repeat (first | (with_reducible refine same_set (by decide) ?_) | (with_reducible exact same_nil))) (⟨gA, (by unfold Sl; simp [hsz]), hR.out⟩)
-- END ecc17
-- REG ecc18
set_option maxRecDepth 100000 in
set_option maxHeartbeats 2000000 in
theorem ecc_r18 {Q : Exit → Act → World → Prop} {a : Act} {w : World} (gA : Nat) (hsz : a.tmps.size = 193) (o10 : Sl a 10 (.func (.func 58) #[] #[.pointer (some ⟨gA, 0, none⟩)]))
    (hend : ∀ (a' : Act), Same a a' [91, 92] → Sl a' 92 (.bool false) → Q .normal a' (w)) : (Code.region 18 (opsOf 18 Try.f7).toArray false).wp Try.prog Q a w := by
  refine wp_region_lit (l := (opsOf 18 Try.f7)) ?_
  conv => arg 4; whnf
  unfold Sl at o10
  have hfn := run_eql_func_nil (P := Try.prog) w 59 Try.underlying59 rfl (.func 58) #[] #[.pointer (some ⟨gA, 0, none⟩)]
  go_wp2_with fail
  try simp only [Act.put]
  exact hend _ (by repeat (first | (with_reducible refine same_set (by decide) ?_) | (with_reducible exact same_nil))) (by unfold Sl; first | (simp [hsz]; done) | (simp [hsz]; omega))
-- END ecc18
end
/- EntryEach: the regions of its second loop. -/
section
open Go.RowKit Go.Shelf
theorem Held.setB {w0 w w' : World} {l1 l2 : List Res} {g : Nat} {t : TypeId} {cur xs : Array Value} (h : Held w0 w (l1 ++ blkR g t cur :: l2)) (hb : Blk w' g t xs) (k : Kp [g] w w') : Held w0 w' (l1 ++ blkR g t xs :: l2) :=
  h.turnAt (blkR g t xs) k hb (fun _ h => .inl h)
theorem Held.rowB {w0 w : World} {L : List Res} {e : TypeId} {s n g c : Nat} {xs : List Value} (h : Held w0 w (rowR e s (.slice (some ⟨g, 0, none⟩) n c) n xs :: L)) :
    ∃ cur : Array Value, Held w0 w (blkR g e cur :: L) ∧ cur.size = c * s ∧ cur.toList.take (n * s) = xs ∧ n ≤ c ∧ c ≤ maxLen := by
  have h1 : Ow w e s (.slice (some ⟨g, 0, none⟩) n c) n xs := h.at_ (l1 := [])
  rcases h1.2 with ⟨hv, -⟩ | ⟨g', cap, cur, he, -, hg, h2, h3, h4, h5⟩
  · cases hv
  · cases he
    exact ⟨cur, h.turn (blkR g e cur) (Kp.refl _ _) hg (fun b hb => .inl (by simpa [rowR, blkR, Value.ownBlock] using hb)), h4, h5, h2, h3⟩
theorem Try.built_m5 : Try.prog.built 24 [(0, .int .i64 (-5))] = some #[.int .i64 (-5), .slice none 0 0] := by kernel_rfl
-- REG ecc23
set_option maxRecDepth 100000 in
set_option maxHeartbeats 2000000 in
theorem ecc_r23 {Q : Exit → Act → World → Prop} {a : Act} {w : World} (ad : Addr) (k n c : Nat) (hk : k < n) (f : Int) (Ab : Option Addr) (nb cb : Nat) (hc : ∀ V, Kp [] w.drew V → ∀ j u, (#[.int .i64 f, .slice Ab nb cb] : Array Value).toList[j]? = some u → V.cell? ((ad.add (k * 2)).add j) = some u) (gm cm : Nat) (cur : Array Value) (gx cx : Nat) (hcu : cur[k * 2 + 1]? = some (.slice (some ⟨gx, 0, none⟩) nb cx)) (hbm : Blk w.drew gm 24 cur) (HC0 : ∀ V, Kp [] w.drew V → Calls Try.prog 18 #[.slice (some ⟨gx, 0, none⟩) nb cx, .slice Ab nb cb] V fun e w' => e = .returned (.bool true) ∧ Kp [] V w') (hsz : a.tmps.size = 193) (o0 : Sl a 0 (.slice (some ad) n c)) (o5 : Sl a 5 (.slice (some ⟨gm, 0, none⟩) n cm)) (o11 : Sl a 11 (.int .i64 ((k : Nat) : Int)))
    (hend : ∀ (a' : Act) (W : World), Same a a' [99, 100, 101, 102, 103, 104, 105, 106, 107, 108, 109, 110] → Kp [] w.drew W → Sl a' 110 (.bool false) → Q .normal a' W) : (Code.region 23 (opsOf 23 Try.f7).toArray true).wp Try.prog Q a w := by
  have hap : apartB (opsOf 23 Try.f7) = true := by kernel_rfl
  refine wp_region_inv (l := (opsOf 23 Try.f7)) (fun i v W => match i with | 0 => v = .slice (some ⟨gm, 0, none⟩) n cm | 1 => v = .int .i64 ((k : Nat) : Int) | 2 => v = .pointer (some ⟨gm, k * 2, none⟩) | 3 => v = .pointer (some ⟨gm, k * 2 + 1, none⟩) | 4 => v = .slice (some ⟨gx, 0, none⟩) nb cx | 5 => v = .slice (some ad) n c | 6 => v = .int .i64 ((k : Nat) : Int) | 7 => v = .pointer (some (ad.add (k * 2))) | 8 => v = .pointer (some ⟨(ad.add (k * 2)).block, (ad.add (k * 2)).off + 1, none⟩) | 9 => v = .slice Ab nb cb | 10 => v = .bool true | 11 => v = .bool false | _ => True) (by kernel_rfl) hap (by kernel_rfl) ?_ ?_ ?_
  · intro i v W W' h _
    iterate 12 (rcases i with _ | i; · exact h)
    exact h
  · refine ⟨?_, ?_, ?_, ?_, ?_, ?_, ?_, ?_, ?_, ?_, ?_, ?_, trivial⟩
    · intro vs A' W hA hW hd K hK
      have e5 : A'.tmps[5]?.getD undef = .slice (some ⟨gm, 0, none⟩) n cm := slot_out hA hap (Nat.lt_of_lt_of_eq (Nat.le_of_ble_eq_true rfl : 5 < 193) hsz.symm) (by kernel_rfl) o5
      clear hA hd o0 o5 o11
      go_step
      exact hK _ _ (Kp.refl _ _) rfl
    · intro vs A' W hA hW hd K hK
      have e11 : A'.tmps[11]?.getD undef = .int .i64 ((k : Nat) : Int) := slot_out hA hap (Nat.lt_of_lt_of_eq (Nat.le_of_ble_eq_true rfl : 11 < 193) hsz.symm) (by kernel_rfl) o11
      clear hA hd o0 o5 o11
      go_step
      exact hK _ _ (Kp.refl _ _) rfl
    · intro vs A' W hA hW hd K hK
      have f0 : vs 0 = .slice (some ⟨gm, 0, none⟩) n cm := hd 0 (by kernel_rfl)
      have e99 : A'.tmps[99]?.getD undef = vs 0 := slot_in hA hap (Nat.lt_of_lt_of_eq (Nat.le_of_ble_eq_true rfl : 99 < 193) hsz.symm) (by kernel_rfl)
      rw [f0] at e99
      have f1 : vs 1 = .int .i64 ((k : Nat) : Int) := hd 1 (by kernel_rfl)
      have e100 : A'.tmps[100]?.getD undef = vs 1 := slot_in hA hap (Nat.lt_of_lt_of_eq (Nat.le_of_ble_eq_true rfl : 100 < 193) hsz.symm) (by kernel_rfl)
      rw [f1] at e100
      clear hA hd o0 o5 o11
      have h0 : 0 ≤ (k : Int) := by omega
      have h1 : (k : Int) < (n : Int) := by omega
      go_step
      exact hK _ _ (Kp.refl _ _) rfl
    · intro vs A' W hA hW hd K hK
      have f2 : vs 2 = .pointer (some ⟨gm, k * 2, none⟩) := hd 2 (by kernel_rfl)
      have e101 : A'.tmps[101]?.getD undef = vs 2 := slot_in hA hap (Nat.lt_of_lt_of_eq (Nat.le_of_ble_eq_true rfl : 101 < 193) hsz.symm) (by kernel_rfl)
      rw [f2] at e101
      clear hA hd o0 o5 o11
      go_step
      exact hK _ _ (Kp.refl _ _) rfl
    · intro vs A' W hA hW hd K hK
      have f3 : vs 3 = .pointer (some ⟨gm, k * 2 + 1, none⟩) := hd 3 (by kernel_rfl)
      have e102 : A'.tmps[102]?.getD undef = vs 3 := slot_in hA hap (Nat.lt_of_lt_of_eq (Nat.le_of_ble_eq_true rfl : 102 < 193) hsz.symm) (by kernel_rfl)
      rw [f3] at e102
      clear hA hd o0 o5 o11
      have c0 : W.cell? ⟨gm, k * 2 + 1, none⟩ = some (.slice (some ⟨gx, 0, none⟩) nb cx) := by rw [(hbm.kp hW (by simp)).cell]; exact hcu
      go_step
      exact hK _ _ (Kp.refl _ _) rfl
    · intro vs A' W hA hW hd K hK
      have e0 : A'.tmps[0]?.getD undef = .slice (some ad) n c := slot_out hA hap (Nat.lt_of_lt_of_eq (Nat.le_of_ble_eq_true rfl : 0 < 193) hsz.symm) (by kernel_rfl) o0
      clear hA hd o0 o5 o11
      go_step
      exact hK _ _ (Kp.refl _ _) rfl
    · intro vs A' W hA hW hd K hK
      have e11 : A'.tmps[11]?.getD undef = .int .i64 ((k : Nat) : Int) := slot_out hA hap (Nat.lt_of_lt_of_eq (Nat.le_of_ble_eq_true rfl : 11 < 193) hsz.symm) (by kernel_rfl) o11
      clear hA hd o0 o5 o11
      go_step
      exact hK _ _ (Kp.refl _ _) rfl
    · intro vs A' W hA hW hd K hK
      have f5 : vs 5 = .slice (some ad) n c := hd 5 (by kernel_rfl)
      have e104 : A'.tmps[104]?.getD undef = vs 5 := slot_in hA hap (Nat.lt_of_lt_of_eq (Nat.le_of_ble_eq_true rfl : 104 < 193) hsz.symm) (by kernel_rfl)
      rw [f5] at e104
      have f6 : vs 6 = .int .i64 ((k : Nat) : Int) := hd 6 (by kernel_rfl)
      have e105 : A'.tmps[105]?.getD undef = vs 6 := slot_in hA hap (Nat.lt_of_lt_of_eq (Nat.le_of_ble_eq_true rfl : 105 < 193) hsz.symm) (by kernel_rfl)
      rw [f6] at e105
      clear hA hd o0 o5 o11
      have h0 : 0 ≤ (k : Int) := by omega
      have h1 : (k : Int) < (n : Int) := by omega
      go_step
      exact hK _ _ (Kp.refl _ _) rfl
    · intro vs A' W hA hW hd K hK
      have f7 : vs 7 = .pointer (some (ad.add (k * 2))) := hd 7 (by kernel_rfl)
      have e106 : A'.tmps[106]?.getD undef = vs 7 := slot_in hA hap (Nat.lt_of_lt_of_eq (Nat.le_of_ble_eq_true rfl : 106 < 193) hsz.symm) (by kernel_rfl)
      rw [f7] at e106
      clear hA hd o0 o5 o11
      go_step
      exact hK _ _ (Kp.refl _ _) rfl
    · intro vs A' W hA hW hd K hK
      have f8 : vs 8 = .pointer (some ⟨(ad.add (k * 2)).block, (ad.add (k * 2)).off + 1, none⟩) := hd 8 (by kernel_rfl)
      have e107 : A'.tmps[107]?.getD undef = vs 8 := slot_in hA hap (Nat.lt_of_lt_of_eq (Nat.le_of_ble_eq_true rfl : 107 < 193) hsz.symm) (by kernel_rfl)
      rw [f8] at e107
      clear hA hd o0 o5 o11
      have c0 : W.cell? ⟨(ad.add (k * 2)).block, (ad.add (k * 2)).off + 1, none⟩ = some (.slice Ab nb cb) := hc W hW 1 _ rfl
      go_step
      exact hK _ _ (Kp.refl _ _) rfl
    · intro vs A' W hA hW hd K hK
      have f4 : vs 4 = .slice (some ⟨gx, 0, none⟩) nb cx := hd 4 (by kernel_rfl)
      have e103 : A'.tmps[103]?.getD undef = vs 4 := slot_in hA hap (Nat.lt_of_lt_of_eq (Nat.le_of_ble_eq_true rfl : 103 < 193) hsz.symm) (by kernel_rfl)
      rw [f4] at e103
      have f9 : vs 9 = .slice Ab nb cb := hd 9 (by kernel_rfl)
      have e108 : A'.tmps[108]?.getD undef = vs 9 := slot_in hA hap (Nat.lt_of_lt_of_eq (Nat.le_of_ble_eq_true rfl : 108 < 193) hsz.symm) (by kernel_rfl)
      rw [f9] at e108
      clear hA hd o0 o5 o11
      go_step
      refine (HC0 W hW).mono ?_
      rintro e w' ⟨rfl, k9⟩
      exact hK _ _ k9 rfl
    · intro vs A' W hA hW hd K hK
      have f10 : vs 10 = .bool true := hd 10 (by kernel_rfl)
      have e109 : A'.tmps[109]?.getD undef = vs 10 := slot_in hA hap (Nat.lt_of_lt_of_eq (Nat.le_of_ble_eq_true rfl : 109 < 193) hsz.symm) (by kernel_rfl)
      rw [f10] at e109
      clear hA hd o0 o5 o11
      go_step
      exact hK _ _ (Kp.refl _ _) rfl
  · intro vs W hW hp
    rw [show putAll vs (opsOf 23 Try.f7) 0 a = putD [(99, vs 0), (100, vs 1), (101, vs 2), (102, vs 3), (103, vs 4), (104, vs 5), (105, vs 6), (106, vs 7), (107, vs 8), (108, vs 9), (109, vs 10), (110, vs 11)] a from by kernel_rfl]
    exact hend _ W (same_putD _ a) hW (sl_putD _ a 110 _ (by rw [show vs 11 = _ from hp 11 (Nat.le_of_ble_eq_true (by kernel_rfl))]; kernel_rfl))
-- END ecc23
-- REG ecc25
set_option maxRecDepth 100000 in
set_option maxHeartbeats 2000000 in
theorem ecc_r25 {Q : Exit → Act → World → Prop} {a : Act} {w : World} (k n : Nat) (hk : k < n) (nb : Nat) (gm cm : Nat) (cur : Array Value) (gx cx : Nat) (hcu : cur[k * 2 + 1]? = some (.slice (some ⟨gx, 0, none⟩) nb cx)) (hbm : Blk w gm 24 cur) (R : World → Prop) (HC0 : Calls Try.prog 24 #[.slice (some ⟨gx, 0, none⟩) nb cx] w fun e w' => e = .returned (.tuple #[]) ∧ R w') (hsz : a.tmps.size = 193) (o5 : Sl a 5 (.slice (some ⟨gm, 0, none⟩) n cm)) (o11 : Sl a 11 (.int .i64 ((k : Nat) : Int)))
    (hend : ∀ (a' : Act) (W : World), Same a a' [111, 112, 113, 114, 115, 116] → (R W) → Q .normal a' W) : (Code.region 25 (opsOf 25 Try.f7).toArray false).wp Try.prog Q a w := by
  refine wp_region_lit (l := (opsOf 25 Try.f7)) ?_
  conv => arg 4; whnf
  unfold Sl at o5 o11
  have h0 : 0 ≤ (k : Int) := by omega
  have h1 : (k : Int) < (n : Int) := by omega
  have HC := Lib.hid HC0
  clear HC0
  have c0 : w.cell? ⟨gm, k * 2 + 1, none⟩ = some (.slice (some ⟨gx, 0, none⟩) nb cx) := by rw [hbm.cell]; exact hcu
  go_wp2_with fail
  refine HC.out.mono ?_
  rintro e w1 ⟨rfl, hR⟩
  have hR := Lib.hid hR
  go_wp2_with fail
  try simp only [Act.put]
  exact hend _ _ (by repeat (first | (with_reducible refine same_set (by decide) ?_) | (with_reducible exact same_nil))) (hR.out)
-- END ecc25
-- REG ecc26
set_option maxRecDepth 100000 in
set_option maxHeartbeats 2000000 in
theorem ecc_r26 {Q : Exit → Act → World → Prop} {a : Act} {w : World} (w0 : World) (k n : Nat) (hk : k < n) (gm cm : Nat) (cur : Array Value) (hcs : k * 2 + 2 ≤ cur.size) (L : List Res) (S : Held w0 w (blkR gm 24 cur :: L)) (hsz : a.tmps.size = 193) (o5 : Sl a 5 (.slice (some ⟨gm, 0, none⟩) n cm)) (o11 : Sl a 11 (.int .i64 ((k : Nat) : Int)))
    (hend : ∀ (a' : Act) (W : World), Same a a' [117, 118, 119, 120] → (∃ cur', cur'.size = cur.size ∧ (∀ j, k * 2 + 2 ≤ j → cur'[j]? = cur[j]?) ∧ Held w0 W (blkR gm 24 cur' :: L)) → Q .normal a' W) : (Code.region 26 (opsOf 26 Try.f7).toArray false).wp Try.prog Q a w := by
  refine wp_region_lit (l := (opsOf 26 Try.f7)) ?_
  conv => arg 4; whnf
  unfold Sl at o5 o11
  have h0 : 0 ≤ (k : Int) := by omega
  have h1 : (k : Int) < (n : Int) := by omega
  have S := Lib.hid S
  have HB := Lib.hid Try.built_m5
  go_wp2_with (first | (refine wpList_buildC rfl 24 _ rfl [(0, .int .i64 (-5))] (by simp [Act.eval, Act.put]) _ HB.out ?_) | (refine wpList_store_agg rfl 24 (.tmp 120) (.tmp 119) rfl gm (k * 2) (by simp [Act.eval, Act.put, hsz]) #[.int .i64 (-5), .slice none 0 0] (by simp [Act.eval, Act.put, hsz]) 24 cur (S.out.at_ (l1 := [])) (by exact Try.infoBat) (by simpa using hcs) (by intro u hu; simp at hu; rcases hu with rfl | rfl <;> rfl) ?_; intro w7 b7 k7; have S7 := Lib.hid (Held.setB (l1 := []) S.out b7 k7); clear b7 k7))
  try simp only [Act.put]
  exact hend _ _ (by repeat (first | (with_reducible refine same_set (by decide) ?_) | (with_reducible exact same_nil))) (⟨_, by simp [List.length_take]; omega, fun j hj => by rw [List.getElem?_toArray, List.append_assoc, List.getElem?_append_right (by simp; omega), List.getElem?_append_right (by simp; omega), List.getElem?_drop, Array.getElem?_toList]; congr 1; simp; omega, S7.out⟩)
-- END ecc26
end
/- Regions over abstract frames in a round of a range over a function. -/
section
section
variable {P : Program} {Q : Exit → Act → World → Prop}
theorem in_region_invS {rl n : Nat} {id : Nat} {a : Act} {w : World} {l : List Oper} (hp : plainB l = true) (PV : Nat → Value → World → Prop) (hap : apartB l = true)
    (hst : ∀ i v W W', PV i v W → Kp [] W W' → PV i v W')
    (hs : InvStepsS P (Qn Q) PV w (fun vs => putAll vs l 0 a) (at0 a l) l.toArray l 0)
    (hend : ∀ vs W, Kp [] w W → (∀ i, i < l.length → PV i (vs i) W) → Q .normal (putAll vs l 0 a) W) : (Code.region id l.toArray false).wpIn (Fence.wide.inRound rl) n P Q a w := by
  refine in_region hp ?_
  have h := seq_inv (P := P) (Q := Qn Q) (a0 := a) (l := l) (l2 := []) (ops := l.toArray) (fun i o h => by simpa using h) hst hap (fun vs W k hv => ⟨rfl, hend vs W k hv⟩) l 0 (at0 a l) w rfl hs (Kp.refl _ _) (fun j hj => by omega) (fun _ _ => rfl)
  rwa [List.append_nil, putAll_at a l 0 (at0 a l) (fun j o ho => by simp [at0, ho])] at h
end
end
end Go.Proofs.Ytdmdnphbheomoaa
