/- Several texts in one: CpE, CpF, CrcM1, CrcN, CrcO, CrcM2, CrcP, CrcQ, CrcR, CrcS, CrcT, InvU. -/
import Derived.IntWalk
import Derived.Test.YtgldgkdnnimglaaP3
set_option linter.unusedVariables false
set_option linter.unusedSimpArgs false
set_option maxRecDepth 100000
set_option maxHeartbeats 8000000
namespace Go.Proofs.Ytgldgkdnnimglaa
/- A Sums as one thing; Copy, nothing: regions. -/
section
open Go.RowKit Go.Shelf
/-- A Sums: its block, its row. -/
def sumsR (p : Nat) (v : Value) (bs : List UInt8) : Res where
  fp := p :: v.ownBlock.toList
  ok := fun w => Sm w p v bs
  keep := fun w w' S h hk hn => h.kp hk (hn p (by simp)) (fun g hg => hn g (by simp [hg]))
  lt := fun w h b hb => by
    rcases List.mem_cons.1 hb with rfl | hb
    · exact (blkR b 66 #[.int .i64 bs.length, v]).lt w h.1 b (by simp [blkR])
    · exact (rowR 23 1 v bs.length (smv bs)).lt w h.2 b hb
theorem Held.split {w0 w : World} {p : Nat} {v : Value} {bs : List UInt8} {L : List Res} (S : Held w0 w (sumsR p v bs :: L)) : Held w0 w (blkR p 66 #[.int .i64 bs.length, v] :: rowR 23 1 v bs.length (smv bs) :: L) := by
  have hs : Sm w p v bs := S.ok (sumsR p v bs) (by simp)
  have hap := List.pairwise_cons.1 S.apart
  refine ⟨S.k, fun r hr => ?_, fun r hr b hb => ?_, ?_⟩
  · rcases List.mem_cons.1 hr with rfl | hr
    · exact hs.1
    · rcases List.mem_cons.1 hr with rfl | hr
      · exact hs.2
      · exact S.ok r (by simp [hr])
  · rcases List.mem_cons.1 hr with rfl | hr
    · exact S.base (sumsR p v bs) (by simp) b (List.mem_cons.2 (.inl (by simpa [blkR] using hb)))
    · rcases List.mem_cons.1 hr with rfl | hr
      · exact S.base (sumsR p v bs) (by simp) b (List.mem_cons_of_mem _ hb)
      · exact S.base r (by simp [hr]) b hb
  · refine List.pairwise_cons.2 ⟨fun r hr b hb => ?_, List.pairwise_cons.2 ⟨fun r hr b hb => hap.1 r hr b (List.mem_cons_of_mem _ hb), hap.2⟩⟩
    have hbp : b = p := by simpa [blkR] using hb
    subst hbp
    rcases List.mem_cons.1 hr with rfl | hr
    · intro hm
      have : v.ownBlock = some b := by simpa [rowR] using hm
      exact hs.ne this
    · exact hap.1 r hr b (by simp [sumsR])
theorem Held.mkSums {w0 w : World} {p : Nat} {v : Value} {bs : List UInt8} {L : List Res} (S : Held w0 w (rowR 23 1 v bs.length (smv bs) :: blkR p 66 #[.int .i64 bs.length, v] :: L)) : Held w0 w (sumsR p v bs :: L) := by
  have h1 := List.pairwise_cons.1 S.apart
  have h2 := List.pairwise_cons.1 h1.2
  refine ⟨S.k, fun r hr => ?_, fun r hr b hb => ?_, List.pairwise_cons.2 ⟨fun r hr b hb => ?_, h2.2⟩⟩
  · rcases List.mem_cons.1 hr with rfl | hr
    · exact ⟨S.ok (blkR p 66 #[.int .i64 bs.length, v]) (by simp), S.ok (rowR 23 1 v bs.length (smv bs)) (by simp)⟩
    · exact S.ok r (by simp [hr])
  · rcases List.mem_cons.1 hr with rfl | hr
    · rcases List.mem_cons.1 hb with rfl | hb
      · exact S.base (blkR b 66 #[.int .i64 bs.length, v]) (by simp) b (by simp [blkR])
      · exact S.base (rowR 23 1 v bs.length (smv bs)) (by simp) b hb
    · exact S.base r (by simp [hr]) b hb
  · rcases List.mem_cons.1 hb with rfl | hb
    · exact h2.1 r hr b (by simp [blkR])
    · exact h1.1 r (by simp [hr]) b hb
theorem Held.sums {w0 w w' : World} {p : Nat} {v0 v : Value} {bs cs : List UInt8} {L : List Res} (S : Held w0 w (sumsR p v0 bs :: L)) (g : Sg w w' p v0 v cs) : Held w0 w' (sumsR p v cs :: L) :=
  S.turn (sumsR p v cs) g.kp g.sm (fun b hb => by
    rcases List.mem_cons.1 hb with rfl | hb
    · exact .inl (by simp [sumsR])
    · have hv : v.ownBlock = some b := by simpa using hb
      rcases g.at_ with h | ⟨g', h, hg'⟩
      · exact .inl (List.mem_cons_of_mem _ (by rw [← h, hv]; simp))
      · rw [hv] at h
        cases h
        exact .inr hg')
theorem ow_none {w : World} {g : Nat} (e : TypeId) (s : Nat) (hg : g = w.heap.size) : Ow (w.alloc (.cells #[] e)) e s (.slice (some ⟨g, 0, none⟩) 0 0) 0 [] := by
  subst hg
  exact ow_new w e s 0 #[] (by simp) (by decide)
theorem Try.built_sums (n : Int) (A : Option Addr) (m c : Nat) : Try.prog.built 66 [(0, .int .i64 n), (1, .slice A m c)] = some #[.int .i64 n, .slice A m c] := by kernel_rfl
theorem range_nil (w : World) : Calls Try.prog 36 #[.pointer none, .int .i64 0, .int .i64 0] w fun e w' => e = .returned (.tuple #[.int .u32 0, .bool false]) ∧ Kp [] w w' := by
  go_enter Try.func36, Try.ntmps36
  go_wp2
  go_ret2
  exact ⟨rfl, Kp.refl _ _⟩
theorem append_nil (x : Value) (w : World) : Calls Try.prog 34 #[.pointer none, x] w fun e w' => e = .returned (.int .i64 1) ∧ w = w' := by
  go_enter Try.func34, Try.ntmps34
  go_wp2
  go_ret
  exact ⟨rfl, rfl⟩
theorem len_nil (w : World) : Calls Try.prog 39 #[.pointer none] w fun e w' => e = .returned (.int .i64 0) ∧ w = w' := by
  go_enter Try.func39, Try.ntmps39
  go_wp2
  go_ret
  exact ⟨rfl, rfl⟩
theorem copy_nil (w : World) : Calls Try.prog 38 #[.pointer none] w fun e w' => e = .returned (.pointer none) ∧ w = w' := by
  go_enter Try.func38, Try.ntmps38
  go_wp2
  go_ret
  exact ⟨rfl, rfl⟩
theorem num02_any (x : Int) (w : World) : Calls Try.prog 33 #[.int .i64 x] w fun e w' => e = .returned (.int .i64 x) ∧ w = w' := by
  go_enter Try.func33, Try.ntmps33
  go_wp2
  go_ret
  exact ⟨rfl, rfl⟩
-- REG pcc0
set_option maxRecDepth 100000 in
set_option maxHeartbeats 2000000 in
theorem pcc_r0 {Q : Exit → Act → World → Prop} {a : Act} {w : World}  (hsz : a.tmps.size = 17) 
    (hend : ∀ (a' : Act), Same a a' [2] → Sl a' 2 (.pointer none) → Q .normal a' (w)) : (Code.region 0 (opsOf 0 Try.f38).toArray false).wp Try.prog Q a w := by
  refine wp_region_lit (l := (opsOf 0 Try.f38)) ?_
  conv => arg 4; whnf
  go_wp2_with fail
  try simp only [Act.put]
  exact hend _ (by repeat (first | (with_reducible refine same_set (by decide) ?_) | (with_reducible exact same_nil))) (by unfold Sl; first | (simp [hsz]; done) | (simp [hsz]; omega))
-- END pcc0
-- REG pcc1N
-- END pcc1N
-- REG pcc1Y
set_option maxRecDepth 100000 in
set_option maxHeartbeats 2000000 in
theorem pcc_r1Y {Q : Exit → Act → World → Prop} {a : Act} {w : World} (ad : Addr) (hsz : a.tmps.size = 17) (o0 : Sl a 0 (.pointer (some ad)))
    (hend : ∀ (a' : Act), Same a a' [3, 4] → Sl a' 4 (.bool false) → Q .normal a' (w)) : (Code.region 1 (opsOf 1 Try.f38).toArray false).wp Try.prog Q a w := by
  refine wp_region_lit (l := (opsOf 1 Try.f38)) ?_
  conv => arg 4; whnf
  unfold Sl at o0
  go_wp2_with fail
  try simp only [Act.put]
  exact hend _ (by repeat (first | (with_reducible refine same_set (by decide) ?_) | (with_reducible exact same_nil))) (by unfold Sl; first | (simp [hsz]; done) | (simp [hsz]; omega))
-- END pcc1Y
-- REG pcc2
-- END pcc2
-- REG pcc3
set_option maxRecDepth 100000 in
set_option maxHeartbeats 2000000 in
theorem pcc_r3 {Q : Exit → Act → World → Prop} {a : Act} {w : World} (w0 : World) (p : Nat) (A : Option Addr) (c : Nat) (bs : List UInt8) (hb : bs.length ≤ 1000000) (L : List Res) (hsz : a.tmps.size = 17) (o0 : Sl a 0 (.pointer (some ⟨p, 0, none⟩)))
    (S0 : Held w0 w (sumsR p (.slice A bs.length c) bs :: L))
    (hend : ∀ (a' : Act) (vs : Nat → Value) (gs : Nat → Nat) (W : World), Same a a' [5, 6, 7, 8, 9, 10, 11, 12, 13, 14, 15, 16, 2] → Sl a' 2 (.pointer (some ⟨gs 11, 0, none⟩)) → Held w0 W (rowR 23 1 (vs 9) bs.length (smv bs) :: blkR (gs 11) 66 #[.int .i64 ((bs.length : Nat) : Int), vs 9] :: sumsR p (.slice A bs.length c) bs :: L) → Q .normal a' W) : (Code.region 3 (opsOf 3 Try.f38).toArray true).wp Try.prog Q a w := by
  have hap : apartB (opsOf 3 Try.f38) = true := by kernel_rfl
  refine wp_region_sep (Γ := Nat) (l := (opsOf 3 Try.f38)) 2 [0, 1, 2, 3, 5, 6, 7, 8, 9, 10, 11, 12, 13, 14]
    (fun i vs gs => match i with | 0 => vs 0 = .pointer (some ⟨p, 0, none⟩) | 1 => vs 1 = .pointer (some ⟨p, 0, none⟩) | 2 => vs 2 = .pointer (some ⟨p, 0, none⟩) | 3 => vs 3 = .int .i64 ((bs.length : Nat) : Int) | 4 => vs 4 = .slice (some ⟨gs 4, 0, none⟩) 0 0 | 5 => vs 5 = .pointer (some ⟨p, 0, none⟩) | 6 => vs 6 = .pointer (some ⟨p, 0, none⟩) | 7 => vs 7 = .pointer (some ⟨p, 1, none⟩) | 8 => vs 8 = .slice A bs.length c | 10 => vs 10 = .agg #[.int .i64 ((bs.length : Nat) : Int), vs 9] | 11 => vs 11 = .pointer (some ⟨gs 11, 0, none⟩) | 12 => vs 12 = .pointer (some ⟨gs 11, 0, none⟩) | _ => True)
    (fun i vs gs => match i with | 4 => [rowR 23 1 (vs 4) 0 []] | 9 => [rowR 23 1 (vs 9) bs.length (smv bs)] | 11 => [blkR (gs 11) 66 #[.int .i64 ((bs.length : Nat) : Int), vs 9]] | 13 => [sumsR p (.slice A bs.length c) bs] | 14 => L | _ => [])
    (fun i => match i with | 9 => [4] | _ => []) (fun i => match i with | 3 => [13] | 8 => [13] | 9 => [13] | 10 => [9] | 11 => [9] | _ => []) S0 (by kernel_rfl) hap (by kernel_rfl) (by kernel_rfl) (fun i => match i with | 0 => [0] | 1 => [1] | 2 => [2] | 3 => [3] | 4 => [4] | 5 => [5] | 6 => [6] | 7 => [7] | 8 => [8] | 9 => [9] | 10 => [9, 10] | 11 => [9, 11] | 12 => [11, 12] | _ => []) (by kernel_rfl) ?_ (by kernel_rfl) ?_ ?_ ?_
  · intro s vs vs' gs gs' h
    iterate 15 (rcases s with _ | s; · (first | exact ⟨rfl, id⟩ | (simp only [List.mem_cons, List.not_mem_nil, or_false, forall_eq_or_imp, forall_eq] at h; simp [h])))
    exact ⟨rfl, id⟩
  · simp only [List.range, List.range.loop, List.flatMap_cons, List.flatMap_nil, List.append_nil, List.cons_append, List.nil_append]
    exact List.Perm.refl _
  · clear S0 hend
    refine ⟨?_, ?_, ?_, ?_, ?_, ?_, ?_, ?_, ?_, ?_, ?_, ?_, ?_, trivial⟩
    · intro vs gs A' W LF hA S hR hd hu K hK
      replace hK := hK default
      have e0 : A'.tmps[0]?.getD undef = .pointer (some ⟨p, 0, none⟩) := slot_out hA hap (Nat.lt_of_lt_of_eq (Nat.le_of_ble_eq_true rfl : 0 < 17) hsz.symm) (by kernel_rfl) o0
      clear hA o0
      go_step
      exact hK _ _ S rfl
    · intro vs gs A' W LF hA S hR hd hu K hK
      replace hK := hK default
      have f0 : vs 0 = .pointer (some ⟨p, 0, none⟩) := hd 0 (by kernel_rfl)
      have e5 : A'.tmps[5]?.getD undef = vs 0 := slot_in hA hap (Nat.lt_of_lt_of_eq (Nat.le_of_ble_eq_true rfl : 5 < 17) hsz.symm) (by kernel_rfl)
      rw [f0] at e5
      clear hA o0
      go_step
      exact hK _ _ S rfl
    · intro vs gs A' W LF hA S hR hd hu K hK
      replace hK := hK default
      have f1 : vs 1 = .pointer (some ⟨p, 0, none⟩) := hd 1 (by kernel_rfl)
      have e6 : A'.tmps[6]?.getD undef = vs 1 := slot_in hA hap (Nat.lt_of_lt_of_eq (Nat.le_of_ble_eq_true rfl : 6 < 17) hsz.symm) (by kernel_rfl)
      rw [f1] at e6
      clear hA o0
      go_step
      exact hK _ _ S rfl
    · intro vs gs A' W LF hA S hR hd hu K hK
      replace hK := hK default
      have f2 : vs 2 = .pointer (some ⟨p, 0, none⟩) := hd 2 (by kernel_rfl)
      have e7 : A'.tmps[7]?.getD undef = vs 2 := slot_in hA hap (Nat.lt_of_lt_of_eq (Nat.le_of_ble_eq_true rfl : 7 < 17) hsz.symm) (by kernel_rfl)
      rw [f2] at e7
      clear hA o0
      have hsm : Sm W p (.slice A bs.length c) bs := (S.ok (sumsR p (.slice A bs.length c) bs) (hR 13 (List.mem_singleton.2 rfl) _ (List.mem_singleton.2 rfl)))
      have c0 : W.cell? ⟨p, 0, none⟩ = some (.int .i64 ((bs.length : Nat) : Int)) := hsm.1.cell 0
      go_step
      exact hK _ _ S rfl
    · intro vs gs A' W LF hA S hR hd hu K hK
      clear hA o0
      go_step
      refine hK W.heap.size _ _ (S.rownew (ow_none 23 1 rfl) ((Kp.refl [] W).alloc _) (fun g hg => by cases hg; exact Nat.le_refl _)) rfl
    · intro vs gs A' W LF hA S hR hd hu K hK
      replace hK := hK default
      have e0 : A'.tmps[0]?.getD undef = .pointer (some ⟨p, 0, none⟩) := slot_out hA hap (Nat.lt_of_lt_of_eq (Nat.le_of_ble_eq_true rfl : 0 < 17) hsz.symm) (by kernel_rfl) o0
      clear hA o0
      go_step
      exact hK _ _ S rfl
    · intro vs gs A' W LF hA S hR hd hu K hK
      replace hK := hK default
      have f5 : vs 5 = .pointer (some ⟨p, 0, none⟩) := hd 5 (by kernel_rfl)
      have e10 : A'.tmps[10]?.getD undef = vs 5 := slot_in hA hap (Nat.lt_of_lt_of_eq (Nat.le_of_ble_eq_true rfl : 10 < 17) hsz.symm) (by kernel_rfl)
      rw [f5] at e10
      clear hA o0
      go_step
      exact hK _ _ S rfl
    · intro vs gs A' W LF hA S hR hd hu K hK
      replace hK := hK default
      have f6 : vs 6 = .pointer (some ⟨p, 0, none⟩) := hd 6 (by kernel_rfl)
      have e11 : A'.tmps[11]?.getD undef = vs 6 := slot_in hA hap (Nat.lt_of_lt_of_eq (Nat.le_of_ble_eq_true rfl : 11 < 17) hsz.symm) (by kernel_rfl)
      rw [f6] at e11
      clear hA o0
      go_step
      exact hK _ _ S rfl
    · intro vs gs A' W LF hA S hR hd hu K hK
      replace hK := hK default
      have f7 : vs 7 = .pointer (some ⟨p, 1, none⟩) := hd 7 (by kernel_rfl)
      have e12 : A'.tmps[12]?.getD undef = vs 7 := slot_in hA hap (Nat.lt_of_lt_of_eq (Nat.le_of_ble_eq_true rfl : 12 < 17) hsz.symm) (by kernel_rfl)
      rw [f7] at e12
      clear hA o0
      have hsm : Sm W p (.slice A bs.length c) bs := (S.ok (sumsR p (.slice A bs.length c) bs) (hR 13 (List.mem_singleton.2 rfl) _ (List.mem_singleton.2 rfl)))
      have c0 : W.cell? ⟨p, 1, none⟩ = some (.slice A bs.length c) := hsm.1.cell 1
      go_step
      exact hK _ _ S rfl
    · intro vs gs A' W LF hA S hR hd hu K hK
      replace hK := hK default
      have f4 : vs 4 = .slice (some ⟨gs 4, 0, none⟩) 0 0 := hd 4 (by kernel_rfl)
      have e9 : A'.tmps[9]?.getD undef = vs 4 := slot_in hA hap (Nat.lt_of_lt_of_eq (Nat.le_of_ble_eq_true rfl : 9 < 17) hsz.symm) (by kernel_rfl)
      rw [f4] at e9
      have f8 : vs 8 = .slice A bs.length c := hd 8 (by kernel_rfl)
      have e13 : A'.tmps[13]?.getD undef = vs 8 := slot_in hA hap (Nat.lt_of_lt_of_eq (Nat.le_of_ble_eq_true rfl : 13 < 17) hsz.symm) (by kernel_rfl)
      rw [f8] at e13
      clear hA o0
      have hsm : Sm W p (.slice A bs.length c) bs := (S.ok (sumsR p (.slice A bs.length c) bs) (List.mem_cons_of_mem _ (hR 13 (List.mem_singleton.2 rfl) _ (List.mem_singleton.2 rfl))))
      have S1 : Held w0 W (rowR 23 1 (vs 4) 0 [] :: LF) := S
      rw [f4] at S1
      refine op_app (.tmp 9) (.tmp 13) 64 23 rfl Try.infoSum Try.underlying64 rfl (by decide) (.slice (some ⟨gs 4, 0, none⟩) 0 0) 0 [] (by simpa [Act.eval] using e9) S1 (.slice A bs.length c) bs.length (smv bs) (by simpa [Act.eval] using e13) (Rd.of_own hsm.2) (smv_one bs) (by unfold maxLen; omega) (by omega) (fun v' w' S' => hK v' w' (show Held w0 w' (rowR 23 1 v' bs.length (smv bs) :: LF) from by simpa using S') trivial)
    · intro vs gs A' W LF hA S hR hd hu K hK
      replace hK := hK default
      have f3 : vs 3 = .int .i64 ((bs.length : Nat) : Int) := hd 3 (by kernel_rfl)
      have e8 : A'.tmps[8]?.getD undef = vs 3 := slot_in hA hap (Nat.lt_of_lt_of_eq (Nat.le_of_ble_eq_true rfl : 8 < 17) hsz.symm) (by kernel_rfl)
      rw [f3] at e8
      have e14 : A'.tmps[14]?.getD undef = vs 9 := slot_in hA hap (Nat.lt_of_lt_of_eq (Nat.le_of_ble_eq_true rfl : 14 < 17) hsz.symm) (by kernel_rfl)
      clear hA o0
      obtain ⟨A9, c9, h9, -, -⟩ := ow_form (show Ow W 23 1 (vs 9) bs.length (smv bs) from S.ok (rowR 23 1 (vs 9) bs.length (smv bs)) (hR 9 (List.mem_singleton.2 rfl) _ (List.mem_singleton.2 rfl)))
      rw [h9] at e14
      refine op_build 66 _ rfl [(0, .int .i64 ((bs.length : Nat) : Int)), (1, .slice A9 bs.length c9)] (by simp [Act.eval, e8, e14]) _ (Try.built_sums _ A9 bs.length c9) ?_
      rw [← h9]
      exact hK _ _ S rfl
    · intro vs gs A' W LF hA S hR hd hu K hK
      have f10 : vs 10 = .agg #[.int .i64 ((bs.length : Nat) : Int), vs 9] := hd 10 (by kernel_rfl)
      have e15 : A'.tmps[15]?.getD undef = vs 10 := slot_in hA hap (Nat.lt_of_lt_of_eq (Nat.le_of_ble_eq_true rfl : 15 < 17) hsz.symm) (by kernel_rfl)
      rw [f10] at e15
      clear hA o0
      obtain ⟨A9, c9, h9, -, -⟩ := ow_form (show Ow W 23 1 (vs 9) bs.length (smv bs) from S.ok (rowR 23 1 (vs 9) bs.length (smv bs)) (hR 9 (List.mem_singleton.2 rfl) _ (List.mem_singleton.2 rfl)))
      rw [h9] at e15
      go_step
      rw [← h9]
      exact hK W.heap.size _ _ (S.newBlk _ _) rfl
    · intro vs gs A' W LF hA S hR hd hu K hK
      replace hK := hK default
      have f11 : vs 11 = .pointer (some ⟨gs 11, 0, none⟩) := hd 11 (by kernel_rfl)
      have e16 : A'.tmps[16]?.getD undef = vs 11 := slot_in hA hap (Nat.lt_of_lt_of_eq (Nat.le_of_ble_eq_true rfl : 16 < 17) hsz.symm) (by kernel_rfl)
      rw [f11] at e16
      clear hA o0
      go_step
      exact hK _ _ S rfl
  · intro vs gs W S hp
    have S : Held w0 W (rowR 23 1 (vs 9) bs.length (smv bs) :: blkR (gs 11) 66 #[.int .i64 ((bs.length : Nat) : Int), vs 9] :: sumsR p (.slice A bs.length c) bs :: L) := by simpa only [List.flatMap_cons, List.flatMap_nil, List.append_nil, List.nil_append, List.cons_append, List.append_assoc] using S
    rw [show putAll vs (opsOf 3 Try.f38) 0 a = putD [(5, vs 0), (6, vs 1), (7, vs 2), (8, vs 3), (9, vs 4), (10, vs 5), (11, vs 6), (12, vs 7), (13, vs 8), (14, vs 9), (15, vs 10), (16, vs 11), (2, vs 12)] a from by kernel_rfl]
    exact hend _ vs gs W (same_putD _ a) (sl_putD _ a 2 _ (by rw [show vs 12 = _ from hp 12 (Nat.le_of_ble_eq_true (by kernel_rfl))]; kernel_rfl)) S
-- END pcc3
-- REG pnt0
set_option maxRecDepth 100000 in
set_option maxHeartbeats 2000000 in
theorem pnt_r0 {Q : Exit → Act → World → Prop} {a : Act} {w : World} (w0 : World) (L : List Res) (S : Held w0 w L) (hsz : a.tmps.size = 41) 
    (hend : ∀ (a' : Act) (W : World), Same a a' [0] → (∃ g0, Sl a' 0 (.pointer (some ⟨g0, 0, none⟩)) ∧ Held w0 W (blkR g0 4 #[.bool false] :: L)) → Q .normal a' W) : (Code.region 0 (opsOf 0 Try.f40).toArray false).wp Try.prog Q a w := by
  refine wp_region_lit (l := (opsOf 0 Try.f40)) ?_
  conv => arg 4; whnf
  have S1 := Lib.hid (S.newBlk 4 #[.bool false])
  go_wp2_with fail
  try simp only [Act.put]
  exact hend _ _ (by repeat (first | (with_reducible refine same_set (by decide) ?_) | (with_reducible exact same_nil))) (⟨_, (by unfold Sl; simp [hsz]), S1.out⟩)
-- END pnt0
-- REG pnt1
set_option maxRecDepth 100000 in
set_option maxHeartbeats 2000000 in
theorem pnt_r1 {Q : Exit → Act → World → Prop} {a : Act} {w : World}  (hsz : a.tmps.size = 41) 
    (hend : ∀ (a' : Act), Same a a' [1] → Sl a' 1 (.pointer none) → Q .normal a' (w)) : (Code.region 1 (opsOf 1 Try.f40).toArray false).wp Try.prog Q a w := by
  refine wp_region_lit (l := (opsOf 1 Try.f40)) ?_
  conv => arg 4; whnf
  go_wp2_with fail
  try simp only [Act.put]
  exact hend _ (by repeat (first | (with_reducible refine same_set (by decide) ?_) | (with_reducible exact same_nil))) (by unfold Sl; first | (simp [hsz]; done) | (simp [hsz]; omega))
-- END pnt1
-- REG pnt2
set_option maxRecDepth 100000 in
set_option maxHeartbeats 2000000 in
theorem pnt_r2 {Q : Exit → Act → World → Prop} {a : Act} {w : World} (w0 : World) (L : List Res) (S : Held w0 w L) (hsz : a.tmps.size = 41) (o1 : Sl a 1 (.pointer none))
    (hend : ∀ (a' : Act) (W : World), Same a a' [5, 6, 2] → (∃ gS gN, Sl a' 2 (.func (.func 48) #[] #[.pointer (some ⟨gS, 0, none⟩), .pointer (some ⟨gN, 0, none⟩)]) ∧ Held w0 W (blkR gN 3 #[.int .i64 4] :: blkR gS 47 #[.pointer none] :: L)) → Q .normal a' W) : (Code.region 2 (opsOf 2 Try.f40).toArray false).wp Try.prog Q a w := by
  refine wp_region_lit (l := (opsOf 2 Try.f40)) ?_
  conv => arg 4; whnf
  unfold Sl at o1
  have S1 := Lib.hid ((S.newBlk 47 #[.pointer none]).newBlkN 3 #[.int .i64 4] (g := w.heap.size + 1) (by simp))
  go_wp2_with fail
  refine (all_any none 4 w).mono ?_
  rintro e w1 ⟨rfl, rfl⟩
  go_wp2_with fail
  try simp only [Act.put]
  exact hend _ _ (by repeat (first | (with_reducible refine same_set (by decide) ?_) | (with_reducible exact same_nil))) (⟨_, _, (by unfold Sl; simp [hsz]), S1.out⟩)
-- END pnt2
-- REG pnt3
set_option maxRecDepth 100000 in
set_option maxHeartbeats 2000000 in
theorem pnt_r3 {Q : Exit → Act → World → Prop} {a : Act} {w : World} (gS gN : Nat) (hsz : a.tmps.size = 41) (o2 : Sl a 2 (.func (.func 48) #[] #[.pointer (some ⟨gS, 0, none⟩), .pointer (some ⟨gN, 0, none⟩)]))
    (hend : ∀ (a' : Act), Same a a' [7, 8] → Sl a' 8 (.bool false) → Q .normal a' (w)) : (Code.region 3 (opsOf 3 Try.f40).toArray false).wp Try.prog Q a w := by
  refine wp_region_lit (l := (opsOf 3 Try.f40)) ?_
  conv => arg 4; whnf
  unfold Sl at o2
  have hfn := eq_func_nil w (.func 48) #[] #[.pointer (some ⟨gS, 0, none⟩), .pointer (some ⟨gN, 0, none⟩)]
  go_wp2_with fail
  try simp only [Act.put]
  exact hend _ (by repeat (first | (with_reducible refine same_set (by decide) ?_) | (with_reducible exact same_nil))) (by unfold Sl; first | (simp [hsz]; done) | (simp [hsz]; omega))
-- END pnt3
-- REG pnt5
set_option maxRecDepth 100000 in
set_option maxHeartbeats 2000000 in
theorem pnt_r5 {Q : Exit → Act → World → Prop} {a : Act} {w : World} (x : Value) (hsz : a.tmps.size = 41) (o2 : Sl a 2 (x))
    (hend : ∀ (a' : Act), Same a a' [9] → Sl a' 9 (x) → Q .normal a' (w)) : (Code.region 5 (opsOf 5 Try.f40).toArray false).wp Try.prog Q a w := by
  refine wp_region_lit (l := (opsOf 5 Try.f40)) ?_
  conv => arg 4; whnf
  unfold Sl at o2
  go_wp2_with fail
  try simp only [Act.put]
  exact hend _ (by repeat (first | (with_reducible refine same_set (by decide) ?_) | (with_reducible exact same_nil))) (by unfold Sl; first | (simp [hsz]; done) | (simp [hsz]; omega))
-- END pnt5
-- REG pnt7
set_option maxRecDepth 100000 in
set_option maxHeartbeats 2000000 in
theorem pnt_r7 {Q : Exit → Act → World → Prop} {a : Act} {w : World} (HC0 : Calls Try.prog 36 #[.pointer none, .int .i64 0, .int .i64 0] w fun e w' => e = .returned (.tuple #[.int .u32 0, .bool false]) ∧ Kp [] w w') (hsz : a.tmps.size = 41) (o1 : Sl a 1 (.pointer none))
    (hend : ∀ (a' : Act) (W : World), Same a a' [13, 14, 12, 15, 16, 3, 4] → Sl a' 3 (.int .u32 0) → Sl a' 4 (.bool false) → (Kp [] w W) → Q .normal a' W) : (Code.region 7 (opsOf 7 Try.f40).toArray false).wp Try.prog Q a w := by
  refine wp_region_lit (l := (opsOf 7 Try.f40)) ?_
  conv => arg 4; whnf
  unfold Sl at o1
  have HC := Lib.hid HC0
  clear HC0
  go_wp2_with fail
  refine HC.out.mono ?_
  rintro e w1 ⟨rfl, k1⟩
  have k1 := Lib.hid k1
  go_wp2_with fail
  try simp only [Act.put]
  exact hend _ _ (by repeat (first | (with_reducible refine same_set (by decide) ?_) | (with_reducible exact same_nil))) (by unfold Sl; first | (simp [hsz]; done) | (simp [hsz]; omega)) (by unfold Sl; first | (simp [hsz]; done) | (simp [hsz]; omega)) (k1.out)
-- END pnt7
-- REG pnt8
set_option maxRecDepth 100000 in
set_option maxHeartbeats 2000000 in
theorem pnt_r8 {Q : Exit → Act → World → Prop} {a : Act} {w : World} (w0 : World) (g0 : Nat) (L : List Res) (S : Held w0 w (blkR g0 4 #[.bool false] :: L)) (hsz : a.tmps.size = 41) (o0 : Sl a 0 (.pointer (some ⟨g0, 0, none⟩))) (o1 : Sl a 1 (.pointer none)) (o3 : Sl a 3 (.int .u32 (0 : Int))) (o4 : Sl a 4 (.bool false))
    (hend : ∀ (a' : Act) (W : World), Same a a' [17, 18, 19, 20, 21, 22, 23, 24, 25, 26, 27, 28, 29, 30, 31, 32, 33, 34, 35, 36, 37, 38, 39, 40] → (Held w0 W (blkR g0 4 #[.bool true] :: L)) → Q .normal a' W) : (Code.region 8 (opsOf 8 Try.f40).toArray false).wp Try.prog Q a w := by
  have hap : apartB ((opsOf 8 Try.f40).take 24) = true := by kernel_rfl
  refine wp_region_invSL (l := (opsOf 8 Try.f40)) 24 (fun i v W => match i with | 0 => v = .pointer none | 1 => ∃ g, v = .slice (some ⟨g, 0, none⟩) 1 1 | 2 => ∃ g, v = .slice (some ⟨g, 0, none⟩) 1 1 | 3 => v = .int .i64 (1 : Int) | 4 => v = .int .i64 (1 : Int) | 5 => v = .bool true | 6 => v = .bool true | 7 => v = .pointer none | 8 => v = .int .i64 (0 : Int) | 9 => v = .bool true | 10 => v = .bool true | 11 => v = .bool true | 12 => v = .int .u32 (0 : Int) | 13 => v = .bool true | 14 => v = .bool true | 15 => v = .bool true | 16 => v = .bool false | 17 => v = .bool true | 18 => v = .bool true | 19 => v = .bool true | 20 => v = .pointer none | 21 => v = .pointer none | 22 => v = .bool true | 23 => v = .bool true | _ => True) hap ?_ ?_ ?_
  · intro i v W W' h _
    iterate 25 (rcases i with _ | i; · exact h)
    exact h
  · refine ⟨?_, ?_, ?_, ?_, ?_, ?_, ?_, ?_, ?_, ?_, ?_, ?_, ?_, ?_, ?_, ?_, ?_, ?_, ?_, ?_, ?_, ?_, ?_, ?_, trivial⟩
    · intro vs A' W hA hW hd hu K hK
      refine wpOp_free _ rfl rfl ?_
      conv => arg 2; whnf
      have e1 : A'.tmps[1]?.getD undef = .pointer none := slot_out hA hap (Nat.lt_of_lt_of_eq (Nat.le_of_ble_eq_true rfl : 1 < 41) hsz.symm) (by kernel_rfl) o1
      clear hA hd hu o0 o1 o3 o4
      go_step
      exact hK _ _ (Kp.refl _ _) rfl
    · intro vs A' W hA hW hd hu K hK
      refine wpOp_free _ rfl rfl ?_
      conv => arg 2; whnf
      clear hA hd hu o0 o1 o3 o4
      go_step
      exact hK _ _ ((Kp.refl [] W).alloc _) ⟨_, rfl⟩
    · intro vs A' W hA hW hd hu K hK
      refine wpOp_free _ rfl rfl ?_
      conv => arg 2; whnf
      have f1 : ∃ g, (vs 1) = .slice (some ⟨g, 0, none⟩) 1 1 := hd 1 (by kernel_rfl)
      have e18 : A'.tmps[18]?.getD undef = vs 1 := slot_in hA hap (Nat.lt_of_lt_of_eq (Nat.le_of_ble_eq_true rfl : 18 < 41) hsz.symm) (by kernel_rfl)
      clear hA hd hu o0 o1 o3 o4
      obtain ⟨g1, h1⟩ := f1
      rw [h1] at e18
      go_step
      exact hK _ _ ((Kp.refl [] W).alloc _) ⟨_, rfl⟩
    · intro vs A' W hA hW hd hu K hK
      refine wpOp_free _ rfl rfl ?_
      conv => arg 2; whnf
      have f0 : vs 0 = .pointer none := hd 0 (by kernel_rfl)
      have e17 : A'.tmps[17]?.getD undef = vs 0 := slot_in hA hap (Nat.lt_of_lt_of_eq (Nat.le_of_ble_eq_true rfl : 17 < 41) hsz.symm) (by kernel_rfl)
      rw [f0] at e17
      have f2 : ∃ g, (vs 2) = .slice (some ⟨g, 0, none⟩) 1 1 := hd 2 (by kernel_rfl)
      have e19 : A'.tmps[19]?.getD undef = vs 2 := slot_in hA hap (Nat.lt_of_lt_of_eq (Nat.le_of_ble_eq_true rfl : 19 < 41) hsz.symm) (by kernel_rfl)
      clear hA hd hu o0 o1 o3 o4
      obtain ⟨g2, h2⟩ := f2
      rw [h2] at e19
      go_step
      refine (append_nil _ W).mono ?_
      rintro e w' ⟨rfl, rfl⟩
      exact hK _ _ (Kp.refl _ _) rfl
    · intro vs A' W hA hW hd hu K hK
      refine wpOp_free _ rfl rfl ?_
      conv => arg 2; whnf
      have f3 : vs 3 = .int .i64 (1 : Int) := hd 3 (by kernel_rfl)
      have e20 : A'.tmps[20]?.getD undef = vs 3 := slot_in hA hap (Nat.lt_of_lt_of_eq (Nat.le_of_ble_eq_true rfl : 20 < 41) hsz.symm) (by kernel_rfl)
      rw [f3] at e20
      clear hA hd hu o0 o1 o3 o4
      go_step
      refine (num02_any 1 W).mono ?_
      rintro e w' ⟨rfl, rfl⟩
      exact hK _ _ (Kp.refl _ _) rfl
    · intro vs A' W hA hW hd hu K hK
      refine wpOp_free _ rfl rfl ?_
      conv => arg 2; whnf
      have f4 : vs 4 = .int .i64 (1 : Int) := hd 4 (by kernel_rfl)
      have e21 : A'.tmps[21]?.getD undef = vs 4 := slot_in hA hap (Nat.lt_of_lt_of_eq (Nat.le_of_ble_eq_true rfl : 21 < 41) hsz.symm) (by kernel_rfl)
      rw [f4] at e21
      clear hA hd hu o0 o1 o3 o4
      go_step
      exact hK _ _ (Kp.refl _ _) rfl
    · intro vs A' W hA hW hd hu K hK
      refine wpOp_free _ rfl rfl ?_
      conv => arg 2; whnf
      have f5 : vs 5 = .bool true := hd 5 (by kernel_rfl)
      have e22 : A'.tmps[22]?.getD undef = vs 5 := slot_in hA hap (Nat.lt_of_lt_of_eq (Nat.le_of_ble_eq_true rfl : 22 < 41) hsz.symm) (by kernel_rfl)
      rw [f5] at e22
      clear hA hd hu o0 o1 o3 o4
      go_step
      exact hK _ _ (Kp.refl _ _) rfl
    · intro vs A' W hA hW hd hu K hK
      have f6 : vs 6 = .bool true := hd 6 (by kernel_rfl)
      have e23 : A'.tmps[23]?.getD undef = vs 6 := slot_in hA hap (Nat.lt_of_lt_of_eq (Nat.le_of_ble_eq_true rfl : 23 < 41) hsz.symm) (by kernel_rfl)
      rw [f6] at e23
      refine wpOp_go _ rfl 6 23 true rfl rfl e23 ?_
      conv => arg 2; whnf
      have e1 : A'.tmps[1]?.getD undef = .pointer none := slot_out hA hap (Nat.lt_of_lt_of_eq (Nat.le_of_ble_eq_true rfl : 1 < 41) hsz.symm) (by kernel_rfl) o1
      clear hA hd hu o0 o1 o3 o4
      go_step
      exact hK _ _ (Kp.refl _ _) rfl
    · intro vs A' W hA hW hd hu K hK
      have f6 : vs 6 = .bool true := hd 6 (by kernel_rfl)
      have e23 : A'.tmps[23]?.getD undef = vs 6 := slot_in hA hap (Nat.lt_of_lt_of_eq (Nat.le_of_ble_eq_true rfl : 23 < 41) hsz.symm) (by kernel_rfl)
      rw [f6] at e23
      refine wpOp_go _ rfl 6 23 true rfl rfl e23 ?_
      conv => arg 2; whnf
      have f7 : vs 7 = .pointer none := hd 7 (by kernel_rfl)
      have e24 : A'.tmps[24]?.getD undef = vs 7 := slot_in hA hap (Nat.lt_of_lt_of_eq (Nat.le_of_ble_eq_true rfl : 24 < 41) hsz.symm) (by kernel_rfl)
      rw [f7] at e24
      clear hA hd hu o0 o1 o3 o4
      go_step
      refine (len_nil W).mono ?_
      rintro e w' ⟨rfl, rfl⟩
      exact hK _ _ (Kp.refl _ _) rfl
    · intro vs A' W hA hW hd hu K hK
      have f6 : vs 6 = .bool true := hd 6 (by kernel_rfl)
      have e23 : A'.tmps[23]?.getD undef = vs 6 := slot_in hA hap (Nat.lt_of_lt_of_eq (Nat.le_of_ble_eq_true rfl : 23 < 41) hsz.symm) (by kernel_rfl)
      rw [f6] at e23
      refine wpOp_go _ rfl 6 23 true rfl rfl e23 ?_
      conv => arg 2; whnf
      have f8 : vs 8 = .int .i64 (0 : Int) := hd 8 (by kernel_rfl)
      have e25 : A'.tmps[25]?.getD undef = vs 8 := slot_in hA hap (Nat.lt_of_lt_of_eq (Nat.le_of_ble_eq_true rfl : 25 < 41) hsz.symm) (by kernel_rfl)
      rw [f8] at e25
      clear hA hd hu o0 o1 o3 o4
      go_step
      exact hK _ _ (Kp.refl _ _) rfl
    · intro vs A' W hA hW hd hu K hK
      refine wpOp_free _ rfl rfl ?_
      conv => arg 2; whnf
      have f6 : vs 6 = .bool true := hd 6 (by kernel_rfl)
      have e23 : A'.tmps[23]?.getD undef = vs 6 := slot_in hA hap (Nat.lt_of_lt_of_eq (Nat.le_of_ble_eq_true rfl : 23 < 41) hsz.symm) (by kernel_rfl)
      rw [f6] at e23
      have f9 : vs 9 = .bool true := hd 9 (by kernel_rfl)
      have e26 : A'.tmps[26]?.getD undef = vs 9 := slot_in hA hap (Nat.lt_of_lt_of_eq (Nat.le_of_ble_eq_true rfl : 26 < 41) hsz.symm) (by kernel_rfl)
      rw [f9] at e26
      clear hA hd hu o0 o1 o3 o4
      go_step
      exact hK _ _ (Kp.refl _ _) rfl
    · intro vs A' W hA hW hd hu K hK
      refine wpOp_free _ rfl rfl ?_
      conv => arg 2; whnf
      have f10 : vs 10 = .bool true := hd 10 (by kernel_rfl)
      have e27 : A'.tmps[27]?.getD undef = vs 10 := slot_in hA hap (Nat.lt_of_lt_of_eq (Nat.le_of_ble_eq_true rfl : 27 < 41) hsz.symm) (by kernel_rfl)
      rw [f10] at e27
      clear hA hd hu o0 o1 o3 o4
      go_step
      exact hK _ _ (Kp.refl _ _) rfl
    · intro vs A' W hA hW hd hu K hK
      have f11 : vs 11 = .bool true := hd 11 (by kernel_rfl)
      have e28 : A'.tmps[28]?.getD undef = vs 11 := slot_in hA hap (Nat.lt_of_lt_of_eq (Nat.le_of_ble_eq_true rfl : 28 < 41) hsz.symm) (by kernel_rfl)
      rw [f11] at e28
      refine wpOp_go _ rfl 11 28 true rfl rfl e28 ?_
      conv => arg 2; whnf
      have e3 : A'.tmps[3]?.getD undef = .int .u32 (0 : Int) := slot_out hA hap (Nat.lt_of_lt_of_eq (Nat.le_of_ble_eq_true rfl : 3 < 41) hsz.symm) (by kernel_rfl) o3
      clear hA hd hu o0 o1 o3 o4
      go_step
      exact hK _ _ (Kp.refl _ _) rfl
    · intro vs A' W hA hW hd hu K hK
      have f11 : vs 11 = .bool true := hd 11 (by kernel_rfl)
      have e28 : A'.tmps[28]?.getD undef = vs 11 := slot_in hA hap (Nat.lt_of_lt_of_eq (Nat.le_of_ble_eq_true rfl : 28 < 41) hsz.symm) (by kernel_rfl)
      rw [f11] at e28
      refine wpOp_go _ rfl 11 28 true rfl rfl e28 ?_
      conv => arg 2; whnf
      have f12 : vs 12 = .int .u32 (0 : Int) := hd 12 (by kernel_rfl)
      have e29 : A'.tmps[29]?.getD undef = vs 12 := slot_in hA hap (Nat.lt_of_lt_of_eq (Nat.le_of_ble_eq_true rfl : 29 < 41) hsz.symm) (by kernel_rfl)
      rw [f12] at e29
      clear hA hd hu o0 o1 o3 o4
      go_step
      exact hK _ _ (Kp.refl _ _) rfl
    · intro vs A' W hA hW hd hu K hK
      refine wpOp_free _ rfl rfl ?_
      conv => arg 2; whnf
      have f11 : vs 11 = .bool true := hd 11 (by kernel_rfl)
      have e28 : A'.tmps[28]?.getD undef = vs 11 := slot_in hA hap (Nat.lt_of_lt_of_eq (Nat.le_of_ble_eq_true rfl : 28 < 41) hsz.symm) (by kernel_rfl)
      rw [f11] at e28
      have f13 : vs 13 = .bool true := hd 13 (by kernel_rfl)
      have e30 : A'.tmps[30]?.getD undef = vs 13 := slot_in hA hap (Nat.lt_of_lt_of_eq (Nat.le_of_ble_eq_true rfl : 30 < 41) hsz.symm) (by kernel_rfl)
      rw [f13] at e30
      clear hA hd hu o0 o1 o3 o4
      go_step
      exact hK _ _ (Kp.refl _ _) rfl
    · intro vs A' W hA hW hd hu K hK
      refine wpOp_free _ rfl rfl ?_
      conv => arg 2; whnf
      have f14 : vs 14 = .bool true := hd 14 (by kernel_rfl)
      have e31 : A'.tmps[31]?.getD undef = vs 14 := slot_in hA hap (Nat.lt_of_lt_of_eq (Nat.le_of_ble_eq_true rfl : 31 < 41) hsz.symm) (by kernel_rfl)
      rw [f14] at e31
      clear hA hd hu o0 o1 o3 o4
      go_step
      exact hK _ _ (Kp.refl _ _) rfl
    · intro vs A' W hA hW hd hu K hK
      have f15 : vs 15 = .bool true := hd 15 (by kernel_rfl)
      have e32 : A'.tmps[32]?.getD undef = vs 15 := slot_in hA hap (Nat.lt_of_lt_of_eq (Nat.le_of_ble_eq_true rfl : 32 < 41) hsz.symm) (by kernel_rfl)
      rw [f15] at e32
      refine wpOp_go _ rfl 15 32 true rfl rfl e32 ?_
      conv => arg 2; whnf
      have e4 : A'.tmps[4]?.getD undef = .bool false := slot_out hA hap (Nat.lt_of_lt_of_eq (Nat.le_of_ble_eq_true rfl : 4 < 41) hsz.symm) (by kernel_rfl) o4
      clear hA hd hu o0 o1 o3 o4
      go_step
      exact hK _ _ (Kp.refl _ _) rfl
    · intro vs A' W hA hW hd hu K hK
      have f15 : vs 15 = .bool true := hd 15 (by kernel_rfl)
      have e32 : A'.tmps[32]?.getD undef = vs 15 := slot_in hA hap (Nat.lt_of_lt_of_eq (Nat.le_of_ble_eq_true rfl : 32 < 41) hsz.symm) (by kernel_rfl)
      rw [f15] at e32
      refine wpOp_go _ rfl 15 32 true rfl rfl e32 ?_
      conv => arg 2; whnf
      have f16 : vs 16 = .bool false := hd 16 (by kernel_rfl)
      have e33 : A'.tmps[33]?.getD undef = vs 16 := slot_in hA hap (Nat.lt_of_lt_of_eq (Nat.le_of_ble_eq_true rfl : 33 < 41) hsz.symm) (by kernel_rfl)
      rw [f16] at e33
      clear hA hd hu o0 o1 o3 o4
      go_step
      exact hK _ _ (Kp.refl _ _) rfl
    · intro vs A' W hA hW hd hu K hK
      refine wpOp_free _ rfl rfl ?_
      conv => arg 2; whnf
      have f15 : vs 15 = .bool true := hd 15 (by kernel_rfl)
      have e32 : A'.tmps[32]?.getD undef = vs 15 := slot_in hA hap (Nat.lt_of_lt_of_eq (Nat.le_of_ble_eq_true rfl : 32 < 41) hsz.symm) (by kernel_rfl)
      rw [f15] at e32
      have f17 : vs 17 = .bool true := hd 17 (by kernel_rfl)
      have e34 : A'.tmps[34]?.getD undef = vs 17 := slot_in hA hap (Nat.lt_of_lt_of_eq (Nat.le_of_ble_eq_true rfl : 34 < 41) hsz.symm) (by kernel_rfl)
      rw [f17] at e34
      clear hA hd hu o0 o1 o3 o4
      go_step
      exact hK _ _ (Kp.refl _ _) rfl
    · intro vs A' W hA hW hd hu K hK
      refine wpOp_free _ rfl rfl ?_
      conv => arg 2; whnf
      have f18 : vs 18 = .bool true := hd 18 (by kernel_rfl)
      have e35 : A'.tmps[35]?.getD undef = vs 18 := slot_in hA hap (Nat.lt_of_lt_of_eq (Nat.le_of_ble_eq_true rfl : 35 < 41) hsz.symm) (by kernel_rfl)
      rw [f18] at e35
      clear hA hd hu o0 o1 o3 o4
      go_step
      exact hK _ _ (Kp.refl _ _) rfl
    · intro vs A' W hA hW hd hu K hK
      have f19 : vs 19 = .bool true := hd 19 (by kernel_rfl)
      have e36 : A'.tmps[36]?.getD undef = vs 19 := slot_in hA hap (Nat.lt_of_lt_of_eq (Nat.le_of_ble_eq_true rfl : 36 < 41) hsz.symm) (by kernel_rfl)
      rw [f19] at e36
      refine wpOp_go _ rfl 19 36 true rfl rfl e36 ?_
      conv => arg 2; whnf
      have e1 : A'.tmps[1]?.getD undef = .pointer none := slot_out hA hap (Nat.lt_of_lt_of_eq (Nat.le_of_ble_eq_true rfl : 1 < 41) hsz.symm) (by kernel_rfl) o1
      clear hA hd hu o0 o1 o3 o4
      go_step
      exact hK _ _ (Kp.refl _ _) rfl
    · intro vs A' W hA hW hd hu K hK
      have f19 : vs 19 = .bool true := hd 19 (by kernel_rfl)
      have e36 : A'.tmps[36]?.getD undef = vs 19 := slot_in hA hap (Nat.lt_of_lt_of_eq (Nat.le_of_ble_eq_true rfl : 36 < 41) hsz.symm) (by kernel_rfl)
      rw [f19] at e36
      refine wpOp_go _ rfl 19 36 true rfl rfl e36 ?_
      conv => arg 2; whnf
      have f20 : vs 20 = .pointer none := hd 20 (by kernel_rfl)
      have e37 : A'.tmps[37]?.getD undef = vs 20 := slot_in hA hap (Nat.lt_of_lt_of_eq (Nat.le_of_ble_eq_true rfl : 37 < 41) hsz.symm) (by kernel_rfl)
      rw [f20] at e37
      clear hA hd hu o0 o1 o3 o4
      go_step
      refine (copy_nil W).mono ?_
      rintro e w' ⟨rfl, rfl⟩
      exact hK _ _ (Kp.refl _ _) rfl
    · intro vs A' W hA hW hd hu K hK
      have f19 : vs 19 = .bool true := hd 19 (by kernel_rfl)
      have e36 : A'.tmps[36]?.getD undef = vs 19 := slot_in hA hap (Nat.lt_of_lt_of_eq (Nat.le_of_ble_eq_true rfl : 36 < 41) hsz.symm) (by kernel_rfl)
      rw [f19] at e36
      refine wpOp_go _ rfl 19 36 true rfl rfl e36 ?_
      conv => arg 2; whnf
      have f21 : vs 21 = .pointer none := hd 21 (by kernel_rfl)
      have e38 : A'.tmps[38]?.getD undef = vs 21 := slot_in hA hap (Nat.lt_of_lt_of_eq (Nat.le_of_ble_eq_true rfl : 38 < 41) hsz.symm) (by kernel_rfl)
      rw [f21] at e38
      clear hA hd hu o0 o1 o3 o4
      go_step
      exact hK _ _ (Kp.refl _ _) rfl
    · intro vs A' W hA hW hd hu K hK
      refine wpOp_free _ rfl rfl ?_
      conv => arg 2; whnf
      have f19 : vs 19 = .bool true := hd 19 (by kernel_rfl)
      have e36 : A'.tmps[36]?.getD undef = vs 19 := slot_in hA hap (Nat.lt_of_lt_of_eq (Nat.le_of_ble_eq_true rfl : 36 < 41) hsz.symm) (by kernel_rfl)
      rw [f19] at e36
      have f22 : vs 22 = .bool true := hd 22 (by kernel_rfl)
      have e39 : A'.tmps[39]?.getD undef = vs 22 := slot_in hA hap (Nat.lt_of_lt_of_eq (Nat.le_of_ble_eq_true rfl : 39 < 41) hsz.symm) (by kernel_rfl)
      rw [f22] at e39
      clear hA hd hu o0 o1 o3 o4
      go_step
      exact hK _ _ (Kp.refl _ _) rfl
  · intro vs W hW hp
    rw [show putAll vs ((opsOf 8 Try.f40).take 24) 0 a = putD [(17, vs 0), (18, vs 1), (19, vs 2), (20, vs 3), (21, vs 4), (22, vs 5), (23, vs 6), (24, vs 7), (25, vs 8), (26, vs 9), (27, vs 10), (28, vs 11), (29, vs 12), (30, vs 13), (31, vs 14), (32, vs 15), (33, vs 16), (34, vs 17), (35, vs 18), (36, vs 19), (37, vs 20), (38, vs 21), (39, vs 22), (40, vs 23)] a from by kernel_rfl]
    have hS : Same a (putD [(17, vs 0), (18, vs 1), (19, vs 2), (20, vs 3), (21, vs 4), (22, vs 5), (23, vs 6), (24, vs 7), (25, vs 8), (26, vs 9), (27, vs 10), (28, vs 11), (29, vs 12), (30, vs 13), (31, vs 14), (32, vs 15), (33, vs 16), (34, vs 17), (35, vs 18), (36, vs 19), (37, vs 20), (38, vs 21), (39, vs 22), (40, vs 23)] a) [17, 18, 19, 20, 21, 22, 23, 24, 25, 26, 27, 28, 29, 30, 31, 32, 33, 34, 35, 36, 37, 38, 39, 40] := same_putD _ a
    have n40 : Sl (putD [(17, vs 0), (18, vs 1), (19, vs 2), (20, vs 3), (21, vs 4), (22, vs 5), (23, vs 6), (24, vs 7), (25, vs 8), (26, vs 9), (27, vs 10), (28, vs 11), (29, vs 12), (30, vs 13), (31, vs 14), (32, vs 15), (33, vs 16), (34, vs 17), (35, vs 18), (36, vs 19), (37, vs 20), (38, vs 21), (39, vs 22), (40, vs 23)] a) 40 (.bool true) := sl_putD _ a 40 _ (by rw [show vs 23 = _ from hp 23 (Nat.le_of_ble_eq_true (by kernel_rfl))]; kernel_rfl)
    clear hp hap
    generalize putD [(17, vs 0), (18, vs 1), (19, vs 2), (20, vs 3), (21, vs 4), (22, vs 5), (23, vs 6), (24, vs 7), (25, vs 8), (26, vs 9), (27, vs 10), (28, vs 11), (29, vs 12), (30, vs 13), (31, vs 14), (32, vs 15), (33, vs 16), (34, vs 17), (35, vs 18), (36, vs 19), (37, vs 20), (38, vs 21), (39, vs 22), (40, vs 23)] a = a1 at *
    have hsz1 : a1.tmps.size = 41 := hS.size.trans hsz
    have n0 := hS.keep 0 _ (by decide) o0
    clear o0 o1 o3 o4
    conv => arg 4; whnf
    unfold Sl at n0 n40
    have S := Lib.hid (S.kp hW)
    obtain ⟨c1, c2, c3⟩ := Blk.c1 (S.out.at_ (l1 := []))
    have S2 := Lib.hid (S.out.set (l1 := []) 0 (.bool true))
    go_wp2_with fail
    try simp only [Act.put]
    exact hend _ _ ((hS.trans (d2 := []) (by repeat (first | (with_reducible refine same_set (by decide) ?_) | (with_reducible exact same_nil)))).more (by decide +kernel)) (S2.out)
-- END pnt8
end
/- Copy of crc.Sums; nothing. -/
section
open Go.RowKit Go.Shelf
theorem results_T1 {P : Program} {fn : Func} {w : World} {tmps : Array Value} {u : Nat} {x : Value} (h : fn.results = #[.tmp u]) (hx : tmps.getD u undef = x) : (results fn tmps).run P w = .ok x w := by
  simp only [Array.getD_eq_getD_getElem?] at hx
  simp [results, h, hx]
set_option maxRecDepth 100000 in
theorem copy_any (w0 : World) (p : Nat) (A : Option Addr) (c : Nat) (bs : List UInt8) (hb : bs.length ≤ 1000000) (L : List Res) (w : World) (S : Held w0 w (sumsR p (.slice A bs.length c) bs :: L)) :
    Calls Try.prog 38 #[.pointer (some ⟨p, 0, none⟩)] w fun e w' => ∃ q u, e = .returned (.pointer (some ⟨q, 0, none⟩)) ∧ Held w0 w' (sumsR q u bs :: sumsR p (.slice A bs.length c) bs :: L) := by
  refine calls_fr Try.func38 rfl 17 rfl (fun a0 hsz hdf hAr => ?_)
  have hz0 : a0.tmps.size = 17 := hsz
  have D := hdf
  have o0 := hAr 0 _ rfl
  refine wp_seq (pcc_r0 hz0 (fun a1 hs1 o2 => ?_))
  have hz1 := hs1.size.trans hz0
  have o0 := hs1.keep 0 _ (by decide) o0
  have D := hs1.defers.trans D
  refine wp_seq (wp_seq (pcc_r1Y _ hz1 o0 (fun a2 hs2 o4 => ?_)))
  have hz2 := hs2.size.trans hz1
  have o0 := hs2.keep 0 _ (by decide) o0
  have o2 := hs2.keep 2 _ (by decide) o2
  have D := hs2.defers.trans D
  refine wp_cond_false (o4.eval (by rw [hz2]; decide)) (wp_skip ?_)
  simp only [Exit.then]
  refine wp_seq (pcc_r3 w0 p A c bs hb L hz2 o0 S (fun a3 vs gs w3 hs3 o2 S => ?_))
  have hz3 := hs3.size.trans hz2
  have o0 := hs3.keep 0 _ (by decide) o0
  have o4 := hs3.keep 4 _ (by decide) o4
  have D := hs3.defers.trans D
  refine wp_ret ?_
  exact bodyPost_ret (results_T1 (by rfl) (o2.eval (by rw [hz3]; decide))) D ⟨_, _, rfl, S.mkSums⟩
theorem pc_seqN (gS gN : Nat) (w : World) (w0 : World) (L : List Res) (hw : Held w0 w (blkR gN 3 #[.int .i64 4] :: blkR gS 47 #[.pointer none] :: L)) (n : Nat) :
    SeqW Try.prog n 48 #[.pointer (some ⟨gS, 0, none⟩), .pointer (some ⟨gN, 0, none⟩)] (pcE 0 []) (fun _ _ => True) (fun _ _ _ _ => False) (fun xs => xs = []) (fun _ => False) 0 w := by
  intro l J Jx W hk hJ hJx hY h0
  have HP := hw.kp hk
  refine callsIn_wide.2 ?_
  refine calls_fr Try.func48 rfl 44 rfl (fun a0 hsz hdf hAr => ?_)
  have hz0 : a0.tmps.size = 44 := hsz
  have D := hdf
  have o0 := hAr 0 _ rfl
  have o1 := hAr 1 _ rfl
  have o2 := hAr 2 _ rfl
  refine wp_seq (wp_seq (pca_r0N gS (HP.at_ (l1 := [_])) hz0 o1 (fun a1 w1 hs1 k1 o14 => ?_)))
  have hz1 := hs1.size.trans hz0
  have o0 := hs1.keep 0 _ (by decide) o0
  have o1 := hs1.keep 1 _ (by decide) o1
  have o2 := hs1.keep 2 _ (by decide) o2
  have D := hs1.defers.trans D
  refine wp_cond_true (o14.eval (by rw [hz1]; decide)) ?_
  refine wp_ret ?_
  simp only [Exit.then]
  exact ⟨D, _, results_N (by rfl), ⟨_, rfl⟩, .inl ⟨[], rfl, hJ _ _ _ h0 k1⟩⟩
set_option maxRecDepth 100000 in
set_option maxHeartbeats 4000000 in
theorem nothing_true (w : World) : Calls Try.prog 40 #[] w fun e w' => e = .returned (.bool true) ∧ Kp [] w w' := by
  refine calls_frM Try.func40 rfl 41 rfl (fun a0 hsz hdf hAr => ?_)
  have hz0 : a0.tmps.size = 41 := hsz
  have D := hdf
  refine wp_seq (pnt_r0 w [] (Held.start w) hz0 (fun a1 w1 hs1 h1 => ?_))
  have hz1 := hs1.size.trans hz0
  have D := hs1.defers.trans D
  obtain ⟨g0, o0, S⟩ := h1
  refine wp_seq (pnt_r1 hz1 (fun a2 hs2 o1 => ?_))
  have hz2 := hs2.size.trans hz1
  have o0 := hs2.keep 0 _ (by decide) o0
  have D := hs2.defers.trans D
  refine wp_seq (pnt_r2 w _ S hz2 o1 (fun a3 w3 hs3 h3 => ?_))
  have hz3 := hs3.size.trans hz2
  have o0 := hs3.keep 0 _ (by decide) o0
  have o1 := hs3.keep 1 _ (by decide) o1
  have D := hs3.defers.trans D
  obtain ⟨gS, gN, o2, S⟩ := h3
  refine wp_seq (wp_seq (pnt_r3 gS gN hz3 o2 (fun a4 hs4 o8 => ?_)))
  have hz4 := hs4.size.trans hz3
  have o0 := hs4.keep 0 _ (by decide) o0
  have o1 := hs4.keep 1 _ (by decide) o1
  have o2 := hs4.keep 2 _ (by decide) o2
  have D := hs4.defers.trans D
  refine wp_cond_false (o8.eval (by rw [hz4]; decide)) (wp_skip ?_)
  simp only [Exit.then]
  refine wp_seq (wp_seq (pnt_r5 _ hz4 o2 (fun a5 hs5 o9 => ?_)))
  have hz5 := hs5.size.trans hz4
  have o0 := hs5.keep 0 _ (by decide) o0
  have o1 := hs5.keep 1 _ (by decide) o1
  have o2 := hs5.keep 2 _ (by decide) o2
  have o8 := hs5.keep 8 _ (by decide) o8
  have D := hs5.defers.trans D
  have hwb := S.k.size
  have HC := Lib.hid (Cells.of S)
  refine wp_block ?_
  refine wp_range (n := 3) (ps := #[10, 11]) (gf := 48) (lb := #[.pointer (some ⟨gS, 0, none⟩), .pointer (some ⟨gN, 0, none⟩)]) (o9.eval (by rw [hz5]; decide)) (enters_of Try.func48 (by kernel_rfl) rfl) (pc_seqN gS gN w3 w _ S _) (fun _ => Stays.pure _ _) (fun _ => rfl)
    (fun _ W => Held w W [blkR gN 3 #[.int .i64 4], blkR gS 47 #[.pointer none], blkR g0 4 #[.bool false]]) (fun _ _ _ => False) ?hI ?hIx ?h0 (fun _ _ _ => False) ?hI' ?hprep (fun _ _ _ _ _ => False) ?hA ?assign ?body ?done ?stop
  case hI => exact fun pre => Held.stays hwb HC.out
  case hIx => exact fun c pre => Stays.pure _ _
  case h0 => exact S
  case hI' => exact fun _ _ => Stays.pure _ _
  case hprep => exact fun _ _ _ _ _ _ h _ => h
  case hA => exact fun _ _ _ => Stays.pure _ _
  case assign => exact fun _ _ _ h => h.elim
  case body => exact fun _ _ _ _ h => h.elim
  case stop => exact fun _ _ _ h => h.elim
  case done =>
    intro xs W _ S hD
    have hz6 : ({ a5 with defers := markOf w3.heap.size :: a5.defers } : Act).tmps.size = 41 := hz5
    simp only [Exit.inBlock, Exit.then]
    have S := S.withObj hwb hD (Cells.not HC.out S (Nat.le_refl _) hD rfl)
    refine wp_seq (pnt_r7 (range_nil W) hz6 o1 (fun a7 W7 hs7 o3 o4 k7 => ?_))
    have hz7 := hs7.size.trans hz6
    have S := (S.kp k7).pull 3 rfl
    refine wp_seq (pnt_r8 w g0 _ S hz7 (hs7.keep 0 _ (by decide) o0) (hs7.keep 1 _ (by decide) o1) o3 o4 (fun a8 W8 hs8 S => ?_))
    have hz8 := hs8.size.trans hz7
    have o0 := hs8.keep 0 _ (by decide) (hs7.keep 0 _ (by decide) o0)
    have hda : a8.defers = [markOf w3.heap.size] := hs8.defers.trans (hs7.defers.trans (by show markOf _ :: a5.defers = _; rw [D]))
    have hD8 : W8.heap[w3.heap.size]? = some (.deferred (some [])) := S.ok (objR w3.heap.size (.deferred (some []))) (by simp)
    have hg0 : g0 ≠ w3.heap.size := fun e => (List.pairwise_cons.1 S.apart).1 (objR w3.heap.size (.deferred (some []))) (by simp) g0 (by simp [blkR]) (by simp [objR, e])
    refine wp_ret ?_
    refine ret_marks [w3.heap.size] hda (by simp) (fun E hE => by simp at hE; subst hE; exact hD8) (fun V hk => ?_)
    have hbk2 := Blk.kp (S.at_ (l1 := [])) hk (by simpa using hg0)
    have h8 : a8.tmps[0]?.getD undef = .pointer (some ⟨g0, 0, none⟩) := by rw [← Array.getD_eq_getD_getElem?]; exact o0.eval (by rw [hz8]; decide)
    have hc5 : V.cell? ⟨g0, 0, none⟩ = some (.bool true) := hbk2.cell 0
    refine ⟨.bool true, ?_, rfl, S.k.trans hk (fun g hg => .inr (by simp at hg; subst hg; exact hwb))⟩
    simp [results, Try.f40, go_sem, h8, hc5]
end
/- CrcMasks, CrcCarries: the walks. -/
section
open Go.RowKit

end
/- CrcSums: the walk. -/
section
open Go.RowKit

end
/- CrcPatches: the walk. -/
section
open Go.RowKit

end
/- Crc: the plain mathematics: texts xored; four bytes. -/
section

end
/- CrcFour: the walk. -/
section
open Go.RowKit

theorem u8_x (a b : UInt8) : bits .xor .u8 (a.toNat : Int) (b.toNat : Int) = ((a ^^^ b).toNat : Int) := by
  have h1 := a.toNat_lt
  have h2 := b.toNat_lt
  rw [UInt8.toNat_xor]
  exact u8_xor_nat a.toNat b.toNat (by omega) (by omega)
theorem bv_set (l : List UInt8) (j : Nat) (x : UInt8) : (bv l).set j (.int .u8 (x.toNat : Int)) = bv (l.set j x) := by simp [bv, List.map_set]
end
/- Walks: four bytes solved, by the program and by the reference. -/
section
open Go.RowKit

end
/- Walks: four bytes solved by the reference. -/
section
open Go.RowKit

end
/- CrcSolves: the walk. -/
section
open Go.RowKit

end
/- CrcCuts: the walk. -/
section
open Go.RowKit

end
/- XInvG's rule, where a slot is read that the same region writes later (what waits for this step is not done yet); guards whose own operation was passed over. -/
section

section
variable {P : Program} {ops : Array Oper} {Q : Exit → Act → World → Prop}
end
end
end Go.Proofs.Ytgldgkdnnimglaa
