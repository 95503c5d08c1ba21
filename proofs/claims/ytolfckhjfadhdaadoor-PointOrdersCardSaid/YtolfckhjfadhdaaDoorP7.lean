/- Several texts in one: PtPuts, WireOpen, PtOpen. -/
import Derived.Test.YtolfckhjfadhdaaDoorP6
/- PointPuts: the walk of the law. -/
namespace Go.Proofs.YtolfckhjfadhdaaDoor
open Go.RowKit
theorem rdS_form {z : Int} {h : List UInt8} (h0 : 0 ≤ z) (h1 : z ≤ 9223372036854775807) : rdS (formL z h) = z := by
  have e : ((formL z h).drop 4).take 8 = be 8 (tou64 z) := by
    unfold formL headL ntry
    simp only [List.cons_append, List.drop_succ_cons, List.drop_zero, List.append_assoc]
    exact List.take_left' (be_length ..)
  unfold rdS
  rw [e, num_be_lt (k := 8) (tou64_lt z)]
  unfold tou64 wrap64
  omega
theorem rdH_form {z : Int} {h : List UInt8} (hh : h.length = 32) : rdH (formL z h) = h := by
  unfold rdH formL headL ntry
  rw [List.append_assoc, List.append_assoc, ← List.append_assoc [78, 84, 82, 89], List.drop_left' (by simp [be_length]), List.take_left' hh]
theorem RV_form {z : Int} {h : List UInt8} (h0 : 0 ≤ z) (h1 : z ≤ 9223372036854775807) (hh : h.length = 32) : RVs (formL z h) = (z, h) ∧ REs (formL z h) = 0 := by
  have hS := rdS_form (h := h) h0 h1
  have hH := rdH_form (z := z) hh
  have := RV_yes (bs := formL z h) ⟨formL_length hh, by rw [hS]; exact h0, by rw [hS, hH]⟩
  rwa [hS, hH] at this
section
variable {P : Program} {ops : Array Oper} {rest : List Oper} {o : Oper} {a : Act} {w w' : World} {Q : Exit → Act → World → Prop} {v : Value}
theorem wpList_runG (j d : Nat) (b : Bool) (hg : o.guard = some (j, b)) (hj : (ops[j]?).bind (·.dst) = some d) (hd : a.tmps[d]?.getD undef = .bool b) (hr : (execOp a.eval o).run P w = .ok (.value v) w') (h : wpList P ops Q rest (a.put o.dst v) w') : wpList P ops Q (o :: rest) a w :=
  wpList_met j d b hg hj hd fun K hK => by
    unfold Oper.wp
    rw [hr]
    exact hK _ _ h
theorem wpList_runF (hg : o.guard = none) (hr : (execOp a.eval o).run P w = .ok (.value v) w') (h : wpList P ops Q rest (a.put o.dst v) w') : wpList P ops Q (o :: rest) a w :=
  wpList_plain hg fun K hK => by
    unfold Oper.wp
    rw [hr]
    exact hK _ _ h
end
set_option maxRecDepth 100000 in
set_option maxHeartbeats 16000000 in
theorem pointputs_any (w : World) (z : Int) (hz : -9223372036854775808 ≤ z ∧ z ≤ 9223372036854775807) (hh : List UInt8) (hhl : hh.length = 32) (s : ByteArray) (hs : s.size ≤ 140737488351232) (L : LD w) : Calls Tryd.prog 6 #[.agg (ptA z hh), .string s] w fun e w' => e = .returned (.bool true) ∧ Kp [] w w' := by
  have HL := Lib.hid L
  have HH := Lib.hid hhl
  obtain ⟨i0, hi, hz0, hz1, hz2⟩ := info_parts Tryd.infoU8
  have HPsz := Lib.hid (ptA_size (s := z) hhl)
  have HPO := Lib.hid (ptA_one z hh)
  have HHsz : Hid ((hashA hh).size = 32) := Lib.hid (by rw [hashA_size, hhl])
  have HHO := Lib.hid (hashA_one hh)
  have HB1 := Lib.hid (fun V => pbytes_any z hh hhl V)
  have HB2 := Lib.hid (fun V => rbytes_any z hz hh hhl V)
  have HT1 := Lib.hid (fun V (l : LD V) => ptext_any z hz hh hhl V l)
  have HT2 := Lib.hid (fun V => rtext_any z hz hh hhl V)
  have HHx := Lib.hid (fun V => hex_any hh hhl V)
  have HHr := Lib.hid (fun V => rhex_any hh hhl V)
  unfold BytesPost at HB1 HB2
  unfold TextPost at HT1 HT2
  have hfl := ptB_le (s := z) hhl
  have HFL : Hid (0 ≤ z → ptB z hh = formL z hh ∧ txE z = 0 ∧ txt z hh = told z.toNat hh) := Lib.hid (fun h0 => ⟨if_neg (by omega), if_neg (by omega), if_neg (by omega)⟩)
  have HE : Hid (txE z = 0 ∧ 0 ≤ z ∨ txE z = 2 ∧ z < 0) := Lib.hid ((Decidable.em (z < 0)).elim (fun h => .inr ⟨if_pos h, h⟩) (fun h => .inl ⟨if_neg h, by omega⟩))
  obtain ⟨fl, Hfl⟩ : ∃ fl, Hid (ptB z hh = fl) := ⟨_, Lib.hid rfl⟩
  obtain ⟨E, HEE⟩ : ∃ E, Hid (txE z = E) := ⟨_, Lib.hid rfl⟩
  obtain ⟨tx, Htx⟩ : ∃ tx, Hid (txt z hh = tx) := ⟨_, Lib.hid rfl⟩
  obtain ⟨hs, Hhs⟩ : ∃ hs, Hid (hexS hh = hs) := ⟨_, Lib.hid rfl⟩
  rw [Hfl.out] at HB1 HB2 HFL hfl
  rw [HEE.out] at HB1 HB2 HT1 HT2 HFL HE
  rw [Htx.out] at HT1 HT2 HFL
  have HUX := Lib.hid (fun V => unhex_any ⟨(hexS hh).toArray⟩ V)
  unfold UnhexPost at HUX
  simp only [UH_hexS hhl] at HUX
  rw [Hhs.out] at HHx HHr HUX
  have S0 := Lib.hid ((Held.start w).newBlk 25 (ptA z hh))
  obtain ⟨cs, HC⟩ : ∃ cs, Hid (ptA z hh = cs) := ⟨_, Lib.hid rfl⟩
  have hcs := HC.out
  rw [hcs] at HPsz HPO HB1 HB2 HT1 HT2 S0 ⊢
  clear L hhl
  go_enter Tryd.func6, Tryd.ntmps6
  go_wp2_with (refine wpList_load_blk rfl 25 (.tmp 2) rfl w.heap.size rfl 25 _ (S0.out.at_ (l1 := [])) _ Tryd.underlying25 rfl (by rw [HPsz.out]; exact Tryd.infoPointP) ?_)
  generalize hW1 : w.alloc (.cells cs 25) = w1 at *
  generalize hg1 : w.heap.size = g2 at *
  refine (HB1.out w1).mono ?_
  rintro e w2 ⟨v1, rfl, o2, k2, f2⟩
  have S1 := Lib.hid (S0.out.rownew o2 k2 f2)
  obtain ⟨A1, c1, rfl, _, _⟩ := ow_form o2
  clear o2 k2 f2 S0
  go_wp2_with (refine wpList_load_blk rfl 25 (.tmp 2) rfl g2 rfl 25 _ (S1.out.at_ (l1 := [_])) _ Tryd.underlying25 rfl (by rw [HPsz.out]; exact Tryd.infoPointP) ?_)
  refine (HB1.out w2).mono ?_
  rintro e w3 ⟨v2, rfl, o3, k3, f3⟩
  have S2 := Lib.hid (S1.out.rownew o3 k3 f3)
  obtain ⟨A2, c2, rfl, _, _⟩ := ow_form o3
  clear o3 k3 f3 S1
  go_wp2_with (refine wpList_load_blk rfl 25 (.tmp 2) rfl g2 rfl 25 _ (S2.out.at_ (l1 := [_, _])) _ Tryd.underlying25 rfl (by rw [HPsz.out]; exact Tryd.infoPointP) ?_)
  refine (HT1.out w3 (HL.out.kp S2.out.k)).mono ?_
  rintro e w4 ⟨rfl, k4⟩
  have S3 := Lib.hid (S2.out.kp k4)
  clear k4 S2
  go_wp2_with (refine wpList_load_blk rfl 25 (.tmp 2) rfl g2 rfl 25 _ (S3.out.at_ (l1 := [_, _])) _ Tryd.underlying25 rfl (by rw [HPsz.out]; exact Tryd.infoPointP) ?_)
  refine (HB2.out w4).mono ?_
  rintro e w5 ⟨v3, rfl, o5, k5, f5⟩
  have S4 := Lib.hid (S3.out.rownew o5 k5 f5)
  obtain ⟨A3, c3, rfl, _, _⟩ := ow_form o5
  clear o5 k5 f5 S3
  go_wp2_with (refine wpList_load_blk rfl 25 (.tmp 2) rfl g2 rfl 25 _ (S4.out.at_ (l1 := [_, _, _])) _ Tryd.underlying25 rfl (by rw [HPsz.out]; exact Tryd.infoPointP) ?_)
  refine (HT2.out w5).mono ?_
  rintro e w6 ⟨rfl, k6⟩
  have S5 := Lib.hid (S4.out.kp k6)
  clear k6 S4
  rw [← HC.out] at S5
  go_wp2_with fail
  -- SEP pputs6
  refine wp_region_invG (fun i v W => match i with | 0 => v = .int .i64 E | 1 => v = .int .i64 E | 2 => v = .int .i64 E | 3 => v = .bool false | 4 => v = .bool false | 5 => v = .int .i64 E | 6 => v = .int .i64 E | 7 => v = .int .i64 E | 8 => v = .bool false | 9 => v = .bool false | 10 => v = .bool false | 11 => v = .slice A1 fl.length c1 | 12 => v = .slice A3 fl.length c3 | 13 => v = .bool true | 14 => v = .bool false | 15 => v = .bool false | 16 => v = .bool false | 17 => v = .string ⟨tx.toArray⟩ | 18 => v = .string ⟨tx.toArray⟩ | 19 => v = .bool false | 20 => v = .bool false | 21 => v = .bool false | 22 => v = .pointer (some ⟨g2, 1, none⟩) | 23 => v = .agg (hashA hh) | 24 => v = .string ⟨hs.toArray⟩ | 25 => v = .pointer (some ⟨g2, 1, none⟩) | 26 => v = .agg (hashA hh) | 27 => v = .string ⟨hs.toArray⟩ | 28 => v = .bool false | 29 => v = .bool false | _ => True) (by kernel_rfl) (by kernel_rfl) (by kernel_rfl) ?_ ?_ ?_
  · intro i v W W' h _
    iterate 30 (rcases i with _ | i; · exact h)
    exact h
  · refine ⟨?_, ?_, ?_, ?_, ?_, ?_, ?_, ?_, ?_, ?_, ?_, ?_, ?_, ?_, ?_, ?_, ?_, ?_, ?_, ?_, ?_, ?_, ?_, ?_, ?_, ?_, ?_, ?_, ?_, ?_, trivial⟩
    · intro vs A' W hA hW hd K hK
      refine wpOp_free _ rfl rfl ?_
      have e6 : A'.tmps[6]?.getD undef = .int .i64 E := slot_is hA (by kernel_rfl) (Nat.le_of_ble_eq_true (by kernel_rfl)) (by kernel_rfl)
      go_step
      exact hK _ _ (Kp.refl _ _) rfl
    · intro vs A' W hA hW hd K hK
      refine wpOp_free _ rfl rfl ?_
      have f0 : vs 0 = .int .i64 E := hd 0 (by kernel_rfl)
      have e49 : A'.tmps[49]?.getD undef = vs 0 := slot_is hA (by kernel_rfl) (Nat.le_of_ble_eq_true (by kernel_rfl)) (by kernel_rfl)
      rw [f0] at e49
      go_step
      refine (num19_any _ _).mono ?_
      rintro e w' ⟨rfl, rfl⟩
      exact hK _ _ (Kp.refl _ _) rfl
    · intro vs A' W hA hW hd K hK
      refine wpOp_free _ rfl rfl ?_
      have e12 : A'.tmps[12]?.getD undef = .int .i64 E := slot_is hA (by kernel_rfl) (Nat.le_of_ble_eq_true (by kernel_rfl)) (by kernel_rfl)
      go_step
      exact hK _ _ (Kp.refl _ _) rfl
    · intro vs A' W hA hW hd K hK
      refine wpOp_free _ rfl rfl ?_
      have f1 : vs 1 = .int .i64 E := hd 1 (by kernel_rfl)
      have e50 : A'.tmps[50]?.getD undef = vs 1 := slot_is hA (by kernel_rfl) (Nat.le_of_ble_eq_true (by kernel_rfl)) (by kernel_rfl)
      rw [f1] at e50
      have f2 : vs 2 = .int .i64 E := hd 2 (by kernel_rfl)
      have e51 : A'.tmps[51]?.getD undef = vs 2 := slot_is hA (by kernel_rfl) (Nat.le_of_ble_eq_true (by kernel_rfl)) (by kernel_rfl)
      rw [f2] at e51
      have q : (E != E) = false := bne_self_eq_false E
      go_step
      exact hK _ _ (Kp.refl _ _) rfl
    · intro vs A' W hA hW hd K hK
      refine wpOp_free _ rfl rfl ?_
      have f3 : vs 3 = .bool false := hd 3 (by kernel_rfl)
      have e52 : A'.tmps[52]?.getD undef = vs 3 := slot_is hA (by kernel_rfl) (Nat.le_of_ble_eq_true (by kernel_rfl)) (by kernel_rfl)
      rw [f3] at e52
      go_step
      exact hK _ _ (Kp.refl _ _) rfl
    · intro vs A' W hA hW hd K hK
      have f4 : vs 4 = .bool false := hd 4 (by kernel_rfl)
      have e53 : A'.tmps[53]?.getD undef = vs 4 := slot_is hA (by kernel_rfl) (Nat.le_of_ble_eq_true (by kernel_rfl)) (by kernel_rfl)
      rw [f4] at e53
      refine wpOp_go _ rfl 4 53 false rfl rfl e53 ?_
      have e10 : A'.tmps[10]?.getD undef = .int .i64 E := slot_is hA (by kernel_rfl) (Nat.le_of_ble_eq_true (by kernel_rfl)) (by kernel_rfl)
      go_step
      exact hK _ _ (Kp.refl _ _) rfl
    · intro vs A' W hA hW hd K hK
      have f4 : vs 4 = .bool false := hd 4 (by kernel_rfl)
      have e53 : A'.tmps[53]?.getD undef = vs 4 := slot_is hA (by kernel_rfl) (Nat.le_of_ble_eq_true (by kernel_rfl)) (by kernel_rfl)
      rw [f4] at e53
      refine wpOp_go _ rfl 4 53 false rfl rfl e53 ?_
      have f5 : vs 5 = .int .i64 E := hd 5 (by kernel_rfl)
      have e54 : A'.tmps[54]?.getD undef = vs 5 := slot_is hA (by kernel_rfl) (Nat.le_of_ble_eq_true (by kernel_rfl)) (by kernel_rfl)
      rw [f5] at e54
      go_step
      refine (num19_any _ _).mono ?_
      rintro e w' ⟨rfl, rfl⟩
      exact hK _ _ (Kp.refl _ _) rfl
    · intro vs A' W hA hW hd K hK
      have f4 : vs 4 = .bool false := hd 4 (by kernel_rfl)
      have e53 : A'.tmps[53]?.getD undef = vs 4 := slot_is hA (by kernel_rfl) (Nat.le_of_ble_eq_true (by kernel_rfl)) (by kernel_rfl)
      rw [f4] at e53
      refine wpOp_go _ rfl 4 53 false rfl rfl e53 ?_
      have e12 : A'.tmps[12]?.getD undef = .int .i64 E := slot_is hA (by kernel_rfl) (Nat.le_of_ble_eq_true (by kernel_rfl)) (by kernel_rfl)
      go_step
      exact hK _ _ (Kp.refl _ _) rfl
    · intro vs A' W hA hW hd K hK
      have f4 : vs 4 = .bool false := hd 4 (by kernel_rfl)
      have e53 : A'.tmps[53]?.getD undef = vs 4 := slot_is hA (by kernel_rfl) (Nat.le_of_ble_eq_true (by kernel_rfl)) (by kernel_rfl)
      rw [f4] at e53
      refine wpOp_go _ rfl 4 53 false rfl rfl e53 ?_
      have f6 : vs 6 = .int .i64 E := hd 6 (by kernel_rfl)
      have e55 : A'.tmps[55]?.getD undef = vs 6 := slot_is hA (by kernel_rfl) (Nat.le_of_ble_eq_true (by kernel_rfl)) (by kernel_rfl)
      rw [f6] at e55
      have f7 : vs 7 = .int .i64 E := hd 7 (by kernel_rfl)
      have e56 : A'.tmps[56]?.getD undef = vs 7 := slot_is hA (by kernel_rfl) (Nat.le_of_ble_eq_true (by kernel_rfl)) (by kernel_rfl)
      rw [f7] at e56
      have q : (E != E) = false := bne_self_eq_false E
      go_step
      exact hK _ _ (Kp.refl _ _) rfl
    · intro vs A' W hA hW hd K hK
      refine wpOp_free _ rfl rfl ?_
      have f4 : vs 4 = .bool false := hd 4 (by kernel_rfl)
      have e53 : A'.tmps[53]?.getD undef = vs 4 := slot_is hA (by kernel_rfl) (Nat.le_of_ble_eq_true (by kernel_rfl)) (by kernel_rfl)
      rw [f4] at e53
      have f8 : vs 8 = .bool false := hd 8 (by kernel_rfl)
      have e57 : A'.tmps[57]?.getD undef = vs 8 := slot_is hA (by kernel_rfl) (Nat.le_of_ble_eq_true (by kernel_rfl)) (by kernel_rfl)
      rw [f8] at e57
      go_step
      exact hK _ _ (Kp.refl _ _) rfl
    · intro vs A' W hA hW hd K hK
      refine wpOp_free _ rfl rfl ?_
      have f9 : vs 9 = .bool false := hd 9 (by kernel_rfl)
      have e58 : A'.tmps[58]?.getD undef = vs 9 := slot_is hA (by kernel_rfl) (Nat.le_of_ble_eq_true (by kernel_rfl)) (by kernel_rfl)
      rw [f9] at e58
      go_step
      exact hK _ _ (Kp.refl _ _) rfl
    · intro vs A' W hA hW hd K hK
      have f10 : vs 10 = .bool false := hd 10 (by kernel_rfl)
      have e59 : A'.tmps[59]?.getD undef = vs 10 := slot_is hA (by kernel_rfl) (Nat.le_of_ble_eq_true (by kernel_rfl)) (by kernel_rfl)
      rw [f10] at e59
      refine wpOp_go _ rfl 10 59 false rfl rfl e59 ?_
      have e5 : A'.tmps[5]?.getD undef = .slice A1 fl.length c1 := slot_is hA (by kernel_rfl) (Nat.le_of_ble_eq_true (by kernel_rfl)) (by kernel_rfl)
      go_step
      exact hK _ _ (Kp.refl _ _) rfl
    · intro vs A' W hA hW hd K hK
      have f10 : vs 10 = .bool false := hd 10 (by kernel_rfl)
      have e59 : A'.tmps[59]?.getD undef = vs 10 := slot_is hA (by kernel_rfl) (Nat.le_of_ble_eq_true (by kernel_rfl)) (by kernel_rfl)
      rw [f10] at e59
      refine wpOp_go _ rfl 10 59 false rfl rfl e59 ?_
      have e11 : A'.tmps[11]?.getD undef = .slice A3 fl.length c3 := slot_is hA (by kernel_rfl) (Nat.le_of_ble_eq_true (by kernel_rfl)) (by kernel_rfl)
      go_step
      exact hK _ _ (Kp.refl _ _) rfl
    · intro vs A' W hA hW hd K hK
      have f10 : vs 10 = .bool false := hd 10 (by kernel_rfl)
      have e59 : A'.tmps[59]?.getD undef = vs 10 := slot_is hA (by kernel_rfl) (Nat.le_of_ble_eq_true (by kernel_rfl)) (by kernel_rfl)
      rw [f10] at e59
      refine wpOp_go _ rfl 10 59 false rfl rfl e59 ?_
      have f11 : vs 11 = .slice A1 fl.length c1 := hd 11 (by kernel_rfl)
      have e60 : A'.tmps[60]?.getD undef = vs 11 := slot_is hA (by kernel_rfl) (Nat.le_of_ble_eq_true (by kernel_rfl)) (by kernel_rfl)
      rw [f11] at e60
      have f12 : vs 12 = .slice A3 fl.length c3 := hd 12 (by kernel_rfl)
      have e61 : A'.tmps[61]?.getD undef = vs 12 := slot_is hA (by kernel_rfl) (Nat.le_of_ble_eq_true (by kernel_rfl)) (by kernel_rfl)
      rw [f12] at e61
      go_step
      refine (same_true _ _ fl fl.length fl.length W (Rd.of_own (ow_kp (S5.out.at_ (l1 := [_, _])) ((Kp.refl [] _).drew.trans hW (by simp)) (by simp))) (Rd.of_own (ow_kp (S5.out.at_ (l1 := [])) ((Kp.refl [] _).drew.trans hW (by simp)) (by simp)))).mono ?_
      rintro e w' ⟨rfl, rfl⟩
      exact hK _ _ (Kp.refl _ _) rfl
    · intro vs A' W hA hW hd K hK
      have f10 : vs 10 = .bool false := hd 10 (by kernel_rfl)
      have e59 : A'.tmps[59]?.getD undef = vs 10 := slot_is hA (by kernel_rfl) (Nat.le_of_ble_eq_true (by kernel_rfl)) (by kernel_rfl)
      rw [f10] at e59
      refine wpOp_go _ rfl 10 59 false rfl rfl e59 ?_
      have f13 : vs 13 = .bool true := hd 13 (by kernel_rfl)
      have e62 : A'.tmps[62]?.getD undef = vs 13 := slot_is hA (by kernel_rfl) (Nat.le_of_ble_eq_true (by kernel_rfl)) (by kernel_rfl)
      rw [f13] at e62
      go_step
      exact hK _ _ (Kp.refl _ _) rfl
    · intro vs A' W hA hW hd K hK
      refine wpOp_free _ rfl rfl ?_
      have f10 : vs 10 = .bool false := hd 10 (by kernel_rfl)
      have e59 : A'.tmps[59]?.getD undef = vs 10 := slot_is hA (by kernel_rfl) (Nat.le_of_ble_eq_true (by kernel_rfl)) (by kernel_rfl)
      rw [f10] at e59
      have f14 : vs 14 = .bool false := hd 14 (by kernel_rfl)
      have e63 : A'.tmps[63]?.getD undef = vs 14 := slot_is hA (by kernel_rfl) (Nat.le_of_ble_eq_true (by kernel_rfl)) (by kernel_rfl)
      rw [f14] at e63
      go_step
      exact hK _ _ (Kp.refl _ _) rfl
    · intro vs A' W hA hW hd K hK
      refine wpOp_free _ rfl rfl ?_
      have f15 : vs 15 = .bool false := hd 15 (by kernel_rfl)
      have e64 : A'.tmps[64]?.getD undef = vs 15 := slot_is hA (by kernel_rfl) (Nat.le_of_ble_eq_true (by kernel_rfl)) (by kernel_rfl)
      rw [f15] at e64
      go_step
      exact hK _ _ (Kp.refl _ _) rfl
    · intro vs A' W hA hW hd K hK
      have f16 : vs 16 = .bool false := hd 16 (by kernel_rfl)
      have e65 : A'.tmps[65]?.getD undef = vs 16 := slot_is hA (by kernel_rfl) (Nat.le_of_ble_eq_true (by kernel_rfl)) (by kernel_rfl)
      rw [f16] at e65
      refine wpOp_go _ rfl 16 65 false rfl rfl e65 ?_
      have e9 : A'.tmps[9]?.getD undef = .string ⟨tx.toArray⟩ := slot_is hA (by kernel_rfl) (Nat.le_of_ble_eq_true (by kernel_rfl)) (by kernel_rfl)
      go_step
      exact hK _ _ (Kp.refl _ _) rfl
    · intro vs A' W hA hW hd K hK
      have f16 : vs 16 = .bool false := hd 16 (by kernel_rfl)
      have e65 : A'.tmps[65]?.getD undef = vs 16 := slot_is hA (by kernel_rfl) (Nat.le_of_ble_eq_true (by kernel_rfl)) (by kernel_rfl)
      rw [f16] at e65
      refine wpOp_go _ rfl 16 65 false rfl rfl e65 ?_
      have e13 : A'.tmps[13]?.getD undef = .string ⟨tx.toArray⟩ := slot_is hA (by kernel_rfl) (Nat.le_of_ble_eq_true (by kernel_rfl)) (by kernel_rfl)
      go_step
      exact hK _ _ (Kp.refl _ _) rfl
    · intro vs A' W hA hW hd K hK
      have f16 : vs 16 = .bool false := hd 16 (by kernel_rfl)
      have e65 : A'.tmps[65]?.getD undef = vs 16 := slot_is hA (by kernel_rfl) (Nat.le_of_ble_eq_true (by kernel_rfl)) (by kernel_rfl)
      rw [f16] at e65
      refine wpOp_go _ rfl 16 65 false rfl rfl e65 ?_
      have f17 : vs 17 = .string ⟨tx.toArray⟩ := hd 17 (by kernel_rfl)
      have e66 : A'.tmps[66]?.getD undef = vs 17 := slot_is hA (by kernel_rfl) (Nat.le_of_ble_eq_true (by kernel_rfl)) (by kernel_rfl)
      rw [f17] at e66
      have f18 : vs 18 = .string ⟨tx.toArray⟩ := hd 18 (by kernel_rfl)
      have e67 : A'.tmps[67]?.getD undef = vs 18 := slot_is hA (by kernel_rfl) (Nat.le_of_ble_eq_true (by kernel_rfl)) (by kernel_rfl)
      rw [f18] at e67
      have q : (tx == tx) = true := beq_self_eq_true tx
      go_step
      exact hK _ _ (Kp.refl _ _) rfl
    · intro vs A' W hA hW hd K hK
      refine wpOp_free _ rfl rfl ?_
      have f16 : vs 16 = .bool false := hd 16 (by kernel_rfl)
      have e65 : A'.tmps[65]?.getD undef = vs 16 := slot_is hA (by kernel_rfl) (Nat.le_of_ble_eq_true (by kernel_rfl)) (by kernel_rfl)
      rw [f16] at e65
      have f19 : vs 19 = .bool false := hd 19 (by kernel_rfl)
      have e68 : A'.tmps[68]?.getD undef = vs 19 := slot_is hA (by kernel_rfl) (Nat.le_of_ble_eq_true (by kernel_rfl)) (by kernel_rfl)
      rw [f19] at e68
      go_step
      exact hK _ _ (Kp.refl _ _) rfl
    · intro vs A' W hA hW hd K hK
      refine wpOp_free _ rfl rfl ?_
      have f20 : vs 20 = .bool false := hd 20 (by kernel_rfl)
      have e69 : A'.tmps[69]?.getD undef = vs 20 := slot_is hA (by kernel_rfl) (Nat.le_of_ble_eq_true (by kernel_rfl)) (by kernel_rfl)
      rw [f20] at e69
      go_step
      exact hK _ _ (Kp.refl _ _) rfl
    · intro vs A' W hA hW hd K hK
      have f21 : vs 21 = .bool false := hd 21 (by kernel_rfl)
      have e70 : A'.tmps[70]?.getD undef = vs 21 := slot_is hA (by kernel_rfl) (Nat.le_of_ble_eq_true (by kernel_rfl)) (by kernel_rfl)
      rw [f21] at e70
      refine wpOp_go _ rfl 21 70 false rfl rfl e70 ?_
      have e2 : A'.tmps[2]?.getD undef = .pointer (some ⟨g2, 0, none⟩) := slot_is hA (by kernel_rfl) (Nat.le_of_ble_eq_true (by kernel_rfl)) (by kernel_rfl)
      go_step
      exact hK _ _ (Kp.refl _ _) rfl
    · intro vs A' W hA hW hd K hK
      have f21 : vs 21 = .bool false := hd 21 (by kernel_rfl)
      have e70 : A'.tmps[70]?.getD undef = vs 21 := slot_is hA (by kernel_rfl) (Nat.le_of_ble_eq_true (by kernel_rfl)) (by kernel_rfl)
      rw [f21] at e70
      refine wpOp_go _ rfl 21 70 false rfl rfl e70 ?_
      have f22 : vs 22 = .pointer (some ⟨g2, 1, none⟩) := hd 22 (by kernel_rfl)
      have e71 : A'.tmps[71]?.getD undef = vs 22 := slot_is hA (by kernel_rfl) (Nat.le_of_ble_eq_true (by kernel_rfl)) (by kernel_rfl)
      rw [f22] at e71
      refine op_runs (v := .agg (hashA hh)) (w' := W) (exec_load rfl (by simpa [Act.eval] using e71) (run_pt_root (Blk.kp (S5.out.at_ (l1 := [_, _, _])).drew hW (by simp)) HH.out)) ?_
      exact hK _ _ (Kp.refl _ _) rfl
    · intro vs A' W hA hW hd K hK
      have f21 : vs 21 = .bool false := hd 21 (by kernel_rfl)
      have e70 : A'.tmps[70]?.getD undef = vs 21 := slot_is hA (by kernel_rfl) (Nat.le_of_ble_eq_true (by kernel_rfl)) (by kernel_rfl)
      rw [f21] at e70
      refine wpOp_go _ rfl 21 70 false rfl rfl e70 ?_
      have f23 : vs 23 = .agg (hashA hh) := hd 23 (by kernel_rfl)
      have e72 : A'.tmps[72]?.getD undef = vs 23 := slot_is hA (by kernel_rfl) (Nat.le_of_ble_eq_true (by kernel_rfl)) (by kernel_rfl)
      rw [f23] at e72
      go_step
      refine (HHx.out W).mono ?_
      rintro e W' ⟨rfl, k'⟩
      exact hK _ _ k' rfl
    · intro vs A' W hA hW hd K hK
      have f21 : vs 21 = .bool false := hd 21 (by kernel_rfl)
      have e70 : A'.tmps[70]?.getD undef = vs 21 := slot_is hA (by kernel_rfl) (Nat.le_of_ble_eq_true (by kernel_rfl)) (by kernel_rfl)
      rw [f21] at e70
      refine wpOp_go _ rfl 21 70 false rfl rfl e70 ?_
      have e2 : A'.tmps[2]?.getD undef = .pointer (some ⟨g2, 0, none⟩) := slot_is hA (by kernel_rfl) (Nat.le_of_ble_eq_true (by kernel_rfl)) (by kernel_rfl)
      go_step
      exact hK _ _ (Kp.refl _ _) rfl
    · intro vs A' W hA hW hd K hK
      have f21 : vs 21 = .bool false := hd 21 (by kernel_rfl)
      have e70 : A'.tmps[70]?.getD undef = vs 21 := slot_is hA (by kernel_rfl) (Nat.le_of_ble_eq_true (by kernel_rfl)) (by kernel_rfl)
      rw [f21] at e70
      refine wpOp_go _ rfl 21 70 false rfl rfl e70 ?_
      have f25 : vs 25 = .pointer (some ⟨g2, 1, none⟩) := hd 25 (by kernel_rfl)
      have e74 : A'.tmps[74]?.getD undef = vs 25 := slot_is hA (by kernel_rfl) (Nat.le_of_ble_eq_true (by kernel_rfl)) (by kernel_rfl)
      rw [f25] at e74
      refine op_runs (v := .agg (hashA hh)) (w' := W) (exec_load rfl (by simpa [Act.eval] using e74) (run_pt_root (Blk.kp (S5.out.at_ (l1 := [_, _, _])).drew hW (by simp)) HH.out)) ?_
      exact hK _ _ (Kp.refl _ _) rfl
    · intro vs A' W hA hW hd K hK
      have f21 : vs 21 = .bool false := hd 21 (by kernel_rfl)
      have e70 : A'.tmps[70]?.getD undef = vs 21 := slot_is hA (by kernel_rfl) (Nat.le_of_ble_eq_true (by kernel_rfl)) (by kernel_rfl)
      rw [f21] at e70
      refine wpOp_go _ rfl 21 70 false rfl rfl e70 ?_
      have f26 : vs 26 = .agg (hashA hh) := hd 26 (by kernel_rfl)
      have e75 : A'.tmps[75]?.getD undef = vs 26 := slot_is hA (by kernel_rfl) (Nat.le_of_ble_eq_true (by kernel_rfl)) (by kernel_rfl)
      rw [f26] at e75
      go_step
      refine (HHr.out W).mono ?_
      rintro e W' ⟨rfl, k'⟩
      exact hK _ _ k' rfl
    · intro vs A' W hA hW hd K hK
      have f21 : vs 21 = .bool false := hd 21 (by kernel_rfl)
      have e70 : A'.tmps[70]?.getD undef = vs 21 := slot_is hA (by kernel_rfl) (Nat.le_of_ble_eq_true (by kernel_rfl)) (by kernel_rfl)
      rw [f21] at e70
      refine wpOp_go _ rfl 21 70 false rfl rfl e70 ?_
      have f24 : vs 24 = .string ⟨hs.toArray⟩ := hd 24 (by kernel_rfl)
      have e73 : A'.tmps[73]?.getD undef = vs 24 := slot_is hA (by kernel_rfl) (Nat.le_of_ble_eq_true (by kernel_rfl)) (by kernel_rfl)
      rw [f24] at e73
      have f27 : vs 27 = .string ⟨hs.toArray⟩ := hd 27 (by kernel_rfl)
      have e76 : A'.tmps[76]?.getD undef = vs 27 := slot_is hA (by kernel_rfl) (Nat.le_of_ble_eq_true (by kernel_rfl)) (by kernel_rfl)
      rw [f27] at e76
      have q : (hs == hs) = true := beq_self_eq_true hs
      go_step
      exact hK _ _ (Kp.refl _ _) rfl
    · intro vs A' W hA hW hd K hK
      refine wpOp_free _ rfl rfl ?_
      have f21 : vs 21 = .bool false := hd 21 (by kernel_rfl)
      have e70 : A'.tmps[70]?.getD undef = vs 21 := slot_is hA (by kernel_rfl) (Nat.le_of_ble_eq_true (by kernel_rfl)) (by kernel_rfl)
      rw [f21] at e70
      have f28 : vs 28 = .bool false := hd 28 (by kernel_rfl)
      have e77 : A'.tmps[77]?.getD undef = vs 28 := slot_is hA (by kernel_rfl) (Nat.le_of_ble_eq_true (by kernel_rfl)) (by kernel_rfl)
      rw [f28] at e77
      go_step
      exact hK _ _ (Kp.refl _ _) rfl
  · intro vs W hW hp
    have p29 : vs 29 = .bool false := hp 29 (Nat.le_of_ble_eq_true rfl)
    clear hp
    have S6 := Lib.hid (S5.out.kp ((Kp.refl [] _).drew.trans hW (by simp)))
    simp only [putAll, p29, Act.put, List.setIfInBounds_toArray, List.set_cons_succ, List.set_cons_zero]
    clear p29 hW S5
  -- END pputs6
    go_wp2
    go_loopw [15] (fun j wi => ∃ q : Nat, q ≤ fl.length ∧ j = .int .i64 q ∧ Held w wi (rowR 5 1 (.slice A3 fl.length c3) fl.length (bv fl) :: rowR 5 1 (.slice A2 fl.length c2) fl.length (bv fl) :: rowR 5 1 (.slice A1 fl.length c1) fl.length (List.replicate q (.int .u8 99) ++ (bv fl).drop q) :: [blkR g2 25 (ptA z hh)])) (fun j _ => fl.length - (intOf j).toNat)
    case atStart => exact ⟨0, by omega, rfl, S6.out⟩
    case round =>
      clear S6
      obtain ⟨q, hq, rfl, S⟩ := hrel
      have HS := Lib.hid S
      clear S
      by_cases hqt : q < fl.length
      · obtain ⟨gb, cb', hv, _, _⟩ := ow_some (HS.out.at_ (l1 := [_, _])) (by omega)
        injection hv with hA1 hn1 hc1
        subst hA1
        clear hn1 hc1
        have hrow := HS.out.at_ (l1 := [_, _])
        have hc0 := hrow.cellAt q (by omega)
        rw [List.getElem?_append_right (by simp), List.length_replicate, Nat.sub_self, List.getElem?_drop, Nat.add_zero, List.getElem?_eq_getElem (by rw [bv_length]; exact hqt)] at hc0
        have hf0 := hrow.frozenAt q
        have hlw := ow_lt hrow (g := gb) rfl
        have S2 := Lib.hid (HS.out.rowset (l1 := [_, _]) ((hrow.stored (g := gb) q (.int .u8 99)).1) ((Kp.refl [gb] _).setCell (p := ⟨gb, q, none⟩) (.inl (by simp)) (.int .u8 99)))
        rw [paint_step (bv fl) (.int .u8 99) q (by rw [bv_length]; exact hqt)] at S2
        clear hrow
        go_wp2
        go_roundw
        case rel => exact ⟨q + 1, by omega, by go_num, S2.out⟩
        case measure => simp [intOf]; omega
      · obtain rfl : q = fl.length := by omega
        have S7 := Lib.hid HS.out
        clear HS
        go_wp2
        go_loopw [5, 16] (fun a i wr2 => ∃ (j : Nat) (xs : List Value), j ≤ 20 ∧ i = .int .i64 j ∧ Held w wr2 (rowR 5 1 (.slice A3 fl.length c3) fl.length (bv fl) :: rowR 5 1 (.slice A2 fl.length c2) fl.length (bv fl) :: rowR 5 1 a (fl.length + j) xs :: [blkR g2 25 (ptA z hh)])) (fun _ i _ => 20 - (intOf i).toNat)
        case atStart => exact ⟨0, _, by omega, rfl, S7.out⟩
        case round =>
          clear S7
          obtain ⟨j, xs, hj2, rfl, S⟩ := hrel
          obtain ⟨Aa2, ca2, rfl, _, _⟩ := ow_form (S.at_ (l1 := [_, _]))
          by_cases hlt2 : j < 20
          · have S8 := Lib.hid (S.alloc (.cells #[.int .u8 99] 5))
            clear S
            go_wp2_with (at_builtin; go_loud (refine wpList_app _ rfl (.tmp 92) (.tmp 93) _ rfl 5 i0 _ 1 1 Tryd.underlying45 hi hz0 hz1 hz2 rfl (by decide) (.slice Aa2 (fl.length + j) ca2) (fl.length + j) xs rfl (S8.out.at_ (l1 := [_, _])) (.slice (some ⟨wr.heap.size, 0, none⟩) 1 1) 1 [.int .u8 99] rfl (rd_new wr 5 _) (by simp [Value.oneCell']) (by unfold maxLen; omega) (by omega) ?_); intro v8 w8 o8 g8 h8; have S9 := Lib.hid (S8.out.grow (l1 := [_, _]) o8 g8 h8); clear o8 g8 h8)
            go_roundw
            case rel => exact ⟨v8, .int .i64 ((j : Int) + 1), _, _, _, _, _, _, _, ⟨j + 1, _, by omega, rfl, S9.out⟩, rfl⟩
            case measure => simp [intOf]; omega
          · obtain rfl : j = 20 := by omega
            have S9 := Lib.hid S
            clear S
            have h20 : ¬ ((fl.length : Int) + 20 < 20) := by omega
            go_wp2_with (refine wpList_runF rfl (exec_load rfl rfl (run_pt_root (S9.out.at_ (l1 := [_, _, _])) HH.out)) ?_)
            refine (HHx.out _).mono ?_
            rintro e w10 ⟨rfl, k10⟩
            have S10 := Lib.hid (S9.out.kp k10)
            clear k10 S9
            go_wp2_with fail
            refine (HUX.out w10).mono ?_
            rintro e w11 ⟨rfl, k11⟩
            have S11 := Lib.hid (S10.out.kp k11)
            clear k11 S10
            have hq1 := fun V => neq_hash V hh hh HH.out HH.out
            simp only [beq_self_eq_true, Bool.not_true] at hq1
            go_wp2_with (first
              | (refine wpList_store_blk rfl 23 (.tmp 17) (.tmp 100) rfl w11.heap.size rfl (hashA hh) rfl 23 _ (Blk.new w11 23 _) (by rw [HHsz.out]; exact Tryd.infoHashP) (by rw [HHsz.out]; rfl) HHO.out ?_; intro w12 b12 k12; have S12 := Lib.hid (Held.setBlk (l1 := []) (S11.out.newBlk 23 _) b12 k12); clear b12 k12)
              | (go_at_call 24; (with_reducible refine (same_true _ _ fl _ _ _ (Rd.of_own (S12.out.at_ (l1 := [_, _]))) (Rd.of_own (S12.out.at_ (l1 := [_])))).mono ?_); rintro e w' ⟨rfl, rfl⟩)
              | (refine wpList_load_blkG 9 111 false rfl rfl rfl 23 (.tmp 17) rfl w11.heap.size rfl 23 _ (S12.out.at_ (l1 := [])) _ Tryd.underlying23 rfl (by rw [HHsz.out]; exact Tryd.infoHashP) ?_)
              | (refine wpList_runG 9 111 false rfl rfl rfl (exec_load rfl rfl (run_pt_root (S12.out.at_ (l1 := [_, _, _, _])) HH.out)) ?_))
            · refine (known_any w12 (HL.out.kp S12.out.k)).mono ?_
              rintro e w13 ⟨rfl, k13⟩
              have K13 := Lib.hid (S12.out.k.trans k13 (by simp))
              clear k13
              go_wp2_with fail
              go_ret
              exact ⟨rfl, K13.out⟩
            · have hE : (E != 0) = false := by assumption
              have hz0 : 0 ≤ z := by
                have hE0 : E = 0 := by simpa using hE
                rcases HE.out with ⟨h, h2⟩ | ⟨h, h2⟩ <;> omega
              obtain ⟨n, rfl⟩ : ∃ n : Nat, z = n := ⟨z.toNat, by omega⟩
              obtain ⟨f1, f2, f3⟩ := HFL.out hz0
              rw [Int.toNat_natCast] at f3
              have HRV := Lib.hid (RV_form hz0 hz.2 HH.out)
              rw [← f1] at HRV
              have HR := Lib.hid (fun V y (r : Rd V 1 y fl.length (bv fl)) => ptread_any y fl (by omega) V r)
              unfold PtRdPost at HR
              rw [HRV.out.1, HRV.out.2] at HR
              simp only at HR
              rw [HC.out] at HR
              refine (HR.out w12 _ (Rd.of_own (S12.out.at_ (l1 := [_, _])))).mono ?_
              rintro e w13 ⟨rfl, k13⟩
              have S13 := Lib.hid (S12.out.kp k13)
              clear k13 HR
              have hadd := str_add tx s.data.toList
              have hse : (⟨s.data.toList.toArray⟩ : ByteArray) = s := by simp
              rw [hse] at hadd
              have htl : tx.length ≤ 92 := by rw [f3, told_length, hexS_length, HH.out]; have := dec_19 (n := n) (by omega); omega
              have hlen : ¬ (9223372036854775807 : Int) < (tx.length : Int) + s.size := by omega
              have hlz : (tx ++ s.data.toList).length ≤ 140737488355328 := by rw [List.length_append, ← Lib.size_eq]; omega
              have HPV := Lib.hid (PVs_some (PT_told (n := n) (h := hh) (by omega) HH.out s.data.toList))
              rw [← f3] at HPV
              have HPP := Lib.hid (fun V (l : LD V) => pparse_any ⟨(tx ++ s.data.toList).toArray⟩ (by rw [Lib.size_eq]; exact hlz) V l)
              unfold ParsePost at HPP
              rw [show (⟨(tx ++ s.data.toList).toArray⟩ : ByteArray).data.toList = tx ++ s.data.toList from rfl, HPV.out.1, HPV.out.2] at HPP
              simp only [hse] at HPP
              rw [HC.out] at HPP
              obtain ⟨bs, Hbs⟩ : ∃ bs, Hid (tx ++ s.data.toList = bs) := ⟨_, Lib.hid rfl⟩
              rw [Hbs.out] at hadd HPP
              clear htl hlz f1 f2 f3
              go_wp2_with (refine wpList_store_blk rfl 25 (.tmp 19) (.tmp 127) rfl w13.heap.size rfl cs rfl 25 _ (Blk.new w13 25 _) (by rw [HPsz.out]; exact Tryd.infoPointP) (by rw [HPsz.out]; rfl) HPO.out ?_; intro w14 b14 k14; have S14 := Lib.hid (Held.setBlk (l1 := []) (S13.out.newBlk 25 _) b14 k14); clear b14 k14)
              refine (HPP.out w14 (HL.out.kp S14.out.k)).mono ?_
              rintro e w15 ⟨rfl, k15⟩
              have S15 := Lib.hid (S14.out.kp k15)
              clear k15
              have hq2 := fun V => eql_pt V n n hh hh HH.out HH.out
              simp only [decide_true, beq_self_eq_true, Bool.and_self, HC.out] at hq2
              rw [HC.out] at S15
              have hss : (s == s) = true := by cases s; exact beq_self_eq_true (α := Array UInt8) _
              go_wp2_with (first
                | (refine wpList_store_blk rfl 25 (.tmp 21) (.tmp 134) rfl w15.heap.size rfl cs rfl 25 _ (Blk.new w15 25 _) (by rw [HPsz.out]; exact Tryd.infoPointP) (by rw [HPsz.out]; rfl) HPO.out ?_; intro w16 b16 k16; have S16 := Lib.hid (Held.setBlk (l1 := []) (S15.out.newBlk 25 _) b16 k16); clear b16 k16)
                | (go_at_call 13; refine (num19_any _ _).mono ?_; rintro e w' ⟨rfl, rfl⟩)
                | (refine wpList_load_blk rfl 25 (.tmp 19) rfl w13.heap.size rfl 25 _ (S16.out.at_ (l1 := [_])) _ Tryd.underlying25 rfl (by rw [HPsz.out]; exact Tryd.infoPointP) ?_)
                | (refine wpList_load_blk rfl 25 (.tmp 2) rfl g2 rfl 25 _ (S16.out.at_ (l1 := [_, _, _, _, _, _])) _ Tryd.underlying25 rfl (by rw [HPsz.out]; exact Tryd.infoPointP) ?_)
                | (refine wpList_load_blkG 8 145 true rfl rfl rfl 25 (.tmp 21) rfl w15.heap.size rfl 25 _ (S16.out.at_ (l1 := [])) _ Tryd.underlying25 rfl (by rw [HPsz.out]; exact Tryd.infoPointP) ?_)
                | (refine wpList_load_blkG 8 145 true rfl rfl rfl 25 (.tmp 2) rfl g2 rfl 25 _ (S16.out.at_ (l1 := [_, _, _, _, _, _])) _ Tryd.underlying25 rfl (by rw [HPsz.out]; exact Tryd.infoPointP) ?_))
              refine (known_any w16 (HL.out.kp S16.out.k)).mono ?_
              rintro e w17 ⟨rfl, k17⟩
              have K17 := Lib.hid (S16.out.k.trans k17 (by simp))
              clear k17
              go_wp2_with fail
              go_ret
              exact ⟨rfl, K17.out⟩
end Go.Proofs.YtolfckhjfadhdaaDoor
/- What comes in, opened: slices of Puts. -/
namespace Go.Proofs.YtolfckhjfadhdaaDoor
open Go.RowKit Go.WideShapes Go.ChangeShapes

section
variable {H : Type} {enc : TypeId × Value → H}
/-- An array of 32 bytes. -/
theorem open_hash {P : Program} {W : World} {n m : Nat} {t e : TypeId} {cs : List Value} {x : DataW H × List MemPlace} (ht : P.underlying t = some (.array m e)) (he : P.underlying e = some (.int .u8)) (hc : P.cellsOf e = 1) (hct : P.cellsOf t = m)
    (h : DataW.trod enc P W 0 (fun _ => true) true n t cs = some x) : ∃ h : List UInt8, h.length = m ∧ cs = bv h ∧ m + 1 ≤ Rows.uptoBulk x.1 := by
  obtain ⟨xs, k, rfl, rfl, hl, hxl, hel⟩ := DataW.trod_array ht h
  rw [hct] at hl
  have one : ∀ i, i < m → ∃ z : Int, cs[i]? = some (.int .u8 z) ∧ 0 ≤ z ∧ z ≤ 255 := fun i hi => by
    have h1 := hel i hi
    rw [hc, Nat.mul_one, cut_one] at h1
    have hx : xs[i]? = some xs[i] := List.getElem?_eq_getElem (by omega)
    rw [hx] at h1
    obtain ⟨z, hz, _, hw⟩ := DataW.trod_int he h1
    have hw := u8_lit hw
    cases hcs : cs[i]? with
    | none => rw [hcs] at hz; cases hz
    | some v => rw [hcs] at hz; cases hz; exact ⟨z, rfl, hw.1, hw.2⟩
  refine ⟨(List.range m).map fun i => (match (cs[i]? : Option Value) with | some (Value.int _ z) => UInt8.ofNat z.toNat | _ => 0), by simp, ?_, ?_⟩
  · apply List.ext_getElem?
    intro i
    rw [bv_get, List.getElem?_map]
    by_cases hi : i < m
    · obtain ⟨z, hz, h1, h2⟩ := one i hi
      rw [hz, List.getElem?_range hi]
      simp only [Option.map_some]
      rw [hz]
      simp only [UInt8.toNat_ofNat', Nat.mod_eq_of_lt (show z.toNat < 2 ^ 8 by omega)]
      congr 2
      omega
    · rw [List.getElem?_eq_none (by omega), List.getElem?_eq_none (by simp; omega)]
      rfl
  · simp only [Rows.uptoBulk]
    have := bulk_len (xs.map (·.1))
    rw [List.length_map, hxl] at this
    omega

theorem Tryd.cellsHash : Tryd.prog.cellsOf 23 = 32 := by kernel_rfl
theorem Tryd.cellsU64 : Tryd.prog.cellsOf 100 = 1 := by kernel_rfl
theorem enc_len (p : PutD) (h : p.h.length = 32) : p.enc.length ≤ p.b.length + 38 := by
  unfold PutD.enc
  repeat' split
  all_goals (try simp only [be_length, List.length_append, List.length_nil, h])
  all_goals omega

end
end Go.Proofs.YtolfckhjfadhdaaDoor
/- Points that came in, opened. -/
namespace Go.Proofs.YtolfckhjfadhdaaDoor
open Go.RowKit Go.WideShapes Go.ChangeShapes
section
variable {H : Type} {enc : TypeId × Value → H}
theorem Tryd.cellsPoint : Tryd.prog.cellsOf 25 = 33 := by kernel_rfl
theorem Tryd.cellsI64 : Tryd.prog.cellsOf 2 = 1 := by kernel_rfl
set_option maxRecDepth 100000 in
theorem open_pt {W : World} {n : Nat} {cs : List Value} {x : DataW H × List MemPlace} (h : DataW.trod enc Tryd.prog W 0 (fun _ => true) true n 25 cs = some x) :
    ∃ (z : Int) (hh : List UInt8), cs = (ptA z hh).toList ∧ (-9223372036854775808 ≤ z ∧ z ≤ 9223372036854775807) ∧ hh.length = 32 := by
  obtain ⟨xs, k, rfl, rfl, hl, hxl, hf⟩ := DataW.trod_struct Tryd.underlying25 h
  rw [Tryd.cellsPoint] at hl
  obtain ⟨x0, x1, rfl⟩ : ∃ x0 x1, xs = [x0, x1] := by
    match xs, hxl with
    | [x0, x1], _ => exact ⟨x0, x1, rfl⟩
  have f0 : DataW.trod enc Tryd.prog W 0 (fun _ => true) true k 2 ((cs.drop 0).take (Tryd.prog.cellsOf 2)) = some x0 := hf 0 _ rfl
  have f1 : DataW.trod enc Tryd.prog W 0 (fun _ => true) true k 23 ((cs.drop 1).take (Tryd.prog.cellsOf 23)) = some x1 := hf 1 _ rfl
  rw [Tryd.cellsI64] at f0
  rw [Tryd.cellsHash] at f1
  clear hf hxl
  obtain ⟨z, e0, _, w0⟩ := DataW.trod_int Tryd.underlying2 f0
  obtain ⟨hh, hhl, e1, _⟩ := open_hash Tryd.underlying23 Tryd.underlying5 Tryd.cellsU8 Tryd.cellsHash f1
  have w0 := i64_lit w0
  have g0 := at_of_cut (i := 0) e0
  refine ⟨z, hh, ?_, w0, hhl⟩
  obtain ⟨a, l, rfl⟩ := List.exists_cons_of_length_pos (l := cs) (by omega)
  rw [List.length_cons] at hl
  have g0 := Option.some.inj g0
  subst g0
  have : l = bv hh := by
    rw [← e1, List.drop_succ_cons, List.drop_zero, List.take_of_length_le (by omega)]
  rw [this]
  rfl
set_option maxRecDepth 100000 in
theorem open_pt_arg {W : World} {b0 : Nat} {v : Value} {d : DataW H} {pl : List MemPlace} (hv : Value.okWide Tryd.prog W .any b0 25 v) (h : DataW.Trod enc Tryd.prog W 0 (fun _ => true) true 25 v d pl) :
    ∃ (z : Int) (hh : List UInt8), v = .agg (ptA z hh) ∧ (-9223372036854775808 ≤ z ∧ z ≤ 9223372036854775807) ∧ hh.length = 32 := by
  obtain ⟨cs, rfl, hsz⟩ := okWide_struct Tryd.underlying25 hv
  obtain ⟨fuel, hf⟩ := h
  obtain ⟨z, hh, h1, h2, h3⟩ := open_pt hf
  refine ⟨z, hh, ?_, h2, h3⟩
  congr 1
  apply Array.ext'
  exact h1
end
end Go.Proofs.YtolfckhjfadhdaaDoor
