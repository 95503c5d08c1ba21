/- Several texts in one: PtL, WireBI, Guard, PtS, PtH, PtEq, PtP, PtReads, PtPuts, RecV, RecW, PtTurned, PtCmp, PtCmq, PtCmr, PtLast, SigM, SigA, SigB, SigC, SigD, RshA, ShaG, ShaH, RshB, RshC, SigE, SigF, SigG, SigH, SigI, SigJ, SigN, SigO, SigP. -/
import Derived.DeepKeys
import Derived.Laws.StructEq
import Derived.Lib.Bytealg
import Derived.BigQuiet
import Derived.Test.YtapboamjpilckaaDoorP3
set_option linter.unusedVariables false
set_option linter.unusedSimpArgs false
set_option maxRecDepth 100000
set_option maxHeartbeats 8000000
namespace Go.Proofs.YtapboamjpilckaaDoor
/- The reference's Form, Bytes. -/
section
open Go.RowKit
end
/- WireReads: the reference's Hash. -/
section
open Go.RowKit
end
/- Laws for operations whose guard says: go. -/
section
open Go.RowKit
section
variable {P : Program} {ops : Array Oper} {rest : List Oper} {o : Oper} {a : Act} {w : World} {Q : Exit → Act → World → Prop}
theorem wpList_met (j d : Nat) (b : Bool) (hg : o.guard = some (j, b)) (hj : (ops[j]?).bind (·.dst) = some d) (hd : a.tmps[d]?.getD undef = .bool b)
 (h : ∀ K : Act → World → Prop, (∀ a w, wpList P ops Q rest a w → K a w) → o.wp P a w K Q) : wpList P ops Q (o :: rest) a w :=
 wpList_step fun K hK => by
  rw [if_pos (by simp [Region.wanted, hg, yielded_of hj hd])]
  exact h K hK
theorem wpList_load_blkG (j d : Nat) (b : Bool) (hg : o.guard = some (j, b)) (hj : (ops[j]?).bind (·.dst) = some d) (hd : a.tmps[d]?.getD undef = .bool b)
 (ty : TypeId) (x : Operand) (ho : o.op = .load ty x) (g : Nat) (hx : a.eval x = .pointer (some ⟨g, 0, none⟩))
 (t : TypeId) (cs : Array Value) (hb : Blk w g t cs) (ds : TypeDesc) (hu : P.underlying ty = some ds) (hds : aggB ds = true) (hi : (P.info? ty).map (·.size) = some cs.size)
 (h : wpList P ops Q rest (a.put o.dst (.agg cs)) w) : wpList P ops Q (o :: rest) a w :=
 wpList_met j d b hg hj hd fun K hK => by
  unfold Oper.wp
  rw [exec_load ho hx (run_loadAt_agg w ⟨g, 0, none⟩ ty cs.toList ds hb.agg hu hds (by rw [hi, Array.length_toList]))]
  exact hK _ _ h
end
end
/- Read of the reference. -/
section
open Go.RowKit
end
/- Parse of point: the walk. -/
section
open Go.RowKit
theorem strs_snoc (L : List (List UInt8)) (l : List UInt8) : strs (L ++ [l]) = strs L ++ [.string ⟨l.toArray⟩] := by simp [strs]
theorem pparse_any (s : ByteArray) (hs : s.size ≤ 140737488355328) (w : World) (L : LP w) : Calls Tryd.prog 57 #[.string s] w (ParsePost s.data.toList w) := by
 have HL := Lib.hid L
 have HZ : Hid (zeroP.size = 33) := Lib.hid rfl
 have HZO := Lib.hid (ptA_one 0 (List.replicate 32 0))
 have HSz := Lib.hid (Lib.size_eq s)
 have S0 := Lib.hid (((Held.start w).newBlk 33 zeroP).rownew (ow_new _ 9 1 0 #[] rfl (by decide)) ((Kp.refl [] _).alloc _) (fun g hg => Nat.le_of_eq (Option.some.inj hg)))
 rw [World.size_alloc] at S0
 clear L
 go_enter Tryd.func57, Tryd.ntmps57
 go_wp2_with fail
 go_step3
 go_wp2_with fail
 go_step3
 go_wp2_with fail
 obtain ⟨g2, hg2⟩ : ∃ g2, w.heap.size = g2 := ⟨_, rfl⟩
 rw [hg2] at S0 ⊢
 clear hg2
 go_loopw [5, 6] (fun v rest wr => ∃ (k : Nat) (ls : List (List UInt8)) (A : Option Addr) (c : Nat) (r : ByteArray), k ≤ 2 ∧ v = .slice A k c ∧ rest = .string r ∧ Hid (lnK s.data.toList k = some (ls, r.data.toList) ∧ ls.length = k) ∧ r.size ≤ s.size ∧ Held w wr [rowR 9 1 (.slice A k c) k (strs ls), blkR g2 33 zeroP]) (fun v _ _ => match v with | .slice _ n _ => 3 - n | _ => 0)
 case atStart => exact ⟨0, [], _, _, s, by omega, rfl, rfl, Lib.hid ⟨rfl, rfl⟩, Nat.le_refl _, S0.out⟩
 case round =>
  clear S0
  obtain ⟨k, ls, A, c, r, hk, rfl, rfl, HK, hr, S⟩ := hrel
  have HS := Lib.hid S
  clear S
  go_wp2_with fail
  refine (cut1_any r (by omega) 10 _).mono ?_
  rintro e w1 ⟨rfl, k1⟩
  have S1 := Lib.hid (HS.out.kp k1)
  clear k1
  by_cases hm : (10 : UInt8) ∈ r.data.toList
  · have HC := Lib.hid (ct_yes hm)
    have HN := Lib.hid (lnK_go HK.out.1 hm)
    rw [HC.out] at HN ⊢
    obtain ⟨l, HLn⟩ : ∃ l, Hid (r.data.toList.take (r.data.toList.idxOf 10) = l) := ⟨_, Lib.hid rfl⟩
    obtain ⟨b, HB⟩ : ∃ b, Hid (r.data.toList.drop (r.data.toList.idxOf 10 + 1) = b) := ⟨_, Lib.hid rfl⟩
    have hbl : b.length ≤ r.size := by rw [← HB.out, List.length_drop, ← Lib.size_eq]; omega
    rw [HLn.out, HB.out] at HN ⊢
    simp only at HN ⊢
    clear hm HC
    have S2 := Lib.hid (S1.out.rownew (ow_new w1 9 1 1 #[.string ⟨l.toArray⟩] rfl (by decide)) ((Kp.refl [] w1).alloc _) (fun g hg => Nat.le_of_eq (Option.some.inj hg)))
    obtain ⟨i0, hi, hz0, hz1, hz2⟩ := info_parts Tryd.infoStr
    have HR := Lib.hid (Rd.of_own (S2.out.at_ (l1 := [])))
    by_cases h2 : k = 2
    · subst h2
      obtain ⟨l0, l1, rfl⟩ : ∃ l0 l1, ls = [l0, l1] := by
       match ls, HK.out.2 with
       | [a, b], _ => exact ⟨a, b, rfl⟩
      have HL3 : Hid (ln3 s.data.toList = some (l0, l1, l, b)) := Lib.hid (by rw [ln3_of, HN.out]; rfl)
      go_wp2_with (at_builtin; refine wpList_app _ rfl (.tmp 33) (.tmp 35) _ rfl 9 i0 _ 1 16 Tryd.underlying58 hi hz0 hz1 hz2 rfl (by decide) (.slice A 2 c) 2 (strs [l0, l1]) rfl (S2.out.at_ (l1 := [_])) (.slice (some ⟨w1.heap.size, 0, none⟩) 1 1) 1 [.string ⟨l.toArray⟩] rfl HR.out (by simp [Value.oneCell']) (by decide) (by decide) ?_; intro v' w' o' g' h'; have S3 := Lib.hid (S2.out.grow (l1 := [_]) o' g' h'); clear o' g' h'; obtain ⟨A3, c3, hv3, -, -⟩ := ow_form (S3.out.at_ (l1 := [_])); subst hv3; obtain ⟨g5, c5, hv5, -, -⟩ := ow_some (S3.out.at_ (l1 := [_])) (by decide); injection hv5 with hA5 hn5 hc5; subst hA5; clear hn5 hc5; have hlw := ow_lt (S3.out.at_ (l1 := [_])) (g := g5) rfl; have hl1 := (S3.out.at_ (l1 := [_])).cellAt 1 (by decide); have hl2 := (S3.out.at_ (l1 := [_])).cellAt 2 (by decide); simp only [strs, List.map_cons, List.map_nil, List.cons_append, List.nil_append, List.getElem?_cons_succ, List.getElem?_cons_zero] at hl1 hl2)
      obtain ⟨hform, -⟩ := ln3_form HL3.out
      have hlen := congrArg List.length hform
      rw [← HSz.out] at hlen
      simp only [List.length_append, List.length_cons] at hlen
      have Hform := Lib.hid hform
      clear hform
      have S4 := Lib.hid (S3.out.newBlk 33 zeroP)
      refine (pint_any ⟨l1.toArray⟩ (by rw [Lib.size_eq]; show l1.length ≤ _; omega) _ (HL.out.kp S4.out.k)).mono ?_
      rintro e w2 ⟨er, rfl, k2⟩
      have S5 := Lib.hid (S4.out.kp k2)
      have hc2 := (S5.out.at_ (l1 := [_, _])).cellAt (g := g5) 2 (by decide)
      simp only [strs, List.map_cons, List.map_nil, List.cons_append, List.nil_append, List.getElem?_cons_succ, List.getElem?_cons_zero] at hc2
      clear k2 hl1 hl2 hlw
      rw [show (⟨l1.toArray⟩ : ByteArray).data.toList = l1 from rfl]
      have hzb := pv_bounds l1
      have HD := Lib.hid (fun (n : Nat) (hn : n < 9223372036854775808) (e : l1 = dec n) => (by rw [e]; exact pv_dec hn : pv l1 = n))
      have HPT := Lib.hid (PT_by HL3.out (pv l1) hzb HD.out)
      obtain ⟨z, Hz⟩ : ∃ z, Hid (pv l1 = z) := ⟨_, Lib.hid rfl⟩
      rw [Hz.out] at hzb HPT ⊢
      have hz1' := hzb.1
      have hz2' := hzb.2
      have hulen := UH_len l
      have HUX := Lib.hid (fun V => unhex_any ⟨l.toArray⟩ V)
      unfold UnhexPost at HUX
      rw [show (⟨l.toArray⟩ : ByteArray).data.toList = l from rfl] at HUX
      obtain ⟨hh, Hhh⟩ : ∃ hh, Hid ((UH l).1 = hh) := ⟨_, Lib.hid rfl⟩
      rw [Hhh.out] at HUX hulen HPT
      have Hul := Lib.hid hulen
      have Hha : Hid ((hashA hh).size = 32) := Lib.hid (by rw [hashA_size, hulen])
      have Hho := Lib.hid (hashA_one hh)
      clear hulen HD
      go_wp2_with fail
      refine (HUX.out _).mono ?_
      rintro e w3 ⟨rfl, k3⟩
      have S6 := Lib.hid (S5.out.kp k3)
      clear k3 hc2 HUX
      generalize hg10 : w'.heap.size = g10 at *
      clear hg10
      go_wp2_with (refine wpList_store_blk rfl 25 (.tmp 13) (.tmp 55) rfl w3.heap.size rfl (hashA hh) rfl 25 _ (Blk.new w3 25 _) (by rw [Hha.out]; exact Tryd.infoHashP) (by rw [Hha.out]; rfl) Hho.out ?_; intro w4 b4 k4; have S7 := Lib.hid (Held.setBlk (l1 := []) (S6.out.newBlk 25 _) b4 k4); clear b4 k4)
      generalize hg13 : w3.heap.size = g13 at *
      clear hg13
      have S9 : Hid (Held w w4 [blkR g10 33 zeroP, blkR g13 25 (hashA hh), blkR g2 33 zeroP]) := Lib.hid ((S7.out.perm (List.Perm.swap _ _ _)).sub (.cons_cons _ (.cons_cons _ (.cons _ (.cons _ (List.Sublist.refl _))))))
      clear S1 S2 S3 S4 S5 S6 S7 HS
      refine wp_region_sep (Γ := Unit) 3 [0, 1, 2, 4, 5, 7, 8]
       (fun i vs gs => match i with | 0 => vs 0 = .int .i64 z | 1 => vs 1 = .agg (hashA hh) | 2 => vs 2 = .pointer (some ⟨g10, 0, none⟩) | 4 => vs 4 = .pointer (some ⟨g10, 1, none⟩) | _ => True)
       (fun i vs gs => match i with | 3 => [blkR g10 33 (ptA z (List.replicate 32 0))] | 5 => [blkR g10 33 (ptA z hh)] | 6 => [blkR g10 33 zeroP] | 7 => [blkR g13 25 (hashA hh)] | 8 => [blkR g2 33 zeroP] | _ => [])
       (fun i => match i with | 3 => [6] | 5 => [3] | _ => []) (fun i => match i with | 1 => [7] | _ => []) S9.out (by kernel_rfl) (by kernel_rfl) (by kernel_rfl) (by kernel_rfl) (fun i => match i with | 0 => [0] | 1 => [1] | 2 => [2] | 4 => [4] | _ => []) (by kernel_rfl) ?_ (by kernel_rfl) ?_ ?_ ?_
      · intro s vs vs' gs gs' h
        iterate 9 (rcases s with _ | s; · (first | exact ⟨rfl, id⟩ | (simp only [List.mem_cons, List.not_mem_nil, or_false, forall_eq] at h; simp [h])))
        exact ⟨rfl, id⟩
      · simp only [List.range, List.range.loop, List.flatMap_cons, List.flatMap_nil, List.append_nil]
        exact List.Perm.refl _
      · refine ⟨?_, ?_, ?_, ?_, ?_, ?_, trivial⟩
        · intro vs gs A' W LF hA S hR hd hu K hK; replace hK := hK default
          have e11 : A'.tmps[11]?.getD undef = .int .i64 z := slot_is hA (by kernel_rfl) (Nat.le_of_ble_eq_true (by kernel_rfl)) (by kernel_rfl)
          go_step; exact hK _ _ S rfl
        · intro vs gs A' W LF hA S hR hd hu K hK; replace hK := hK default
          have e13 : A'.tmps[13]?.getD undef = .pointer (some ⟨g13, 0, none⟩) := slot_is hA (by kernel_rfl) (Nat.le_of_ble_eq_true (by kernel_rfl)) (by kernel_rfl)
          refine op_runs (v := .agg (hashA hh)) (w' := W) (exec_load rfl (by simpa [Act.eval] using e13) (run_loadAt_agg W ⟨g13, 0, none⟩ 25 (hashA hh).toList _ (Blk.agg (show Blk W g13 25 (hashA hh) from S.ok (blkR g13 25 (hashA hh)) (hR 7 (List.mem_singleton.2 rfl) _ (List.mem_singleton.2 rfl)))) Tryd.underlying25 rfl (by rw [Array.length_toList, Hha.out]; exact Tryd.infoHashP))) ?_
          exact hK _ _ S rfl
        · intro vs gs A' W LF hA S hR hd hu K hK; replace hK := hK default
          have e10 : A'.tmps[10]?.getD undef = .pointer (some ⟨g10, 0, none⟩) := slot_is hA (by kernel_rfl) (Nat.le_of_ble_eq_true (by kernel_rfl)) (by kernel_rfl)
          go_step; exact hK _ _ S rfl
        · intro vs gs A' W LF hA S hR hd hu K hK; replace hK := hK default; have f2 : vs 2 = .pointer (some ⟨g10, 0, none⟩) := hd 2 (by kernel_rfl)
          have e59 : A'.tmps[59]?.getD undef = vs 2 := slot_is hA (by kernel_rfl) (Nat.le_of_ble_eq_true (by kernel_rfl)) (by kernel_rfl)
          rw [f2] at e59; have f0 : vs 0 = .int .i64 z := hd 0 (by kernel_rfl)
          have e57 : A'.tmps[57]?.getD undef = vs 0 := slot_is hA (by kernel_rfl) (Nat.le_of_ble_eq_true (by kernel_rfl)) (by kernel_rfl)
          rw [f0] at e57
          have S1 : Held w W (blkR g10 33 zeroP :: LF) := S
          have q1 := pt_c0 (S1.at_ (l1 := []))
          have q2 := (S1.at_ (l1 := [])).frozen 0
          have q3 := (S1.at_ (l1 := [])).lt
          go_step
          refine hK undef _ ?_ trivial
          show Held w _ (blkR g10 33 (ptA z (List.replicate 32 0)) :: LF)
          have S2 := S1.set (l1 := []) 0 (.int .i64 z)
          exact S2
        · intro vs gs A' W LF hA S hR hd hu K hK; replace hK := hK default
          have e10 : A'.tmps[10]?.getD undef = .pointer (some ⟨g10, 0, none⟩) := slot_is hA (by kernel_rfl) (Nat.le_of_ble_eq_true (by kernel_rfl)) (by kernel_rfl)
          go_step; exact hK _ _ S rfl
        · intro vs gs A' W LF hA S hR hd hu K hK; replace hK := hK default; have f4 : vs 4 = .pointer (some ⟨g10, 1, none⟩) := hd 4 (by kernel_rfl)
          have e60 : A'.tmps[60]?.getD undef = vs 4 := slot_is hA (by kernel_rfl) (Nat.le_of_ble_eq_true (by kernel_rfl)) (by kernel_rfl)
          rw [f4] at e60; have f1 : vs 1 = .agg (hashA hh) := hd 1 (by kernel_rfl)
          have e58 : A'.tmps[58]?.getD undef = vs 1 := slot_is hA (by kernel_rfl) (Nat.le_of_ble_eq_true (by kernel_rfl)) (by kernel_rfl)
          rw [f1] at e58
          have S1 : Held w W (blkR g10 33 (ptA z (List.replicate 32 0)) :: LF) := S
          exact op_store_part (.tmp 60) (.tmp 58) 25 rfl g10 1 (by simpa [Act.eval] using e60) (hashA hh) (by simpa [Act.eval] using e58) 33 _ (S1.at_ (l1 := [])) (by rw [Hha.out]; exact Tryd.infoHashP) (by rw [Hha.out]; exact Nat.le_refl _) (hashA_one hh) (fun w' hb k => hK undef _ (Held.setBlk (l1 := []) S1 (by rw [pt_lay _ _ _ (by rw [← hashA_size, Hha.out]) rfl] at hb; exact hb) k) trivial)
      · intro vs gs W S hp
        have S : Held w W (blkR g10 33 (ptA z hh) :: blkR g13 25 (hashA hh) :: blkR g2 33 zeroP :: []) := by simpa only [List.flatMap_cons, List.flatMap_nil, List.append_nil, List.nil_append, List.cons_append, List.append_assoc] using S
        have p0 : vs 0 = .int .i64 z := hp 0 (Nat.le_of_ble_eq_true rfl)
        have p1 : vs 1 = .agg (hashA hh) := hp 1 (Nat.le_of_ble_eq_true rfl)
        have p2 : vs 2 = .pointer (some ⟨g10, 0, none⟩) := hp 2 (Nat.le_of_ble_eq_true rfl)
        have p4 : vs 4 = .pointer (some ⟨g10, 1, none⟩) := hp 4 (Nat.le_of_ble_eq_true rfl)
        clear hp
        have S10 := Lib.hid S
        clear S
        simp only [putAll, p0, p1, p2, p4, Act.put, List.setIfInBounds_toArray, List.set_cons_succ, List.set_cons_zero]
        clear p0 p1 p2 p4
        have HPsz := Lib.hid (ptA_size (s := z) Hul.out)
        go_wp2_with (refine wpList_load_blk rfl 33 (.tmp 10) rfl g10 rfl 33 _ (S10.out.at_ (l1 := [])) _ Tryd.underlying33 rfl (by rw [HPsz.out]; exact Tryd.infoPointP) ?_)
        refine (ptext_any z hzb hh Hul.out _ (HL.out.kp S10.out.k).toLD).mono ?_
        rintro e w6 ⟨rfl, k6⟩
        have S11 := Lib.hid (S10.out.kp k6)
        clear k6
        have hbs : b.length ≤ s.size := by omega
        have Hlen := Lib.hid hlen
        clear hlen
        obtain ⟨kk, Hkk⟩ : ∃ kk, Hid (s.size - b.length = kk) := ⟨_, Lib.hid rfl⟩
        have hi0 : 0 ≤ (s.size : Int) - (b.length : Int) := by omega
        have hi1 : (s.size : Int) - (b.length : Int) ≤ s.size := by omega
        have hi2 : ((s.size : Int) - (b.length : Int)).toNat = kk := by have := Hkk.out; omega
        have hext := ext_take s kk
        have hpre : s.data.toList.take kk = l0 ++ 10 :: (l1 ++ 10 :: (l ++ [10])) := by
         rw [Hform.out, show l0 ++ 10 :: (l1 ++ 10 :: (l ++ 10 :: b)) = (l0 ++ 10 :: (l1 ++ 10 :: (l ++ [10]))) ++ b from by simp]
         rw [List.take_append_of_le_length (by have := Hkk.out; have := Hlen.out; simp; omega), List.take_of_length_le (by have := Hkk.out; have := Hlen.out; simp; omega)]
        rw [hpre] at hext
        obtain ⟨pre, Hpre⟩ : ∃ pre, Hid (l0 ++ 10 :: (l1 ++ 10 :: (l ++ [10])) = pre) := ⟨_, Lib.hid rfl⟩
        rw [Hpre.out] at hext HPT
        clear hpre
        by_cases hz0 : z < 0
        · have HT : Hid (txt z hh = [] ∧ txE z = 2) := Lib.hid ⟨if_pos hz0, if_pos hz0⟩
          have HPV := Lib.hid (PVs_none (s := s.data.toList) (by rw [HPT.out, if_neg (fun h => by omega)]))
          rw [HT.out.1, HT.out.2]
          go_wp2_with (refine wpList_store_blk rfl 33 (.tmp 2) (.tmp 79) rfl g2 rfl zeroP (by kernel_rfl) 33 _ (S11.out.at_ (l1 := [_, _])) (by rw [HZ.out]; exact Tryd.infoPointP) rfl HZO.out ?_; intro w4 b4 k4; have S12 := Lib.hid (Held.setBlk (l1 := [_, _]) S11.out b4 k4); clear b4 k4)
          try rw [Exit.noGoto_ret]
          refine bodyPost_ret (results_cell_tmp2P (by rfl) rfl (S12.out.at_ (l1 := [_, _])) Tryd.underlying33 rfl (by rw [HZ.out]; exact Tryd.infoPointP)) rfl ?_
          exact ⟨by rw [HPV.out.1, HPV.out.2]; rfl, S12.out.k⟩
        · have HT : Hid (txt z hh = told z.toNat hh ∧ txE z = 0) := Lib.hid ⟨if_neg hz0, if_neg hz0⟩
          rw [HT.out.1, HT.out.2]
          obtain ⟨tl, Htl⟩ : ∃ tl, Hid (told z.toNat hh = tl) := ⟨_, Lib.hid rfl⟩
          rw [Htl.out] at HPT ⊢
          by_cases hq : tl = pre
          · have HPV := Lib.hid (PVs_some (s := s.data.toList) (by rw [HPT.out, if_pos ⟨by omega, hq⟩]))
            have hkd : (tl == pre) = true := by rw [hq]; exact beq_self_eq_true pre
            clear hq
            go_wp2_with (first
             | (refine wpList_load_blk rfl 33 (.tmp 10) rfl g10 rfl 33 _ (S11.out.at_ (l1 := [])) _ Tryd.underlying33 rfl (by rw [HPsz.out]; exact Tryd.infoPointP) ?_)
             | (refine wpList_store_blk rfl 33 (.tmp 2) (.tmp 80) rfl g2 rfl (ptA z hh) (by kernel_rfl) 33 _ (S11.out.at_ (l1 := [_, _])) (by rw [HPsz.out]; exact Tryd.infoPointP) (by rw [HPsz.out, HZ.out]) (ptA_one z hh) ?_; intro w4 b4 k4; have S12 := Lib.hid (Held.setBlk (l1 := [_, _]) S11.out b4 k4); clear b4 k4))
            try rw [Exit.noGoto_ret]
            refine bodyPost_ret (results_cell_tmp2P (by rfl) rfl (S12.out.at_ (l1 := [_, _])) Tryd.underlying33 rfl (by rw [HPsz.out]; exact Tryd.infoPointP)) rfl ?_
            refine ⟨?_, S12.out.k⟩
            rw [HPV.out.1, HPV.out.2, show ((z.toNat : Nat) : Int) = z from by omega]
            rfl
          · have HPV := Lib.hid (PVs_none (s := s.data.toList) (by rw [HPT.out, if_neg (fun h => hq h.2)]))
            have hkd : (tl == pre) = false := beq_false_of_ne hq
            go_wp2_with (refine wpList_store_blk rfl 33 (.tmp 2) (.tmp 79) rfl g2 rfl zeroP (by kernel_rfl) 33 _ (S11.out.at_ (l1 := [_, _])) (by rw [HZ.out]; exact Tryd.infoPointP) rfl HZO.out ?_; intro w4 b4 k4; have S12 := Lib.hid (Held.setBlk (l1 := [_, _]) S11.out b4 k4); clear b4 k4)
            try rw [Exit.noGoto_ret]
            refine bodyPost_ret (results_cell_tmp2P (by rfl) rfl (S12.out.at_ (l1 := [_, _])) Tryd.underlying33 rfl (by rw [HZ.out]; exact Tryd.infoPointP)) rfl ?_
            exact ⟨by rw [HPV.out.1, HPV.out.2]; rfl, S12.out.k⟩
    · have h2' : ¬ (k : Int) = 2 := by omega
      go_wp2_with (at_builtin; refine wpList_app _ rfl (.tmp 38) (.tmp 40) _ rfl 9 i0 _ 1 16 Tryd.underlying58 hi hz0 hz1 hz2 rfl (by decide) (.slice A k c) k (strs ls) rfl (S2.out.at_ (l1 := [_])) (.slice (some ⟨w1.heap.size, 0, none⟩) 1 1) 1 [.string ⟨l.toArray⟩] rfl HR.out (by simp [Value.oneCell']) (by unfold maxLen; omega) (by omega) ?_; intro v' w' o' g' h'; have S3 := Lib.hid (S2.out.grow (l1 := [_]) o' g' h'); clear o' g' h')
      obtain ⟨A3, c3, hv3, -, -⟩ := ow_form (S3.out.at_ (l1 := [_]))
      subst hv3
      go_roundw
      case rel =>
       refine ⟨k + 1, ls ++ [l], A3, c3, ⟨b.toArray⟩, by omega, rfl, rfl, Lib.hid ⟨HN.out, by rw [List.length_append, HK.out.2]; rfl⟩, by rw [Lib.size_eq]; show b.length ≤ _; omega, ?_⟩
       rw [strs_snoc]
       exact S3.out.drop
      case measure => simp; omega
  · have HC := Lib.hid (ct_no hm)
    have HR : Hid (PT s.data.toList = none) := Lib.hid (PT_none (ln3_none (k := k + 1) (by omega) (lnK_stop HK.out.1 hm)))
    have HP := Lib.hid (PVs_none HR.out)
    rw [HC.out]
    clear hm HC
    go_wp2_with (refine wpList_store_blk rfl 33 (.tmp 2) (.tmp 28) rfl g2 rfl zeroP rfl 33 _ (S1.out.at_ (l1 := [_])) (by rw [HZ.out]; exact Tryd.infoPointP) rfl HZO.out ?_; intro w4 b4 k4; have S4 := Lib.hid (Held.setBlk (l1 := [_]) S1.out b4 k4); clear b4 k4)
    refine bodyPost_ret (results_cell_tmp2P (by rfl) rfl (S4.out.at_ (l1 := [_])) Tryd.underlying33 rfl (by rw [HZ.out]; exact Tryd.infoPointP)) rfl ?_
    exact ⟨by rw [HP.out.1, HP.out.2]; rfl, S4.out.k⟩
end
/- Comparing hashes and points. -/
section
open Go.RowKit
theorem items_eq (w : World) (d : Nat) (a b : List UInt8) : ∀ (m k : Nat), a.length = k + m → b.length = k + m →
 (Op.eqItems (d + 1) 5 1 (hashA a) (hashA b) (List.range' k m)).run Tryd.prog w = .ok (a.drop k == b.drop k) w
 | 0, k, ha, hb => by
  rw [List.drop_of_length_le (by omega), List.drop_of_length_le (by omega)]
  simp [Op.eqItems]
 | m + 1, k, ha, hb => by
  have h1 : k < a.length := by omega
  have h2 : k < b.length := by omega
  have p1 : (part 5 (hashA a) (k * 1)).run Tryd.prog w = .ok (.int .u8 (a[k].toNat : Int)) w := run_part_plain w (by kernel_rfl) (by
   rw [Nat.mul_one]; simp [hashA, bv, h1])
  have p2 : (part 5 (hashA b) (k * 1)).run Tryd.prog w = .ok (.int .u8 (b[k].toNat : Int)) w := run_part_plain w (by kernel_rfl) (by
   rw [Nat.mul_one]; simp [hashA, bv, h2])
  have p3 := run_equalIn_int (P := Tryd.prog) w d 5 .u8 .u8 (a[k].toNat : Int) (b[k].toNat : Int) Tryd.underlying5
  rw [List.range'_succ, List.drop_eq_getElem_cons h1, List.drop_eq_getElem_cons h2, List.cons_beq_cons]
  simp only [Op.eqItems, Sem.run_bind, p1, p2, p3, Result.andThen_ok]
  by_cases e : a[k] = b[k]
  · rw [e]
    simp only [beq_self_eq_true, Bool.not_true, Bool.false_eq_true, if_false]
    rw [items_eq w d a b m (k + 1) (by omega) (by omega), Bool.true_and]
  · have e1 : ((a[k].toNat : Int) == (b[k].toNat : Int)) = false := beq_false_of_ne (fun h => e (UInt8.toNat.inj (by omega)))
    rw [e1, beq_false_of_ne e]
    rfl
theorem run_hash_eq (w : World) (d : Nat) (a b : List UInt8) (ha : a.length = 32) (hb : b.length = 32) : (Op.equalIn (d + 2) 25 (.agg (hashA a)) (.agg (hashA b))).run Tryd.prog w = .ok (a == b) w := by
 obtain ⟨i0, hi, -, -, -⟩ := info_parts Tryd.infoU8
 rw [run_equalIn_array w (d + 1) (hashA a) (hashA b) Tryd.underlying25 hi, show Tryd.prog.cellsOf 5 = 1 from by kernel_rfl, List.range_eq_range', items_eq w d a b 32 0 (by omega) (by omega)]
 rfl
theorem ptA_root (s : Int) (h : List UInt8) (hh : h.length = 32) : (ptA s h).extract 1 33 = hashA h := by
 apply Array.ext'
 rw [Array.toList_extract, List.extract_eq_take_drop]
 show ((Value.int .i64 s :: bv h).drop 1).take 32 = bv h
 rw [List.drop_succ_cons, List.drop_zero, List.take_of_length_le (by rw [bv_length, hh]; omega)]
theorem eq_fields2 {P : Program} (w : World) (D : Nat) (xs ys : Array Value) (f g : Field) (n1 : f.name ≠ "_") (n2 : g.name ≠ "_") (a b c e : Value) (r1 r2 : Bool)
 (h1 : (part f.type xs f.offset).run P w = .ok a w) (h2 : (part f.type ys f.offset).run P w = .ok b w) (h3 : (Op.equalIn D f.type a b).run P w = .ok r1 w)
 (h4 : (part g.type xs g.offset).run P w = .ok c w) (h5 : (part g.type ys g.offset).run P w = .ok e w) (h6 : (Op.equalIn D g.type c e).run P w = .ok r2 w) : (Op.eqFields D xs ys [f, g]).run P w = .ok (r1 && r2) w := by
 simp only [Op.eqFields, n1, n2, ne_eq, not_false_eq_true, if_true, Sem.run_bind, h1, h2, h3, Result.andThen_ok]
 cases r1
 · simp
 · simp only [Bool.not_true, Bool.false_eq_true, if_false, Sem.run_bind, h4, h5, h6, Result.andThen_ok]
   cases r2 <;> simp
theorem run_pt_eq (w : World) (d : Nat) (s t : Int) (a b : List UInt8) (ha : a.length = 32) (hb : b.length = 32) : (Op.equalIn (d + 3) 33 (.agg (ptA s a)) (.agg (ptA t b))).run Tryd.prog w = .ok (decide (s = t) && (a == b)) w := by
 have hu : ∃ f g : Field, Tryd.prog.underlying 33 = some (.struct #[f, g]) ∧ f.name = "Size" ∧ f.type = 2 ∧ f.offset = 0 ∧ g.name = "Root" ∧ g.type = 25 ∧ g.offset = 1 := ⟨_, _, Tryd.underlying33, rfl, rfl, rfl, rfl, rfl, rfl⟩
 obtain ⟨f, g, hu, f1, f2, f3, g1, g2, g3⟩ := hu
 have hf : Tryd.prog.fieldsOf 33 = #[f, g] := by unfold Program.fieldsOf; rw [hu]
 rw [run_equalIn_agg (P := Tryd.prog) w (d + 2) 33 (ptA s a) (ptA t b) (by rw [hf]; exact hu) Tryd.stoodInHeld33, hf]
 have n1 : ¬ ("Size" = "_") := by decide
 have n2 : ¬ ("Root" = "_") := by decide
 have p1 : (part 2 (ptA s a) 0).run Tryd.prog w = .ok (.int .i64 s) w := run_part_plain w (by kernel_rfl) rfl
 have p2 : (part 2 (ptA t b) 0).run Tryd.prog w = .ok (.int .i64 t) w := run_part_plain w (by kernel_rfl) rfl
 have p3 := run_equalIn_int (P := Tryd.prog) w (d + 1) 2 .i64 .i64 s t Tryd.underlying2
 have q : ∀ s a, a.length = 32 → (part 25 (ptA s a) 1).run Tryd.prog w = .ok (.agg (hashA a)) w := by
  intro s a ha
  obtain ⟨i0, hi, hz⟩ : ∃ i, Tryd.prog.info? 25 = some i ∧ i.size = 32 := by
   have := Tryd.infoHashP
   cases h : Tryd.prog.info? 25 with
   | none => rw [h] at this; cases this
   | some i => rw [h] at this; exact ⟨i, rfl, Option.some.inj this⟩
  have hS : (sizeOf 25).run Tryd.prog w = .ok 32 w := by rw [← hz]; simp only [sizeOf, typeInfo]; simp [hi, go_sem]
  have hA : (isAgg 25).run Tryd.prog w = .ok true w := by simp [isAgg, run_underlying Tryd.underlying25]
  simp only [part, Sem.run_bind, hA, hS, Result.andThen_ok, if_true, Sem.run_pure]
  rw [show 1 + 32 = 33 from rfl, ptA_root s a ha]
 have q3 := run_hash_eq w d a b ha hb
 have e1 : decide (s = t) = (s == t) := by by_cases e : s = t <;> simp [e]
 rw [e1]
 exact eq_fields2 w (d + 2) _ _ f g (by rw [f1]; exact n1) (by rw [g1]; exact n2) (.int .i64 s) (.int .i64 t) (.agg (hashA a)) (.agg (hashA b)) _ _ (by rw [f2, f3]; exact p1) (by rw [f2, f3]; exact p2) (by rw [f2]; exact p3) (by rw [g2, g3]; exact q s a ha) (by rw [g2, g3]; exact q t b hb) (by rw [g2]; exact q3)
theorem hash_eq_top (w : World) (a b : List UInt8) (ha : a.length = 32) (hb : b.length = 32) : (Op.equalIn 10000 25 (.agg (hashA a)) (.agg (hashA b))).run Tryd.prog w = .ok (a == b) w := by
 have h := fun n (e : n + 2 = 10000) => e ▸ run_hash_eq w n a b ha hb
 exact h 9998 (by decide)
theorem pt_eq_top (w : World) (s t : Int) (a b : List UInt8) (ha : a.length = 32) (hb : b.length = 32) : (Op.equalIn 10000 33 (.agg (ptA s a)) (.agg (ptA t b))).run Tryd.prog w = .ok (decide (s = t) && (a == b)) w := by
 have h := fun n (e : n + 3 = 10000) => e ▸ run_pt_eq w n s t a b ha hb
 exact h 9997 (by decide)
theorem neq_pt (w : World) (s t : Int) (a b : List UInt8) (ha : a.length = 32) (hb : b.length = 32) : (binOp .neq 33 (.agg (ptA s a)) (.agg (ptA t b))).run Tryd.prog w = .ok (.bool (!(decide (s = t) && (a == b)))) w := by
 rw [run_neq_struct, pt_eq_top w s t a b ha hb, Result.andThen_ok]
end
/- The chapter's rows: known. -/
section
open Go.RowKit
end
/- PointReads: the walk of the law. -/
section
open Go.RowKit
end
/- PointPuts: the walk of the law. -/
section
open Go.RowKit
section
variable {P : Program} {ops : Array Oper} {rest : List Oper} {o : Oper} {a : Act} {w w' : World} {Q : Exit → Act → World → Prop} {v : Value}
end
end
/- A frame in which bits are turned: mathematics. -/
section
open Go.RowKit
end
/- The reference's Turn. -/
section
open Go.RowKit
theorem u8_xor_nat' (a b : Nat) (ha : a < 256) (hb : b < 256) : bits .xor .u8 (a : Int) (b : Int) = ((a ^^^ b : Nat) : Int) := by
 show IntKind.u8.wrap ((BitVec.ofInt 8 (a : Int) ^^^ BitVec.ofInt 8 (b : Int)).toNat : Int) = _
 have h : ∀ x : Nat, x < 256 → (BitVec.ofInt 8 (x : Int)).toNat = x := fun x hx => by rw [BitVec.ofInt_natCast, BitVec.toNat_ofNat]; exact Nat.mod_eq_of_lt (by omega)
 rw [BitVec.toNat_xor, h a ha, h b hb, wrap_u8_nat, Nat.mod_eq_of_lt (show a ^^^ b < 256 from Nat.xor_lt_two_pow (n := 8) ha hb)]
end
/- PointTurned: the walk of the law. -/
section
open Go.RowKit
theorem exec_bin_agg {P : Program} {w : World} {ρ : Operand → Value} {o : Oper} {op : BinOp} {t t2 : TypeId} {x y : Operand} {xs ys : Array Value} {r : Value} (ho : o.op = .binOp op t x y t2) (hx : ρ x = .agg xs) (hy : ρ y = .agg ys) (hm : P.eqGuardType P.depth t = false) (h : (binOp op t (.agg xs) (.agg ys)).run P w = .ok r w) : (execOp ρ o).run P w = .ok (.value r) w := by
 unfold execOp
 simp only [ho, hx, hy, Sem.run_bind, run_eqGuard_agg w op t x y xs ys hm, h, Result.andThen_ok, Sem.run_pure]
end
/- Compare of point and of the reference. -/
section
open Go.RowKit
/-! ### The order -/
def cmpB (a b : List UInt8) : Int := Lib.compareBytes a b
theorem cmpB_cons (x y : UInt8) (a b : List UInt8) : cmpB (x :: a) (y :: b) = if x.toNat < y.toNat then -1 else if y.toNat < x.toNat then 1 else cmpB a b := by
 simp only [cmpB, Lib.compareBytes, UInt8.lt_iff_toNat_lt]
theorem cmpB_range : ∀ (a b : List UInt8), -1 ≤ cmpB a b ∧ cmpB a b ≤ 1
 | [], [] => by simp [cmpB, Lib.compareBytes]
 | [], _ :: _ => by simp [cmpB, Lib.compareBytes]
 | _ :: _, [] => by simp [cmpB, Lib.compareBytes]
 | x :: a, y :: b => by
  rw [cmpB_cons]
  have := cmpB_range a b
  split
  · omega
  · split <;> omega
theorem cmpB_neg : ∀ (a b : List UInt8), cmpB b a = - cmpB a b
 | [], [] => rfl
 | [], _ :: _ => rfl
 | _ :: _, [] => rfl
 | x :: a, y :: b => by
  rw [cmpB_cons, cmpB_cons, cmpB_neg a b]
  split <;> split <;> omega
theorem cmpB_zero : ∀ {a b : List UInt8}, cmpB a b = 0 → a = b
 | [], [], _ => rfl
 | [], _ :: _, h => by simp [cmpB, Lib.compareBytes] at h
 | _ :: _, [], h => by simp [cmpB, Lib.compareBytes] at h
 | x :: a, y :: b, h => by
  rw [cmpB_cons] at h
  split at h
  · omega
  · split at h
    · omega
    · rw [cmpB_zero h, UInt8.toNat_inj.1 (by omega : x.toNat = y.toNat)]
theorem cmpB_self : ∀ (a : List UInt8), cmpB a a = 0
 | [] => rfl
 | x :: a => by rw [cmpB_cons, cmpB_self a]; split <;> omega
end
/- Compare of point and of the reference: the walks. -/
section
open Go.RowKit
end
/- Compare of the reference: the walk. -/
section
open Go.RowKit
end
/- Lists of points in memory; Last of the reference. -/
section
open Go.RowKit
end
/- Names, lists of signatures: mathematics. -/
section
def nmOk (s : List UInt8) : Bool := decide (0 < s.length) && decide (s.length ≤ 64) && s.all fun c => decide (33 ≤ c.toNat) && decide (c.toNat ≤ 126)
abbrev SigD := List UInt8 × List UInt8
def rising : List UInt8 → List SigD → Bool
 | _, [] => true
 | last, s :: l => nmOk s.1 && decide (0 < cmpB s.1 last) && rising s.1 l
def mayN (z : Int) (l : List SigD) : Bool := decide (0 ≤ z) && decide (l.length ≤ 64) && rising [] l
def keyOk (nm sec : List UInt8) : Bool := nmOk nm && decide (0 < sec.length) && decide (sec.length ≤ 256)
def key64 (sec : List UInt8) : List UInt8 := (if 64 < sec.length then shaF sec else sec) ++ List.replicate (64 - (if 64 < sec.length then shaF sec else sec).length) 0
def turned (k : List UInt8) (t : UInt8) : List UInt8 := k.map (· ^^^ t)
def macF (sec msg : List UInt8) : List UInt8 := shaF (turned (key64 sec) 92 ++ shaF (turned (key64 sec) 54 ++ msg))
theorem key64_length (sec : List UInt8) : (key64 sec).length = 64 := by
 unfold key64
 rw [List.length_append, List.length_replicate]
 split
 · rw [shaF_length]
 · omega
theorem macF_length (sec msg : List UInt8) : (macF sec msg).length = 32 := shaF_length _
end
/- Walks of package sign: the keyed sum. -/
section
open Go.RowKit
theorem swrite_any (w0 : World) (g : Nat) (m l : List UInt8) (st : List Nat) (blk : List UInt8) (hU : Und m st blk) (hml : m.length + l.length ≤ 1152921504606846976) (x : Value) (L : List Res) (w : World) (HB : ∀ V cs, Held w0 V (blkR g 134 cs :: L) → Rd V 1 x l.length (bv l))
 (S : Held w0 w (blkR g 134 (shaC st blk m.length) :: L)) :
 Calls Tryd.prog 65 #[.pointer (some ⟨g, 0, none⟩), x] w fun e w' => e = .returned (.int .i64 0) ∧ ∃ st' blk', Und (m ++ l) st' blk' ∧ Held w0 w' (blkR g 134 (shaC st' blk' (m ++ l).length) :: L) := by
 obtain ⟨A, c, rfl⟩ := rd_form (HB w _ S)
 have HR := Lib.hid (take_any w0 g m l st blk hU (by omega) _ L w HB S)
 have HN := Lib.hid (none_any g _ (shaC_made hU.len8 hU.len) w (S.at_ (l1 := [])))
 have c1 : w.cell? ⟨g, 72, none⟩ = some (.int .i64 (m.length : Int)) := by rw [(S.at_ (l1 := [])).cell]; exact shaC_len hU.len8 hU.len
 generalize l.length = ll at *
 generalize m.length = ml at *
 have hw : wrap64 (1152921504606846976 - (ml : Int)) = 1152921504606846976 - (ml : Int) := by unfold wrap64; omega
 have hd : decide (1152921504606846976 - (ml : Int) < (ll : Int)) = false := by rw [decide_eq_false_iff_not]; omega
 clear hU HB S hml
 go_enter Tryd.func65, Tryd.ntmps65
 go_wp2_with fail
 refine HN.out.mono ?_
 rintro e w' ⟨rfl, rfl⟩
 go_wp2_with fail
 refine HR.out.mono ?_
 rintro e w2 ⟨rfl, h⟩
 have h := Lib.hid h
 go_wp2
 go_ret
 exact ⟨rfl, h.out⟩
theorem xor_byte (a b : UInt8) : bits .xor .u8 (a.toNat : Int) (b.toNat : Int) = ((a ^^^ b).toNat : Int) := by
 rw [UInt8.toNat_xor]
 exact u8_xor_nat' _ _ a.toNat_lt b.toNat_lt
def turnK (key : List UInt8) (t : UInt8) (k : Nat) : List UInt8 := turned (key.take k) t ++ key.drop k
theorem turnK_at {key : List UInt8} {t : UInt8} {k : Nat} (h : k < key.length) : (turnK key t k)[k]? = some key[k] := by
 unfold turnK turned
 rw [List.getElem?_append_right (by simp; omega)]
 simp [Nat.min_eq_left (Nat.le_of_lt h)]
theorem turnK_next {key : List UInt8} {t : UInt8} {k : Nat} (h : k < key.length) : (turnK key t k).set k (key[k] ^^^ t) = turnK key t (k + 1) := by
 unfold turnK turned
 rw [List.set_append_right _ _ (by simp; omega), List.drop_eq_getElem_cons h]
 simp only [List.length_map, List.length_take, Nat.min_eq_left (Nat.le_of_lt h), Nat.sub_self, List.set_cons_zero, List.take_add_one, List.getElem?_eq_getElem h, Option.toList_some, List.map_append, List.map_cons, List.map_nil, List.append_assoc, List.cons_append, List.nil_append]
theorem hash_cell {w : World} {g : Nat} {t : TypeId} {l : List UInt8} (h : Blk w g t (hashA l)) (i : Nat) (c : UInt8) (hx : l[i]? = some c) : w.cell? ⟨g, i, none⟩ = some (.int .u8 (c.toNat : Int)) := by
 rw [h.cell i, show (hashA l)[i]? = (bv l)[i]? from by simp [hashA], bv_get, hx]
 rfl
def TxF (W : World) (v : Value) (vs : List Value) (L : List (List UInt8)) : Prop := Rd W 1 v L.length vs ∧ ∀ i (hi : i < L.length), ∃ u, vs[i]? = some u ∧ Rd W 1 u L[i].length (bv L[i])
theorem TxF.kp0 {W W' : World} {v : Value} {vs : List Value} {L : List (List UInt8)} (h : TxF W v vs L) (k : Kp [] W W') : TxF W' v vs L := ⟨rd_old h.1 k, fun i hi => by obtain ⟨u, h1, h2⟩ := h.2 i hi; exact ⟨u, h1, rd_old h2 k⟩⟩
theorem Txs.f {W : World} {v : Value} {L : List (List UInt8)} (h : Txs W v L) : ∃ vs, TxF W v vs L := h
theorem TxF.at_ {W : World} {ad : Addr} {n c : Nat} {vs : List Value} {L : List (List UInt8)} (h : TxF W (.slice (some ad) n c) vs L) {k : Nat} {u : Value} (hu : vs[k]? = some u) : W.cell? (ad.add k) = some u := by
 obtain ⟨-, A', c', he, -, -, -, hc⟩ := h.1
 cases he
 exact hc ad rfl k u hu
end
/- sign.hashed: its second loop. -/
section
variable {Q : Exit → Act → World → Prop} {a : Act} {w : World}
open Go.RowKit
theorem shd_r10 (k n : Nat) (hsz : a.tmps.size = 40) (o29 : Sl a 29 (.int .i64 (n : Int))) (o30 : Sl a 30 (.int .i64 (k : Int)))
 (hend : ∀ a', Same a a' [31] → Sl a' 31 (.bool (decide (k < n))) → Q .normal a' (w)) : (Code.region 10 (opsOf 10 Tryd.f41).toArray false).wp Tryd.prog Q a w := by
 refine wp_region_lit ?_
 (conv => arg 4; whnf)
 unfold Sl at o29 o30
 go_wp2_with fail
 try simp only [Act.put]
 exact hend _ sS sP
theorem shd_r11 (k n c : Nat) (ad : Addr) (u : Value) (hk : k < n) (hc : w.cell? (ad.add k) = some u) (Ax : Option Addr) (nx cx : Nat) (hu : u = .slice Ax nx cx) (hsz : a.tmps.size = 40) (o28 : Sl a 28 (.slice (some ad) n c)) (o30 : Sl a 30 (.int .i64 (k : Int)))
 (hend : ∀ a', Same a a' [32, 33, 11] → Sl a' 11 (.slice Ax nx cx) → Q .normal a' (w)) : (Code.region 11 (opsOf 11 Tryd.f41).toArray false).wp Tryd.prog Q a w := by
 refine wp_region_lit ?_
 (conv => arg 4; whnf)
 unfold Sl at o28 o30
 subst hu
 have hkn : (k : Int) < n := by omega
 go_wp2_with fail
 try simp only [Act.put]
 exact hend _ sS sP
theorem shd_r12 (g : Nat) (y : Value) (Ax : Option Addr) (nx cx : Nat) (hy : y = .slice Ax nx cx) (R : World → Prop) (HR : Hid (Calls Tryd.prog 65 #[.pointer (some ⟨g, 0, none⟩), y] w fun e w' => e = .returned (.int .i64 0) ∧ R w')) (hsz : a.tmps.size = 40) (o9 : Sl a 9 (.func (.func 65) #[.pointer (some ⟨g, 0, none⟩)] #[])) (o11 : Sl a 11 (.slice Ax nx cx))
 (hend : ∀ a' W, Same a a' [34, 35, 36] → (R W) → Q .normal a' W) : (Code.region 12 (opsOf 12 Tryd.f41).toArray false).wp Tryd.prog Q a w := by
 refine wp_region_lit ?_
 (conv => arg 4; whnf)
 unfold Sl at o9 o11
 subst hy
 go_wp2_with fail
 refine HR.out.mono ?_
 rintro e w4 ⟨rfl, S4⟩
 have S4 := Lib.hid S4
 go_wp2
 try simp only [Act.put]
 exact hend _ _ sS (S4.out)
theorem shd_r13 (k : Nat) (hk : k < 9223372036854775807) (hsz : a.tmps.size = 40) (o30 : Sl a 30 (.int .i64 (k : Int)))
 (hend : ∀ a', Same a a' [37, 30] → Sl a' 30 (.int .i64 ((k + 1 : Nat) : Int)) → Q .normal a' (w)) : (Code.region 13 (opsOf 13 Tryd.f41).toArray false).wp Tryd.prog Q a w := by
 refine wp_region_lit ?_
 (conv => arg 4; whnf)
 unfold Sl at o30
 have hw : wrap64 ((k : Int) + 1) = (k : Int) + 1 := by unfold wrap64; omega
 go_wp2_with fail
 try simp only [Act.put]
 exact hend _ sS sP
theorem shd_r14 (w0 : World) (g g6 : Nat) (hh c6 : List UInt8) (hl : hh.length = 32) (h6 : c6.length = 32) (L : List Res) (HR : Hid (Calls Tryd.prog 64 #[.pointer (some ⟨g, 0, none⟩)] w fun e w' => e = .returned (.agg (hashA hh)) ∧ ∃ cs, Held w0 w' (blkR g 134 cs :: blkR g6 25 (hashA c6) :: L))) (hsz : a.tmps.size = 40) (o6 : Sl a 6 (.pointer (some ⟨g6, 0, none⟩))) (o8 : Sl a 8 (.pointer (some ⟨g, 0, none⟩)))
 (hend : ∀ a' W, Same a a' [38, 39] → (∃ cs, Held w0 W (blkR g 134 cs :: blkR g6 25 (hashA hh) :: L)) → Q .normal a' W) : (Code.region 14 (opsOf 14 Tryd.f41).toArray false).wp Tryd.prog Q a w := by
 refine wp_region_lit ?_
 (conv => arg 4; whnf)
 unfold Sl at o6 o8
 have hO := Lib.hid (hashA_one hh)
 have hsz1 : Hid ((hashA hh).size = 32) := Lib.hid (by rw [hashA_size, hl])
 have hsz6 : Hid ((hashA c6).size = 32) := Lib.hid (by rw [hashA_size, h6])
 obtain ⟨ch, hch⟩ : ∃ ch, Hid (hashA hh = ch) := ⟨_, Lib.hid rfl⟩
 rw [hch.out] at HR hO hsz1
 go_wp2_with fail
 refine HR.out.mono ?_
 rintro e w4 ⟨rfl, cs, S4⟩
 have S4 := Lib.hid S4
 go_wp2_with (refine wpList_store_blk rfl 25 (.tmp 6) (.tmp 39) rfl g6 (by simp [Act.eval, Act.put, hsz, o6]) ch (by simp [Act.eval, Act.put, hsz]) 25 _ (S4.out.at_ (l1 := [_])) (by rw [hsz1.out]; exact Tryd.infoHashP) (by rw [hsz1.out, hsz6.out]) hO.out ?_; intro w5 b5 k5; have S5 := Lib.hid (Held.setBlk (l1 := [_]) S4.out b5 k5); clear b5 k5)
 rw [← hch.out] at S5
 try simp only [Act.put]
 exact hend _ _ sS (⟨_, S5.out⟩)
def dsHd : List Nat := [11, 30, 31, 32, 33, 34, 35, 36, 37]
theorem shd_l1 {Q : Exit → Act → World → Prop} {a : Act} {w0 w : World} (g : Nat) (kt : List UInt8) (A : Option Addr) (c : Nat) (vs : List Value) (ls : List (List UInt8)) (hsum : kt.length + ls.flatten.length ≤ 1152921504606846976) (L : List Res) (HX : ∀ V cs, Held w0 V (blkR g 134 cs :: L) → TxF V (.slice A ls.length c) vs ls) (hll : ls.length ≤ 9223372036854775807)
 (st : List Nat) (blk : List UInt8) (hU : Und kt st blk) (hsz : a.tmps.size = 40) (o9 : Sl a 9 (.func (.func 65) #[.pointer (some ⟨g, 0, none⟩)] #[])) (o28 : Sl a 28 (.slice A ls.length c)) (o29 : Sl a 29 (.int .i64 (ls.length : Int))) (o30 : Sl a 30 (.int .i64 0))
 (S : Held w0 w (blkR g 134 (shaC st blk kt.length) :: L))
 (hend : ∀ (a' : Act) (W : World) (st : List Nat) (blk : List UInt8), Same a a' dsHd → Und (kt ++ ls.flatten) st blk → Held w0 W (blkR g 134 (shaC st blk (kt ++ ls.flatten).length) :: L) → Q (.exit 2) a' W) :
 (blockOf 2 Tryd.f41).wp Tryd.prog Q a w := by
 (conv => arg 2; whnf)
 refine wp_loop (fun a' w' => ∃ (k : Nat) (st : List Nat) (blk : List UInt8), k ≤ ls.length ∧ Same a a' dsHd ∧ Sl a' 30 (.int .i64 (k : Int)) ∧ Und (kt ++ (ls.take k).flatten) st blk ∧ Held w0 w' (blkR g 134 (shaC st blk (kt ++ (ls.take k).flatten).length) :: L)) (fun a' _ => ls.length - (intOf (a'.eval (.tmp 30))).toNat) ⟨0, st, blk, Nat.zero_le _, Same.refl _ _, o30, by rw [List.take_zero, List.flatten_nil, List.append_nil]; exact hU, by rw [List.take_zero, List.flatten_nil, List.append_nil]; exact S⟩ ?_
 clear hU S o30
 rintro a1 w1 ⟨k, st, blk, hk, T, o30, hU, S⟩
 have o9 := T.keep 9 _ (by decide) o9
 have o28 := T.keep 28 _ (by decide) o28
 have o29 := T.keep 29 _ (by decide) o29
 have hz1 := T.size.trans hsz
 have eCtr := o30.eval (by rw [hz1]; decide)
 refine wp_seq (shd_r10 k ls.length hz1 o29 o30 (fun a2 hs2 o31 => ?_))
 have hz2 := hs2.size.trans hz1; have o9 := hs2.k o9; have o28 := hs2.k o28; have o29 := hs2.k o29; have o30 := hs2.k o30
 have T := T.trans hs2
 by_cases hlt : k < ls.length
 · refine wp_seq (wp_cond_true ((o31.eval (by rw [hz2]; decide)).trans (by rw [decide_eq_true hlt])) (wp_skip ?_))
   obtain ⟨ad, rfl⟩ : ∃ ad, A = some ad := by
    obtain ⟨A', c', he, h1, -⟩ := (show Txs w1 _ ls from ⟨vs, HX w1 _ S⟩).open_
    cases he
    exact h1 (by omega)
   obtain ⟨u, hu, hru⟩ := (HX w1 _ S).2 k hlt
   have hc := (HX w1 _ S).at_ hu
   obtain ⟨Ax, cx, hform⟩ := rd_form hru
   have HB : ∀ V cs, Held w0 V (blkR g 134 cs :: L) → Rd V 1 u ls[k].length (bv ls[k]) := fun V cs SV => by
    obtain ⟨u', hu', hr'⟩ := (HX V cs SV).2 k hlt
    rw [hu] at hu'
    cases hu'
    exact hr'
   have hfl : (ls.take (k + 1)).flatten = (ls.take k).flatten ++ ls[k] := by rw [List.take_add_one, List.getElem?_eq_getElem hlt]; simp only [Option.toList_some, List.flatten_append, List.flatten_cons, List.flatten_nil, List.append_nil]
   have hle : ((ls.take (k + 1)).flatten).length ≤ ls.flatten.length := by
    conv => rhs; rw [← List.take_append_drop (k + 1) ls, List.flatten_append, List.length_append]
    omega
   have hbd : (kt ++ (ls.take k).flatten).length + ls[k].length ≤ 1152921504606846976 := by
    rw [hfl, List.length_append] at hle
    rw [List.length_append]
    omega
   have HR := Lib.hid (swrite_any w0 g (kt ++ (ls.take k).flatten) ls[k] st blk hU hbd u L w1 HB S)
   rw [List.append_assoc, ← hfl] at HR
   refine wp_seq (wp_block ?_)
   refine wp_seq (shd_r11 k ls.length c ad u hlt hc Ax ls[k].length cx hform hz2 o28 o30 (fun a3 hs3 o11 => ?_))
   have hz3 := hs3.size.trans hz2; have o9 := hs3.k o9; have o28 := hs3.k o28; have o29 := hs3.k o29; have o30 := hs3.k o30; have o31 := hs3.k o31
   have T := T.trans hs3
   refine shd_r12 g u Ax ls[k].length cx hform _ HR hz3 o9 o11 (fun a4 w2 hs4 h => ?_)
   have hz4 := hs4.size.trans hz3; have o9 := hs4.k o9; have o28 := hs4.k o28; have o29 := hs4.k o29; have o30 := hs4.k o30; have o31 := hs4.k o31; have o11 := hs4.k o11
   have T := T.trans hs4
   obtain ⟨st2, blk2, U2, S2⟩ := h
   refine shd_r13 k (by omega) hz4 o30 (fun a5 hs5 o30 => ?_)
   have hz5 := hs5.size.trans hz4; have o9 := hs5.k o9; have o28 := hs5.k o28; have o29 := hs5.k o29; have o31 := hs5.k o31; have o11 := hs5.k o11
   have T := T.trans hs5
   refine ⟨⟨k + 1, st2, blk2, hlt, T.more (by decide +kernel), o30, U2, S2⟩, ?_⟩
   show ls.length - (intOf _).toNat < ls.length - (intOf _).toNat
   rw [eCtr, o30.eval (by rw [hz5]; decide)]
   show ls.length - (k + 1) < ls.length - k
   omega
 · obtain rfl : k = ls.length := by omega
   refine wp_seq (wp_cond_false ((o31.eval (by rw [hz2]; decide)).trans (by rw [decide_eq_false hlt])) (wp_exit ?_))
   rw [List.take_length] at hU S
   exact hend _ _ st blk (T.more (by decide +kernel)) hU S
theorem hashed_any (w0 : World) (L : List Res) (key : List UInt8) (hk : key.length = 64) (t : UInt8) (x : Value) (vs : List Value) (ls : List (List UInt8)) (hsum : 64 + ls.flatten.length < 1152921504606846976) (w : World) (S : Held w0 w L) (HX : ∀ V, Held w0 V L → TxF V x vs ls) :
 Calls Tryd.prog 41 #[.agg (hashA key), .int .u8 (t.toNat : Int), x] w fun e w' => e = .returned (.agg (hashA (shaF (turned key t ++ ls.flatten)))) ∧ Held w0 w' L := by
 obtain ⟨A, c, rfl, -, -⟩ := (show Txs w x ls from ⟨vs, HX w S⟩).open_
 have S0 := Lib.hid ((S.newBlk 76 (hashA key)).newBlk 25 (hashA (List.replicate 32 0)))
 simp only [World.size_alloc] at S0
 have HX := Lib.hid HX
 have Hk := Lib.hid hk
 have hsum := Lib.hid hsum
 obtain ⟨ck, hck⟩ : ∃ ck, Hid (hashA key = ck) := ⟨_, Lib.hid rfl⟩
 rw [hck.out] at S0 ⊢
 clear S hk
 go_enter Tryd.func41, Tryd.ntmps41
 go_wp2
 change Code.wp _ _ _ _ ((w.alloc (.cells ck 76)).alloc (.cells (hashA (List.replicate 32 0)) 25))
 generalize (w.alloc (.cells ck 76)).alloc (.cells (hashA (List.replicate 32 0)) 25) = w1 at *
 generalize w.heap.size = g3 at *
 obtain ⟨g6, hg6⟩ : ∃ g6, g3 + 1 = g6 := ⟨_, rfl⟩
 rw [hg6] at S0 ⊢
 rw [← hck.out] at S0
 clear hg6
 go_loopw [7, 12] (fun _ i wr => ∃ k : Nat, k ≤ 64 ∧ i = .int .i64 (k : Int) ∧ Held w0 wr (blkR g6 25 (hashA (List.replicate 32 0)) :: blkR g3 76 (hashA (turnK key t k)) :: L)) (fun _ i _ => 64 - (intOf i).toNat)
 case atStart => exact ⟨0, by omega, rfl, S0.out⟩
 case round =>
  clear S0
  obtain ⟨k, hk, rfl, S⟩ := hrel
  have S := Lib.hid S
  by_cases hlt : k < 64
  · have hkl : k < key.length := by rw [Hk.out]; exact hlt
    have q1 := hash_cell (S.out.at_ (l1 := [_])) k _ (turnK_at hkl)
    have q2 := (S.out.at_ (l1 := [_])).frozen k
    have hx := xor_byte key[k] t
    have S2 : Hid (Held w0 (wr.setCell ⟨g3, k, none⟩ (.int .u8 ((key[k] ^^^ t).toNat : Int))) _) := Lib.hid (S.out.set (l1 := [_]) k (.int .u8 ((key[k] ^^^ t).toNat : Int)))
    rw [hashA_set, turnK_next hkl] at S2
    generalize key[k] ^^^ t = y at *
    generalize key[k] = z at *
    clear hkl
    go_wp2
    go_roundw
    case rel => exact ⟨k + 1, by omega, by go_num, S2.out⟩
    case measure => simp [intOf]; omega
  · obtain rfl : k = 64 := by omega
    have e : turnK key t 64 = turned key t := by
     unfold turnK
     rw [List.take_of_length_le (by rw [Hk.out]; omega), List.drop_of_length_le (by rw [Hk.out]; omega), List.append_nil]
    rw [e] at S
    obtain ⟨kt, Hkt0⟩ : ∃ kt, Hid (turned key t = kt) := ⟨_, Lib.hid rfl⟩
    have Hkt : Hid (kt.length = 64) := Lib.hid (by rw [← Hkt0.out]; unfold turned; rw [List.length_map]; exact Hk.out)
    rw [Hkt0.out] at S
    clear e
    go_wp2_with fail
    refine (snew_any w0 _ _ S.out).mono ?_
    rintro e w2 ⟨g, rfl, S2⟩
    have S2 := Lib.hid S2
    go_wp2_with fail
    refine (swrite_any w0 g [] kt hF (List.replicate 64 0) Und.new (by rw [Hkt.out]; simp) _ _ w2 (fun V cs SV => ?_) S2.out).mono ?_
    · have := bytes_rd (SV.at_ (l1 := [_, _])) 0 (Nat.zero_le _) (by rw [Hkt.out]; omega)
      rw [Hkt.out] at this ⊢
      exact this
    rintro e w3 ⟨rfl, st, blk, U3, S3⟩
    rw [List.nil_append] at U3 S3
    have U3 := Lib.hid U3
    have S3 := Lib.hid S3
    have hll := Lib.hid (show Txs w3 _ ls from ⟨vs, HX.out w3 S3.out.drop.drop.drop⟩).len_le
    go_wp2_with fail
    have HU3 := U3
    have hsum2 : kt.length + ls.flatten.length ≤ 1152921504606846976 := by have := hsum.out; have := Hkt.out; omega
    refine shd_l1 g kt A c vs ls hsum2 (blkR g6 25 (hashA (List.replicate 32 0)) :: blkR g3 76 (hashA kt) :: L) (fun V cs SV => HX.out V SV.drop.drop.drop) hll.out st blk U3.out rfl (sl_of rfl) (sl_of rfl) (sl_of rfl) (sl_of rfl) S3.out (fun a' w4 st2 blk2 hs4 U4 S4 => ?_)
    simp only [Exit.inBlock, if_true]
    have hz4 : a'.tmps.size = 40 := hs4.size
    have o6 : Sl a' 6 (.pointer (some ⟨g6, 0, none⟩)) := hs4.k (sl_of rfl)
    have o8 : Sl a' 8 (.pointer (some ⟨g, 0, none⟩)) := hs4.k (sl_of rfl)
    have hbd : (kt ++ ls.flatten).length < 1152921504606846976 := by
     have h1 := hsum.out
     have h2 := Hkt.out
     rw [List.length_append]
     omega
    have HR0 := ssum_any w0 g (kt ++ ls.flatten) st2 blk2 U4 hbd _ w4 S4
    go_step; go_step
    refine wp_seq (shd_r14 w0 g g6 _ (List.replicate 32 0) (shaF_length _) rfl _ (Lib.hid (HR0.mono (fun e w' h => ⟨h.1, ⟨_, h.2⟩⟩))) hz4 o6 o8 (fun a5 w5 hs5 h5 => ?_))
    obtain ⟨cs5, S5⟩ := h5
    have hz5 := hs5.size.trans hz4; have o6 := hs5.k o6
    refine wp_ret (bodyPost_ret (results_cell1 (by rfl) (o6.eval (by rw [hz5]; decide)) (S5.at_ (l1 := [_])) Tryd.underlying25 rfl (by rw [hashA_size, shaF_length]; exact Tryd.infoHashP)) (hs5.defers.trans hs4.defers) ?_)
    exact ⟨by rw [Hkt0.out], S5.drop.drop.drop⟩
end
/- sha.Sum of one text; sign.Mac. -/
section
variable {Q : Exit → Act → World → Prop} {a : Act} {w : World}
open Go.RowKit
theorem Rd.of_hash {w : World} {g : Nat} {t : TypeId} {h : List UInt8} (hb : Blk w g t (hashA h)) {n : Nat} (hn : h.length = n) (hm : h.length ≤ 1000 := by omega) : Rd w 1 (.slice (some ⟨g, 0, none⟩) n n) n (bv h) := by
 subst hn
 have := bytes_rd hb 0 (Nat.zero_le _) hm
 simpa using this
theorem txf_one {w : World} {g n : Nat} {t : TypeId} {u : Value} {h : List UInt8} (hb : Blk w g t #[u]) (hr : Rd w 1 u n (bv h)) : TxF w (.slice (some ⟨g, 0, none⟩) 1 1) [u] [h] := by
 have hn : n = h.length := by
  have := hr.1
  rw [bv_length] at this
  omega
 subst hn
 refine ⟨⟨rfl, _, _, rfl, Nat.le_refl _, by unfold maxLen; omega, (fun h => by cases h), fun ad had j v hv => ?_⟩, fun i hi => ?_⟩
 · cases had
   rcases j with _ | j
   · cases hv
     exact hb.cell 0
   · cases hv
 · obtain rfl : i = 0 := by simpa using hi
   exact ⟨u, rfl, hr⟩
theorem ssumv_any (w0 : World) (L : List Res) (ad : Addr) (u : Value) (s : List UInt8) (hs0 : s.length < 1152921504606846976) (w : World) (S : Held w0 w L) (HX : ∀ V, Held w0 V L → V.cell? ad = some u ∧ Rd V 1 u s.length (bv s)) :
 Calls Tryd.prog 40 #[.slice (some ad) 1 1] w fun e w' => e = .returned (.agg (hashA (shaF s))) ∧ Held w0 w' L := by
 obtain ⟨A, c, rfl⟩ := rd_form (HX w S).2
 have HX := Lib.hid HX
 have hs := Lib.hid hs0
 clear hs0
 have S0 := Lib.hid (S.newBlk 25 (hashA (List.replicate 32 0)))
 clear S
 go_enter Tryd.func40, Tryd.ntmps40
 go_wp2_with fail
 refine (snew_any w0 _ _ S0.out).mono ?_
 rintro e w2 ⟨g, rfl, S2⟩
 have S2 := Lib.hid S2
 generalize w.heap.size = g2 at *
 clear S0
 go_wp2_with fail
 go_loopw [5, 9] (fun _ i wr => ∃ (k : Nat) (st : List Nat) (blk : List UInt8), k ≤ 1 ∧ i = .int .i64 (k : Int) ∧ Hid (Und (if k = 0 then [] else s) st blk) ∧ Held w0 wr (blkR g 134 (shaC st blk (if k = 0 then [] else s).length) :: blkR g2 25 (hashA (List.replicate 32 0)) :: L)) (fun _ i _ => 1 - (intOf i).toNat)
 case atStart => exact ⟨0, hF, List.replicate 64 0, by omega, rfl, Lib.hid Und.new, S2.out⟩
 case round =>
  clear S2
  obtain ⟨k, st, blk, hk, rfl, HU, S⟩ := hrel
  have S := Lib.hid S
  rcases (by omega : k = 0 ∨ k = 1) with rfl | rfl
  · have hc := (HX.out wr S.out.drop.drop).1
    have HR := Lib.hid (take_any w0 g [] s st blk HU.out (by have := hs.out; simp; omega) _ _ wr (fun V cs SV => (HX.out V SV.drop.drop).2) S.out)
    generalize s.length = sl at *
    clear hk
    go_wp2_with fail
    refine HR.out.mono ?_
    rintro e w4 ⟨rfl, st2, blk2, U4, S4⟩
    rw [List.nil_append] at U4 S4
    have U4 := Lib.hid U4
    have S4 := Lib.hid S4
    go_wp2
    go_roundw
    case rel => exact ⟨1, st2, blk2, by omega, rfl, U4, S4.out⟩
    case measure => simp [intOf]
  · have HR := Lib.hid (ssum_any w0 g s st blk HU.out hs.out _ wr S.out)
    have hO := Lib.hid (hashA_one (shaF s))
    have hsz1 : Hid ((hashA (shaF s)).size = 32) := Lib.hid (by rw [hashA_size, shaF_length])
    obtain ⟨ch, hch⟩ : ∃ ch, Hid (hashA (shaF s) = ch) := ⟨_, Lib.hid rfl⟩
    rw [hch.out] at HR hO hsz1
    go_wp2_with fail
    refine HR.out.mono ?_
    rintro e w4 ⟨rfl, S4⟩
    have S4 := Lib.hid S4
    go_wp2_with (refine wpList_store_blk rfl 25 (.tmp 2) (.tmp 18) rfl g2 (by simp [Act.eval]) ch (by simp [Act.eval]) 25 _ (S4.out.at_ (l1 := [_])) (by rw [hsz1.out]; exact Tryd.infoHashP) (by rw [hsz1.out]; rfl) hO.out ?_; intro w5 b5 k5; have S5 := Lib.hid (Held.setBlk (l1 := [_]) S4.out b5 k5); clear b5 k5)
    refine bodyPost_ret (results_cell1 (by rfl) rfl (S5.out.at_ (l1 := [_])) Tryd.underlying25 rfl (by rw [hsz1.out]; exact Tryd.infoHashP)) rfl ?_
    exact ⟨by rw [hch.out], S5.out.drop.drop⟩
theorem op_copy_blk {P : Program} {w : World} {o : Oper} {a : Act} {K : Act → World → Prop} {Q : Exit → Act → World → Prop} (d s : Operand) (dT sT : TypeId)
 (ho : o.op = .call { callee := .builtin .copy, args := #[d, s], argTypes := #[dT, sT] }) (elem : TypeId) (hu : P.underlying dT = some (.slice elem)) (hsz : (P.info? elem).map (·.size) = some 1)
 (g off dLen dCap : Nat) (hd : a.eval d = .slice (some ⟨g, off, none⟩) dLen dCap) (y : Value) (hs : a.eval s = y) (n : Nat) (xs : List Value) (hr : Rd w 1 y n xs)
 (t : TypeId) (cur : Array Value) (hb : Blk w g t cur) (hfit : off + dLen ≤ cur.size) (h1 : ∀ v ∈ xs, v.oneCell' = true) (m : Nat) (hm : min n dLen = m)
 (h : ∀ w', Blk w' g t (splice cur.toList off (xs.take dLen)).toArray → Kp [g] w w' → K (a.put o.dst (goInt (m : Int))) w') : o.wp P a w K Q := by
 subst hm
 obtain ⟨hl, A, c, rfl, h2, h3, hA, hc⟩ := hr
 by_cases h0 : min n dLen = 0
 · have hrun := run_copy_none (P := P) w dT sT o.type elem (some ⟨g, off, none⟩) A dLen dCap n c hu hsz h0
   have e : xs.take dLen = [] := by
    apply List.eq_nil_of_length_eq_zero
    rw [List.length_take]; omega
   have := h w (by rw [e]; simpa [splice] using hb) kR
   rw [h0] at this
   refine op_runs (v := goInt 0) (w' := w) ?_ this
   simp [execOp, ho, resolve, invoke, builtin, hd, hs, hrun, Result.andThen]
 · rcases A with _ | ad
   · have := hA rfl; omega
   · have hcl : (xs.take dLen).length = min n dLen := by rw [List.length_take]; omega
     have hrun := run_copy_row (P := P) w dT sT o.type elem g off dLen dCap ad n c cur t (xs.take dLen) hu hsz hb (by rw [hcl]) (fun j v hv => hc ad rfl j v (by
      rw [List.getElem?_take] at hv
      split at hv
      · exact hv
      · cases hv)) (by rw [hcl]; omega) (fun v hv => h1 v (List.mem_of_mem_take hv))
     have hblk := setRow_blk (cs := (cur.toList.take off ++ (xs.take dLen) ++ cur.toList.drop (off + (xs.take dLen).length)).toArray) hb
     refine op_runs (v := goInt ((xs.take dLen).length : Int)) (w' := w.setRow g (cur.toList.take off ++ (xs.take dLen) ++ cur.toList.drop (off + (xs.take dLen).length)).toArray) ?_ ?_
     rotate_left
     · have := h _ (by
        unfold splice
        rw [← List.append_assoc]
        exact hblk.1) hblk.2
       rw [← hcl] at this
       exact this
     · simp [execOp, ho, resolve, invoke, builtin, hd, hs, hrun, Result.andThen]
theorem mac_r0 (w0 : World) (L : List Res) (S : Held w0 w L) (hsz : a.tmps.size = 27) 
 (hend : ∀ a' W, Same a a' [4] → (∃ g, Sl a' 4 (.pointer (some ⟨g, 0, none⟩)) ∧ Held w0 W (blkR g 25 (hashA (List.replicate 32 0)) :: L)) → Q .normal a' W) : (Code.region 0 (opsOf 0 Tryd.f9).toArray false).wp Tryd.prog Q a w := by
 refine wp_region_lit ?_
 (conv => arg 4; whnf)
 have S0 := Lib.hid (S.newBlk 25 (hashA (List.replicate 32 0)))
 go_wp2
 try simp only [Act.put]
 exact hend _ _ sS (⟨w.heap.size, sP0, S0.out⟩)
theorem mac_r1 (w0 : World) (L : List Res) (S : Held w0 w L) (hsz : a.tmps.size = 27) 
 (hend : ∀ a' W, Same a a' [5] → (∃ g, Sl a' 5 (.pointer (some ⟨g, 0, none⟩)) ∧ Held w0 W (blkR g 76 (hashA (List.replicate 64 0)) :: L)) → Q .normal a' W) : (Code.region 1 (opsOf 1 Tryd.f9).toArray false).wp Tryd.prog Q a w := by
 refine wp_region_lit ?_
 (conv => arg 4; whnf)
 have S0 := Lib.hid (S.newBlk 76 (hashA (List.replicate 64 0)))
 go_wp2
 try simp only [Act.put]
 exact hend _ _ sS (⟨w.heap.size, sP0, S0.out⟩)
theorem mac_r2 (A : Option Addr) (n c : Nat) (hsz : a.tmps.size = 27) (o0 : Sl a 0 (.slice A n c))
 (hend : ∀ a', Same a a' [8, 9, 10] → Sl a' 10 (.bool (decide (64 < n))) → Q .normal a' (w)) : (Code.region 2 (opsOf 2 Tryd.f9).toArray false).wp Tryd.prog Q a w := by
 refine wp_region_lit ?_
 (conv => arg 4; whnf)
 unfold Sl at o0
 go_wp2_with fail
 try simp only [Act.put]
 exact hend _ sS sP
theorem mac_r3 (w0 : World) (A : Option Addr) (c : Nat) (s : List UInt8) (hs : s.length < 1152921504606846976) (L : List Res) (HX : ∀ V, Held w0 V L → Rd V 1 (.slice A s.length c) s.length (bv s)) (S : Held w0 w L) (hsz : a.tmps.size = 27) (o0 : Sl a 0 (.slice A s.length c))
 (hend : ∀ a' W, Same a a' [11, 12, 13, 6] → (∃ g, Sl a' 6 (.pointer (some ⟨g, 0, none⟩)) ∧ Held w0 W (blkR g 25 (hashA (shaF s)) :: L)) → Q .normal a' W) : (Code.region 3 (opsOf 3 Tryd.f9).toArray false).wp Tryd.prog Q a w := by
 refine wp_region_lit ?_
 (conv => arg 4; whnf)
 unfold Sl at o0
 have S := Lib.hid S
 have S1 := Lib.hid (S.out.newBlk 22 #[.slice A s.length c])
 have HR := Lib.hid (ssumv_any w0 _ ⟨w.heap.size, 0, none⟩ (.slice A s.length c) s hs _ S1.out (fun V SV => ⟨(SV.at_ (l1 := [])).cell 0, HX V SV.drop⟩))
 clear HX hs
 obtain ⟨nl, hnl⟩ : ∃ nl, s.length = nl := ⟨_, rfl⟩
 rw [hnl] at o0 S1 HR
 have hO := Lib.hid (hashA_one (shaF s))
 have hsz1 : Hid ((hashA (shaF s)).size = 32) := Lib.hid (by rw [hashA_size, shaF_length])
 obtain ⟨ch, hch⟩ : ∃ ch, Hid (hashA (shaF s) = ch) := ⟨_, Lib.hid rfl⟩
 rw [hch.out] at HR hO hsz1
 clear hnl
 go_wp2_with fail
 refine HR.out.mono ?_
 rintro e w4 ⟨rfl, S4⟩
 have S4 := Lib.hid (S4.drop.newBlk 25 (hashA (List.replicate 32 0)))
 go_wp2_with (refine wpList_store_blk rfl 25 (.tmp 6) (.tmp 13) rfl w4.heap.size (by simp [Act.eval, Act.put, hsz]) ch (by simp [Act.eval, Act.put, hsz]) 25 _ (S4.out.at_ (l1 := [])) (by rw [hsz1.out]; exact Tryd.infoHashP) (by rw [hsz1.out]; rfl) hO.out ?_; intro w5 b5 k5; have S5 := Lib.hid (Held.setBlk (l1 := []) S4.out b5 k5); clear b5 k5)
 rw [← hch.out] at S5
 try simp only [Act.put]
 exact hend _ _ sS (⟨_, sP0, S5.out⟩)
theorem mac_r4 (w0 : World) (g5 g6 : Nat) (h : List UInt8) (hh : h.length = 32) (L : List Res) (hsz : a.tmps.size = 27) (o5 : Sl a 5 (.pointer (some ⟨g5, 0, none⟩))) (o6 : Sl a 6 (.pointer (some ⟨g6, 0, none⟩)))
 (S0 : Held w0 w (blkR g5 76 (hashA (List.replicate 64 0)) :: blkR g6 25 (hashA h) :: L))
 (hend : ∀ a' W, Same a a' [14, 15, 16] → Held w0 W (blkR g5 76 (splice (hashA (List.replicate 64 0)).toList 0 (bv h)).toArray :: blkR g6 25 (hashA h) :: L) → Q .normal a' W) : (Code.region 4 (opsOf 4 Tryd.f9).toArray true).wp Tryd.prog Q a w := by
 have hap : apartB (opsOf 4 Tryd.f9) = true := by kernel_rfl
 refine wp_region_sep (Γ := Unit) (l := (opsOf 4 Tryd.f9)) 3 [0, 1, 2, 4, 5]
  (fun i vs gs => match i with | 0 => vs 0 = .slice (some ⟨g5, 0, none⟩) 64 64 | 1 => vs 1 = .slice (some ⟨g6, 0, none⟩) 32 32 | _ => True)
  (fun i vs gs => match i with | 2 => [blkR g5 76 (splice (hashA (List.replicate 64 0)).toList 0 (bv h)).toArray] | 3 => [blkR g5 76 (hashA (List.replicate 64 0))] | 4 => [blkR g6 25 (hashA h)] | 5 => L | _ => [])
  (fun i => match i with | 2 => [3] | _ => []) (fun i => match i with | 2 => [4] | _ => []) S0 (by kernel_rfl) hap (by kernel_rfl) (by kernel_rfl) (fun i => match i with | 0 => [0] | 1 => [1] | _ => []) (by kernel_rfl) ?_ (by kernel_rfl) ?_ ?_ ?_
 · intro s vs vs' gs gs' h
   iterate 6 (rcases s with _ | s; · (first | exact ⟨rfl, id⟩ | (simp only [List.mem_cons, List.not_mem_nil, or_false, forall_eq] at h; simp [h])))
   exact ⟨rfl, id⟩
 · simp only [List.range, List.range.loop, List.flatMap_cons, List.flatMap_nil, List.append_nil]
   exact List.Perm.refl _
 · clear S0 hend
   refine ⟨?_, ?_, ?_, trivial⟩
   · intro vs gs A' W LF hA S hR hd hu K hK; replace hK := hK default; have e5 := sO 5 o5 hA hap hsz; clear hA o5 o6; go_step; exact hK _ _ S rfl
   · intro vs gs A' W LF hA S hR hd hu K hK; replace hK := hK default; have e6 := sO 6 o6 hA hap hsz; clear hA o5 o6; go_step; exact hK _ _ S rfl
   · intro vs gs A' W LF hA S hR hd hu K hK; replace hK := hK default; have e14 := sV 14 (hd 0 (by kernel_rfl)) hA hap hsz; have e15 := sV 15 (hd 1 (by kernel_rfl)) hA hap hsz; clear hA o5 o6
     have S1 : Held w0 W (blkR g5 76 (hashA (List.replicate 64 0)) :: LF) := S
     refine op_copy_blk (.tmp 14) (.tmp 15) 22 22 rfl 5 Tryd.underlying22 (by kernel_rfl) g5 0 64 64 (by simpa [Act.eval] using e14) _ (by simpa [Act.eval] using e15) 32 (bv h) (Rd.of_hash (S1.ok (blkR g6 25 (hashA h)) (List.mem_cons_of_mem _ (hR 4 (List.mem_singleton.2 rfl) _ (List.mem_singleton.2 rfl)))) hh) 76 _ (S1.at_ (l1 := [])) (by rw [hashA_size]; exact Nat.le_refl _) (bv_one h) 32 rfl (fun w' hbk k => hK _ _ ?_ trivial)
     rw [List.take_of_length_le (by rw [bv_length]; omega)] at hbk
     exact Held.setBlk (l1 := []) S1 hbk k
 · intro vs gs W S hp
   have S : Held w0 W (blkR g5 76 (splice (hashA (List.replicate 64 0)).toList 0 (bv h)).toArray :: blkR g6 25 (hashA h) :: L) := by simpa only [List.flatMap_cons, List.flatMap_nil, List.append_nil, List.nil_append, List.cons_append, List.append_assoc] using S
   rw [putAll_eq]
   exact hend _ W sQ  S
theorem mac_r5 (w0 : World) (g5 : Nat) (A : Option Addr) (c : Nat) (s : List UInt8) (L : List Res) (hr : Rd w 1 (.slice A s.length c) s.length (bv s)) (S : Held w0 w (blkR g5 76 (hashA (List.replicate 64 0)) :: L)) (hsz : a.tmps.size = 27) (o0 : Sl a 0 (.slice A s.length c)) (o5 : Sl a 5 (.pointer (some ⟨g5, 0, none⟩)))
 (hend : ∀ a' W, Same a a' [17, 18, 19] → (Held w0 W (blkR g5 76 (splice (hashA (List.replicate 64 0)).toList 0 ((bv s).take 64)).toArray :: L)) → Q .normal a' W) : (Code.region 5 (opsOf 5 Tryd.f9).toArray false).wp Tryd.prog Q a w := by
 refine wp_region_lit ?_
 (conv => arg 4; whnf)
 unfold Sl at o0 o5
 have S := Lib.hid S
 have Hr := Lib.hid hr
 clear hr
 obtain ⟨ll, hll⟩ : ∃ ll, s.length = ll := ⟨_, rfl⟩
 have HLL := Lib.hid hll
 rw [hll] at o0 Hr
 clear hll
 obtain ⟨mm, hmm⟩ : ∃ mm, min ll 64 = mm := ⟨_, rfl⟩
 have HM := Lib.hid hmm
 clear hmm
 go_wp2_with (refine wpList_copy_blk rfl (.tmp 17) (.tmp 18) 22 22 rfl 5 Tryd.underlying22 (by kernel_rfl) g5 0 64 64 (by simp [Act.eval, Act.put, hsz]) _ (by simp [Act.eval, Act.put, hsz]) ll (bv s) Hr.out 76 _ (S.out.at_ (l1 := [])) (by rw [hashA_size]; exact Nat.le_refl _) (bv_one s) mm HM.out ?_; intro w2 b2 k2; have S2 := Lib.hid (Held.setBlk (l1 := []) S.out b2 k2); clear b2 k2)
 try simp only [Act.put]
 exact hend _ _ sS (S2.out)
theorem mac_r6 (w0 : World) (g5 : Nat) (key : List UInt8) (hk : key.length = 64) (x : Value) (vs : List Value) (ls : List (List UInt8)) (A : Option Addr) (c : Nat) (hx : x = .slice A ls.length c) (hsum : 64 + ls.flatten.length < 1152921504606846976) (L : List Res) (HX : ∀ V, Held w0 V (blkR g5 76 (hashA key) :: L) → TxF V x vs ls) (S : Held w0 w (blkR g5 76 (hashA key) :: L)) (hsz : a.tmps.size = 27) (o1 : Sl a 1 (.slice A ls.length c)) (o5 : Sl a 5 (.pointer (some ⟨g5, 0, none⟩)))
 (hend : ∀ a' W, Same a a' [20, 21, 22, 7] → (∃ g, Sl a' 7 (.pointer (some ⟨g, 0, none⟩)) ∧ Held w0 W (blkR g 25 (hashA (shaF (turned key 54 ++ ls.flatten))) :: blkR g5 76 (hashA key) :: L)) → Q .normal a' W) : (Code.region 6 (opsOf 6 Tryd.f9).toArray false).wp Tryd.prog Q a w := by
 refine wp_region_lit ?_
 (conv => arg 4; whnf)
 unfold Sl at o1 o5
 have S := Lib.hid S
 have HR := Lib.hid (hashed_any w0 _ key hk 54 x vs ls hsum w S.out HX)
 rw [hx] at HR
 have Hk := Lib.hid hk
 clear HX hsum hx hk
 obtain ⟨nl, hnl⟩ : ∃ nl, ls.length = nl := ⟨_, rfl⟩
 rw [hnl] at o1 HR
 have hO := Lib.hid (hashA_one (shaF (turned key 54 ++ ls.flatten)))
 have hsz1 : Hid ((hashA (shaF (turned key 54 ++ ls.flatten))).size = 32) := Lib.hid (by rw [hashA_size, shaF_length])
 obtain ⟨ch, hch⟩ : ∃ ch, Hid (hashA (shaF (turned key 54 ++ ls.flatten)) = ch) := ⟨_, Lib.hid rfl⟩
 have hkz : Hid ((hashA key).size = 64) := Lib.hid (by rw [hashA_size, Hk.out])
 obtain ⟨ck, hck⟩ : ∃ ck, Hid (hashA key = ck) := ⟨_, Lib.hid rfl⟩
 rw [hch.out] at HR hO hsz1
 rw [hck.out] at HR S hkz
 clear hnl
 go_wp2_with (refine wpList_load_blk rfl 76 (.tmp 5) rfl g5 (by simp [Act.eval, Act.put, hsz, o5]) 76 _ (S.out.at_ (l1 := [])) _ Tryd.underlying76 rfl (by rw [hkz.out]; exact Tryd.info64u8s) ?_)
 refine HR.out.mono ?_
 rintro e w4 ⟨rfl, S4⟩
 have S4 := Lib.hid (S4.newBlk 25 (hashA (List.replicate 32 0)))
 go_wp2_with (refine wpList_store_blk rfl 25 (.tmp 7) (.tmp 22) rfl w4.heap.size (by simp [Act.eval, Act.put, hsz]) ch (by simp [Act.eval, Act.put, hsz]) 25 _ (S4.out.at_ (l1 := [])) (by rw [hsz1.out]; exact Tryd.infoHashP) (by rw [hsz1.out]; rfl) hO.out ?_; intro w5 b5 k5; have S5 := Lib.hid (Held.setBlk (l1 := []) S4.out b5 k5); clear b5 k5)
 rw [← hch.out, ← hck.out] at S5
 try simp only [Act.put]
 exact hend _ _ sS (⟨_, sP0, S5.out⟩)
theorem mac_r7 (w0 : World) (g5 g7 g4 : Nat) (key h : List UInt8) (hk : key.length = 64) (hh : h.length = 32) (L : List Res) (hsz : a.tmps.size = 27) (o4 : Sl a 4 (.pointer (some ⟨g4, 0, none⟩))) (o5 : Sl a 5 (.pointer (some ⟨g5, 0, none⟩))) (o7 : Sl a 7 (.pointer (some ⟨g7, 0, none⟩)))
 (S0 : Held w0 w (blkR g4 25 (hashA (List.replicate 32 0)) :: blkR g5 76 (hashA key) :: blkR g7 25 (hashA h) :: L))
 (hend : ∀ (a' : Act) (vs : Nat → Value) (gs : Nat → Nat) (W : World), Same a a' [23, 24, 25, 26] → Held w0 W (blkR (gs 2) 22 #[.slice (some ⟨g7, 0, none⟩) 32 32] :: blkR g4 25 (hashA (shaF (turned key 92 ++ h))) :: blkR g5 76 (hashA key) :: blkR g7 25 (hashA h) :: L) → Q .normal a' W) : (Code.region 7 (opsOf 7 Tryd.f9).toArray true).wp Tryd.prog Q a w := by
 have hap : apartB (opsOf 7 Tryd.f9) = true := by kernel_rfl
 refine wp_region_sep (Γ := Nat) (l := (opsOf 7 Tryd.f9)) 4 [0, 1, 2, 3, 4, 6, 7, 8]
  (fun i vs gs => match i with | 0 => vs 0 = .agg (hashA key) | 1 => vs 1 = .slice (some ⟨g7, 0, none⟩) 32 32 | 2 => vs 2 = .slice (some ⟨gs 2, 0, none⟩) 1 1 | 3 => vs 3 = .agg (hashA (shaF (turned key 92 ++ h))) | _ => True)
  (fun i vs gs => match i with | 2 => [blkR (gs 2) 22 #[.slice (some ⟨g7, 0, none⟩) 32 32]] | 4 => [blkR g4 25 (hashA (shaF (turned key 92 ++ h)))] | 5 => [blkR g4 25 (hashA (List.replicate 32 0))] | 6 => [blkR g5 76 (hashA key)] | 7 => [blkR g7 25 (hashA h)] | 8 => L | _ => [])
  (fun i => match i with | 4 => [5] | _ => []) (fun i => match i with | 0 => [6] | 3 => [2, 7] | _ => []) S0 (by kernel_rfl) hap (by kernel_rfl) (by kernel_rfl) (fun i => match i with | 0 => [0] | 1 => [1] | 2 => [2] | 3 => [3] | _ => []) (by kernel_rfl) ?_ (by kernel_rfl) ?_ ?_ ?_
 · intro s vs vs' gs gs' h
   iterate 9 (rcases s with _ | s; · (first | exact ⟨rfl, id⟩ | (simp only [List.mem_cons, List.not_mem_nil, or_false, forall_eq] at h; simp [h])))
   exact ⟨rfl, id⟩
 · simp only [List.range, List.range.loop, List.flatMap_cons, List.flatMap_nil, List.append_nil]
   exact List.Perm.refl _
 · clear S0 hend
   refine ⟨?_, ?_, ?_, ?_, ?_, trivial⟩
   · intro vs gs A' W LF hA S hR hd hu K hK; replace hK := hK default; have e5 := sO 5 o5 hA hap hsz; clear hA o4 o5 o7
     refine op_runs (v := .agg (hashA key)) (w' := W) (exec_load rfl (by simpa [Act.eval] using e5) (run_loadAt_agg W ⟨g5, 0, none⟩ 76 (hashA key).toList _ (Blk.agg (show Blk W g5 76 (hashA key) from S.ok (blkR g5 76 (hashA key)) (hR 6 (List.mem_singleton.2 rfl) _ (List.mem_singleton.2 rfl)))) Tryd.underlying76 rfl (by rw [Array.length_toList, hashA_size, hk]; exact Tryd.info64u8s))) ?_
     exact hK _ _ S rfl
   · intro vs gs A' W LF hA S hR hd hu K hK; replace hK := hK default; have e7 := sO 7 o7 hA hap hsz; clear hA o4 o5 o7; go_step; exact hK _ _ S rfl
   · intro vs gs A' W LF hA S hR hd hu K hK; have e24 := sV 24 (hd 1 (by kernel_rfl)) hA hap hsz; clear hA o4 o5 o7; go_step
     exact hK W.heap.size _ _ (S.newBlk _ _) rfl
   · intro vs gs A' W LF hA S hR hd hu K hK; replace hK := hK default; have e23 := sV 23 (hd 0 (by kernel_rfl)) hA hap hsz; have e25 := sV 25 (hd 2 (by kernel_rfl)) hA hap hsz; clear hA o4 o5 o7
     generalize hca : hashA key = ca at *
     go_step
     rw [← hca]
     have h2 : blkR (gs 2) 22 #[.slice (some ⟨g7, 0, none⟩) 32 32] ∈ LF := hR 2 (List.mem_cons_self ..) _ (List.mem_singleton.2 rfl)
     have h7 : blkR g7 25 (hashA h) ∈ LF := hR 7 (List.mem_cons_of_mem _ (List.mem_singleton.2 rfl)) _ (List.mem_singleton.2 rfl)
     refine (hashed_any w0 LF key hk 92 (.slice (some ⟨gs 2, 0, none⟩) 1 1) [.slice (some ⟨g7, 0, none⟩) 32 32] [h] (by simp [hh]) _ S (fun V SV => ?_)).mono ?_
     · exact txf_one (SV.ok _ h2) (Rd.of_hash (SV.ok _ h7) hh)
     rintro e w' ⟨rfl, Sq⟩
     rw [show [h].flatten = h from by simp]
     exact hK _ _ Sq rfl
   · intro vs gs A' W LF hA S hR hd hu K hK; replace hK := hK default; have e4 := sO 4 o4 hA hap hsz; have e26 := sV 26 (hd 3 (by kernel_rfl)) hA hap hsz; clear hA o4 o5 o7
     have S1 : Held w0 W (blkR g4 25 (hashA (List.replicate 32 0)) :: LF) := S
     refine op_store_part (.tmp 4) (.tmp 26) 25 rfl g4 0 (by simpa [Act.eval] using e4) (hashA (shaF (turned key 92 ++ h))) (by simpa [Act.eval] using e26) 25 _ (S1.at_ (l1 := [])) (by rw [hashA_size, shaF_length]; exact Tryd.infoHashP) (by rw [hashA_size, shaF_length]; exact Nat.le_refl _) (hashA_one _) (fun w' hbk k => hK undef _ ?_ trivial)
     rw [set_all _ _ (by rw [hashA_size, hashA_size, shaF_length]; rfl)] at hbk
     exact Held.setBlk (l1 := []) S1 hbk k
 · intro vs gs W S hp
   have S : Held w0 W (blkR (gs 2) 22 #[.slice (some ⟨g7, 0, none⟩) 32 32] :: blkR g4 25 (hashA (shaF (turned key 92 ++ h))) :: blkR g5 76 (hashA key) :: blkR g7 25 (hashA h) :: L) := by simpa only [List.flatMap_cons, List.flatMap_nil, List.append_nil, List.nil_append, List.cons_append, List.append_assoc] using S
   rw [putAll_eq]
   exact hend _ vs gs W sQ  S
end
/- sign.Mac, whole. -/
section
open Go.RowKit
theorem key_splice {h : List UInt8} (hl : h.length ≤ 64) : (splice (hashA (List.replicate 64 0)).toList 0 (bv h)).toArray = hashA (h ++ List.replicate (64 - h.length) 0) := by
 unfold splice hashA
 congr 1
 rw [List.take_zero, List.nil_append, Nat.zero_add, bv_length, bv_append]
 congr 1
 show (bv (List.replicate 64 0)).drop _ = _
 unfold bv
 rw [List.map_replicate, List.map_replicate, List.drop_replicate]
theorem mac_any (w0 : World) (L : List Res) (A : Option Addr) (c : Nat) (sec : List UInt8) (hs : sec.length < 1152921504606846976) (x : Value) (vs : List Value) (ls : List (List UInt8)) (hsum : 64 + ls.flatten.length < 1152921504606846976) (w : World) (S : Held w0 w L)
 (HS : ∀ V, Held w0 V L → Rd V 1 (.slice A sec.length c) sec.length (bv sec)) (HX : ∀ V, Held w0 V L → TxF V x vs ls) :
 Calls Tryd.prog 9 #[.slice A sec.length c, x] w fun e w' => e = .returned (.agg (hashA (macF sec ls.flatten))) ∧ Held w0 w' L := by
 obtain ⟨Ax, cx, hx, -, -⟩ := (show Txs w x ls from ⟨vs, HX w S⟩).open_
 refine calls_fr Tryd.func9 rfl 27 rfl (fun a0 hsz hdf hAr => ?_)
 have hz0 : a0.tmps.size = 27 := hsz
 have D := hdf
 have o0 := hAr 0 _ rfl
 have o1 : Sl a0 1 (.slice Ax ls.length cx) := by rw [← hx]; exact hAr 1 _ rfl
 refine wp_seq (mac_r0 w0 _ S hz0 (fun a1 w1 hs1 h => ?_))
 have hz1 := hs1.size.trans hz0; have o0 := hs1.k o0; have o1 := hs1.k o1; have D := hs1.defers.trans D
 obtain ⟨g4, o4, S⟩ := h
 refine wp_seq (mac_r1 w0 _ S hz1 (fun a2 w2 hs2 h => ?_))
 have hz2 := hs2.size.trans hz1; have o0 := hs2.k o0; have o1 := hs2.k o1; have o4 := hs2.k o4; have D := hs2.defers.trans D
 obtain ⟨g5, o5, S⟩ := h
 refine wp_seq (wp_seq (mac_r2 A sec.length c hz2 o0 (fun a3 hs3 o10 => ?_)))
 have hz3 := hs3.size.trans hz2; have o0 := hs3.k o0; have o1 := hs3.k o1; have o4 := hs3.k o4; have o5 := hs3.k o5; have D := hs3.defers.trans D
 have tail : ∀ (a3 : Act) (w3 : World), a3.tmps.size = 27 → a3.defers = [] → Sl a3 1 (.slice Ax ls.length cx) → Sl a3 4 (.pointer (some ⟨g4, 0, none⟩)) → Sl a3 5 (.pointer (some ⟨g5, 0, none⟩)) → Held w0 w3 (blkR g5 76 (hashA (key64 sec)) :: blkR g4 25 (hashA (List.replicate 32 0)) :: L) →
  (tailOf 2 Tryd.f9).wp Tryd.prog (bodyPost Tryd.prog Tryd.f9 fun e w' => e = .returned (.agg (hashA (macF sec ls.flatten))) ∧ Held w0 w' L) a3 w3 := by
  intro a3 w3 hz3 D o1 o4 o5 S
  refine wp_seq (mac_r6 w0 g5 _ (key64_length sec) x vs ls Ax cx hx hsum _ (fun V SV => HX V SV.drop.drop) S hz3 o1 o5 (fun a4 w4 hs4 h => ?_))
  have hz4 := hs4.size.trans hz3; have o1 := hs4.k o1; have o4 := hs4.k o4; have o5 := hs4.k o5; have D := hs4.defers.trans D
  obtain ⟨g7, o7, S⟩ := h
  have S := S.perm ((List.Perm.cons _ (List.Perm.swap _ _ _)).trans ((List.Perm.swap _ _ _).trans (List.Perm.cons _ (List.Perm.swap _ _ _))))
  refine wp_seq (mac_r7 w0 g5 g7 g4 _ _ (key64_length sec) (shaF_length _) _ hz4 o4 o5 o7 S (fun a5 vs5 gs5 w5 hs5 S => ?_))
  have hz5 := hs5.size.trans hz4; have o1 := hs5.k o1; have o4 := hs5.k o4; have o5 := hs5.k o5; have o7 := hs5.k o7; have D := hs5.defers.trans D
  refine wp_ret (bodyPost_ret (results_cell1 (by rfl) (o4.eval (by rw [hz5]; decide)) (S.at_ (l1 := [_])) Tryd.underlying25 rfl (by rw [hashA_size, shaF_length]; exact Tryd.infoHashP)) D ⟨rfl, ?_⟩)
  exact S.drop.drop.drop.drop
 by_cases hlt : 64 < sec.length
 · refine wp_cond_true ((o10.eval (by rw [hz3]; decide)).trans (by rw [decide_eq_true hlt])) ?_
   refine wp_seq (mac_r3 w0 A c sec hs _ (fun V SV => HS V SV.drop.drop) S hz3 o0 (fun a4 w4 hs4 h => ?_))
   have hz4 := hs4.size.trans hz3; have o0 := hs4.k o0; have o1 := hs4.k o1; have o4 := hs4.k o4; have o5 := hs4.k o5; have o10 := hs4.k o10; have D := hs4.defers.trans D
   obtain ⟨g6, o6, S⟩ := h
   have S := S.perm (List.Perm.swap _ _ _)
   refine mac_r4 w0 g5 g6 _ (shaF_length sec) _ hz4 o5 o6 S (fun a5 w5 hs5 S => ?_)
   have hz5 := hs5.size.trans hz4; have o0 := hs5.k o0; have o1 := hs5.k o1; have o4 := hs5.k o4; have o5 := hs5.k o5; have o10 := hs5.k o10; have o6 := hs5.k o6; have D := hs5.defers.trans D
   rw [key_splice (by rw [shaF_length]; omega)] at S
   have ek : shaF sec ++ List.replicate (64 - (shaF sec).length) 0 = key64 sec := by unfold key64; rw [if_pos hlt]
   rw [ek] at S
   exact tail _ _ hz5 D o1 o4 o5 (S.dropAt (l1 := [_]))
 · refine wp_cond_false ((o10.eval (by rw [hz3]; decide)).trans (by rw [decide_eq_false hlt])) ?_
   refine mac_r5 w0 g5 A c sec _ (HS _ S.drop.drop) S hz3 o0 o5 (fun a4 w4 hs4 S => ?_)
   have hz4 := hs4.size.trans hz3; have o0 := hs4.k o0; have o1 := hs4.k o1; have o4 := hs4.k o4; have o5 := hs4.k o5; have D := hs4.defers.trans D
   rw [List.take_of_length_le (by rw [bv_length]; omega), key_splice (by omega)] at S
   have ek : sec ++ List.replicate (64 - sec.length) 0 = key64 sec := by unfold key64; rw [if_neg hlt]
   rw [ek] at S
   exact tail _ _ hz4 D o1 o4 o5 S
end
/- The reference's New, eight, words. -/
section
open Go.RowKit
section
variable {st : List Nat} {n : Nat} {v : Value}
end
end
/- Block of the reference: its regions, each a theorem. -/
section
open Go.RowKit
end
/- Block of the reference. -/
section
open Go.RowKit
end
/- The reference's Take, End, Sum. -/
section
open Go.RowKit
end
/- The reference's End, Sum. -/
section
open Go.RowKit
end
/- The reference's Mac. -/
section
open Go.RowKit
end
/- Names and keys of both packages. -/
section
open Go.RowKit
def okB (c : UInt8) : Bool := decide (33 ≤ c.toNat) && decide (c.toNat ≤ 126)
theorem nmOk_eq (l : List UInt8) : nmOk l = (decide (0 < l.length) && decide (l.length ≤ 64) && l.all okB) := rfl
theorem all_take_succ {l : List UInt8} {k : Nat} (h : k < l.length) : (l.take (k + 1)).all okB = ((l.take k).all okB && okB l[k]) := by
 rw [List.take_add_one, List.getElem?_eq_getElem h, Option.toList_some, List.all_append, List.all_cons, List.all_nil, Bool.and_true]
theorem all_of_take {l : List UInt8} {k : Nat} (h : k < l.length) (hb : okB l[k] = false) : l.all okB = false := by
 rw [List.all_eq_false]
 exact ⟨l[k], List.getElem_mem h, by simp [hb]⟩
theorem nonempty_strS {s : ByteArray} (h : 0 < s.size) : s.toList.isEmpty = false := by
 rw [Lib.toList_data]
 cases hl : s.data.toList with
 | nil => have : s.data.toList.length = s.size := rfl; rw [hl] at this; simp at this; omega
 | cons _ _ => rfl
theorem signer_any (s : ByteArray) (hs : s.size ≤ 9223372036854775807) (w : World) : Calls Tryd.prog 54 #[.string s] w fun e w' => e = .returned (.bool (nmOk s.data.toList)) ∧ w = w' := by
 have hsz : s.data.toList.length = s.size := rfl
 go_enter Tryd.func54, Tryd.ntmps54
 go_wp2
 go_loopw [3, 6] (fun _ i wr => ∃ k : Nat, k ≤ s.size ∧ i = .int .i64 (k : Int) ∧ Hid ((s.data.toList.take k).all okB = true) ∧ w = wr) (fun _ i _ => s.size - (intOf i).toNat)
 case atStart => exact ⟨0, by omega, rfl, Lib.hid rfl, rfl⟩
 case round =>
  obtain ⟨k, hk, rfl, HA, rfl⟩ := hrel
  by_cases hlt : k < s.size
  · have hx := run_str_indexP s k hlt w
    have hkl : k < s.data.toList.length := hlt
    have hok : okB s[k] = (decide (33 ≤ s[k].toNat) && decide (s[k].toNat ≤ 126)) := rfl
    have hts := Lib.hid (all_take_succ hkl)
    have htf := Lib.hid (all_of_take hkl)
    have he : s.data.toList[k] = s[k] := rfl
    rw [he] at hts htf
    have hc := s[k].toNat_lt
    generalize hcc : s[k] = c at *
    by_cases h1 : c.toNat < 33
    · have Hb : Hid (nmOk s.data.toList = false) := Lib.hid (by rw [nmOk_eq, htf.out (by rw [hok]; simp; omega), Bool.and_false])
      clear hts htf hok he hcc
      go_wp2
      go_ret
      exact ⟨by rw [Hb.out]; rfl, rfl⟩
    · by_cases h2 : 126 < c.toNat
      · have Hb : Hid (nmOk s.data.toList = false) := Lib.hid (by rw [nmOk_eq, htf.out (by rw [hok]; simp; omega), Bool.and_false])
        clear hts htf hok he hcc
        go_wp2
        go_ret
        exact ⟨by rw [Hb.out]; rfl, rfl⟩
      · have Hb : Hid ((s.data.toList.take (k + 1)).all okB = true) := Lib.hid (by rw [hts.out, HA.out, hok]; simp; omega)
        clear hts htf hok he hcc
        go_wp2
        go_roundw
        case rel => exact ⟨k + 1, by omega, by go_num, Hb, trivial⟩
        case measure => simp [intOf]; omega
  · obtain rfl : k = s.size := by omega
    have hall : Hid (nmOk s.data.toList = (decide (0 < s.size) && decide (s.size ≤ 64))) := Lib.hid (by
     rw [nmOk_eq, show s.data.toList.all okB = true from by have := HA.out; rwa [List.take_of_length_le (by omega)] at this, Bool.and_true]; rfl)
    by_cases h0 : s.size = 0
    · have hse : s = { data := #[] } := by
       have : s.data.size = 0 := h0
       cases s with | mk d => simp at this; simp [this]
      subst hse
      go_wp2
      go_ret
      exact ⟨by rw [hall.out]; rfl, rfl⟩
    · have hem : s.toList.isEmpty = false := nonempty_strS (by omega)
      have hd : Hid ((decide (0 < s.size) && decide (s.size ≤ 64)) = decide ((s.size : Int) ≤ 64)) := Lib.hid (by rw [decide_eq_true (show 0 < s.size by omega), Bool.true_and]; congr 1; exact propext ⟨fun h => by omega, fun h => by omega⟩)
      go_wp2
      go_ret
      exact ⟨by rw [hall.out, hd.out]; rfl, rfl⟩
theorem rname_any (s : ByteArray) (hs : s.size ≤ 9223372036854775807) (w : World) : Calls Tryd.prog 73 #[.string s] w fun e w' => e = .returned (.bool (nmOk s.data.toList)) ∧ w = w' := by
 have hsz : s.data.toList.length = s.size := rfl
 by_cases h0 : s.size < 1
 · have Hb : Hid (nmOk s.data.toList = false) := Lib.hid (by rw [nmOk_eq, hsz, decide_eq_false (by omega), Bool.false_and, Bool.false_and])
   have hz : (s.size : Int) < 1 := by omega
   go_enter Tryd.func73, Tryd.ntmps73
   go_wp2
   go_ret
   exact ⟨by rw [Hb.out]; rfl, rfl⟩
 · by_cases h64 : 64 < s.size
   · have Hb : Hid (nmOk s.data.toList = false) := Lib.hid (by rw [nmOk_eq, hsz, decide_eq_false (show ¬ s.size ≤ 64 by omega), Bool.and_false, Bool.false_and])
     have hz : ¬ (s.size : Int) < 1 := by omega
     have hz2 : (64 : Int) < (s.size : Int) := by omega
     clear hsz
     go_enter Tryd.func73, Tryd.ntmps73
     go_wp2
     all_goals
      go_ret
      exact ⟨by rw [Hb.out]; rfl, rfl⟩
   · have hz : ¬ (s.size : Int) < 1 := by omega
     have hz2 : ¬ (64 : Int) < (s.size : Int) := by omega
     have hb0 : nmOk s.data.toList = s.data.toList.all okB := by rw [nmOk_eq, hsz, decide_eq_true (show 0 < s.size by omega), decide_eq_true (show s.size ≤ 64 by omega)]; rfl
     have hb := Lib.hid hb0
     clear hb0
     go_enter Tryd.func73, Tryd.ntmps73
     go_wp2
     go_loopw [3] (fun i wr => ∃ k : Nat, k ≤ s.size ∧ i = .int .i64 (k : Int) ∧ Hid ((s.data.toList.take k).all okB = true) ∧ w = wr) (fun i _ => s.size - (intOf i).toNat)
     case atStart => exact ⟨0, by omega, rfl, Lib.hid rfl, rfl⟩
     case round =>
      obtain ⟨k, hk, rfl, HA, rfl⟩ := hrel
      by_cases hlt : k < s.size
      · have hx := run_str_indexP s k hlt w
        have hkl : k < s.data.toList.length := hlt
        have hok : okB s[k] = (decide (33 ≤ s[k].toNat) && decide (s[k].toNat ≤ 126)) := rfl
        have hts := Lib.hid (all_take_succ hkl)
        have htf := Lib.hid (all_of_take hkl)
        have he : s.data.toList[k] = s[k] := rfl
        rw [he] at hts htf
        have hc := s[k].toNat_lt
        generalize hcc : s[k] = c at *
        by_cases h1 : c.toNat < 33
        · have Hb : Hid (nmOk s.data.toList = false) := Lib.hid (by rw [hb.out, htf.out (by rw [hok]; simp; omega)])
          clear hts htf hok he hcc
          go_wp2
          go_ret
          exact ⟨by rw [Hb.out]; rfl, rfl⟩
        · by_cases h2 : 126 < c.toNat
          · have Hb : Hid (nmOk s.data.toList = false) := Lib.hid (by rw [hb.out, htf.out (by rw [hok]; simp; omega)])
            clear hts htf hok he hcc
            go_wp2
            go_ret
            exact ⟨by rw [Hb.out]; rfl, rfl⟩
          · have Hb : Hid ((s.data.toList.take (k + 1)).all okB = true) := Lib.hid (by rw [hts.out, HA.out, hok]; simp; omega)
            clear hts htf hok he hcc
            go_wp2
            go_roundw
            case rel => exact ⟨k + 1, by omega, by go_num, Hb, trivial⟩
            case measure => simp [intOf]; omega
      · obtain rfl : k = s.size := by omega
        have hall : Hid (nmOk s.data.toList = true) := Lib.hid (by
         rw [hb.out]; have := HA.out; rwa [List.take_of_length_le (by omega)] at this)
        go_wp2
        go_ret
        exact ⟨by rw [hall.out]; rfl, rfl⟩
theorem smay_any (s : ByteArray) (hs : s.size ≤ 9223372036854775807) (A : Option Addr) (n c : Nat) (w : World) : Calls Tryd.prog 48 #[.agg #[.string s, .slice A n c]] w fun e w' => e = .returned (.bool (nmOk s.data.toList && decide (0 < n) && decide (n ≤ 256))) ∧ Kp [] w w' := by
 have S0 := Lib.hid ((Held.start w).newBlk 42 #[.string s, .slice A n c])
 obtain ⟨c0, c1, -⟩ := Blk.c2 (S0.out.at_ (l1 := []))
 have HS := Lib.hid (fun V => signer_any s hs V)
 generalize nmOk s.data.toList = b at *
 go_enter Tryd.func48, Tryd.ntmps48
 go_wp2_with fail
 refine (HS.out _).mono ?_
 rintro e w' ⟨rfl, rfl⟩
 cases b
 · go_wp2
   go_ret
   exact ⟨rfl, S0.out.k⟩
 · by_cases h0 : 0 < n
   · have hz : (0 : Int) < (n : Int) := by omega
     go_wp2
     go_ret
     refine ⟨?_, S0.out.k⟩
     simp [h0]
     omega
   · obtain rfl : n = 0 := by omega
     go_wp2
     go_ret
     exact ⟨rfl, S0.out.k⟩
end
/- Signatures in memory; the order of names. -/
section
open Go.RowKit
theorem less_cmp : ∀ a b : List UInt8, Op.bytesLess a b = decide (cmpB a b < 0)
 | [], [] => rfl
 | [], _ :: _ => rfl
 | _ :: _, [] => rfl
 | x :: a, y :: b => by
  rw [cmpB_cons]
  unfold Op.bytesLess
  have ih := less_cmp a b
  by_cases h1 : x.toNat < y.toNat
  · rw [if_pos h1]
    simp [UInt8.lt_iff_toNat_lt, h1]
  · rw [if_neg h1]
    by_cases h2 : y.toNat < x.toNat
    · rw [if_pos h2]
      have : ¬ x = y := fun e => by subst e; omega
      simp [UInt8.lt_iff_toNat_lt, h1, this]
    · rw [if_neg h2]
      have : x = y := UInt8.toNat_inj.1 (by omega)
      subst this
      simp [ih]
theorem cmp_beq (a b : List UInt8) : (a == b) = decide (cmpB a b = 0) := by
 rw [Bool.eq_iff_iff, beq_iff_eq, decide_eq_true_iff]
 exact ⟨fun h => by subst h; exact cmpB_self a, cmpB_zero⟩
theorem leq_cmp (a b : List UInt8) : (Op.bytesLess a b || a == b) = decide (cmpB a b ≤ 0) := by
 rw [less_cmp, cmp_beq, Bool.eq_iff_iff, Bool.or_eq_true, decide_eq_true_iff, decide_eq_true_iff, decide_eq_true_iff]
 omega
def strV (s : List UInt8) : Value := .string ⟨s.toArray⟩
theorem str_list (s : List UInt8) : (ByteArray.mk s.toArray).toList = s := by rw [Lib.toList_data]
theorem str_size (s : List UInt8) : (ByteArray.mk s.toArray).size = s.length := by show s.toArray.size = _; simp
def sgL (s : SigD) : List Value := strV s.1 :: bv s.2
def sgA (s : SigD) : Array Value := (sgL s).toArray
def sgsC (l : List SigD) : List Value := l.flatMap sgL
def SgOk (l : List SigD) : Prop := ∀ s, s ∈ l → s.2.length = 32 ∧ s.1.length ≤ 9223372036854775807
theorem sgL_length {s : SigD} (h : s.2.length = 32) : (sgL s).length = 33 := by simp [sgL, bv_length, h]
theorem sgA_size {s : SigD} (h : s.2.length = 32) : (sgA s).size = 33 := by simp only [sgA, List.size_toArray]; exact sgL_length h
theorem sgA_one (s : SigD) : ∀ u, u ∈ (sgA s).toList → u.oneCell' = true := by
 intro u hu
 simp only [sgA, List.toList_toArray, sgL, List.mem_cons] at hu
 rcases hu with rfl | hu
 · rfl
 · exact bv_one _ u hu
theorem sgsC_length : ∀ {l : List SigD}, SgOk l → (sgsC l).length = l.length * 33
 | [], _ => rfl
 | s :: l, h => by
  show (sgL s ++ sgsC l).length = _
  rw [List.length_append, sgL_length (h s (by simp)).1, sgsC_length (fun x hx => h x (by simp [hx])), List.length_cons]; omega
theorem sgsC_at : ∀ {l : List SigD} {k : Nat} {s : SigD}, SgOk l → l[k]? = some s → ∀ j u, (sgL s)[j]? = some u → (sgsC l)[k * 33 + j]? = some u
 | [], _, _, _, h => by simp at h
 | s :: l, 0, _, hok, h => fun j u hu => by
  obtain rfl : s = _ := by simpa using h
  show (sgL s ++ sgsC l)[0 * 33 + j]? = _
  rw [Nat.zero_mul, Nat.zero_add, List.getElem?_append_left (List.getElem?_eq_some_iff.1 hu).1]
  exact hu
 | s :: l, k + 1, x, hok, h => fun j u hu => by
  show (sgL s ++ sgsC l)[(k + 1) * 33 + j]? = _
  have h1 := sgL_length (hok s (by simp)).1
  rw [List.getElem?_append_right (by omega), h1, show (k + 1) * 33 + j - 33 = k * 33 + j from by omega]
  exact sgsC_at (fun y hy => hok y (by simp [hy])) (by simpa using h) j u hu
theorem sgs_at {W : World} {ad : Addr} {c n : Nat} {l : List SigD} (h : Rd W 33 (.slice (some ad) n c) n (sgsC l)) (hok : SgOk l) {k : Nat} {s : SigD} (hk : l[k]? = some s) : ∀ j u, (sgL s)[j]? = some u → W.cell? ((ad.add (k * 33)).add j) = some u := by
 intro j u hu
 obtain ⟨-, A', c', he, -, -, -, hc⟩ := h
 cases he
 rw [add_of_add]
 exact hc ad rfl _ u (sgsC_at hok hk j u hu)
def ntL (z : Int) (h : List UInt8) (v : Value) : List Value := .int .i64 z :: (bv h ++ [v])
def ntA (z : Int) (h : List UInt8) (v : Value) : Array Value := (ntL z h v).toArray
section
variable {z : Int} {h : List UInt8} {v : Value}
theorem ntA_size (hh : h.length = 32) : (ntA z h v).size = 34 := by simp [ntA, ntL, bv_length, hh]
theorem ntA_one (hv : v.oneCell' = true) : ∀ u, u ∈ (ntA z h v).toList → u.oneCell' = true := by
 intro u hu
 simp only [ntA, List.toList_toArray, ntL, List.mem_cons, List.mem_append, List.not_mem_nil, or_false] at hu
 rcases hu with rfl | hu | rfl
 · rfl
 · exact bv_one _ u hu
 · exact hv
theorem ntA_sigs (hh : h.length = 32) : (ntA z h v)[33]? = some v := by
 simp only [ntA, List.getElem?_toArray, ntL, List.getElem?_cons_succ]
 rw [List.getElem?_append_right (by rw [bv_length]; omega), bv_length, hh]; rfl
theorem ntA_setSigs (hh : h.length = 32) (u : Value) : (ntA z h v).setIfInBounds 33 u = ntA z h u := by
 unfold ntA ntL
 rw [List.setIfInBounds_toArray, List.set_cons_succ, List.set_append_right _ _ (by rw [bv_length]; omega), bv_length, hh]; rfl
theorem nt_pointAt {w : World} {g : Nat} {t : TypeId} (b : Blk w g t (ntA z h v)) : ∀ j u, (ptA z h).toList[j]? = some u → w.cell? ((⟨g, 0, none⟩ : Addr).add j) = some u := by
 intro j u hu
 refine b.agg j u ?_
 simp only [ntA, List.toList_toArray, ntL]
 have e : Value.int .i64 z :: (bv h ++ [v]) = (ptA z h).toList ++ [v] := rfl
 rw [e, List.getElem?_append_left (List.getElem?_eq_some_iff.1 hu).1]
 exact hu
end
theorem Tryd.infoNote : (Tryd.prog.info? 36).map (·.size) = some 34 := by kernel_rfl
theorem Tryd.infoSig : (Tryd.prog.info? 81).map (·.size) = some 33 := by kernel_rfl
theorem Tryd.infoSigZ : (Tryd.prog.info? 81).map (fun i => (i.zero, i.size, i.bytes)) = some (some (.agg (sgA ([], List.replicate 32 0))), 33, 48) := by kernel_rfl
end
/- Check of both packages. -/
section
open Go.RowKit
def lastN (l : List SigD) (k : Nat) : List UInt8 := match k with
 | 0 => []
 | k + 1 => (l.getD k ([], [])).1
theorem rising_drop {l : List SigD} {k : Nat} {s : SigD} (h : l[k]? = some s) : rising (lastN l k) (l.drop k) = (nmOk s.1 && decide (0 < cmpB s.1 (lastN l k)) && rising s.1 (l.drop (k + 1))) := by
 have hk := (List.getElem?_eq_some_iff.1 h).1
 have hs := (List.getElem?_eq_some_iff.1 h).2
 rw [List.drop_eq_getElem_cons hk, hs]
 rfl
theorem lastN_succ {l : List SigD} {k : Nat} {s : SigD} (h : l[k]? = some s) : lastN l (k + 1) = s.1 := by
 show (l.getD k ([], [])).1 = _
 rw [List.getD_eq_getElem?_getD, h]
 rfl
theorem str_of (s : List UInt8) : ∃ b : ByteArray, Hid (strV s = .string b) ∧ Hid (b.toList = s) ∧ b.size = s.length ∧ Hid (b.data.toList = s) := ⟨⟨s.toArray⟩, Lib.hid rfl, Lib.hid (str_list s), str_size s, Lib.hid rfl⟩
def chkN (z : Int) (l : List SigD) : Int := if mayN z l then 0 else 2
theorem scheck_any (z : Int) (hz : -9223372036854775808 ≤ z ∧ z ≤ 9223372036854775807) (h : List UInt8) (hh : h.length = 32) (l : List SigD) (hok : SgOk l) (hll : l.length ≤ 9223372036854775807) (A : Option Addr) (c : Nat) (w : World) (LDw : LD w) (hv : Rd w 33 (.slice A l.length c) l.length (sgsC l)) :
 Calls Tryd.prog 24 #[.agg (ntA z h (.slice A l.length c))] w fun e w' => e = .returned (.int .i64 (chkN z l)) ∧ Kp [] w w' := by
 have S0 := Lib.hid ((Held.start w).newBlk 36 (ntA z h (.slice A l.length c)))
 have hpA := Lib.hid (nt_pointAt (S0.out.at_ (l1 := [])))
 have c33 : (w.alloc (.cells (ntA z h (.slice A l.length c)) 36)).cell? ⟨w.heap.size, 33, none⟩ = some (.slice A l.length c) := by rw [(S0.out.at_ (l1 := [])).cell]; exact ntA_sigs hh
 have HP := Lib.hid (ptA_size (s := z) hh)
 have HT := Lib.hid (fun V (hk : Kp [] w V) => ptext_any z hz h hh V (LDw.kp hk))
 have HV := Lib.hid hv
 clear hv
 have hchk : ∀ b, mayN z l = b → chkN z l = if b then 0 else 2 := fun b hb => by unfold chkN; rw [hb]
 have Hchk := Lib.hid hchk
 clear hchk
 obtain ⟨ca, hca⟩ : ∃ ca, ntA z h (.slice A l.length c) = ca := ⟨_, rfl⟩
 rw [hca] at S0 hpA c33 ⊢
 obtain ⟨cp, hcp⟩ : ∃ cp, Hid (ptA z h = cp) := ⟨_, Lib.hid rfl⟩
 rw [hcp.out] at hpA HP HT
 clear hca
 unfold TextPost at HT
 obtain ⟨ts, hts⟩ : ∃ ts : ByteArray, (⟨(txt z h).toArray⟩ : ByteArray) = ts := ⟨_, rfl⟩
 rw [hts] at HT
 clear hts
 have hcg := fun V (hk : Kp [] (w.alloc (.cells ca 36)) V) => cell_kept c33 hk
 have Hcg := Lib.hid hcg
 clear hcg
 go_enter Tryd.func24, Tryd.ntmps24
 go_wp2_with (refine wpList_load_agg rfl 33 (.tmp 9) rfl ⟨w.heap.size, 0, none⟩ (by simp [Act.eval, Act.put]) cp.toList _ hpA.out Tryd.underlying33 rfl (by rw [Array.length_toList, HP.out]; exact Tryd.infoPointP) ?_)
 refine (HT.out _ S0.out.k).mono ?_
 rintro e w1 ⟨rfl, k1⟩
 have S1 := Lib.hid (S0.out.kp k1)
 have c33 := Hcg.out w1 k1
 clear k1 HT hpA
 by_cases hz0 : z < 0
 · have e : txE z = 2 := if_pos hz0
   rw [e]
   have Hm := Lib.hid (Hchk.out false (by unfold mayN; rw [decide_eq_false (by omega), Bool.false_and, Bool.false_and]))
   go_wp2
   go_ret
   exact ⟨by rw [Hm.out]; rfl, S1.out.k⟩
 · have e : txE z = 0 := if_neg hz0
   rw [e]
   clear e
   by_cases h64 : 64 < l.length
   · have h64' : (64 : Int) < (l.length : Int) := by omega
     have Hm := Lib.hid (Hchk.out false (by unfold mayN; rw [decide_eq_false (show ¬ l.length ≤ 64 by omega), Bool.and_false, Bool.false_and]))
     go_wp2
     go_ret
     exact ⟨by rw [Hm.out]; rfl, S1.out.k⟩
   · have h64' : ¬ (64 : Int) < (l.length : Int) := by omega
     have hma : mayN z l = rising [] l := by unfold mayN; rw [decide_eq_true (by omega), decide_eq_true (show l.length ≤ 64 by omega)]; rfl
     have Hma := Lib.hid hma
     clear hma
     go_wp2
     go_loopw [5, 7, 25] (fun last _ i wr => ∃ k : Nat, k ≤ l.length ∧ i = .int .i64 (k : Int) ∧ last = strV (lastN l k) ∧ Hid (rising [] l = rising (lastN l k) (l.drop k)) ∧ Kp [] w wr) (fun _ _ i _ => l.length - (intOf i).toNat)
     case atStart => exact ⟨0, by omega, rfl, rfl, Lib.hid rfl, S1.out.k⟩
     case round =>
      clear c33
      obtain ⟨k, hk, rfl, rfl, HA, K⟩ := hrel
      have K := Lib.hid K
      by_cases hlt : k < l.length
      · obtain ⟨s, hs⟩ : ∃ s, l[k]? = some s := ⟨_, List.getElem?_eq_getElem hlt⟩
        have hsk := hok s (List.mem_of_getElem? hs)
        obtain ⟨ad, rfl⟩ : ∃ ad, A = some ad := by
         obtain ⟨-, A', c', he, -, -, hA, -⟩ := HV.out
         cases he
         rcases A with _ | ad
         · have := hA rfl; omega
         · exact ⟨ad, rfl⟩
        have hat := Lib.hid (sgs_at (rd_old HV.out K.out) hok hs)
        have hrd := Lib.hid (rising_drop hs)
        have hln := Lib.hid (lastN_succ hs)
        have hsz := Lib.hid (sgA_size hsk.1)
        have hone := Lib.hid (sgA_one s)
        have hlist : (sgA s).toList = sgL s := rfl
        obtain ⟨ns, hns, hnl, hnz, hnd⟩ := str_of s.1
        obtain ⟨ls, hls, hll2, -, -⟩ := str_of (lastN l k)
        have HS := Lib.hid (fun V => signer_any ns (by rw [hnz]; exact hsk.2) V)
        rw [hnd.out] at HS
        have hle : Hid ((Op.bytesLess ns.toList ls.toList || ns.toList == ls.toList) = decide (cmpB s.1 (lastN l k) ≤ 0)) := Lib.hid (by rw [hnl.out, hll2.out]; exact leq_cmp _ _)
        obtain ⟨cs, hcs⟩ : ∃ cs, Hid (sgA s = cs) := ⟨_, Lib.hid rfl⟩
        have hc0 : Hid (cs[0]? = some (.string ns)) := Lib.hid (by rw [← hcs.out, ← hns.out]; rfl)
        rw [← hlist] at hat
        rw [hcs.out] at hat hsz hone
        rw [hls.out]
        clear hnz hsk hlist hs
        have S3 := Lib.hid ((Held.start wr).newBlk 81 (sgA ([], List.replicate 32 0)))
        generalize hlk : lastN l k = lk at *
        go_wp2_with (first
         | (refine wpList_load_agg rfl 81 (.tmp 27) rfl (ad.add (k * 33)) (by simp [Act.eval, Act.put]) cs.toList _ hat.out Tryd.underlying81 rfl (by rw [Array.length_toList, hsz.out]; exact Tryd.infoSig) ?_)
         | (refine wpList_store_blk rfl 81 (.tmp 7) (.tmp 28) rfl wr.heap.size (by simp [Act.eval, Act.put]) cs (by simp [Act.eval, Act.put]) 81 _ (S3.out.at_ (l1 := [])) (by rw [hsz.out]; exact Tryd.infoSig) (by rw [hsz.out]; rfl) hone.out ?_; intro w5 b5 k5; have S5 := Lib.hid (Held.setBlk (l1 := []) S3.out b5 k5); have c5 : w5.cell? ⟨wr.heap.size, 0, none⟩ = some (.string ns) := (by rw [b5.cell]; exact hc0.out); clear b5 k5))
        refine (HS.out _).mono ?_
        rintro e w6 ⟨rfl, rfl⟩
        have K5 := Lib.hid (K.out.trans S5.out.k (by simp))
        by_cases hnm : nmOk s.1 = true
        · rw [hnm]
          by_cases hcm : cmpB s.1 lk ≤ 0
          · have hle := hle.out
            rw [decide_eq_true hcm] at hle
            have Hm := Lib.hid (Hchk.out false (by rw [Hma.out, HA.out, hrd.out, decide_eq_false (by omega), Bool.and_false, Bool.false_and]))
            clear hcm hnm
            go_wp2
            go_ret
            exact ⟨by rw [Hm.out]; rfl, K5.out⟩
          · have hle := hle.out
            rw [decide_eq_false hcm] at hle
            have Hr : Hid (rising [] l = rising (lastN l (k + 1)) (l.drop (k + 1))) := Lib.hid (by rw [HA.out, hrd.out, hnm, decide_eq_true (show 0 < cmpB s.1 lk by omega), hln.out]; rfl)
            clear hcm hnm
            go_wp2
            go_roundw
            case rel => exact ⟨k + 1, by omega, by go_num, by rw [hln.out, hns.out], Hr, K5.out⟩
            case measure => simp [intOf]; omega
        · have hnm' : nmOk s.1 = false := by simpa using hnm
          rw [hnm']
          have Hm := Lib.hid (Hchk.out false (by rw [Hma.out, HA.out, hrd.out, hnm', Bool.false_and, Bool.false_and]))
          clear hnm hnm'
          go_wp2
          go_ret
          exact ⟨by rw [Hm.out]; rfl, K5.out⟩
      · obtain rfl : k = l.length := by omega
        have Hm := Lib.hid (Hchk.out true (by rw [Hma.out, HA.out, List.drop_length]; rfl))
        go_wp2
        go_ret
        exact ⟨by rw [Hm.out]; rfl, K.out⟩
end
/- May, Check of the reference. -/
section
open Go.RowKit
theorem geq_cmp (a b : List UInt8) : (!Op.bytesLess a b) = decide (0 ≤ cmpB a b) := by
 rw [less_cmp, Bool.eq_iff_iff, Bool.not_eq_true', decide_eq_false_iff_not, decide_eq_true_iff]
 omega
theorem cmp_nil {s : List UInt8} (h : nmOk s = true) : 0 < cmpB s [] := by
 cases s with
 | nil => cases h
 | cons x s => simp [cmpB, Lib.compareBytes]
theorem addr0 (ad : Addr) : ad.add 0 = ad := by unfold Addr.add; simp
theorem rmay_any (z : Int) (hz : -9223372036854775808 ≤ z ∧ z ≤ 9223372036854775807) (h : List UInt8) (hh : h.length = 32) (l : List SigD) (hok : SgOk l) (hll : l.length ≤ 9223372036854775807) (A : Option Addr) (c : Nat) (w : World) (hv : Rd w 33 (.slice A l.length c) l.length (sgsC l)) :
 Calls Tryd.prog 49 #[.agg (ntA z h (.slice A l.length c))] w fun e w' => e = .returned (.bool (mayN z l)) ∧ Kp [] w w' := by
 have S0 := Lib.hid ((Held.start w).newBlk 36 (ntA z h (.slice A l.length c)))
 have c33 : (w.alloc (.cells (ntA z h (.slice A l.length c)) 36)).cell? ⟨w.heap.size, 33, none⟩ = some (.slice A l.length c) := by rw [(S0.out.at_ (l1 := [])).cell]; exact ntA_sigs hh
 have c0 : (w.alloc (.cells (ntA z h (.slice A l.length c)) 36)).cell? ⟨w.heap.size, 0, none⟩ = some (.int .i64 z) := by rw [(S0.out.at_ (l1 := [])).cell]; rfl
 have HV := Lib.hid hv
 clear hv
 obtain ⟨ca, hca⟩ : ∃ ca, ntA z h (.slice A l.length c) = ca := ⟨_, rfl⟩
 rw [hca] at S0 c33 c0 ⊢
 clear hca
 have hcg := fun V (hk : Kp [] (w.alloc (.cells ca 36)) V) => cell_kept c33 hk
 have Hcg := Lib.hid hcg
 clear hcg
 by_cases hz0 : z < 0
 · have Hm : Hid (mayN z l = false) := Lib.hid (by unfold mayN; rw [decide_eq_false (by omega), Bool.false_and, Bool.false_and])
   go_enter Tryd.func49, Tryd.ntmps49
   go_wp2
   go_ret
   exact ⟨by rw [Hm.out]; rfl, S0.out.k⟩
 · by_cases h64 : 64 < l.length
   · have h64' : (64 : Int) < (l.length : Int) := by omega
     have Hm : Hid (mayN z l = false) := Lib.hid (by unfold mayN; rw [decide_eq_false (show ¬ l.length ≤ 64 by omega), Bool.and_false, Bool.false_and])
     go_enter Tryd.func49, Tryd.ntmps49
     go_wp2
     all_goals
      go_ret
      exact ⟨by rw [Hm.out]; rfl, S0.out.k⟩
   · have h64' : ¬ (64 : Int) < (l.length : Int) := by omega
     have hma : mayN z l = rising [] l := by unfold mayN; rw [decide_eq_true (by omega), decide_eq_true (show l.length ≤ 64 by omega)]; rfl
     have Hma := Lib.hid hma
     clear hma
     go_enter Tryd.func49, Tryd.ntmps49
     go_wp2
     go_loopw [3] (fun i wr => ∃ k : Nat, k ≤ l.length ∧ i = .int .i64 (k : Int) ∧ Hid (rising [] l = rising (lastN l k) (l.drop k)) ∧ Kp [] (w.alloc (.cells ca 36)) wr) (fun i _ => l.length - (intOf i).toNat)
     case atStart => exact ⟨0, by omega, rfl, Lib.hid rfl, Kp.refl _ _⟩
     case round =>
      clear c33 c0
      obtain ⟨k, hk, rfl, HA, K⟩ := hrel
      have c33 := Hcg.out wr K
      have K := Lib.hid K
      have K0 := Lib.hid (S0.out.k.trans K.out (by simp))
      by_cases hlt : k < l.length
      · obtain ⟨s, hs⟩ : ∃ s, l[k]? = some s := ⟨_, List.getElem?_eq_getElem hlt⟩
        have hsk := hok s (List.mem_of_getElem? hs)
        obtain ⟨ad, rfl⟩ : ∃ ad, A = some ad := by
         obtain ⟨-, A', c', he, -, -, hA, -⟩ := HV.out
         cases he
         rcases A with _ | ad
         · have := hA rfl; omega
         · exact ⟨ad, rfl⟩
        have hrd := Lib.hid (rising_drop hs)
        have hln := Lib.hid (lastN_succ hs)
        obtain ⟨ns, hns, hnl, hnz, hnd⟩ := str_of s.1
        have HS := Lib.hid (fun V => rname_any ns (by rw [hnz]; exact hsk.2) V)
        rw [hnd.out] at HS
        have hat := fun V (kk : Kp [] wr V) => by
         have := sgs_at (rd_old HV.out (K0.out.trans kk (by simp))) hok hs 0 (strV s.1) rfl
         rwa [addr0, hns.out] at this
        have q1 := hat wr.drew ((Kp.refl [] _).drew)
        have q0 := hat wr (Kp.refl [] _)
        by_cases hnm : nmOk s.1 = true
        · rcases k with _ | j
          · have q0 := hat wr (Kp.refl [] _)
            simp only [Nat.zero_mul, addr0] at q0
            have Hr : Hid (rising [] l = rising (lastN l (0 + 1)) (l.drop (0 + 1))) := Lib.hid (by rw [HA.out, hrd.out, hnm, decide_eq_true (show 0 < cmpB s.1 (lastN l 0) from cmp_nil hnm), hln.out]; rfl)
            rw [hnm] at HS
            clear hnm hat q1
            go_wp2
            go_quiet ((go_at_call 73; exact Calls.quiet_of_same ((HS.out _).mono (fun e w' h => ⟨h.1, h.2.symm⟩))))
            go_wp2
            go_roundw
            case rel => exact ⟨1, by omega, rfl, Hr, K.out.drewN _⟩
            case measure => simp [intOf]; omega
          · obtain ⟨p, hp⟩ : ∃ p, l[j]? = some p := ⟨_, List.getElem?_eq_getElem (by omega)⟩
            have hlj := Lib.hid (lastN_succ hp)
            obtain ⟨ps, hps, hpl, -, -⟩ := str_of p.1
            have q2 := sgs_at (rd_old HV.out K0.out) hok hp 0 (strV p.1) rfl
            rw [addr0, hps.out] at q2
            have hj1 : wrap64 (((j + 1 : Nat) : Int) - 1) = (j : Int) := by unfold wrap64; omega
            have hj2 : (j : Int) < (l.length : Int) := by omega
            have hge : Hid ((!Op.bytesLess ps.toList ns.toList) = decide (0 ≤ cmpB p.1 s.1)) := Lib.hid (by rw [hpl.out, hnl.out]; exact geq_cmp _ _)
            have hsym := cmpB_neg p.1 s.1
            rw [hlj.out] at hrd
            rw [hnm] at HS
            by_cases hcm : 0 < cmpB s.1 p.1
            · have hge := hge.out
              rw [decide_eq_false (by omega)] at hge
              have Hr : Hid (rising [] l = rising (lastN l (j + 1 + 1)) (l.drop (j + 1 + 1))) := Lib.hid (by rw [HA.out, hlj.out, hrd.out, hnm, decide_eq_true hcm, hln.out]; rfl)
              clear hnm hat q1 hcm hsym
              go_wp2
              go_quiet ((go_at_call 73; exact Calls.quiet_of_same ((HS.out _).mono (fun e w' h => ⟨h.1, h.2.symm⟩))))
              go_wp2
              go_roundw
              case rel => exact ⟨j + 1 + 1, by omega, by go_num, Hr, K.out.drewN _⟩
              case measure => simp [intOf]; omega
            · have hge := hge.out
              rw [decide_eq_true (by omega)] at hge
              have Hm := Lib.hid (show mayN z l = false from by rw [Hma.out, HA.out, hlj.out, hrd.out, decide_eq_false hcm, Bool.and_false, Bool.false_and])
              clear hnm hat q1 hcm hsym
              go_wp2
              go_quiet ((go_at_call 73; exact Calls.quiet_of_same ((HS.out _).mono (fun e w' h => ⟨h.1, h.2.symm⟩))))
              go_wp2
              go_ret
              exact ⟨by rw [Hm.out]; rfl, K0.out.drewN _⟩
        · have hnm' : nmOk s.1 = false := by simpa using hnm
          rw [hnm'] at HS
          have Hm := Lib.hid (show mayN z l = false from by rw [Hma.out, HA.out, hrd.out, hnm', Bool.false_and, Bool.false_and])
          clear hnm hnm' hat q1
          go_wp2
          go_quiet ((go_at_call 73; exact Calls.quiet_of_same ((HS.out _).mono (fun e w' h => ⟨h.1, h.2.symm⟩))))
          go_wp2
          go_ret
          exact ⟨by rw [Hm.out]; rfl, K0.out.drewN _⟩
      · obtain rfl : k = l.length := by omega
        have Hm := Lib.hid (show mayN z l = true from by rw [Hma.out, HA.out, List.drop_length]; rfl)
        go_wp2
        go_ret
        exact ⟨by rw [Hm.out]; rfl, K0.out⟩
end
/- Check of the reference; New of both; Equal. -/
section
open Go.RowKit
def zeroN : Array Value := ntA 0 (List.replicate 32 0) (.slice none 0 0)
theorem Tryd.builtN_is (ps : List (Nat × Value)) : Tryd.prog.built 36 ps = Instr.fill (#[(0, 33), (33, 1)][·]?) zeroN ps := by
 unfold Program.built
 kernel_rfl
theorem Tryd.built_note (z : Int) (hh : List UInt8) (hl : hh.length = 32) : Tryd.prog.built 36 [(0, .agg (ptA z hh))] = some (ntA z hh (.slice none 0 0)) := by
 rw [Tryd.builtN_is]
 have hs : (ptA z hh).size = 33 := ptA_size hl
 have hs0 : zeroN.size = 34 := rfl
 have h : ((ptA z hh).zipIdx.foldl (fun cs (x : Value × Nat) => cs.setIfInBounds (0 + x.2) x.1) zeroN) = ntA z hh (.slice none 0 0) := by
  have h1 := foldl_place 0 (ptA z hh).toList 0 zeroN
  rw [show (ptA z hh).zipIdx.foldl (fun cs (x : Value × Nat) => cs.setIfInBounds (0 + x.2) x.1) zeroN = ((ptA z hh).toList.zipIdx 0).foldl (fun cs (x : Value × Nat) => cs.setIfInBounds (0 + x.2) x.1) zeroN from by rw [← Array.foldl_toList, Array.toList_zipIdx], h1]
  rw [hs0, List.take_of_length_le (l := (ptA z hh).toList) (by rw [Array.length_toList, hs]; decide), Array.length_toList, hs]
  rfl
 unfold Instr.fill
 show (if (decide ((ptA z hh).size ≠ 33) || decide (0 + (ptA z hh).size > zeroN.size)) = true then none else Instr.fill (#[(0, 33), (33, 1)][·]?) ((ptA z hh).zipIdx.foldl (fun cs (x : Value × Nat) => cs.setIfInBounds (0 + x.2) x.1) zeroN) []) = _
 rw [hs, hs0, h]
 rfl
theorem Tryd.built_noteZ : Tryd.prog.built 36 [] = some zeroN := by rw [Tryd.builtN_is]; rfl
theorem rd_nil_any (s : Nat) (V : World) : Rd V s (.slice none 0 0) 0 [] := ⟨by simp, none, 0, rfl, Nat.le_refl _, Nat.zero_le _, fun _ => ⟨rfl, rfl⟩, fun ad h => by cases h⟩
theorem Held.newBlkN {w0 w : World} {L : List Res} (h : Held w0 w L) (t : TypeId) (cs : Array Value) {g : Nat} (hg : w.heap.size = g) : Held w0 (w.alloc (.cells cs t)) (blkR g t cs :: L) := hg ▸ h.newBlk t cs
theorem Blk.newN (w : World) (t : TypeId) (cs : Array Value) {g : Nat} (hg : w.heap.size = g) : Blk (w.alloc (.cells cs t)) g t cs := hg ▸ Blk.new w t cs
def newA (z : Int) (h : List UInt8) : Array Value := if 0 ≤ z then ntA z h (.slice none 0 0) else zeroN
theorem mayN_nil (z : Int) : mayN z [] = decide (0 ≤ z) := by
 unfold mayN rising
 simp
theorem sgnew_any (z : Int) (hz : -9223372036854775808 ≤ z ∧ z ≤ 9223372036854775807) (h : List UInt8) (hh : h.length = 32) (w : World) (LDw : LD w) :
 Calls Tryd.prog 14 #[.agg (ptA z h)] w fun e w' => e = .returned (.tuple #[.agg (newA z h), .int .i64 (chkN z [])]) ∧ Kp [] w w' := by
 have S0 := Lib.hid (((Held.start w).newBlk 33 (ptA z h)).newBlkN 36 zeroN (g := w.heap.size + 1) (by simp))
 have HB := Lib.hid (Tryd.built_note z h hh)
 have HB0 := Lib.hid Tryd.built_noteZ
 have hp1 := Lib.hid (ptA_size (s := z) hh)
 have hz1 := Lib.hid (ntA_size (z := z) (v := .slice none 0 0) hh)
 have hzz : Hid (zeroN.size = 34) := Lib.hid rfl
 have hO := Lib.hid (ntA_one (z := z) (h := h) (v := .slice none 0 0) rfl)
 have hOz : Hid (∀ u, u ∈ zeroN.toList → u.oneCell' = true) := Lib.hid (ntA_one (v := .slice none 0 0) rfl)
 have HC := Lib.hid (fun V (k : Kp [] w V) => scheck_any z hz h hh [] (fun s hs => by cases hs) (by simp) none 0 V (LDw.kp k) (rd_nil_any 33 V))
 have hck : Hid (chkN z [] = if 0 ≤ z then 0 else 2) := Lib.hid (by unfold chkN; rw [mayN_nil]; by_cases h0 : 0 ≤ z <;> simp [h0])
 have hnA : Hid (newA z h = if 0 ≤ z then ntA z h (.slice none 0 0) else zeroN) := Lib.hid rfl
 obtain ⟨cn, hcn⟩ : ∃ cn, ntA z h (.slice none 0 0) = cn := ⟨_, rfl⟩
 obtain ⟨cp, hcp⟩ : ∃ cp, ptA z h = cp := ⟨_, rfl⟩
 rw [List.length_nil] at HC
 rw [hcn] at HB hz1 hO HC hnA
 rw [hcp] at HB hp1 S0 ⊢
 clear hcn hcp
 generalize newA z h = cr at *
 generalize chkN z [] = ck at *
 go_enter Tryd.func14, Tryd.ntmps14
 go_wp2_with (first
  | (refine wpList_load_blk rfl 33 (.tmp 1) rfl w.heap.size (by simp [Act.eval, Act.put]) 33 _ (S0.out.at_ (l1 := [_])) _ Tryd.underlying33 rfl (by rw [hp1.out]; exact Tryd.infoPointP) ?_)
  | (refine wpList_buildC rfl 36 _ rfl [(0, .agg cp)] (by simp [Act.eval, Act.put]) _ HB.out ?_)
  | (refine wpList_store_blk rfl 36 (.tmp 4) (.tmp 7) rfl (w.heap.size + 1 + 1) (by simp [Act.eval, Act.put]) cn (by simp [Act.eval, Act.put]) 36 zeroN (Blk.newN _ 36 _ (by simp)) (by rw [hz1.out]; exact Tryd.infoNote) (by rw [hz1.out]; rfl) hO.out ?_; intro w5 b5 k5; have S5 := Lib.hid (Held.setBlk (l1 := []) (S0.out.newBlkN 36 zeroN (g := w.heap.size + 1 + 1) (by simp)) b5 k5); clear b5 k5)
  | (refine wpList_load_blk rfl 36 (.tmp 4) rfl (w.heap.size + 1 + 1) (by simp [Act.eval, Act.put]) 36 _ (S5.out.at_ (l1 := [])) _ Tryd.underlying36 rfl (by rw [hz1.out]; exact Tryd.infoNote) ?_))
 refine (HC.out _ S5.out.k).mono ?_
 rintro e w6 ⟨rfl, k6⟩
 have S6 := Lib.hid (S5.out.kp k6)
 clear k6 S5 S0
 by_cases h0 : 0 ≤ z
 · rw [if_pos h0] at hck hnA
   rw [hck.out]
   clear h0
   go_wp2_with (first
    | (refine wpList_load_blk rfl 36 (.tmp 4) rfl (w.heap.size + 1 + 1) (by simp [Act.eval, Act.put]) 36 _ (S6.out.at_ (l1 := [])) _ Tryd.underlying36 rfl (by rw [hz1.out]; exact Tryd.infoNote) ?_)
    | (refine wpList_store_blk rfl 36 (.tmp 2) (.tmp 14) rfl (w.heap.size + 1) (by simp [Act.eval, Act.put]) cn (by simp [Act.eval, Act.put]) 36 _ (S6.out.at_ (l1 := [_])) (by rw [hz1.out]; exact Tryd.infoNote) (by rw [hz1.out]; rfl) hO.out ?_; intro w7 b7 k7; have S7 := Lib.hid (Held.setBlk (l1 := [_]) S6.out b7 k7); clear b7 k7))
   refine bodyPost_ret (results_cell_tmp (by rfl) rfl (S7.out.at_ (l1 := [_])) Tryd.underlying36 rfl (by rw [hz1.out]; exact Tryd.infoNote)) rfl ?_
   exact ⟨by rw [hck.out, hnA.out]; rfl, S7.out.k⟩
 · rw [if_neg h0] at hck hnA
   rw [hck.out]
   clear h0
   obtain ⟨cz, hcz⟩ : ∃ cz, Hid (zeroN = cz) := ⟨_, Lib.hid rfl⟩
   rw [hcz.out] at HB0 hzz hOz hnA
   go_wp2_with (first
    | (refine wpList_buildC rfl 36 _ rfl [] (by simp [Act.eval, Act.put]) _ HB0.out ?_)
    | (refine wpList_store_blk rfl 36 (.tmp 2) (.tmp 12) rfl (w.heap.size + 1) (by simp [Act.eval, Act.put]) cz (by simp [Act.eval, Act.put]) 36 _ (S6.out.at_ (l1 := [_])) (by rw [hzz.out]; exact Tryd.infoNote) (by rw [hzz.out]; rfl) hOz.out ?_; intro w7 b7 k7; have S7 := Lib.hid (Held.setBlk (l1 := [_]) S6.out b7 k7); clear b7 k7))
   refine bodyPost_ret (results_cell_tmp (by rfl) rfl (S7.out.at_ (l1 := [_])) Tryd.underlying36 rfl (by rw [hzz.out]; exact Tryd.infoNote)) rfl ?_
   exact ⟨by rw [hck.out, hnA.out]; rfl, S7.out.k⟩
end
/- Equal; the order of names; where a name stands. -/
section
open Go.RowKit
theorem sgeq_any (a b : List UInt8) (ha : a.length = 32) (hb : b.length = 32) (w : World) : Calls Tryd.prog 12 #[.agg (hashA a), .agg (hashA b)] w fun e w' => e = .returned (.bool (a == b)) ∧ Kp [] w w' := by
 have S0 := Lib.hid (((Held.start w).newBlk 25 (hashA a)).newBlkN 25 (hashA b) (g := w.heap.size + 1) (by simp))
 have hE := fun V => hash_eq_top V a b ha hb
 have h1 : Hid ((hashA a).size = 32) := Lib.hid (by rw [hashA_size, ha])
 have h2 : Hid ((hashA b).size = 32) := Lib.hid (by rw [hashA_size, hb])
 generalize hashA a = ca at *
 generalize hashA b = cb at *
 generalize (a == b) = r at *
 clear ha hb
 go_enter Tryd.func12, Tryd.ntmps12
 go_wp2_with (first
  | (refine wpList_load_blk rfl 25 (.tmp 2) rfl w.heap.size (by simp [Act.eval, Act.put]) 25 _ (S0.out.at_ (l1 := [_])) _ Tryd.underlying25 rfl (by rw [h1.out]; exact Tryd.infoHashP) ?_)
  | (refine wpList_load_blk rfl 25 (.tmp 3) rfl (w.heap.size + 1) (by simp [Act.eval, Act.put]) 25 _ (S0.out.at_ (l1 := [])) _ Tryd.underlying25 rfl (by rw [h2.out]; exact Tryd.infoHashP) ?_))
 go_ret
 exact ⟨rfl, S0.out.k⟩
theorem snan_any (s : ByteArray) (w : World) : Calls Tryd.prog 89 #[.string s] w fun e w' => e = .returned (.bool false) ∧ w = w' := by
 go_enter Tryd.func89, Tryd.ntmps89
 go_wp2
 go_ret
 exact ⟨rfl, rfl⟩
theorem strcmp_any (a b : ByteArray) (w : World) : Calls Tryd.prog 69 #[.string a, .string b] w fun e w' => e = .returned (.int .i64 (cmpB a.toList b.toList)) ∧ w = w' := by
 have h1 : Op.bytesLess a.toList b.toList = decide (cmpB a.toList b.toList < 0) := less_cmp _ _
 have h2 : (a.toList == b.toList) = decide (cmpB a.toList b.toList = 0) := cmp_beq _ _
 have hr := cmpB_range a.toList b.toList
 by_cases h : cmpB a.toList b.toList < 0
 · rw [decide_eq_true h] at h1
   have Hc : Hid (cmpB a.toList b.toList = -1) := Lib.hid (by omega)
   generalize cmpB a.toList b.toList = c at *
   clear hr h
   go_enter Tryd.func69, Tryd.ntmps69
   go_wp2_with (go_at_call 89; (with_reducible refine (snan_any _ _).mono ?_); rintro e w' ⟨rfl, rfl⟩)
   go_ret
   exact ⟨by rw [Hc.out]; rfl, rfl⟩
 · rw [decide_eq_false h] at h1
   by_cases h3 : cmpB a.toList b.toList = 0
   · rw [decide_eq_true h3] at h2
     have Hc : Hid (cmpB a.toList b.toList = 0) := Lib.hid (by omega)
     generalize cmpB a.toList b.toList = c at *
     clear hr h h3
     go_enter Tryd.func69, Tryd.ntmps69
     go_wp2_with (go_at_call 89; (with_reducible refine (snan_any _ _).mono ?_); rintro e w' ⟨rfl, rfl⟩)
     go_ret
     exact ⟨by rw [Hc.out]; rfl, rfl⟩
   · rw [decide_eq_false h3] at h2
     have Hc : Hid (cmpB a.toList b.toList = 1) := Lib.hid (by omega)
     generalize cmpB a.toList b.toList = c at *
     clear hr h h3
     go_enter Tryd.func69, Tryd.ntmps69
     go_wp2_with (go_at_call 89; (with_reducible refine (snan_any _ _).mono ?_); rintro e w' ⟨rfl, rfl⟩)
     go_ret
     exact ⟨by rw [Hc.out]; rfl, rfl⟩
theorem byname_any (s t : SigD) (w : World) : Calls Tryd.prog 44 #[.agg (sgA s), .agg (sgA t)] w fun e w' => e = .returned (.int .i64 (cmpB s.1 t.1)) ∧ Kp [] w w' := by
 have S0 := Lib.hid (((Held.start w).newBlk 81 (sgA s)).newBlkN 81 (sgA t) (g := w.heap.size + 1) (by simp))
 obtain ⟨ns, hns, hnl, -, -⟩ := str_of s.1
 obtain ⟨nt, hnt, htl, -, -⟩ := str_of t.1
 have c1 : ((w.alloc (.cells (sgA s) 81)).alloc (.cells (sgA t) 81)).cell? ⟨w.heap.size, 0, none⟩ = some (.string ns) := by rw [(S0.out.at_ (l1 := [_])).cell, ← hns.out]; rfl
 have c2 : ((w.alloc (.cells (sgA s) 81)).alloc (.cells (sgA t) 81)).cell? ⟨w.heap.size + 1, 0, none⟩ = some (.string nt) := by rw [(S0.out.at_ (l1 := [])).cell, ← hnt.out]; rfl
 have HC := fun V => strcmp_any ns nt V
 rw [hnl.out, htl.out] at HC
 have HC := Lib.hid HC
 generalize sgA s = cs at *
 generalize sgA t = ct at *
 go_enter Tryd.func44, Tryd.ntmps44
 go_wp2_with fail
 refine (HC.out _).mono ?_
 rintro e w1 ⟨rfl, rfl⟩
 go_wp2
 go_ret
 exact ⟨rfl, S0.out.k⟩
end
/- slices.BinarySearchFunc over signatures, by name. -/
section
variable {Q : Exit → Act → World → Prop} {a : Act} {w : World}
open Go.RowKit
theorem bsf_r0 (w0 : World) (s : SigD) (L : List Res) (S : Held w0 w L) (hsz : a.tmps.size = 49) (o1 : Sl a 1 (.agg (sgA s)))
 (hend : ∀ a' W, Same a a' [4, 6, 7] → (∃ g, Sl a' 4 (.pointer (some ⟨g, 0, none⟩)) ∧ Held w0 W (blkR g 81 (sgA s) :: L)) → Q .normal a' W) : (Code.region 0 (opsOf 0 Tryd.f43).toArray false).wp Tryd.prog Q a w := by
 refine wp_region_lit ?_
 (conv => arg 4; whnf)
 unfold Sl at o1
 have S0 := Lib.hid (S.newBlk 81 (sgA s))
 generalize sgA s = cs at *
 go_wp2
 try simp only [Act.put]
 exact hend _ _ sS (⟨w.heap.size, sP0, S0.out⟩)
theorem bsf_r1 (A : Option Addr) (n c : Nat) (hsz : a.tmps.size = 49) (o0 : Sl a 0 (.slice A n c))
 (hend : ∀ a', Same a a' [12, 13, 8] → Sl a' 8 (.int .i64 ((n : Nat) : Int)) → Q .normal a' (w)) : (Code.region 1 (opsOf 1 Tryd.f43).toArray false).wp Tryd.prog Q a w := by
 refine wp_region_lit ?_
 (conv => arg 4; whnf)
 unfold Sl at o0
 go_wp2
 try simp only [Act.put]
 exact hend _ sS sP
theorem bsf_r2 (n : Nat) (hsz : a.tmps.size = 49) (o8 : Sl a 8 (.int .i64 ((n : Nat) : Int)))
 (hend : ∀ a', Same a a' [14, 9, 10] → Sl a' 9 (.int .i64 ((0 : Nat) : Int)) → Sl a' 10 (.int .i64 ((n : Nat) : Int)) → Q .normal a' (w)) : (Code.region 2 (opsOf 2 Tryd.f43).toArray false).wp Tryd.prog Q a w := by
 refine wp_region_lit ?_
 (conv => arg 4; whnf)
 unfold Sl at o8
 go_wp2
 try simp only [Act.put]
 exact hend _ sS sP sP
theorem bsf_r3 (i j : Nat) (hsz : a.tmps.size = 49) (o9 : Sl a 9 (.int .i64 ((i : Nat) : Int))) (o10 : Sl a 10 (.int .i64 ((j : Nat) : Int)))
 (hend : ∀ a', Same a a' [15, 16, 17] → Sl a' 17 (.bool (decide (i < j))) → Q .normal a' (w)) : (Code.region 3 (opsOf 3 Tryd.f43).toArray false).wp Tryd.prog Q a w := by
 refine wp_region_lit ?_
 (conv => arg 4; whnf)
 unfold Sl at o9 o10
 go_wp2
 try simp only [Act.put]
 exact hend _ sS sP
theorem bsf_r4 (i j : Nat) (hij : i + j < 9223372036854775808) (hsz : a.tmps.size = 49) (o9 : Sl a 9 (.int .i64 ((i : Nat) : Int))) (o10 : Sl a 10 (.int .i64 ((j : Nat) : Int)))
 (hend : ∀ a', Same a a' [18, 19, 20, 21, 22, 23, 11] → Sl a' 11 (.int .i64 (((i + j) / 2 : Nat) : Int)) → Q .normal a' (w)) : (Code.region 4 (opsOf 4 Tryd.f43).toArray false).wp Tryd.prog Q a w := by
 refine wp_region_lit ?_
 (conv => arg 4; whnf)
 unfold Sl at o9 o10
 have h1 : wrap64 ((i : Int) + (j : Int)) = ((i + j : Nat) : Int) := by unfold wrap64; omega
 have h2 := hij
 go_wp2
 try simp only [Act.put]
 exact hend _ sS sP
theorem bsf_r5 (A : Addr) (n c k : Nat) (hk : k < n) (x s : SigD) (hx : x.2.length = 32) (hs : s.2.length = 32) (g : Nat) (hb : Blk w g 81 (sgA s)) (hr : ∀ V, Kp [] w V → ∀ j u, (sgL x)[j]? = some u → V.cell? ((A.add (k * 33)).add j) = some u) (hsz : a.tmps.size = 49) (o0 : Sl a 0 (.slice (some A) n c)) (o2 : Sl a 2 (.func (.func 44) #[] #[])) (o4 : Sl a 4 (.pointer (some ⟨g, 0, none⟩))) (o11 : Sl a 11 (.int .i64 ((k : Nat) : Int)))
 (hend : ∀ a' W, Same a a' [24, 25, 26, 27, 28, 29, 30, 31] → Kp [] w.drew W → Sl a' 31 (.bool (decide (cmpB x.1 s.1 < 0))) → Q .normal a' W) : (Code.region 5 (opsOf 5 Tryd.f43).toArray true).wp Tryd.prog Q a w := by
 have hap : apartB (opsOf 5 Tryd.f43) = true := by kernel_rfl
 refine wp_region_inv (l := (opsOf 5 Tryd.f43)) (fun i v W => match i with | 0 => v = .func (.func 44) #[] #[] | 1 => v = .slice (some A) n c | 2 => v = .int .i64 ((k : Nat) : Int) | 3 => v = .pointer (some (A.add (k * 33))) | 4 => v = .agg (sgA x) | 5 => v = .agg (sgA s) | 6 => v = .int .i64 (cmpB x.1 s.1) | 7 => v = .bool (decide (cmpB x.1 s.1 < 0)) | _ => True) (by kernel_rfl) hap (by kernel_rfl) ?_ ?_ ?_
 · intro i v W W' h _
   iterate 8 (rcases i with _ | i; · exact h)
   exact h
 · refine ⟨?_, ?_, ?_, ?_, ?_, ?_, ?_, ?_, trivial⟩
   · intro vs A' W hA hW hd K hK; have e2 := sO 2 o2 hA hap hsz; clear hA hd o0 o2 o4 o11; go_step; exact hK _ _ kR rfl
   · intro vs A' W hA hW hd K hK; have e0 := sO 0 o0 hA hap hsz; clear hA hd o0 o2 o4 o11; go_step; exact hK _ _ kR rfl
   · intro vs A' W hA hW hd K hK; have e11 := sO 11 o11 hA hap hsz; clear hA hd o0 o2 o4 o11; go_step; exact hK _ _ kR rfl
   · intro vs A' W hA hW hd K hK; have e25 := sV 25 (hd 1 (by kernel_rfl)) hA hap hsz; have e26 := sV 26 (hd 2 (by kernel_rfl)) hA hap hsz; clear hA hd o0 o2 o4 o11
     have h0 : 0 ≤ (k : Int) := by omega
     have h1 : (k : Int) < (n : Int) := by omega
     go_step; exact hK _ _ kR rfl
   · intro vs A' W hA hW hd K hK; have e27 := sV 27 (hd 3 (by kernel_rfl)) hA hap hsz; clear hA hd o0 o2 o4 o11
     refine op_runs (v := .agg (sgA x)) (w' := W) (exec_load rfl (by simpa [Act.eval] using e27) (run_loadAt_agg W (A.add (k * 33)) 81 (sgA x).toList _ (hr _ ((Kp.refl [] w).drew.trans hW (by simp))) Tryd.underlying81 rfl (by rw [Array.length_toList, sgA_size (hx)]; exact Tryd.infoSig))) ?_
     exact hK _ _ kR rfl
   · intro vs A' W hA hW hd K hK; have e4 := sO 4 o4 hA hap hsz; clear hA hd o0 o2 o4 o11
     refine op_runs (v := .agg (sgA s)) (w' := W) (exec_load rfl (by simpa [Act.eval] using e4) (run_loadAt_agg W (⟨g, 0, none⟩) 81 (sgA s).toList _ (Blk.agg (hb.kp ((Kp.refl [] w).drew.trans hW (by simp)) (by simp))) Tryd.underlying81 rfl (by rw [Array.length_toList, sgA_size (hs)]; exact Tryd.infoSig))) ?_
     exact hK _ _ kR rfl
   · intro vs A' W hA hW hd K hK; have e24 := sV 24 (hd 0 (by kernel_rfl)) hA hap hsz; have e28 := sV 28 (hd 4 (by kernel_rfl)) hA hap hsz; have e29 := sV 29 (hd 5 (by kernel_rfl)) hA hap hsz; clear hA hd o0 o2 o4 o11; go_step
     refine (byname_any x s W).mono ?_
     rintro e w' ⟨rfl, k⟩
     exact hK _ _ k rfl
   · intro vs A' W hA hW hd K hK; have e30 := sV 30 (hd 6 (by kernel_rfl)) hA hap hsz; clear hA hd o0 o2 o4 o11; go_step; exact hK _ _ kR rfl
 · intro vs W hW hp
   rw [putAll_eq]
   exact hend _ W sQ hW (sW (hp 7 sB))
theorem bsf_r6 (h : Nat) (hh : h < 9223372036854775807) (hsz : a.tmps.size = 49) (o11 : Sl a 11 (.int .i64 ((h : Nat) : Int)))
 (hend : ∀ a', Same a a' [32, 33, 9] → Sl a' 9 (.int .i64 ((h + 1 : Nat) : Int)) → Q .normal a' (w)) : (Code.region 6 (opsOf 6 Tryd.f43).toArray false).wp Tryd.prog Q a w := by
 refine wp_region_lit ?_
 (conv => arg 4; whnf)
 unfold Sl at o11
 have h1 : wrap64 ((h : Int) + 1) = ((h + 1 : Nat) : Int) := by unfold wrap64; omega
 go_wp2
 try simp only [Act.put]
 exact hend _ sS sP
theorem bsf_r7 (h : Nat) (hsz : a.tmps.size = 49) (o11 : Sl a 11 (.int .i64 ((h : Nat) : Int)))
 (hend : ∀ a', Same a a' [34, 10] → Sl a' 10 (.int .i64 ((h : Nat) : Int)) → Q .normal a' (w)) : (Code.region 7 (opsOf 7 Tryd.f43).toArray false).wp Tryd.prog Q a w := by
 refine wp_region_lit ?_
 (conv => arg 4; whnf)
 unfold Sl at o11
 go_wp2
 try simp only [Act.put]
 exact hend _ sS sP
theorem bsf_r8 (A : Addr) (n c k : Nat) (hk : k < n) (x s : SigD) (hx : x.2.length = 32) (hs : s.2.length = 32) (g : Nat) (hb : Blk w g 81 (sgA s)) (hr : ∀ V, Kp [] w V → ∀ j u, (sgL x)[j]? = some u → V.cell? ((A.add (k * 33)).add j) = some u) (hsz : a.tmps.size = 49) (o0 : Sl a 0 (.slice (some A) n c)) (o2 : Sl a 2 (.func (.func 44) #[] #[])) (o4 : Sl a 4 (.pointer (some ⟨g, 0, none⟩))) (o8 : Sl a 8 (.int .i64 ((n : Nat) : Int))) (o9 : Sl a 9 (.int .i64 ((k : Nat) : Int)))
 (hend : ∀ a' W, Same a a' [35, 36, 37, 38, 39, 40, 41, 42, 43, 44, 45, 46, 47, 48, 6, 7] → Kp [] w.drew W → Sl a' 6 (.int .i64 ((k : Nat) : Int)) → Sl a' 7 (.bool (decide (cmpB x.1 s.1 = 0))) → Q .normal a' W) : (Code.region 8 (opsOf 8 Tryd.f43).toArray true).wp Tryd.prog Q a w := by
 have hap : apartB (opsOf 8 Tryd.f43) = true := by kernel_rfl
 refine wp_region_invG (l := (opsOf 8 Tryd.f43)) (fun i v W => match i with | 0 => v = .int .i64 ((k : Nat) : Int) | 1 => v = .int .i64 ((k : Nat) : Int) | 2 => v = .int .i64 ((n : Nat) : Int) | 3 => v = .bool true | 4 => v = .bool true | 5 => v = .func (.func 44) #[] #[] | 6 => v = .slice (some A) n c | 7 => v = .int .i64 ((k : Nat) : Int) | 8 => v = .pointer (some (A.add (k * 33))) | 9 => v = .agg (sgA x) | 10 => v = .agg (sgA s) | 11 => v = .int .i64 (cmpB x.1 s.1) | 12 => v = .bool (decide (cmpB x.1 s.1 = 0)) | 13 => v = .bool (decide (cmpB x.1 s.1 = 0)) | 14 => v = .int .i64 ((k : Nat) : Int) | 15 => v = .bool (decide (cmpB x.1 s.1 = 0)) | _ => True) (by kernel_rfl) hap (by kernel_rfl) ?_ ?_ ?_
 · intro i v W W' h _
   iterate 16 (rcases i with _ | i; · exact h)
   exact h
 · refine ⟨?_, ?_, ?_, ?_, ?_, ?_, ?_, ?_, ?_, ?_, ?_, ?_, ?_, ?_, ?_, ?_, trivial⟩
   · intro vs A' W hA hW hd K hK; refine wpOp_free _ rfl rfl ?_; (conv => arg 2; whnf); have e9 := sO 9 o9 hA hap hsz; clear hA hd o0 o2 o4 o8 o9; go_step; exact hK _ _ kR rfl
   · intro vs A' W hA hW hd K hK; refine wpOp_free _ rfl rfl ?_; (conv => arg 2; whnf); have e9 := sO 9 o9 hA hap hsz; clear hA hd o0 o2 o4 o8 o9; go_step; exact hK _ _ kR rfl
   · intro vs A' W hA hW hd K hK; refine wpOp_free _ rfl rfl ?_; (conv => arg 2; whnf); have e8 := sO 8 o8 hA hap hsz; clear hA hd o0 o2 o4 o8 o9; go_step; exact hK _ _ kR rfl
   · intro vs A' W hA hW hd K hK; refine wpOp_free _ rfl rfl ?_; (conv => arg 2; whnf); have e36 := sV 36 (hd 1 (by kernel_rfl)) hA hap hsz; have e37 := sV 37 (hd 2 (by kernel_rfl)) hA hap hsz; clear hA hd o0 o2 o4 o8 o9
     have h0 : (k : Int) < (n : Int) := by omega
     go_step; exact hK _ _ kR rfl
   · intro vs A' W hA hW hd K hK; refine wpOp_free _ rfl rfl ?_; (conv => arg 2; whnf); have e38 := sV 38 (hd 3 (by kernel_rfl)) hA hap hsz; clear hA hd o0 o2 o4 o8 o9; go_step; exact hK _ _ kR rfl
   · intro vs A' W hA hW hd K hK; have e39 := sV 39 (hd 4 (by kernel_rfl)) hA hap hsz; refine wpOp_go _ rfl 4 39 true rfl rfl e39 ?_; (conv => arg 2; whnf); have e2 := sO 2 o2 hA hap hsz; clear hA hd o0 o2 o4 o8 o9; go_step; exact hK _ _ kR rfl
   · intro vs A' W hA hW hd K hK; have e39 := sV 39 (hd 4 (by kernel_rfl)) hA hap hsz; refine wpOp_go _ rfl 4 39 true rfl rfl e39 ?_; (conv => arg 2; whnf); have e0 := sO 0 o0 hA hap hsz; clear hA hd o0 o2 o4 o8 o9; go_step; exact hK _ _ kR rfl
   · intro vs A' W hA hW hd K hK; have e39 := sV 39 (hd 4 (by kernel_rfl)) hA hap hsz; refine wpOp_go _ rfl 4 39 true rfl rfl e39 ?_; (conv => arg 2; whnf); have e9 := sO 9 o9 hA hap hsz; clear hA hd o0 o2 o4 o8 o9; go_step; exact hK _ _ kR rfl
   · intro vs A' W hA hW hd K hK; have e39 := sV 39 (hd 4 (by kernel_rfl)) hA hap hsz; refine wpOp_go _ rfl 4 39 true rfl rfl e39 ?_; (conv => arg 2; whnf); have e41 := sV 41 (hd 6 (by kernel_rfl)) hA hap hsz; have e42 := sV 42 (hd 7 (by kernel_rfl)) hA hap hsz; clear hA hd o0 o2 o4 o8 o9
     have h0 : 0 ≤ (k : Int) := by omega
     have h1 : (k : Int) < (n : Int) := by omega
     go_step; exact hK _ _ kR rfl
   · intro vs A' W hA hW hd K hK; have e39 := sV 39 (hd 4 (by kernel_rfl)) hA hap hsz; refine wpOp_go _ rfl 4 39 true rfl rfl e39 ?_; (conv => arg 2; whnf); have e43 := sV 43 (hd 8 (by kernel_rfl)) hA hap hsz; clear hA hd o0 o2 o4 o8 o9
     refine op_runs (v := .agg (sgA x)) (w' := W) (exec_load rfl (by simpa [Act.eval] using e43) (run_loadAt_agg W (A.add (k * 33)) 81 (sgA x).toList _ (hr _ ((Kp.refl [] w).drew.trans hW (by simp))) Tryd.underlying81 rfl (by rw [Array.length_toList, sgA_size (hx)]; exact Tryd.infoSig))) ?_
     exact hK _ _ kR rfl
   · intro vs A' W hA hW hd K hK; have e39 := sV 39 (hd 4 (by kernel_rfl)) hA hap hsz; refine wpOp_go _ rfl 4 39 true rfl rfl e39 ?_; (conv => arg 2; whnf); have e4 := sO 4 o4 hA hap hsz; clear hA hd o0 o2 o4 o8 o9
     refine op_runs (v := .agg (sgA s)) (w' := W) (exec_load rfl (by simpa [Act.eval] using e4) (run_loadAt_agg W (⟨g, 0, none⟩) 81 (sgA s).toList _ (Blk.agg (hb.kp ((Kp.refl [] w).drew.trans hW (by simp)) (by simp))) Tryd.underlying81 rfl (by rw [Array.length_toList, sgA_size (hs)]; exact Tryd.infoSig))) ?_
     exact hK _ _ kR rfl
   · intro vs A' W hA hW hd K hK; have e39 := sV 39 (hd 4 (by kernel_rfl)) hA hap hsz; refine wpOp_go _ rfl 4 39 true rfl rfl e39 ?_; (conv => arg 2; whnf); have e40 := sV 40 (hd 5 (by kernel_rfl)) hA hap hsz; have e44 := sV 44 (hd 9 (by kernel_rfl)) hA hap hsz; have e45 := sV 45 (hd 10 (by kernel_rfl)) hA hap hsz; clear hA hd o0 o2 o4 o8 o9; go_step
     refine (byname_any x s W).mono ?_
     rintro e w' ⟨rfl, k⟩
     exact hK _ _ k rfl
   · intro vs A' W hA hW hd K hK; have e39 := sV 39 (hd 4 (by kernel_rfl)) hA hap hsz; refine wpOp_go _ rfl 4 39 true rfl rfl e39 ?_; (conv => arg 2; whnf); have e46 := sV 46 (hd 11 (by kernel_rfl)) hA hap hsz; clear hA hd o0 o2 o4 o8 o9; go_step; exact hK _ _ kR rfl
   · intro vs A' W hA hW hd K hK; refine wpOp_free _ rfl rfl ?_; (conv => arg 2; whnf); have e39 := sV 39 (hd 4 (by kernel_rfl)) hA hap hsz; have e47 := sV 47 (hd 12 (by kernel_rfl)) hA hap hsz; clear hA hd o0 o2 o4 o8 o9; go_step; exact hK _ _ kR rfl
   · intro vs A' W hA hW hd K hK; refine wpOp_free _ rfl rfl ?_; (conv => arg 2; whnf); have e35 := sV 35 (hd 0 (by kernel_rfl)) hA hap hsz; clear hA hd o0 o2 o4 o8 o9; go_step; exact hK _ _ kR rfl
   · intro vs A' W hA hW hd K hK; refine wpOp_free _ rfl rfl ?_; (conv => arg 2; whnf); have e48 := sV 48 (hd 13 (by kernel_rfl)) hA hap hsz; clear hA hd o0 o2 o4 o8 o9; go_step; exact hK _ _ kR rfl
 · intro vs W hW hp
   rw [putAll_eq]
   exact hend _ W sQ hW (sW (hp 14 sB)) (sW (hp 15 sB))
theorem bsf_r8N (k n : Nat) (hk : ¬ k < n) (hsz : a.tmps.size = 49) (o8 : Sl a 8 (.int .i64 ((n : Nat) : Int))) (o9 : Sl a 9 (.int .i64 ((k : Nat) : Int)))
 (hend : ∀ a' W, Same a a' [35, 36, 37, 38, 39, 40, 41, 42, 43, 44, 45, 46, 47, 48, 6, 7] → Kp [] w.drew W → Sl a' 6 (.int .i64 ((k : Nat) : Int)) → Sl a' 7 (.bool false) → Q .normal a' W) : (Code.region 8 (opsOf 8 Tryd.f43).toArray true).wp Tryd.prog Q a w := by
 have hap : apartB (opsOf 8 Tryd.f43) = true := by kernel_rfl
 refine wp_region_invG (l := (opsOf 8 Tryd.f43)) (fun i v W => match i with | 0 => v = .int .i64 ((k : Nat) : Int) | 1 => v = .int .i64 ((k : Nat) : Int) | 2 => v = .int .i64 ((n : Nat) : Int) | 3 => v = .bool false | 4 => v = .bool false | 13 => v = .bool false | 14 => v = .int .i64 ((k : Nat) : Int) | 15 => v = .bool false | _ => True) (by kernel_rfl) hap (by kernel_rfl) ?_ ?_ ?_
 · intro i v W W' h _
   iterate 16 (rcases i with _ | i; · exact h)
   exact h
 · refine ⟨?_, ?_, ?_, ?_, ?_, ?_, ?_, ?_, ?_, ?_, ?_, ?_, ?_, ?_, ?_, ?_, trivial⟩
   · intro vs A' W hA hW hd K hK; refine wpOp_free _ rfl rfl ?_; (conv => arg 2; whnf); have e9 := sO 9 o9 hA hap hsz; clear hA hd o8 o9; go_step; exact hK _ _ kR rfl
   · intro vs A' W hA hW hd K hK; refine wpOp_free _ rfl rfl ?_; (conv => arg 2; whnf); have e9 := sO 9 o9 hA hap hsz; clear hA hd o8 o9; go_step; exact hK _ _ kR rfl
   · intro vs A' W hA hW hd K hK; refine wpOp_free _ rfl rfl ?_; (conv => arg 2; whnf); have e8 := sO 8 o8 hA hap hsz; clear hA hd o8 o9; go_step; exact hK _ _ kR rfl
   · intro vs A' W hA hW hd K hK; refine wpOp_free _ rfl rfl ?_; (conv => arg 2; whnf); have e36 := sV 36 (hd 1 (by kernel_rfl)) hA hap hsz; have e37 := sV 37 (hd 2 (by kernel_rfl)) hA hap hsz; clear hA hd o8 o9
     have h0 : ¬ (k : Int) < (n : Int) := by omega
     go_step; exact hK _ _ kR rfl
   · intro vs A' W hA hW hd K hK; refine wpOp_free _ rfl rfl ?_; (conv => arg 2; whnf); have e38 := sV 38 (hd 3 (by kernel_rfl)) hA hap hsz; clear hA hd o8 o9; go_step; exact hK _ _ kR rfl
   · intro vs A' W hA hW hd K hK; have e39 := sV 39 (hd 4 (by kernel_rfl)) hA hap hsz; refine wpOp_skip _ rfl 4 39 true rfl rfl e39 ?_; exact hK _ _ kR trivial
   · intro vs A' W hA hW hd K hK; have e39 := sV 39 (hd 4 (by kernel_rfl)) hA hap hsz; refine wpOp_skip _ rfl 4 39 true rfl rfl e39 ?_; exact hK _ _ kR trivial
   · intro vs A' W hA hW hd K hK; have e39 := sV 39 (hd 4 (by kernel_rfl)) hA hap hsz; refine wpOp_skip _ rfl 4 39 true rfl rfl e39 ?_; exact hK _ _ kR trivial
   · intro vs A' W hA hW hd K hK; have e39 := sV 39 (hd 4 (by kernel_rfl)) hA hap hsz; refine wpOp_skip _ rfl 4 39 true rfl rfl e39 ?_; exact hK _ _ kR trivial
   · intro vs A' W hA hW hd K hK; have e39 := sV 39 (hd 4 (by kernel_rfl)) hA hap hsz; refine wpOp_skip _ rfl 4 39 true rfl rfl e39 ?_; exact hK _ _ kR trivial
   · intro vs A' W hA hW hd K hK; have e39 := sV 39 (hd 4 (by kernel_rfl)) hA hap hsz; refine wpOp_skip _ rfl 4 39 true rfl rfl e39 ?_; exact hK _ _ kR trivial
   · intro vs A' W hA hW hd K hK; have e39 := sV 39 (hd 4 (by kernel_rfl)) hA hap hsz; refine wpOp_skip _ rfl 4 39 true rfl rfl e39 ?_; exact hK _ _ kR trivial
   · intro vs A' W hA hW hd K hK; have e39 := sV 39 (hd 4 (by kernel_rfl)) hA hap hsz; refine wpOp_skip _ rfl 4 39 true rfl rfl e39 ?_; exact hK _ _ kR trivial
   · intro vs A' W hA hW hd K hK; refine wpOp_free _ rfl rfl ?_; (conv => arg 2; whnf); have e39 := sV 39 (hd 4 (by kernel_rfl)) hA hap hsz
     have e47 := sU 47 12 hA hap hsz
     clear hA hd o8 o9; go_step; exact hK _ _ kR rfl
   · intro vs A' W hA hW hd K hK; refine wpOp_free _ rfl rfl ?_; (conv => arg 2; whnf); have e35 := sV 35 (hd 0 (by kernel_rfl)) hA hap hsz; clear hA hd o8 o9; go_step; exact hK _ _ kR rfl
   · intro vs A' W hA hW hd K hK; refine wpOp_free _ rfl rfl ?_; (conv => arg 2; whnf); have e48 := sV 48 (hd 13 (by kernel_rfl)) hA hap hsz; clear hA hd o8 o9; go_step; exact hK _ _ kR rfl
 · intro vs W hW hp
   rw [putAll_eq]
   exact hend _ W sQ hW (sW (hp 14 sB)) (sW (hp 15 sB))
end
/- slices.BinarySearchFunc over signatures, by name: whole. -/
section
open Go.RowKit
theorem cmpB_lt_trans : ∀ {a b c : List UInt8}, cmpB a b < 0 → cmpB b c < 0 → cmpB a c < 0
 | [], [], _, h, _ => by simp [cmpB_self] at h
 | [], _ :: _, [], _, h => by simp [cmpB, Lib.compareBytes] at h
 | [], _ :: _, _ :: _, _, _ => by simp [cmpB, Lib.compareBytes]
 | _ :: _, [], _, h, _ => by simp [cmpB, Lib.compareBytes] at h
 | _ :: _, _ :: _, [], _, h => by simp [cmpB, Lib.compareBytes] at h
 | x :: a, y :: b, z :: c, h1, h2 => by
  rw [cmpB_cons] at h1 h2 ⊢
  by_cases h3 : x.toNat < y.toNat
  · by_cases h4 : y.toNat < z.toNat
    · rw [if_pos (by omega)]; decide
    · rw [if_neg h4] at h2
      by_cases h5 : z.toNat < y.toNat
      · rw [if_pos h5] at h2; omega
      · rw [if_pos (by omega)]; decide
  · rw [if_neg h3] at h1
    by_cases h4 : y.toNat < x.toNat
    · rw [if_pos h4] at h1; omega
    · rw [if_neg h4] at h1
      by_cases h5 : y.toNat < z.toNat
      · rw [if_pos (by omega)]; decide
      · rw [if_neg h5] at h2
        by_cases h6 : z.toNat < y.toNat
        · rw [if_pos h6] at h2; omega
        · rw [if_neg h6] at h2
          rw [if_neg (by omega), if_neg (by omega)]
          exact cmpB_lt_trans h1 h2
def posN (nm : List UInt8) (l : List SigD) : Nat := (l.takeWhile fun s => decide (cmpB s.1 nm < 0)).length
def hasN (nm : List UInt8) (l : List SigD) : Bool := match l[posN nm l]? with
 | some x => decide (cmpB x.1 nm = 0)
 | none => false
def Mono (nm : List UInt8) (l : List SigD) : Prop := ∀ i j (hj : j < l.length) (hi : i ≤ j), cmpB l[j].1 nm < 0 → cmpB (l[i]'(Nat.lt_of_le_of_lt hi hj)).1 nm < 0
theorem posN_eq (nm : List UInt8) : ∀ (l : List SigD) (k : Nat) (hk : k ≤ l.length), (∀ i (hi : i < k), cmpB (l[i]'(by omega)).1 nm < 0) → (∀ h : k < l.length, ¬ cmpB l[k].1 nm < 0) → posN nm l = k
 | [], k, hk, _, _ => by simp only [List.length_nil] at hk; show 0 = k; omega
 | s :: l, 0, _, _, h => by
  have := h (by simp)
  unfold posN
  rw [List.takeWhile_cons, if_neg (by simpa using this)]; rfl
 | s :: l, k + 1, hk, h1, h2 => by
  have h0 := h1 0 (by omega)
  have ih := posN_eq nm l k (by simpa using hk) (fun i hi => by have := h1 (i + 1) (by omega); simpa using this) (fun h => by have := h2 (by simpa using h); simpa using this)
  unfold posN at ih ⊢
  rw [List.takeWhile_cons, if_pos (by simpa using h0), List.length_cons, ih]
theorem rising_all : ∀ {l : List SigD} {a : List UInt8}, rising a l = true → ∀ x, x ∈ l → cmpB a x.1 < 0
 | [], _, _, x, hx => by cases hx
 | s :: l, a, h, x, hx => by
  unfold rising at h
  simp only [Bool.and_eq_true, decide_eq_true_eq] at h
  have hs : cmpB a s.1 < 0 := by rw [cmpB_neg s.1 a]; omega
  rcases List.mem_cons.1 hx with rfl | hx
  · exact hs
  · exact cmpB_lt_trans hs (rising_all h.2 x hx)
theorem rising_mono (nm : List UInt8) : ∀ {l : List SigD} {a : List UInt8}, rising a l = true → Mono nm l
 | [], _, _ => fun i j hj => by simp at hj
 | s :: l, a, h => by
  unfold rising at h
  simp only [Bool.and_eq_true, decide_eq_true_eq] at h
  intro i j hj hi hlt
  rcases j with _ | j
  · obtain rfl : i = 0 := by omega
    exact hlt
  · rcases i with _ | i
    · exact cmpB_lt_trans (rising_all h.2 _ (List.getElem_mem (by simpa using hj))) hlt
    · exact rising_mono nm h.2 i j (by simpa using hj) (by omega) hlt
theorem sgs_addr {W : World} {A : Option Addr} {c n : Nat} {l : List SigD} (h : Rd W 33 (.slice A n c) n (sgsC l)) (hn : 0 < n) : ∃ ad, A = some ad := by
 obtain ⟨-, A', c', he, -, -, hA, -⟩ := h
 cases he
 rcases A with _ | ad
 · have := hA rfl; omega
 · exact ⟨ad, rfl⟩
theorem results_t2 {P : Program} {fn : Func} {w : World} {tmps : Array Value} {u u2 : Nat} {x y : Value} (h : fn.results = #[.tmp u, .tmp u2]) (hx : tmps.getD u undef = x) (hy : tmps.getD u2 undef = y) : (results fn tmps).run P w = .ok (.tuple #[x, y]) w := by
 simp only [Array.getD_eq_getD_getElem?] at hx hy
 simp [results, h, hx, hy]
def dsBs : List Nat := [9, 10, 11, 15, 16, 17, 18, 19, 20, 21, 22, 23, 24, 25, 26, 27, 28, 29, 30, 31, 32, 33, 34]
theorem bsf_l {Q : Exit → Act → World → Prop} {a : Act} {w : World} (A : Option Addr) (c : Nat) (l : List SigD) (s : SigD) (hok : SgOk l) (hs : s.2.length = 32) (hll : l.length < 4611686018427387904) (hm : Mono s.1 l) (g : Nat) (hsz : a.tmps.size = 49) (o0 : Sl a 0 (.slice A l.length c)) (o2 : Sl a 2 (.func (.func 44) #[] #[])) (o4 : Sl a 4 (.pointer (some ⟨g, 0, none⟩)))
 (o9 : Sl a 9 (.int .i64 ((0 : Nat) : Int))) (o10 : Sl a 10 (.int .i64 ((l.length : Nat) : Int))) (hb : Blk w g 81 (sgA s)) (hv : Rd w 33 (.slice A l.length c) l.length (sgsC l))
 (hend : ∀ a' W, Same a a' dsBs → Sl a' 9 (.int .i64 ((posN s.1 l : Nat) : Int)) → Kp [] w W → Q .normal a' W) :
 (Code.block 0 (blockOf 0 Tryd.f43)).wp Tryd.prog Q a w := by
 refine wp_block ?_
 (conv => arg 2; whnf)
 refine wp_loop (fun a' w' => ∃ i j : Nat, i ≤ j ∧ ∃ (hj : j ≤ l.length), Same a a' dsBs ∧ Sl a' 9 (.int .i64 (i : Int)) ∧ Sl a' 10 (.int .i64 (j : Int)) ∧ (∀ k (hk : k < i) (h : k < l.length), cmpB l[k].1 s.1 < 0) ∧ (∀ (h : j < l.length), ¬ cmpB l[j].1 s.1 < 0) ∧ Kp [] w w') (fun a' _ => (intOf (a'.eval (.tmp 10))).toNat - (intOf (a'.eval (.tmp 9))).toNat) ⟨0, l.length, Nat.zero_le _, Nat.le_refl _, Same.refl _ _, o9, o10, fun k hk => by omega, fun h => by omega, Kp.refl _ _⟩ ?_
 clear o9 o10
 rintro a1 w1 ⟨i, j, hij, hj, T, o9, o10, h1, h2, K⟩
 have hz1 := T.size.trans hsz
 have o0 := T.keep 0 _ (by decide) o0
 have o2 := T.keep 2 _ (by decide) o2
 have o4 := T.keep 4 _ (by decide) o4
 have e9 := o9.eval (by rw [hz1]; decide)
 have e10 := o10.eval (by rw [hz1]; decide)
 refine wp_seq (wp_seq (bsf_r3 i j hz1 o9 o10 (fun a2 hs2 o17 => ?_)))
 have hz2 := hs2.size.trans hz1; have o0 := hs2.k o0; have o2 := hs2.k o2; have o4 := hs2.k o4; have o9 := hs2.k o9; have o10 := hs2.k o10
 have T := T.trans hs2
 by_cases hlt : i < j
 · refine wp_cond_true ((o17.eval (by rw [hz2]; decide)).trans (by rw [decide_eq_true hlt])) (wp_skip ?_)
   refine wp_block ?_
   refine wp_seq (bsf_r4 i j (by omega) hz2 o9 o10 (fun a3 hs3 o11 => ?_))
   have hz3 := hs3.size.trans hz2; have o0 := hs3.k o0; have o2 := hs3.k o2; have o4 := hs3.k o4; have o9 := hs3.k o9; have o10 := hs3.k o10
   have T := T.trans hs3
   obtain ⟨h, hh⟩ : ∃ h, (i + j) / 2 = h := ⟨_, rfl⟩
   rw [hh] at o11
   have hhi : i ≤ h := by omega
   have hhj : h < j := by omega
   have hv1 := rd_old hv K
   obtain ⟨ad, rfl⟩ := sgs_addr hv1 (by omega)
   have hx : l[h]? = some l[h] := List.getElem?_eq_getElem (by omega)
   have hxk := hok _ (List.mem_of_getElem? hx)
   refine wp_seq (bsf_r5 ad l.length c h (by omega) l[h] s hxk.1 hs g (hb.kp K (by simp)) (fun V k => sgs_at (rd_old hv1 k) hok hx) hz3 o0 o2 o4 o11 (fun a4 w4 hs4 k4 o31 => ?_))
   have hz4 := hs4.size.trans hz3; have o9 := hs4.k o9; have o10 := hs4.k o10; have o11 := hs4.k o11
   have T := T.trans hs4
   have K := K.trans ((Kp.refl [] w1).drew.trans k4 (by simp)) (by simp)
   by_cases hc : cmpB l[h].1 s.1 < 0
   · refine wp_cond_true ((o31.eval (by rw [hz4]; decide)).trans (by rw [decide_eq_true hc])) ?_
     refine bsf_r6 h (by omega) hz4 o11 (fun a5 hs5 o9' => ?_)
     have hz5 := hs5.size.trans hz4; have o10 := hs5.k o10
     have T := T.trans hs5
     refine ⟨⟨h + 1, j, by omega, hj, T.more (by decide +kernel), o9', o10, fun k hk _ => hm k h (by omega) (by omega) hc, h2, K⟩, ?_⟩
     show (intOf _).toNat - (intOf _).toNat < (intOf _).toNat - (intOf _).toNat
     rw [e9, e10, o9'.eval (by rw [hz5]; decide), o10.eval (by rw [hz5]; decide)]
     simp only [intOf]; omega
   · refine wp_cond_false ((o31.eval (by rw [hz4]; decide)).trans (by rw [decide_eq_false hc])) ?_
     refine bsf_r7 h hz4 o11 (fun a5 hs5 o10' => ?_)
     have hz5 := hs5.size.trans hz4; have o9 := hs5.k o9
     have T := T.trans hs5
     refine ⟨⟨i, h, by omega, by omega, T.more (by decide +kernel), o9, o10', h1, fun _ => hc, K⟩, ?_⟩
     show (intOf _).toNat - (intOf _).toNat < (intOf _).toNat - (intOf _).toNat
     rw [e9, e10, o9.eval (by rw [hz5]; decide), o10'.eval (by rw [hz5]; decide)]
     simp only [intOf]; omega
 · refine wp_cond_false ((o17.eval (by rw [hz2]; decide)).trans (by rw [decide_eq_false hlt])) (wp_exit ?_)
   obtain rfl : i = j := by omega
   rw [← posN_eq s.1 l i hj (fun k hk => h1 k hk (by omega)) h2] at o9
   exact hend _ _ (T.more (by decide +kernel)) o9 K
theorem bsf_any (A : Option Addr) (c : Nat) (l : List SigD) (s : SigD) (hok : SgOk l) (hs : s.2.length = 32) (hll : l.length < 4611686018427387904) (hm : Mono s.1 l) (w : World) (hv : Rd w 33 (.slice A l.length c) l.length (sgsC l)) :
 Calls Tryd.prog 43 #[.slice A l.length c, .agg (sgA s), .func (.func 44) #[] #[]] w fun e w' => e = .returned (.tuple #[.int .i64 ((posN s.1 l : Nat) : Int), .bool (hasN s.1 l)]) ∧ Kp [] w w' := by
 refine calls_fr Tryd.func43 rfl 49 rfl (fun a0 hsz hdf hAr => ?_)
 have hz0 : a0.tmps.size = 49 := hsz
 have D := hdf
 have o0 := hAr 0 _ rfl
 have o1 := hAr 1 _ rfl
 have o2 := hAr 2 _ rfl
 refine wp_seq (bsf_r0 w s [] (Held.start w) hz0 o1 (fun a1 w1 hs1 h => ?_))
 obtain ⟨g, o4, S⟩ := h
 have hz1 := hs1.size.trans hz0; have o0 := hs1.k o0; have o2 := hs1.k o2; have D := hs1.defers.trans D
 refine wp_seq (bsf_r1 A l.length c hz1 o0 (fun a2 hs2 o8 => ?_))
 have hz2 := hs2.size.trans hz1; have o0 := hs2.k o0; have o2 := hs2.k o2; have o4 := hs2.k o4; have D := hs2.defers.trans D
 refine wp_seq (bsf_r2 l.length hz2 o8 (fun a3 hs3 o9 o10 => ?_))
 have hz3 := hs3.size.trans hz2; have o0 := hs3.k o0; have o2 := hs3.k o2; have o4 := hs3.k o4; have o8 := hs3.k o8; have D := hs3.defers.trans D
 have hb := S.at_ (l1 := [])
 have hv1 := rd_old hv S.k
 refine wp_seq (bsf_l A c l s hok hs hll hm g hz3 o0 o2 o4 o9 o10 hb hv1 (fun a4 w4 hs4 o9 k4 => ?_))
 have hz4 := hs4.size.trans hz3; have o0 := hs4.k o0; have o2 := hs4.k o2; have o4 := hs4.k o4; have o8 := hs4.k o8; have D := hs4.defers.trans D
 have S := S.kp k4
 have hv4 := rd_old hv1 k4
 by_cases hp : posN s.1 l < l.length
 · obtain ⟨ad, rfl⟩ := sgs_addr hv4 (by omega)
   have hx : l[posN s.1 l]? = some l[posN s.1 l] := List.getElem?_eq_getElem hp
   have hxk := hok _ (List.mem_of_getElem? hx)
   have hh : hasN s.1 l = decide (cmpB l[posN s.1 l].1 s.1 = 0) := by unfold hasN; rw [hx]
   refine wp_seq (bsf_r8 ad l.length c _ hp l[posN s.1 l] s hxk.1 hs g (S.at_ (l1 := [])) (fun V k => sgs_at (rd_old hv4 k) hok hx) hz4 o0 o2 o4 o8 o9 (fun a5 w5 hs5 k5 o6 o7 => ?_))
   have hz5 := hs5.size.trans hz4; have D := hs5.defers.trans D
   rw [← hh] at o7
   refine wp_ret (bodyPost_ret (results_t2 (by rfl) (o6.eval (by rw [hz5]; decide)) (o7.eval (by rw [hz5]; decide))) D ⟨rfl, ?_⟩)
   exact S.k.trans ((Kp.refl [] w4).drew.trans k5 (by simp)) (by simp)
 · have hh : hasN s.1 l = false := by unfold hasN; rw [List.getElem?_eq_none (by omega)]
   refine wp_seq (bsf_r8N _ _ hp hz4 o8 o9 (fun a5 w5 hs5 k5 o6 o7 => ?_))
   have hz5 := hs5.size.trans hz4; have D := hs5.defers.trans D
   rw [← hh] at o7
   refine wp_ret (bodyPost_ret (results_t2 (by rfl) (o6.eval (by rw [hz5]; decide)) (o7.eval (by rw [hz5]; decide))) D ⟨rfl, ?_⟩)
   exact S.k.trans ((Kp.refl [] w4).drew.trans k5 (by simp)) (by simp)
end
end Go.Proofs.YtapboamjpilckaaDoor
