/- Several texts in one: PtH, CrcF, CrcG, CrcH, CrcI, CrcM2, WireT, RecA, RecB, WireU, Conv, WireV, PtK, PtEq, Guard, PtP, PtParses, PtLaid, Post, PostKept, Open. -/
import Derived.Laws.Bits128
import Derived.Lib.SlBytesConst
import Derived.DeepKeys
import Derived.Laws.StructEq
import Derived.Test.YtolfckhjfadhdaaDoorCards
import Derived.Test.YtolfckhjfadhdaaDoorTie
import Derived.ProofKit
import Derived.OpenShut
import Derived.Deep.DeepHandedRow
import Derived.Deep.DeepWitnessRowRef
import Derived.Lib.LaidTab
import Derived.LaidMore
import Derived.Stop.LaidErr
import Derived.Test.YtolfckhjfadhdaaDoorRows
import Derived.Carry
import Derived.JoinedCond
import Derived.Deep.Slices
import Derived.Test.YtolfckhjfadhdaaDoorP3
/- Parse of point: the walk. -/
namespace Go.Proofs.YtolfckhjfadhdaaDoor
open Go.RowKit
theorem strs_snoc (L : List (List UInt8)) (l : List UInt8) : strs (L ++ [l]) = strs L ++ [.string ⟨l.toArray⟩] := by simp [strs]
theorem strs_get (L : List (List UInt8)) (i : Nat) : (strs L)[i]? = L[i]?.map fun l => Value.string ⟨l.toArray⟩ := by simp [strs]
set_option maxRecDepth 100000 in
set_option maxHeartbeats 8000000 in
theorem pparse_any (s : ByteArray) (hs : s.size ≤ 140737488355328) (w : World) (L : LD w) : Calls Tryd.prog 9 #[.string s] w (ParsePost s.data.toList w) := by
  have HL := Lib.hid L
  have HZ : Hid (zeroP.size = 33) := Lib.hid rfl
  have HZO := Lib.hid (ptA_one 0 (List.replicate 32 0))
  have HSz := Lib.hid (Lib.size_eq s)
  have S0 := Lib.hid (((Held.start w).newBlk 25 zeroP).rownew (ow_new _ 9 1 0 #[] rfl (by decide)) ((Kp.refl [] _).alloc _) (fun g hg => Nat.le_of_eq (Option.some.inj hg)))
  rw [World.size_alloc] at S0
  clear L
  go_enter Tryd.func9, Tryd.ntmps9
  go_wp2_with fail
  go_step3
  go_wp2_with fail
  go_step3
  go_wp2_with fail
  obtain ⟨g2, hg2⟩ : ∃ g2, w.heap.size = g2 := ⟨_, rfl⟩
  rw [hg2] at S0 ⊢
  clear hg2
  go_loopw [5, 6] (fun v rest wr => ∃ (k : Nat) (ls : List (List UInt8)) (A : Option Addr) (c : Nat) (r : ByteArray), k ≤ 2 ∧ v = .slice A k c ∧ rest = .string r ∧ Hid (lnK s.data.toList k = some (ls, r.data.toList) ∧ ls.length = k) ∧ r.size ≤ s.size ∧ Held w wr [rowR 9 1 (.slice A k c) k (strs ls), blkR g2 25 zeroP]) (fun v _ _ => match v with | .slice _ n _ => 3 - n | _ => 0)
  case atStart => exact ⟨0, [], _, _, s, by omega, rfl, rfl, Lib.hid ⟨rfl, rfl⟩, Nat.le_refl _, S0.out⟩
  case round =>
    clear S0
    obtain ⟨k, ls, A, c, r, hk, rfl, rfl, HK, hr, S⟩ := hrel
    have HS := Lib.hid S
    clear S
    go_wp2_with fail
    refine (cut1_any r (by omega) 10 _).mono ?_
    rintro e w1 ⟨rfl, k1⟩
    have S1 := Lib.hid (HS.out.kp k1)
    clear k1
    by_cases hm : (10 : UInt8) ∈ r.data.toList
    · have HC := Lib.hid (ct_yes hm)
      have HN := Lib.hid (lnK_go HK.out.1 hm)
      rw [HC.out] at HN ⊢
      obtain ⟨l, HLn⟩ : ∃ l, Hid (r.data.toList.take (r.data.toList.idxOf 10) = l) := ⟨_, Lib.hid rfl⟩
      obtain ⟨b, HB⟩ : ∃ b, Hid (r.data.toList.drop (r.data.toList.idxOf 10 + 1) = b) := ⟨_, Lib.hid rfl⟩
      have hbl : b.length ≤ r.size := by rw [← HB.out, List.length_drop, ← Lib.size_eq]; omega
      rw [HLn.out, HB.out] at HN ⊢
      simp only at HN ⊢
      clear hm HC
      have S2 := Lib.hid (S1.out.rownew (ow_new w1 9 1 1 #[.string ⟨l.toArray⟩] rfl (by decide)) ((Kp.refl [] w1).alloc _) (fun g hg => Nat.le_of_eq (Option.some.inj hg)))
      obtain ⟨i0, hi, hz0, hz1, hz2⟩ := info_parts Tryd.infoStr
      have HR := Lib.hid (Rd.of_own (S2.out.at_ (l1 := [])))
      by_cases h2 : k = 2
      · subst h2
        obtain ⟨l0, l1, rfl⟩ : ∃ l0 l1, ls = [l0, l1] := by
          match ls, HK.out.2 with
          | [a, b], _ => exact ⟨a, b, rfl⟩
        have HL3 : Hid (ln3 s.data.toList = some (l0, l1, l, b)) := Lib.hid (by rw [ln3_of, HN.out]; rfl)
        go_wp2_with (at_builtin; refine wpList_app _ rfl (.tmp 33) (.tmp 35) _ rfl 9 i0 _ 1 16 Tryd.underlying62 hi hz0 hz1 hz2 rfl (by decide) (.slice A 2 c) 2 (strs [l0, l1]) rfl (S2.out.at_ (l1 := [_])) (.slice (some ⟨w1.heap.size, 0, none⟩) 1 1) 1 [.string ⟨l.toArray⟩] rfl HR.out (by simp [Value.oneCell']) (by decide) (by decide) ?_; intro v' w' o' g' h'; have S3 := Lib.hid (S2.out.grow (l1 := [_]) o' g' h'); clear o' g' h'; obtain ⟨A3, c3, hv3, -, -⟩ := ow_form (S3.out.at_ (l1 := [_])); subst hv3; obtain ⟨g5, c5, hv5, -, -⟩ := ow_some (S3.out.at_ (l1 := [_])) (by decide); injection hv5 with hA5 hn5 hc5; subst hA5; clear hn5 hc5; have hlw := ow_lt (S3.out.at_ (l1 := [_])) (g := g5) rfl; have hl1 := (S3.out.at_ (l1 := [_])).cellAt 1 (by decide); have hl2 := (S3.out.at_ (l1 := [_])).cellAt 2 (by decide); simp only [strs, List.map_cons, List.map_nil, List.cons_append, List.nil_append, List.getElem?_cons_succ, List.getElem?_cons_zero] at hl1 hl2)
        obtain ⟨hform, -⟩ := ln3_form HL3.out
        have hlen := congrArg List.length hform
        rw [← HSz.out] at hlen
        simp only [List.length_append, List.length_cons] at hlen
        have Hform := Lib.hid hform
        clear hform
        have S4 := Lib.hid (S3.out.newBlk 25 zeroP)
        refine (pint_any ⟨l1.toArray⟩ (by rw [Lib.size_eq]; show l1.length ≤ _; omega) _ (HL.out.kp S4.out.k)).mono ?_
        rintro e w2 ⟨er, rfl, k2⟩
        have S5 := Lib.hid (S4.out.kp k2)
        have hc2 := (S5.out.at_ (l1 := [_, _])).cellAt (g := g5) 2 (by decide)
        simp only [strs, List.map_cons, List.map_nil, List.cons_append, List.nil_append, List.getElem?_cons_succ, List.getElem?_cons_zero] at hc2
        clear k2 hl1 hl2 hlw
        rw [show (⟨l1.toArray⟩ : ByteArray).data.toList = l1 from rfl]
        have hzb := pv_bounds l1
        have HD := Lib.hid (fun (n : Nat) (hn : n < 9223372036854775808) (e : l1 = dec n) => (by rw [e]; exact pv_dec hn : pv l1 = n))
        have HPT := Lib.hid (PT_by HL3.out (pv l1) hzb HD.out)
        obtain ⟨z, Hz⟩ : ∃ z, Hid (pv l1 = z) := ⟨_, Lib.hid rfl⟩
        rw [Hz.out] at hzb HPT ⊢
        have hz1' := hzb.1
        have hz2' := hzb.2
        have hulen := UH_len l
        have HUX := Lib.hid (fun V => unhex_any ⟨l.toArray⟩ V)
        unfold UnhexPost at HUX
        rw [show (⟨l.toArray⟩ : ByteArray).data.toList = l from rfl] at HUX
        obtain ⟨hh, Hhh⟩ : ∃ hh, Hid ((UH l).1 = hh) := ⟨_, Lib.hid rfl⟩
        rw [Hhh.out] at HUX hulen HPT
        have Hul := Lib.hid hulen
        have Hha : Hid ((hashA hh).size = 32) := Lib.hid (by rw [hashA_size, hulen])
        have Hho := Lib.hid (hashA_one hh)
        clear hulen HD
        go_wp2_with fail
        refine (HUX.out _).mono ?_
        rintro e w3 ⟨rfl, k3⟩
        have S6 := Lib.hid (S5.out.kp k3)
        clear k3 hc2 HUX
        generalize hg10 : w'.heap.size = g10 at *
        clear hg10
        go_wp2_with (refine wpList_store_blk rfl 23 (.tmp 13) (.tmp 55) rfl w3.heap.size rfl (hashA hh) rfl 23 _ (Blk.new w3 23 _) (by rw [Hha.out]; exact Tryd.infoHashP) (by rw [Hha.out]; rfl) Hho.out ?_; intro w4 b4 k4; have S7 := Lib.hid (Held.setBlk (l1 := []) (S6.out.newBlk 23 _) b4 k4); clear b4 k4)
        generalize hg13 : w3.heap.size = g13 at *
        clear hg13
        have S9 : Hid (Held w w4 [blkR g10 25 zeroP, blkR g13 23 (hashA hh), blkR g2 25 zeroP]) := Lib.hid ((S7.out.perm (List.Perm.swap _ _ _)).sub (.cons_cons _ (.cons_cons _ (.cons _ (.cons _ (List.Sublist.refl _))))))
        clear S1 S2 S3 S4 S5 S6 S7 HS
        -- SEP pparse
        refine wp_region_sep (Γ := Unit) 3 [0, 1, 2, 4, 5, 7, 8]
          (fun i vs gs => match i with | 0 => vs 0 = .int .i64 z | 1 => vs 1 = .agg (hashA hh) | 2 => vs 2 = .pointer (some ⟨g10, 0, none⟩) | 4 => vs 4 = .pointer (some ⟨g10, 1, none⟩) | _ => True)
          (fun i vs gs => match i with | 3 => [blkR g10 25 (ptA z (List.replicate 32 0))] | 5 => [blkR g10 25 (ptA z hh)] | 6 => [blkR g10 25 zeroP] | 7 => [blkR g13 23 (hashA hh)] | 8 => [blkR g2 25 zeroP] | _ => [])
          (fun i => match i with | 3 => [6] | 5 => [3] | _ => []) (fun i => match i with | 1 => [7] | _ => []) S9.out (by kernel_rfl) (by kernel_rfl) (by kernel_rfl) (by kernel_rfl) (fun i => match i with | 0 => [0] | 1 => [1] | 2 => [2] | 4 => [4] | _ => []) (by kernel_rfl) ?_ (by kernel_rfl) ?_ ?_ ?_
        · intro s vs vs' gs gs' h
          iterate 9 (rcases s with _ | s; · (first | exact ⟨rfl, id⟩ | (simp only [List.mem_cons, List.not_mem_nil, or_false, forall_eq] at h; simp [h])))
          exact ⟨rfl, id⟩
        · simp only [List.range, List.range.loop, List.flatMap_cons, List.flatMap_nil, List.append_nil]
          exact List.Perm.refl _
        · refine ⟨?_, ?_, ?_, ?_, ?_, ?_, trivial⟩
          · intro vs gs A' W LF hA S hR hd hu K hK
            replace hK := hK default
            have e11 : A'.tmps[11]?.getD undef = .int .i64 z := slot_is hA (by kernel_rfl) (Nat.le_of_ble_eq_true (by kernel_rfl)) (by kernel_rfl)
            go_step
            exact hK _ _ S rfl
          · intro vs gs A' W LF hA S hR hd hu K hK
            replace hK := hK default
            have e13 : A'.tmps[13]?.getD undef = .pointer (some ⟨g13, 0, none⟩) := slot_is hA (by kernel_rfl) (Nat.le_of_ble_eq_true (by kernel_rfl)) (by kernel_rfl)
            refine op_runs (v := .agg (hashA hh)) (w' := W) (exec_load rfl (by simpa [Act.eval] using e13) (run_loadAt_agg W ⟨g13, 0, none⟩ 23 (hashA hh).toList _ (Blk.agg (show Blk W g13 23 (hashA hh) from S.ok (blkR g13 23 (hashA hh)) (hR 7 (List.mem_singleton.2 rfl) _ (List.mem_singleton.2 rfl)))) Tryd.underlying23 rfl (by rw [Array.length_toList, Hha.out]; exact Tryd.infoHashP))) ?_
            exact hK _ _ S rfl
          · intro vs gs A' W LF hA S hR hd hu K hK
            replace hK := hK default
            have e10 : A'.tmps[10]?.getD undef = .pointer (some ⟨g10, 0, none⟩) := slot_is hA (by kernel_rfl) (Nat.le_of_ble_eq_true (by kernel_rfl)) (by kernel_rfl)
            go_step
            exact hK _ _ S rfl
          · intro vs gs A' W LF hA S hR hd hu K hK
            replace hK := hK default
            have f2 : vs 2 = .pointer (some ⟨g10, 0, none⟩) := hd 2 (by kernel_rfl)
            have e59 : A'.tmps[59]?.getD undef = vs 2 := slot_is hA (by kernel_rfl) (Nat.le_of_ble_eq_true (by kernel_rfl)) (by kernel_rfl)
            rw [f2] at e59
            have f0 : vs 0 = .int .i64 z := hd 0 (by kernel_rfl)
            have e57 : A'.tmps[57]?.getD undef = vs 0 := slot_is hA (by kernel_rfl) (Nat.le_of_ble_eq_true (by kernel_rfl)) (by kernel_rfl)
            rw [f0] at e57
            have S1 : Held w W (blkR g10 25 zeroP :: LF) := S
            have q1 := pt_c0 (S1.at_ (l1 := []))
            have q2 := (S1.at_ (l1 := [])).frozen 0
            have q3 := (S1.at_ (l1 := [])).lt
            go_step
            refine hK undef _ ?_ trivial
            show Held w _ (blkR g10 25 (ptA z (List.replicate 32 0)) :: LF)
            have S2 := S1.set (l1 := []) 0 (.int .i64 z)
            exact S2
          · intro vs gs A' W LF hA S hR hd hu K hK
            replace hK := hK default
            have e10 : A'.tmps[10]?.getD undef = .pointer (some ⟨g10, 0, none⟩) := slot_is hA (by kernel_rfl) (Nat.le_of_ble_eq_true (by kernel_rfl)) (by kernel_rfl)
            go_step
            exact hK _ _ S rfl
          · intro vs gs A' W LF hA S hR hd hu K hK
            replace hK := hK default
            have f4 : vs 4 = .pointer (some ⟨g10, 1, none⟩) := hd 4 (by kernel_rfl)
            have e60 : A'.tmps[60]?.getD undef = vs 4 := slot_is hA (by kernel_rfl) (Nat.le_of_ble_eq_true (by kernel_rfl)) (by kernel_rfl)
            rw [f4] at e60
            have f1 : vs 1 = .agg (hashA hh) := hd 1 (by kernel_rfl)
            have e58 : A'.tmps[58]?.getD undef = vs 1 := slot_is hA (by kernel_rfl) (Nat.le_of_ble_eq_true (by kernel_rfl)) (by kernel_rfl)
            rw [f1] at e58
            have S1 : Held w W (blkR g10 25 (ptA z (List.replicate 32 0)) :: LF) := S
            exact op_store_part (.tmp 60) (.tmp 58) 23 rfl g10 1 (by simpa [Act.eval] using e60) (hashA hh) (by simpa [Act.eval] using e58) 25 _ (S1.at_ (l1 := [])) (by rw [Hha.out]; exact Tryd.infoHashP) (by rw [Hha.out]; exact Nat.le_refl _) (hashA_one hh) (fun w' hb k => hK undef _ (Held.setBlk (l1 := []) S1 (by rw [pt_lay _ _ _ (by rw [← hashA_size, Hha.out]) rfl] at hb; exact hb) k) trivial)
        · intro vs gs W S hp
          have S : Held w W (blkR g10 25 (ptA z hh) :: blkR g13 23 (hashA hh) :: blkR g2 25 zeroP :: []) := by simpa only [List.flatMap_cons, List.flatMap_nil, List.append_nil, List.nil_append, List.cons_append, List.append_assoc] using S
          have p0 : vs 0 = .int .i64 z := hp 0 (Nat.le_of_ble_eq_true rfl)
          have p1 : vs 1 = .agg (hashA hh) := hp 1 (Nat.le_of_ble_eq_true rfl)
          have p2 : vs 2 = .pointer (some ⟨g10, 0, none⟩) := hp 2 (Nat.le_of_ble_eq_true rfl)
          have p4 : vs 4 = .pointer (some ⟨g10, 1, none⟩) := hp 4 (Nat.le_of_ble_eq_true rfl)
          clear hp
          have S10 := Lib.hid S
          clear S
          simp only [putAll, p0, p1, p2, p4, Act.put, List.setIfInBounds_toArray, List.set_cons_succ, List.set_cons_zero]
          clear p0 p1 p2 p4
        -- END pparse
          have HPsz := Lib.hid (ptA_size (s := z) Hul.out)
          go_wp2_with (refine wpList_load_blk rfl 25 (.tmp 10) rfl g10 rfl 25 _ (S10.out.at_ (l1 := [])) _ Tryd.underlying25 rfl (by rw [HPsz.out]; exact Tryd.infoPointP) ?_)
          refine (ptext_any z hzb hh Hul.out _ (HL.out.kp S10.out.k)).mono ?_
          rintro e w6 ⟨rfl, k6⟩
          have S11 := Lib.hid (S10.out.kp k6)
          clear k6
          have hbs : b.length ≤ s.size := by omega
          have Hlen := Lib.hid hlen
          clear hlen
          obtain ⟨kk, Hkk⟩ : ∃ kk, Hid (s.size - b.length = kk) := ⟨_, Lib.hid rfl⟩
          have hi0 : 0 ≤ (s.size : Int) - (b.length : Int) := by omega
          have hi1 : (s.size : Int) - (b.length : Int) ≤ s.size := by omega
          have hi2 : ((s.size : Int) - (b.length : Int)).toNat = kk := by have := Hkk.out; omega
          have hext := ext_take s kk
          have hpre : s.data.toList.take kk = l0 ++ 10 :: (l1 ++ 10 :: (l ++ [10])) := by
            rw [Hform.out, show l0 ++ 10 :: (l1 ++ 10 :: (l ++ 10 :: b)) = (l0 ++ 10 :: (l1 ++ 10 :: (l ++ [10]))) ++ b from by simp]
            rw [List.take_append_of_le_length (by have := Hkk.out; have := Hlen.out; simp; omega), List.take_of_length_le (by have := Hkk.out; have := Hlen.out; simp; omega)]
          rw [hpre] at hext
          obtain ⟨pre, Hpre⟩ : ∃ pre, Hid (l0 ++ 10 :: (l1 ++ 10 :: (l ++ [10])) = pre) := ⟨_, Lib.hid rfl⟩
          rw [Hpre.out] at hext HPT
          clear hpre
          by_cases hz0 : z < 0
          · have HT : Hid (txt z hh = [] ∧ txE z = 2) := Lib.hid ⟨if_pos hz0, if_pos hz0⟩
            have HPV := Lib.hid (PVs_none (s := s.data.toList) (by rw [HPT.out, if_neg (fun h => by omega)]))
            rw [HT.out.1, HT.out.2]
            go_wp2_with (refine wpList_store_blk rfl 25 (.tmp 2) (.tmp 79) rfl g2 rfl zeroP (by kernel_rfl) 25 _ (S11.out.at_ (l1 := [_, _])) (by rw [HZ.out]; exact Tryd.infoPointP) rfl HZO.out ?_; intro w4 b4 k4; have S12 := Lib.hid (Held.setBlk (l1 := [_, _]) S11.out b4 k4); clear b4 k4)
            try rw [Exit.noGoto_ret]
            refine bodyPost_ret (results_cell_tmp2P (by rfl) rfl (S12.out.at_ (l1 := [_, _])) Tryd.underlying25 rfl (by rw [HZ.out]; exact Tryd.infoPointP)) rfl ?_
            exact ⟨by rw [HPV.out.1, HPV.out.2]; rfl, S12.out.k⟩
          · have HT : Hid (txt z hh = told z.toNat hh ∧ txE z = 0) := Lib.hid ⟨if_neg hz0, if_neg hz0⟩
            rw [HT.out.1, HT.out.2]
            obtain ⟨tl, Htl⟩ : ∃ tl, Hid (told z.toNat hh = tl) := ⟨_, Lib.hid rfl⟩
            rw [Htl.out] at HPT ⊢
            by_cases hq : tl = pre
            · have HPV := Lib.hid (PVs_some (s := s.data.toList) (by rw [HPT.out, if_pos ⟨by omega, hq⟩]))
              have hkd : (tl == pre) = true := by rw [hq]; exact beq_self_eq_true pre
              clear hq
              go_wp2_with (first
                | (refine wpList_load_blk rfl 25 (.tmp 10) rfl g10 rfl 25 _ (S11.out.at_ (l1 := [])) _ Tryd.underlying25 rfl (by rw [HPsz.out]; exact Tryd.infoPointP) ?_)
                | (refine wpList_store_blk rfl 25 (.tmp 2) (.tmp 80) rfl g2 rfl (ptA z hh) (by kernel_rfl) 25 _ (S11.out.at_ (l1 := [_, _])) (by rw [HPsz.out]; exact Tryd.infoPointP) (by rw [HPsz.out, HZ.out]) (ptA_one z hh) ?_; intro w4 b4 k4; have S12 := Lib.hid (Held.setBlk (l1 := [_, _]) S11.out b4 k4); clear b4 k4))
              try rw [Exit.noGoto_ret]
              refine bodyPost_ret (results_cell_tmp2P (by rfl) rfl (S12.out.at_ (l1 := [_, _])) Tryd.underlying25 rfl (by rw [HPsz.out]; exact Tryd.infoPointP)) rfl ?_
              refine ⟨?_, S12.out.k⟩
              rw [HPV.out.1, HPV.out.2, show ((z.toNat : Nat) : Int) = z from by omega]
              rfl
            · have HPV := Lib.hid (PVs_none (s := s.data.toList) (by rw [HPT.out, if_neg (fun h => hq h.2)]))
              have hkd : (tl == pre) = false := beq_false_of_ne hq
              go_wp2_with (refine wpList_store_blk rfl 25 (.tmp 2) (.tmp 79) rfl g2 rfl zeroP (by kernel_rfl) 25 _ (S11.out.at_ (l1 := [_, _])) (by rw [HZ.out]; exact Tryd.infoPointP) rfl HZO.out ?_; intro w4 b4 k4; have S12 := Lib.hid (Held.setBlk (l1 := [_, _]) S11.out b4 k4); clear b4 k4)
              try rw [Exit.noGoto_ret]
              refine bodyPost_ret (results_cell_tmp2P (by rfl) rfl (S12.out.at_ (l1 := [_, _])) Tryd.underlying25 rfl (by rw [HZ.out]; exact Tryd.infoPointP)) rfl ?_
              exact ⟨by rw [HPV.out.1, HPV.out.2]; rfl, S12.out.k⟩
      · have h2' : ¬ (k : Int) = 2 := by omega
        go_wp2_with (at_builtin; refine wpList_app _ rfl (.tmp 38) (.tmp 40) _ rfl 9 i0 _ 1 16 Tryd.underlying62 hi hz0 hz1 hz2 rfl (by decide) (.slice A k c) k (strs ls) rfl (S2.out.at_ (l1 := [_])) (.slice (some ⟨w1.heap.size, 0, none⟩) 1 1) 1 [.string ⟨l.toArray⟩] rfl HR.out (by simp [Value.oneCell']) (by unfold maxLen; omega) (by omega) ?_; intro v' w' o' g' h'; have S3 := Lib.hid (S2.out.grow (l1 := [_]) o' g' h'); clear o' g' h')
        obtain ⟨A3, c3, hv3, -, -⟩ := ow_form (S3.out.at_ (l1 := [_]))
        subst hv3
        go_roundw
        case rel =>
          refine ⟨k + 1, ls ++ [l], A3, c3, ⟨b.toArray⟩, by omega, rfl, rfl, Lib.hid ⟨HN.out, by rw [List.length_append, HK.out.2]; rfl⟩, by rw [Lib.size_eq]; show b.length ≤ _; omega, ?_⟩
          rw [strs_snoc]
          exact S3.out.drop
        case measure => simp; omega
    · have HC := Lib.hid (ct_no hm)
      have HR : Hid (PT s.data.toList = none) := Lib.hid (PT_none (ln3_none (k := k + 1) (by omega) (lnK_stop HK.out.1 hm)))
      have HP := Lib.hid (PVs_none HR.out)
      rw [HC.out]
      clear hm HC
      go_wp2_with (refine wpList_store_blk rfl 25 (.tmp 2) (.tmp 28) rfl g2 rfl zeroP rfl 25 _ (S1.out.at_ (l1 := [_])) (by rw [HZ.out]; exact Tryd.infoPointP) rfl HZO.out ?_; intro w4 b4 k4; have S4 := Lib.hid (Held.setBlk (l1 := [_]) S1.out b4 k4); clear b4 k4)
      refine bodyPost_ret (results_cell_tmp2P (by rfl) rfl (S4.out.at_ (l1 := [_])) Tryd.underlying25 rfl (by rw [HZ.out]; exact Tryd.infoPointP)) rfl ?_
      exact ⟨by rw [HP.out.1, HP.out.2]; rfl, S4.out.k⟩
end Go.Proofs.YtolfckhjfadhdaaDoor
/- Walks of package crc: numbers carried. -/
namespace Go.Proofs.YtolfckhjfadhdaaDoor
open Go.RowKit

theorem i64_and1 (n : Int) : bits .and .i64 n 1 = n % 2 := by
  have h1 : (BitVec.ofInt 64 1).toNat = 2 ^ 1 - 1 := by decide
  have key : (BitVec.ofInt 64 n &&& BitVec.ofInt 64 1).toNat = (n % ((2 ^ 64 : Nat) : Int)).toNat % 2 ^ 1 := by
    rw [BitVec.toNat_and, BitVec.toNat_ofInt, h1, Nat.and_two_pow_sub_one_eq_mod]
  show IntKind.i64.wrap ((BitVec.ofInt 64 n &&& BitVec.ofInt 64 1).toNat : Nat) = n % 2
  rw [key, IntKind.wrap_i64]
  omega
theorem mat62 : matOf (far 62) = matOf eight := by
  rw [← far_mat, show (62 : Nat) = 31 + 31 from rfl, itn_add, far_mat, mat31, far_mat, mat31]
theorem mat_turn {k : Nat} (hk : k ≤ 63) (h0 : 0 < k) (h : k % 31 = 0) : matOf (far k) = matOf eight := by
  rcases (show k = 31 ∨ k = 62 by omega) with rfl | rfl
  · exact mat31
  · exact mat62
theorem far_mov (k : Nat) : Mov (matOf (far k)) := matOf_mov fun _ h => far_lt k h
theorem sq_far (k : Nat) : sqM (matOf (far k)) = matOf (far (k + 1)) := by
  rw [sqM_mat (far_lin k) (fun x hx => far_lt k hx)]
  congr 1
  funext x
  exact (far_succ k x).symm
theorem lt63 {N k : Nat} (hN : N ≤ 9223372036854775807) (h : N / 2 ^ k ≠ 0) : k < 63 := by
  rcases Nat.lt_or_ge k 63 with hk | hk
  · exact hk
  · exfalso
    apply h
    apply Nat.div_eq_of_lt
    have : 2 ^ 63 ≤ 2 ^ k := Nat.pow_le_pow_right (by omega) hk
    omega
end Go.Proofs.YtolfckhjfadhdaaDoor
/- Walks: joined, parted, patched; and the reference's. -/
namespace Go.Proofs.YtolfckhjfadhdaaDoor
open Go.RowKit

def join (a b n : Nat) : Nat := carry a n ^^^ b
theorem join_lt {a b n : Nat} (ha : a < 4294967296) (hb : b < 4294967296) : join a b n < 4294967296 := Nat.xor_lt_two_pow (n := 32) (carry_lt n ha) hb
theorem hid_carry {x : Nat} (n : Int) (hx : x < 4294967296) : carry x n.toNat < 4294967296 := carry_lt _ hx
/-! ### Patched -/
def patch (s : Nat) (l : List UInt8) (n : Nat) : Nat := s ^^^ carry (thru 0 l) n
theorem patch_lt {s n : Nat} {l : List UInt8} (h : s < 4294967296) : patch s l n < 4294967296 := Nat.xor_lt_two_pow (n := 32) h (carry_lt n (thru_lt l (by decide)))
end Go.Proofs.YtolfckhjfadhdaaDoor
/- Walks of package crc: Sums. -/
namespace Go.Proofs.YtolfckhjfadhdaaDoor
open Go.RowKit

/-- The sums of a text's beginnings. -/
def smv (bs : List UInt8) : List Value := (List.range bs.length).map fun i => Value.int .u32 ((crc (bs.take (i + 1)) : Nat) : Int)
theorem smv_length (bs : List UInt8) : (smv bs).length = bs.length := by simp [smv]
theorem smv_get (bs : List UInt8) (i : Nat) (h : i < bs.length) : (smv bs)[i]? = some (.int .u32 ((crc (bs.take (i + 1)) : Nat) : Int)) := by simp [smv, h]
theorem smv_one (bs : List UInt8) : ∀ u ∈ smv bs, u.oneCell' = true := by
  intro u hu
  simp only [smv, List.mem_map] at hu
  obtain ⟨_, _, rfl⟩ := hu
  rfl
theorem smv_snoc (bs : List UInt8) (b : UInt8) : smv (bs ++ [b]) = smv bs ++ [.int .u32 ((more (crc bs) [b] : Nat) : Int)] := by
  unfold smv
  rw [List.length_append, List.length_singleton, List.range_succ, List.map_append, List.map_singleton]
  congr 1
  · apply List.map_congr_left
    intro i hi
    have := List.mem_range.1 hi
    rw [List.take_append_of_le_length (by omega)]
  · rw [List.take_of_length_le (by simp), crc_append]
theorem crc_lt (l : List UInt8) : crc l < 4294967296 := more_lt 0 l

/-! ### A part's sum -/
theorem xor_cancel (a b : Nat) : a ^^^ (a ^^^ b) = b := by rw [← Nat.xor_assoc, Nat.xor_self, Nat.zero_xor]
theorem crc_join (a b : List UInt8) : crc (a ++ b) = join (crc a) (crc b) b.length := by
  have h0 : crc a = not32 0 ^^^ thru (not32 0) a := by
    show not32 (thru (not32 0) a) = _
    rw [not32_xor (thru_lt a (not32_lt 0)), Nat.xor_comm]
    rfl
  have h1 : thru (not32 0) (a ++ b) = thru (not32 0) b ^^^ carry (crc a) b.length := by
    rw [thru_append]
    have e : thru (not32 0) a = not32 0 ^^^ crc a := by rw [h0, xor_cancel]
    conv => lhs; rw [e]
    rw [thru_xor]; rfl
  show not32 (thru (not32 0) (a ++ b)) = carry (crc a) b.length ^^^ not32 (thru (not32 0) b)
  rw [not32_xor (thru_lt _ (not32_lt 0)), not32_xor (thru_lt _ (not32_lt 0)), h1, Nat.xor_comm (thru (not32 0) b), Nat.xor_assoc]
theorem crc_part (a b : List UInt8) : join (crc a) (crc (a ++ b)) b.length = crc b := by
  rw [crc_join]; unfold join; rw [xor_cancel]
theorem crc_range (bs : List UInt8) (i j : Nat) (h : i ≤ j) (hj : j ≤ bs.length) : join (crc (bs.take i)) (crc (bs.take j)) (j - i) = crc ((bs.drop i).take (j - i)) := by
  have e : bs.take j = bs.take i ++ (bs.drop i).take (j - i) := by
    conv => lhs; rw [show j = i + (j - i) from by omega, List.take_add]
  have hl : ((bs.drop i).take (j - i)).length = j - i := by rw [List.length_take, List.length_drop]; omega
  have h1 := crc_part (bs.take i) ((bs.drop i).take (j - i))
  rw [hl] at h1
  rw [e]
  exact h1
end Go.Proofs.YtolfckhjfadhdaaDoor
/- Walks: lists of texts: their sum, are they long; Append, New. -/
namespace Go.Proofs.YtolfckhjfadhdaaDoor
open Go.RowKit

theorem crc_flat_succ (L : List (List UInt8)) (j : Nat) (h : j < L.length) : (L.take (j + 1)).flatten = (L.take j).flatten ++ L[j] := by
  rw [List.take_succ_eq_append_getElem h, List.flatten_append]; simp
set_option maxHeartbeats 800000 in
theorem Sum_any (v : Value) (L : List (List UInt8)) (w : World) (h : Txs w v L) (hL : L.length ≤ 1073741824) :
    Calls Tryd.prog 44 #[v] w fun e w' => e = .returned (.int .u32 ((crc L.flatten : Nat) : Int)) ∧ w = w' := by
  obtain ⟨A, c, rfl, hA, hc⟩ := h.open_
  have HA := Lib.hid hA
  have Hc := Lib.hid hc
  clear hA hc h
  go_enter Tryd.func44, Tryd.ntmps44
  go_wp2
  go_loop [3, 5, 8] (fun s _ t => ∃ j : Nat, j ≤ L.length ∧ t = .int .i64 j ∧ s = .int .u32 ((crc (L.take j).flatten : Nat) : Int)) (fun _ _ t => L.length - (intOf t).toNat)
  case atStart => exact ⟨0, by omega, rfl, by simp [crc_nil]⟩
  case round =>
    obtain ⟨j, hj, rfl, rfl⟩ := hrel
    by_cases hlt : j < L.length
    · obtain ⟨ad, rfl⟩ := HA.out (by omega)
      obtain ⟨u, hcell, hu⟩ := Hc.out ad rfl j hlt
      have Hfl := Lib.hid (crc_flat_succ L j hlt)
      have Hm := Lib.hid (more_any (crc (L.take j).flatten) (crc_lt _) u _ L[j] w hu)
      have Hap := Lib.hid (crc_append (L.take j).flatten L[j])
      generalize more (crc (L.take j).flatten) L[j] = m at *
      generalize crc (L.take j).flatten = t at *
      go_wp2_with (go_at_call 63; ((with_reducible refine Hm.out.mono ?_); rintro e w1 ⟨rfl, rfl⟩))
      go_round
      case rel => exact ⟨j + 1, by omega, by go_num, by rw [Hfl.out, Hap.out]⟩
      case measure => simp [intOf]; omega
    · obtain rfl : j = L.length := by omega
      rw [List.take_length]
      go_wp2
      go_ret
      exact ⟨rfl, rfl⟩
end Go.Proofs.YtolfckhjfadhdaaDoor
/- Crc: the plain mathematics: texts xored; four bytes. -/
namespace Go.Proofs.YtolfckhjfadhdaaDoor

/-- Two texts, byte by byte. -/
def xorl (a b : List UInt8) : List UInt8 := List.zipWith (· ^^^ ·) a b
theorem xorl_length {a b : List UInt8} (h : a.length = b.length) : (xorl a b).length = a.length := by simp [xorl, h]
theorem thru_xorl : ∀ (a b : List UInt8) (x y : Nat), a.length = b.length → thru (x ^^^ y) (xorl a b) = thru x a ^^^ thru y b
  | [], [], _, _, _ => rfl
  | [], _ :: _, _, _, h => by cases h
  | _ :: _, [], _, _, h => by cases h
  | c :: a, d :: b, x, y, h => by
    show thru (eight ((x ^^^ y) ^^^ (c ^^^ d).toNat)) (xorl a b) = thru (eight (x ^^^ c.toNat)) a ^^^ thru (eight (y ^^^ d.toNat)) b
    rw [UInt8.toNat_xor, xor4, eight_lin, thru_xorl a b _ _ (by simpa using h)]
/-- A text some of whose bytes are xored. -/
theorem thru_mid (x : Nat) (a m p b : List UInt8) (h : m.length = p.length) : thru x (a ++ xorl m p ++ b) = thru x (a ++ m ++ b) ^^^ carry (thru 0 p) b.length := by
  rw [thru_append, thru_append, thru_append, thru_append]
  have h1 := thru_xorl m p (thru x a) 0 h
  rw [Nat.xor_zero] at h1
  rw [h1, thru_xor]
  rfl
theorem crc_mid (a m p b : List UInt8) (h : m.length = p.length) : crc (a ++ xorl m p ++ b) = crc (a ++ m ++ b) ^^^ carry (thru 0 p) b.length := by
  show not32 (thru (not32 0) _) = not32 (thru (not32 0) _) ^^^ _
  have l := thru_lt (x := not32 0) (a ++ xorl m p ++ b) (not32_lt 0)
  have l2 := thru_lt (x := not32 0) (a ++ m ++ b) (not32_lt 0)
  rw [not32_xor l, not32_xor l2, thru_mid _ _ _ _ _ h, Nat.xor_assoc, Nat.xor_comm (carry _ _), ← Nat.xor_assoc]
/-! ### Four bytes -/
/-- The bytes of a number, the lowest first. -/
def le4 (y : Nat) : List UInt8 := [UInt8.ofNat y, UInt8.ofNat (y / 256), UInt8.ofNat (y / 65536), UInt8.ofNat (y / 16777216)]
theorem itn_even : ∀ (n z : Nat), itn stp n (z * 2 ^ n) = z
  | 0, z => by simp [itn]
  | n + 1, z => by
    show itn stp n (stp (z * 2 ^ (n + 1))) = z
    have : stp (z * 2 ^ (n + 1)) = z * 2 ^ n := by
      unfold stp
      rw [Nat.pow_succ, ← Nat.mul_assoc, Nat.mul_mod_left, Nat.zero_mul, Nat.xor_zero, Nat.mul_div_cancel _ (by omega)]
    rw [this, itn_even n z]
theorem low_high (y : Nat) : y = (y % 256) ^^^ (y / 256 * 2 ^ 8) := by
  have h1 : y % 256 < 2 ^ 8 := Nat.mod_lt _ (by omega)
  have h2 := Nat.shiftLeft_add_eq_or_of_lt h1 (y / 256)
  rw [Nat.shiftLeft_eq] at h2
  have h3 : (y % 256) ^^^ (y / 256 * 2 ^ 8) = (y / 256 * 2 ^ 8) ||| (y % 256) := by
    apply Nat.eq_of_testBit_eq
    intro i
    rw [Nat.testBit_or, Nat.testBit_xor, Nat.testBit_mul_two_pow]
    by_cases hi : i < 8
    · simp [show ¬ 8 ≤ i by omega]
    · have : (y % 256).testBit i = false := Nat.testBit_lt_two_pow (Nat.lt_of_lt_of_le h1 (Nat.pow_le_pow_right (by omega) (by omega)))
      simp [this]
  rw [h3, ← h2]
  omega
theorem eight_low (x y : Nat) : eight (x ^^^ y) = eight (x ^^^ (y % 256)) ^^^ (y / 256) := by
  conv => lhs; rw [low_high y, ← Nat.xor_assoc, eight_lin]
  rw [show eight (y / 256 * 2 ^ 8) = y / 256 from itn_even 8 _]
theorem itn32 (x : Nat) : itn stp 32 x = eight (eight (eight (eight x))) := by
  show itn stp (8 + (8 + (8 + 8))) x = _
  rw [itn_add, itn_add, itn_add]; rfl
theorem thru_le4 (x y : Nat) (h : y < 2 ^ 32) : thru x (le4 y) = itn stp 32 (x ^^^ y) := by
  rw [itn32, eight_low x y, eight_low _ (y / 256), eight_low _ (y / 256 / 256), eight_low _ (y / 256 / 256 / 256)]
  have h0 : y / 256 / 256 / 256 / 256 = 0 := by omega
  rw [h0, Nat.xor_zero]
  unfold le4
  rw [thru_cons, thru_cons, thru_cons, thru_cons, thru_nil]
  simp only [UInt8.toNat_ofNat']
  rw [show y / 256 / 256 = y / 65536 from by omega, show y / 65536 / 256 = y / 16777216 from by omega]
theorem thru0_le4 (y : Nat) (h : y < 2 ^ 32) : thru 0 (le4 y) = itn stp 32 y := by rw [thru_le4 0 y h, Nat.zero_xor]
/-- Four bytes otherwise: another sum. -/
theorem crc_four (a m b : List UInt8) (y : Nat) (hy : y < 2 ^ 32) (h0 : y ≠ 0) (hm : m.length = 4) : crc (a ++ xorl m (le4 y) ++ b) ≠ crc (a ++ m ++ b) := by
  rw [crc_mid a m (le4 y) b hm, thru0_le4 y hy]
  intro h
  have h1 : carry (itn stp 32 y) b.length = 0 := by
    have := congrArg (crc (a ++ m ++ b) ^^^ ·) h
    simp only [← Nat.xor_assoc, Nat.xor_self, Nat.zero_xor] at this
    exact this
  unfold carry at h1
  rw [← itn_add] at h1
  exact h0 (itn_inj hy (by decide) (h1.trans ((stp_lin.itn _).zero).symm))
/-! ### Solved -/
/-- Back over a text. -/
def unthru (x : Nat) (l : List UInt8) : Nat := l.foldr (fun c x => itn unstp 8 x ^^^ c.toNat) x
theorem unthru_lt {x : Nat} (h : x < 2 ^ 32) : ∀ l, unthru x l < 2 ^ 32
  | [] => h
  | c :: l => Nat.xor_lt_two_pow (itn_unstp_lt 8 (unthru_lt h l)) (u8_lt32 c)
theorem thru_unthru {x : Nat} (h : x < 2 ^ 32) : ∀ l, thru (unthru x l) l = x
  | [] => rfl
  | c :: l => by
    rw [thru_cons]
    show thru (eight ((itn unstp 8 (unthru x l) ^^^ c.toNat) ^^^ c.toNat)) l = x
    rw [Nat.xor_assoc, Nat.xor_self, Nat.xor_zero]
    unfold eight
    rw [itn_un (unthru_lt h l)]
    exact thru_unthru h l
/-- The four bytes, as a number: a before them, b behind. -/
def solveN (a b : List UInt8) (want : Nat) : Nat := itn unstp 32 (unthru (not32 want) b) ^^^ not32 (crc a)
theorem solveN_lt (a b : List UInt8) (want : Nat) : solveN a b want < 2 ^ 32 := Nat.xor_lt_two_pow (itn_unstp_lt 32 (unthru_lt (not32_lt want) b)) (not32_lt _)
theorem not_crc (a : List UInt8) : not32 (crc a) = thru (not32 0) a := by
  show not32 (not32 _) = _
  rw [not32_not32 (thru_lt a (not32_lt 0))]
theorem crc_solved (a b : List UInt8) (want : Nat) (hw : want < 2 ^ 32) : crc (a ++ le4 (solveN a b want) ++ b) = want := by
  show not32 (thru (not32 0) _) = want
  rw [thru_append, thru_append, thru_le4 _ _ (solveN_lt a b want), ← not_crc a]
  unfold solveN
  rw [Nat.xor_comm, Nat.xor_assoc, Nat.xor_self, Nat.xor_zero, itn_un (unthru_lt (not32_lt want) b), thru_unthru (not32_lt want), not32_not32 hw]
theorem xorl_zero (l : List UInt8) : ∀ z : List UInt8, z = List.replicate l.length 0 → xorl z l = l := by
  induction l with
  | nil => intro z hz; subst hz; rfl
  | cons c l ih =>
    intro z hz
    subst hz
    rw [List.length_cons, List.replicate_succ]
    show (0 ^^^ c) :: xorl (List.replicate l.length 0) l = _
    rw [ih _ rfl, UInt8.zero_xor]
/-- The program's way. -/
theorem solve_way (a b : List UInt8) (want : Nat) (hw : want < 2 ^ 32) :
    carry (carry (crc (a ++ [0, 0, 0, 0] ++ b) ^^^ want) (ord - b.length % ord)) (ord - 4) = solveN a b want := by
  have hx := solveN_lt a b want
  have h1 := crc_mid a [0, 0, 0, 0] (le4 (solveN a b want)) b rfl
  rw [xorl_zero (le4 (solveN a b want)) [0, 0, 0, 0] rfl, crc_solved a b want hw, thru0_le4 _ hx] at h1
  have h2 : crc (a ++ [0, 0, 0, 0] ++ b) ^^^ want = itn stp (32 + 8 * b.length) (solveN a b want) := by
    conv => lhs; rw [h1]
    rw [← Nat.xor_assoc, Nat.xor_self, Nat.zero_xor, itn_add]
    rfl
  rw [h2]
  unfold carry
  rw [← itn_add, ← itn_add]
  have hm : b.length % ord < ord := Nat.mod_lt _ (by decide)
  have e : 32 + 8 * b.length + (8 * (ord - b.length % ord) + 8 * (ord - 4)) = 8 * (ord * (b.length / ord + 2)) := by
    have := Nat.div_add_mod b.length ord
    rw [Nat.mul_add ord]
    have h4 : 4 ≤ ord := by decide
    generalize ord * (b.length / ord) = q at *
    omega
  rw [e, way_ords _ hx]
end Go.Proofs.YtolfckhjfadhdaaDoor
/- Walks of package wire: a reader is made, its end; the law's 'known'. -/
namespace Go.Proofs.YtolfckhjfadhdaaDoor
open Go.RowKit

set_option maxHeartbeats 400000 in
theorem new_reader (x : Value) (bs : List UInt8) (w : World) (hx : Rd w 1 x bs.length (bv bs)) (hn : bs.length ≤ 140737488355328) :
    Calls Tryd.prog 48 #[x] w fun e w' => ∃ p v, e = .returned (.pointer (some ⟨p, 0, none⟩)) ∧ w.heap.size ≤ p ∧ Rr w' p v 0 bs ∧ (∀ g, v.ownBlock = some g → w.heap.size ≤ g) ∧ Kp [] w w' := by
  go_enter Tryd.func48, Tryd.ntmps48
  go_wp2_with (go_at_call 64; refine (clone_any x bs bs.length w hx hn).mono ?_; rintro e w1 ⟨v1, rfl, h1, h2, h3⟩; obtain ⟨A1, c1, rfl, _, _⟩ := ow_form h1)
  go_ret
  have hb : Blk (w1.alloc (.cells #[.slice A1 bs.length c1, .int .i64 0] 117)) w1.heap.size 117 #[.slice A1 bs.length c1, .int .i64 ((0 : Nat) : Int)] := Blk.new _ _ _
  have ho := h1.alloc (.cells #[.slice A1 bs.length c1, .int .i64 0] 117)
  refine ⟨_, _, rfl, h2.size, ⟨hb, Rd.of_own ho, Nat.zero_le _, hn, ow_blk_ne ho hb (by decide), fun g hg => ow_lt ho hg⟩, h3, h2.alloc _⟩

theorem Wr.kp {w w' : World} {S : List Nat} {q : Nat} {u : Value} {bs : List UInt8} (h : Wr w q u bs) (hk : Kp S w w') (hq : q ∉ S) (hu : ∀ g, u.ownBlock = some g → g ∉ S) : Wr w' q u bs := ⟨h.1.kp hk hq, ow_kp h.2 hk hu⟩
/-- A writer and a reader beside each other, both made since w0. -/
structure WR (w0 w : World) (q : Nat) (u : Value) (bs : List UInt8) (p : Nat) (v : Value) (a : Nat) (rs : List UInt8) : Prop where
  wr : Wr w q u bs
  rr : Rr w p v a rs
  ne : ∀ g, v.ownBlock = some g → u.ownBlock ≠ some g
  nq : v.ownBlock ≠ some q
  np : u.ownBlock ≠ some p
  pq : p ≠ q
  k : Kp [] w0 w
  qb : w0.heap.size ≤ q
  pb : w0.heap.size ≤ p
  ub : ∀ g, u.ownBlock = some g → w0.heap.size ≤ g
theorem WR.wstep {w0 w w' : World} {q p a : Nat} {u u' v : Value} {bs bs' rs : List UInt8} (h : WR w0 w q u bs p v a rs) (hw : Wr w' q u' bs') (hs : WSt q u u' w w') : WR w0 w' q u' bs' p v a rs := by
  refine ⟨hw, h.rr.kp hs.1 ?_ ?_, ?_, h.nq, ?_, h.pq, h.k.trans hs.1 ?_, h.qb, h.pb, ?_⟩
  · intro hm
    rcases List.mem_cons.1 hm with hm | hm
    · exact h.pq hm
    · exact h.np (by simpa using hm)
  · intro g hg hm
    rcases List.mem_cons.1 hm with hm | hm
    · subst hm; exact h.nq hg
    · exact h.ne g hg (by simpa using hm)
  · intro g hg
    rcases hs.2 with e | ⟨k, e, hk⟩
    · rw [e]; exact h.ne g hg
    · rw [e]; have := h.rr.vlt g hg; simp; omega
  · rcases hs.2 with e | ⟨k, e, hk⟩
    · rw [e]; exact h.np
    · rw [e]; have := h.rr.blk.lt; simp; omega
  · intro g hm
    rcases List.mem_cons.1 hm with hm | hm
    · subst hm; exact .inr h.qb
    · exact .inr (h.ub g (by simpa using hm))
  · intro g hg
    rcases hs.2 with e | ⟨k, e, hk⟩
    · exact h.ub g (by rw [← e]; exact hg)
    · rw [e] at hg; cases hg; have := h.k.size; omega
theorem WR.rstep {w0 w w' : World} {q p a a' : Nat} {u v : Value} {bs rs : List UInt8} (h : WR w0 w q u bs p v a rs) (hr : Rr w' p v a' rs) (hk : Kp [p] w w') : WR w0 w' q u bs p v a' rs :=
  ⟨h.wr.kp hk (by simpa using Ne.symm h.pq) (fun g hg hm => by simp at hm; subst hm; exact h.np hg), hr, h.ne, h.nq, h.np, h.pq, h.k.trans hk (fun g hg => by simp at hg; subst hg; exact .inr h.pb), h.qb, h.pb, h.ub⟩
theorem WR.kp {w0 w w' : World} {q p a : Nat} {u v : Value} {bs rs : List UInt8} (h : WR w0 w q u bs p v a rs) (hk : Kp [] w w') : WR w0 w' q u bs p v a rs :=
  ⟨h.wr.kp hk (by simp) (fun _ _ => by simp), h.rr.kp' hk, h.ne, h.nq, h.np, h.pq, h.k.trans hk (by simp), h.qb, h.pb, h.ub⟩
theorem WR.alloc {w0 w : World} {q p a : Nat} {u v : Value} {bs rs : List UInt8} (h : WR w0 w q u bs p v a rs) (o : Obj) : WR w0 (w.alloc o) q u bs p v a rs := h.kp ((Kp.refl [] w).alloc o)

end Go.Proofs.YtolfckhjfadhdaaDoor
/- Walks of package record and of its reference: sizes, the sum's bytes. -/
namespace Go.Proofs.YtolfckhjfadhdaaDoor
open Go.RowKit

def fsize (n : Int) : Int := if n < 0 ∨ 8388608 < n then 0 else n + 9
theorem fsize_no {n : Int} (h : n < 0 ∨ 8388608 < n) : fsize n = 0 := if_pos h
theorem fsize_yes {n : Int} (h : ¬ (n < 0 ∨ 8388608 < n)) : fsize n = n + 9 := if_neg h
theorem le4_cells (x : Nat) (h : x < 4294967296) : [Value.int .u8 ((x : Int) % 256), .int .u8 ((x : Int) / 256 % 256), .int .u8 ((x : Int) / 65536 % 256), .int .u8 ((x : Int) / 16777216)] = bv (le4 x) := by
  unfold le4 bv
  simp only [List.map_cons, List.map_nil, UInt8.toNat_ofNat']
  rw [Nat.mod_eq_of_lt (show x / 16777216 < 2 ^ 8 by omega)]
  rfl
/-- What a maker of bytes leaves: a new row. -/
def NewRow (bs : List UInt8) (w : World) (e : Ending) (w' : World) : Prop := ∃ v, e = .returned v ∧ Ow w' 5 1 v bs.length (bv bs) ∧ Kp [] w w' ∧ ∀ g, v.ownBlock = some g → w.heap.size ≤ g
theorem crc32_lt (l : List UInt8) : crc l < 4294967296 := more_lt 0 l
theorem not32_sub (x : Nat) (h : x < 4294967296) : (4294967295 : Int) - (x : Int) = (not32 x : Int) := by unfold not32; omega
set_option maxHeartbeats 1000000 in
theorem rsum07_any (v : Value) (n : Nat) (bs : List UInt8) (w : World) (hv : Rd w 1 v n (bv bs)) :
    Calls Tryd.prog 85 #[v] w fun e w' => e = .returned (.int .u32 (crc bs)) ∧ w = w' := by
  obtain ⟨A, c, rfl, rfl, hn, hA, hc⟩ := rd_get hv
  have Hc := Lib.hid hc
  have HA := Lib.hid hA
  clear hc hA hv
  unfold maxLen at hn
  have hz : (4294967295 : Nat) < 4294967296 := by decide
  have hm : crc bs = not32 (thru 4294967295 bs) := rfl
  rw [hm]
  clear hm
  go_enter Tryd.func85, Tryd.ntmps85
  go_wp2
  go_loop [3, 4, 5, 6] (fun u i _ _ => ∃ k : Nat, k ≤ bs.length ∧ i = .int .i64 k ∧ u = .int .u32 ((thru 4294967295 (bs.take k) : Nat) : Int)) (fun _ i _ _ => bs.length - (intOf i).toNat)
  case atStart => exact ⟨0, by omega, rfl, by simp [thru]⟩
  case round =>
    obtain ⟨k, hk, rfl, rfl⟩ := hrel
    by_cases hlt : k < bs.length
    · obtain ⟨ad, rfl⟩ : ∃ ad, A = some ad := by
        cases A with
        | none => have := HA.out rfl; omega
        | some ad => exact ⟨ad, rfl⟩
      have hcell := Hc.out ad rfl k hlt
      have Ht := Lib.hid (thru_take (x := 4294967295) hlt)
      have hT : thru 4294967295 (bs.take k) < 4294967296 := thru_lt _ hz
      have hY := xor_u8_lt bs[k] hT
      have hq := bs[k].toNat_lt
      generalize thru 4294967295 (bs.take k) = T at *
      generalize bs[k].toNat = q at *
      have Hx := u32_xor_nat T q hT (by omega)
      generalize T ^^^ q = Y at *
      have hd : decide ((k : Int) < (bs.length : Int)) = true := by simpa using hlt
      go_wp2
      go_loop [3, 5, 6] (fun u i _ => ∃ j : Nat, j ≤ 8 ∧ i = .int .i64 j ∧ u = .int .u32 ((itn stp j Y : Nat) : Int)) (fun _ i _ => 8 - (intOf i).toNat)
      case atStart => exact ⟨0, by omega, rfl, rfl⟩
      case round =>
        obtain ⟨j, hj, rfl, rfl⟩ := hrel
        have hb := itn_stp_lt j hY
        have Hs := Lib.hid (itn_succ stp j Y)
        by_cases hl8 : j < 8
        · generalize itn stp j Y = Z at *
          go_wp2
          · go_round
            case rel => exact ⟨j + 1, by omega, by go_num, by rw [Hs.out, ← way_odd hb (by assumption)]⟩
            case measure => simp [intOf]; omega
          · go_round
            case rel => exact ⟨j + 1, by omega, by go_num, by rw [Hs.out, ← way_even (by assumption)]⟩
            case measure => simp [intOf]; omega
        · obtain rfl : j = 8 := by omega
          have Hy : Hid (itn stp 8 Y = eight Y) := Lib.hid rfl
          generalize itn stp 8 Y = Z at *
          go_wp2
          go_round
          case rel => exact ⟨k + 1, by omega, by go_num, by rw [Ht.out, Hy.out]⟩
          case measure => simp [intOf]; omega
    · obtain rfl : k = bs.length := by omega
      rw [List.take_length]
      have hb : thru 4294967295 bs < 4294967296 := thru_lt bs hz
      have hn2 := not32_sub _ hb
      obtain ⟨t, ht⟩ : ∃ t, thru 4294967295 bs = t := ⟨_, rfl⟩
      rw [ht] at hb hn2 ⊢
      have Ht := Lib.hid ht
      have Hn2 := Lib.hid hn2
      clear ht hn2
      go_wp2
      go_ret
      exact ⟨by rw [Ht.out, ← Hn2.out]; rfl, rfl⟩
end Go.Proofs.YtolfckhjfadhdaaDoor
/- The reference's Ends; Frame. -/
namespace Go.Proofs.YtolfckhjfadhdaaDoor
open Go.RowKit

set_option maxRecDepth 100000 in
set_option maxHeartbeats 400000 in
theorem rends_any (x : Value) (bs : List UInt8) (n : Nat) (w : World) (hx : Rd w 1 x n (bv bs)) : Calls Tryd.prog 66 #[x] w (NewRow (le4 (crc bs)) w) := by
  have k0 : Kp [] w w := Kp.refl [] w
  have H := rsum07_any x n bs w hx
  have hlt := crc32_lt bs
  generalize crc bs = s at *
  have hle := le4_cells s hlt
  have ho := ow_new w 5 1 4 #[.int .u8 ((s : Int) % 256), .int .u8 ((s : Int) / 256 % 256), .int .u8 ((s : Int) / 65536 % 256), .int .u8 ((s : Int) / 16777216)] rfl (by decide)
  rw [show (#[Value.int .u8 ((s : Int) % 256), .int .u8 ((s : Int) / 256 % 256), .int .u8 ((s : Int) / 65536 % 256), .int .u8 ((s : Int) / 16777216)]).toList = bv (le4 s) from hle] at ho
  have H' := Lib.hid H
  have Ho := Lib.hid ho
  have K0 := Lib.hid k0
  clear H ho k0 hle hx
  go_enter Tryd.func66, Tryd.ntmps66
  go_wp2_with (go_at_call 85; ((with_reducible refine H'.out.mono ?_); rintro e w' ⟨rfl, rfl⟩))
  go_ret
  refine ⟨_, rfl, ?_, K0.out.alloc _, fun g hg => ?_⟩
  · have := Ho.out; rw [show (le4 s).length = 4 from rfl]; simpa using this
  · simp [Value.ownBlock] at hg; omega
end Go.Proofs.YtolfckhjfadhdaaDoor
/- WireOrders: the walk. -/
namespace Go.Proofs.YtolfckhjfadhdaaDoor
open Go.RowKit

def wrR (p : Nat) (v : Value) (bs : List UInt8) : Res where
  fp := p :: v.ownBlock.toList
  ok := fun w => Wr w p v bs
  keep := fun _ _ _ h hk hn => ⟨h.1.kp hk (hn p (by simp)), ow_kp h.2 hk (fun g hg => hn g (by simp [hg]))⟩
  lt := fun _ h b hb => by
    rcases List.mem_cons.1 hb with rfl | hb
    · exact h.1.lt
    · exact ow_lt h.2 (by simpa using hb)
def rrR (p : Nat) (v : Value) (a : Nat) (bs : List UInt8) : Res where
  fp := p :: v.ownBlock.toList
  ok := fun w => Rr w p v a bs
  keep := fun _ _ _ h hk hn => h.kp hk (hn p (by simp)) (fun g hg => hn g (by simp [hg]))
  lt := fun _ h b hb => by
    rcases List.mem_cons.1 hb with rfl | hb
    · exact h.blk.lt
    · exact h.vlt b (by simpa using hb)
theorem Held.wturn {w0 w w' : World} {l1 l2 : List Res} {p : Nat} {v v' : Value} {bs bs' : List UInt8} (h : Held w0 w (l1 ++ wrR p v bs :: l2)) (hw : Wr w' p v' bs') (hs : WSt p v v' w w') : Held w0 w' (l1 ++ wrR p v' bs' :: l2) :=
  h.turnAt (wrR p v' bs') hs.1 hw (fun b hb => by
    rcases List.mem_cons.1 hb with rfl | hb
    · exact .inl (by simp [wrR])
    · rcases hs.2 with e | ⟨g, e, hg⟩
      · rw [e] at hb; exact .inl (List.mem_cons_of_mem _ hb)
      · rw [e] at hb; simp at hb; subst hb; exact .inr hg)
theorem Held.rturn {w0 w w' : World} {l1 l2 : List Res} {p a a' : Nat} {v : Value} {bs : List UInt8} (h : Held w0 w (l1 ++ rrR p v a bs :: l2)) (hw : Rr w' p v a' bs) (hk : Kp [p] w w') : Held w0 w' (l1 ++ rrR p v a' bs :: l2) :=
  h.turnAt (rrR p v a' bs) (hk.more (fun g hg => .inl (by simp at hg; subst hg; simp [rrR]))) hw (fun _ hb => .inl hb)
theorem Held.wnew {w0 w w' : World} {L : List Res} (h : Held w0 w L) (hw : Wr w' w.heap.size (.slice none 0 0) []) (hk : Kp [] w w') : Held w0 w' (wrR w.heap.size (.slice none 0 0) [] :: L) :=
  h.new _ hk hw (fun b hb => by simp [wrR, Value.ownBlock] at hb; omega)

theorem wrap_u16_nat (x : Nat) : IntKind.u16.wrap (x : Int) = ((x % 65536 : Nat) : Int) := by
  simp [IntKind.wrap, IntKind.bits, IntKind.signed]
/-- The lesser number's form is the lesser text. -/
theorem bytesLess_num : ∀ (l m : List UInt8), l.length = m.length → Op.bytesLess l m = decide (num l < num m)
  | [], [], _ => by simp [Op.bytesLess]
  | a :: l, b :: m, h => by
    have hl : l.length = m.length := by simpa using h
    have ih := bytesLess_num l m hl
    have h1 := num_lt l
    have h2 := num_lt m
    rw [hl] at h1
    unfold Op.bytesLess
    rw [ih, num_cons, num_cons, hl]
    generalize num l = p at *
    generalize num m = q at *
    generalize 256 ^ m.length = e at *
    by_cases hab : a < b
    · have hab' : a.toNat + 1 ≤ b.toNat := UInt8.lt_iff_toNat_lt.1 hab
      have h3 : (a.toNat + 1) * e ≤ b.toNat * e := Nat.mul_le_mul_right _ hab'
      rw [Nat.add_mul] at h3
      simp [hab]
      omega
    · by_cases hba : a = b
      · subst hba
        simp
      · have hba' : b.toNat + 1 ≤ a.toNat := by
          rcases Nat.lt_trichotomy a.toNat b.toNat with h | h | h
          · exact absurd (UInt8.lt_iff_toNat_lt.2 h) hab
          · exact absurd (UInt8.toNat_inj.1 h) hba
          · exact h
        have h3 : (b.toNat + 1) * e ≤ a.toNat * e := Nat.mul_le_mul_right _ hba'
        rw [Nat.add_mul] at h3
        have e1 : decide (a < b) = false := by simpa using hab
        have e2 : (a == b) = false := by simpa using hba
        rw [e1, e2, Bool.false_and, Bool.or_false]
        symm
        rw [decide_eq_false_iff_not]
        omega
theorem bytesLess_be (x y : Nat) (hx : x < 18446744073709551616) (hy : y < 18446744073709551616) : Op.bytesLess (be 8 x) (be 8 y) = decide (x < y) := by
  rw [bytesLess_num _ _ (by simp), num_be_lt (k := 8) hx, num_be_lt (k := 8) hy]
theorem be_beq (x y : Nat) (hx : x < 18446744073709551616) (hy : y < 18446744073709551616) : (be 8 x == be 8 y) = decide (x = y) := by
  have : be 8 x = be 8 y ↔ x = y := ⟨fun h => by rw [← num_be_lt (k := 8) (x := x) hx, h, num_be_lt (k := 8) hy], fun h => by rw [h]⟩
  rw [Bool.eq_iff_iff]
  simp [this]

end Go.Proofs.YtolfckhjfadhdaaDoor
/- '[]byte("..")' of a constant: what it yields, and that it reads. -/
namespace Go.Proofs.YtolfckhjfadhdaaDoor
open Go.RowKit
theorem rd_txt (w : World) (e : TypeId) (cs : Array Value) (l : List UInt8) (fr : Nat × Nat) (h : cs.toList = bv l) (hn : l.length ≤ 4096) {g : Nat} (hg : g = w.heap.size) : Rd (w.alloc (.cells cs e fr)) 1 (.slice (some ⟨g, 0, none⟩) l.length l.length) l.length (bv l) := by
  subst hg
  refine ⟨by rw [bv_length]; omega, _, _, rfl, Nat.le_refl _, by unfold maxLen; omega, (fun h => by cases h), fun ad had j u hu => ?_⟩
  cases had
  have h1 := World.cell?_alloc_mark w cs e fr j
  rw [← h, Array.getElem?_toList] at hu
  rw [hu] at h1
  by_cases hj : j = 0
  · subst hj; simpa [Addr.add] using h1
  · simpa [Addr.add, hj] using h1
theorem conv_txt (w : World) (C : Array Value) (n c g : Nat) (hg : g = w.heap.size) : (convert 45 45 (.slice (some ⟨g, 0, none⟩) n c)).run Tryd.prog (w.alloc (.cells C 5)) = .ok (.slice (some ⟨g, 0, none⟩) n c) (w.alloc (.cells C 5 (C.size, C.size + 1))) := by
  subst hg
  exact Lib.run_convert_bytes_const (P := Tryd.prog) w 45 5 C n c Tryd.underlying45 Tryd.underlying5
/-- What reads only. -/
def rdR (v : Value) (n : Nat) (xs : List Value) : Res where
  fp := v.ownBlock.toList
  ok := fun w => Rd w 1 v n xs ∧ ∀ g, v.ownBlock = some g → g < w.heap.size
  keep := fun _ _ _ h hk hn => ⟨h.1.kp hk (fun g hg => hn g (by simp [hg])), fun g hg => Nat.lt_of_lt_of_le (h.2 g hg) hk.size⟩
  lt := fun _ h b hb => h.2 b (by simpa using hb)
end Go.Proofs.YtolfckhjfadhdaaDoor
/- Walks of the reference for layer 1, and of the law's helpers: Number, Eight, List; lent, left, spoil. -/
namespace Go.Proofs.YtolfckhjfadhdaaDoor
open Go.RowKit


set_option maxRecDepth 100000 in
set_option maxHeartbeats 400000 in
theorem number_ref (k : Nat) (hk : k ≤ 8) (x : Nat) (hx : x < 18446744073709551616) (w : World) :
    Calls Tryd.prog 65 #[.int .i64 k, .int .u64 x] w fun e w' => ∃ v, e = .returned v ∧ Ow w' 5 1 v k (bv (be k x)) ∧ Kp [] w w' ∧ ∀ g, v.ownBlock = some g → w.heap.size ≤ g := by
  obtain ⟨i0, hi, hz0, hz1, hz2⟩ := info_parts Tryd.infoU8
  go_enter Tryd.func65, Tryd.ntmps65
  go_wp2_with (at_make; refine wpList_make_full _ rfl (.tmp 7) (.tmp 7) _ rfl 0 5 i0 _ 1 Tryd.underlying45 hi hz0 hz1 _ _ _ _ k rfl rfl rfl rfl (by rw [hz2]; omega) (by unfold maxLen; omega) (Nat.zero_le _) ?_)
  intro w1 hown1 hg1
  have h0 : Ow w1 5 1 (.slice (some ⟨w.heap.size, 0, none⟩) k k) k (List.replicate k (.int .u8 0) ++ (bv (be k x)).drop k) := by
    have := hown1
    rw [toList_madeCells_one] at this
    rw [List.drop_of_length_le (by simp [bv_length]), List.append_nil]
    exact this
  have k1 : Kp [] w w1 := Kp.of_grown hg1
  have hsz : w.heap.size < w1.heap.size := by
    have := ow_lt h0 (g := w.heap.size) rfl
    exact this
  have Hbe := Lib.hid (be_get k x)
  clear hown1 hg1
  go_wp2
  go_loopw [1, 6] (fun y t wr => ∃ j : Nat, j ≤ k ∧ t = .int .i64 ((j : Int) - 1) ∧ y = .int .u64 ((x / 256 ^ (k - j) : Nat) : Int) ∧ Ow wr 5 1 (.slice (some ⟨w.heap.size, 0, none⟩) k k) k (List.replicate j (.int .u8 0) ++ (bv (be k x)).drop j) ∧ Kp [] w wr) (fun _ n _ => ((intOf n) + 1).toNat)
  case atStart => exact ⟨k, Nat.le_refl _, rfl, by simp, h0, k1⟩
  case round =>
    obtain ⟨j, hj, rfl, rfl, ho, hkp⟩ := hrel
    have hlt : x / 256 ^ (k - j) < 18446744073709551616 := Nat.lt_of_le_of_lt (Nat.div_le_self _ _) hx
    rcases j with _ | j
    · go_wp2
      go_ret
      refine ⟨_, rfl, ?_, hkp, by simp [Value.ownBlock]⟩
      simpa using ho
    · have hget := Hbe.out j (by omega)
      rw [show k - 1 - j = k - (j + 1) from by omega] at hget
      have hcell := ho.cellAt j (by omega)
      have hfz := ho.frozenAt j
      have hlw := ow_lt ho (g := w.heap.size) rfl
      rw [List.getElem?_append_left (by simp), List.getElem?_replicate_of_lt (by omega)] at hcell
      generalize hq : x / 256 ^ (k - (j + 1)) = q at *
      have hst := ho.stored (g := w.heap.size) j (.int .u8 ((q % 256 : Nat) : Int))
      have Hst := Lib.hid hst
      have Hq := Lib.hid hq
      have Hget := Lib.hid hget
      clear hst hq hget
      go_wp2
      go_roundw
      case rel =>
        refine ⟨j, by omega, by go_num, ?_, ?_, ?_⟩
        · have : x / 256 ^ (k - j) = q / 256 := by
            rw [← Hq.out, Nat.div_div_eq_div_mul, ← Nat.pow_succ, show (k - (j + 1)).succ = k - j from by omega]
          rw [this]; congr 1
        · have h2 := Hst.out.1
          rw [fill_step _ _ _ j (by rw [bv_length, be_length]; omega) (by rw [bv_get, Hget.out, Option.map_some, UInt8.toNat_ofNat'])] at h2
          rw [Int.natCast_emod] at h2
          exact h2
        · exact hkp.setCell (.inr (Nat.le_refl _)) _
      case measure => simp [intOf]

end Go.Proofs.YtolfckhjfadhdaaDoor
/- Bytes of point. -/
namespace Go.Proofs.YtolfckhjfadhdaaDoor
open Go.RowKit
def ntry : List UInt8 := [78, 84, 82, 89]
def headL (s : Int) (h : List UInt8) : List UInt8 := ntry ++ be 8 (tou64 s) ++ h
def formL (s : Int) (h : List UInt8) : List UInt8 := headL s h ++ le4 (crc (headL s h))
theorem headL_length {s : Int} {h : List UInt8} (hh : h.length = 32) : (headL s h).length = 44 := by simp [headL, ntry, hh]
theorem formL_length {s : Int} {h : List UInt8} (hh : h.length = 32) : (formL s h).length = 48 := by simp [formL, headL_length hh, le4]
def ptB (s : Int) (h : List UInt8) : List UInt8 := if s < 0 then [] else formL s h
theorem ptB_le {s : Int} {h : List UInt8} (hh : h.length = 32) : (ptB s h).length ≤ 48 := by
  unfold ptB
  split
  · simp
  · rw [formL_length hh]; omega
/-- What Bytes leaves. -/
def BytesPost (s : Int) (h : List UInt8) (w : World) (e : Ending) (w' : World) : Prop := ∃ v, e = .returned (.tuple #[v, .int .i64 (txE s)]) ∧ Ow w' 5 1 v (ptB s h).length (bv (ptB s h)) ∧ Kp [] w w' ∧ ∀ g, v.ownBlock = some g → w.heap.size ≤ g
set_option maxRecDepth 100000 in
set_option maxHeartbeats 4000000 in
theorem pbytes_any (s : Int) (h : List UInt8) (hh : h.length = 32) (w : World) : Calls Tryd.prog 21 #[.agg (ptA s h)] w (BytesPost s h w) := by
  have B0 := Lib.hid (Blk.new w 25 (ptA s h))
  have K0 := Lib.hid ((Kp.refl [] w).alloc (.cells (ptA s h) 25))
  have HH := Lib.hid hh
  clear hh
  by_cases h0 : s < 0
  · have HT : Hid (ptB s h = [] ∧ txE s = 2) := Lib.hid ⟨if_pos h0, if_pos h0⟩
    have c0 := pt_c0 B0.out
    obtain ⟨cs, HC⟩ : ∃ cs, Hid (ptA s h = cs) := ⟨_, Lib.hid rfl⟩
    rw [HC.out] at B0 K0 c0 ⊢
    go_enter Tryd.func21, Tryd.ntmps21
    go_wp2
    go_ret2
    refine ⟨.slice none 0 0, by rw [HT.out.2]; rfl, ?_, K0.out, fun g hg => by cases hg⟩
    rw [HT.out.1]
    exact World.ownsRow_nil _ _ _ _
  · have HT : Hid (ptB s h = formL s h ∧ txE s = 0) := Lib.hid ⟨if_neg h0, if_neg h0⟩
    have c0 := pt_c0 B0.out
    have hld : ∀ V, Kp [] (w.alloc (.cells (ptA s h) 25)) V → ∀ j u, (bv h)[j]? = some u → V.cell? ((⟨w.heap.size, 1, none⟩ : Addr).add j) = some u := fun V kk => pt_root (B0.out.kp kk (by simp))
    have hc0 : ∀ V, Kp [] (w.alloc (.cells (ptA s h) 25)) V → V.cell? ⟨w.heap.size, 0, none⟩ = some (.int .i64 s) := fun V kk => pt_c0 (B0.out.kp kk (by simp))
    have HLoad := Lib.hid hld
    have HC0 := Lib.hid hc0
    clear hld hc0
    obtain ⟨cs, HC⟩ : ∃ cs, Hid (ptA s h = cs) := ⟨_, Lib.hid rfl⟩
    rw [HC.out] at B0 K0 c0 HLoad HC0 ⊢
    go_enter Tryd.func21, Tryd.ntmps21
    go_wp2_with fail
    generalize hW1 : w.alloc (.cells cs 25) = w1 at *
    generalize hg1 : w.heap.size = g1 at *
    have S1 := Lib.hid (Held.start w1)
    refine (new_writer _).mono ?_
    rintro e w2 ⟨rfl, hw, k2⟩
    have S2 := Lib.hid (S1.out.wnew hw k2)
    generalize w1.heap.size = p at *
    clear hw k2
    have kc := conv_txt w2 #[.int .u8 78, .int .u8 84, .int .u8 82, .int .u8 89] 4 4 w2.heap.size rfl
    have R4 : Rd (w2.alloc (.cells #[.int .u8 78, .int .u8 84, .int .u8 82, .int .u8 89] 5 (4, 5))) 1 (.slice (some ⟨w2.heap.size, 0, none⟩) 4 4) 4 (bv ntry) := rd_txt w2 _ _ ntry _ rfl (by decide) rfl
    go_wp2_with fail
    have S3 := Lib.hid (S2.out.kp ((Kp.refl [] w2).alloc (.cells #[.int .u8 78, .int .u8 84, .int .u8 82, .int .u8 89] 5 (4, 5))))
    refine (w_raw p _ [] _ ntry _ (S3.out.at_ (l1 := [])) R4 (by decide)).mono ?_
    rintro e w3 ⟨rfl, v3, hw3, hs3⟩
    have S4 := Lib.hid (S3.out.wturn (l1 := []) hw3 hs3)
    clear hw3 hs3 kc R4
    have c0 := HC0.out _ S4.out.k
    go_wp2_with fail
    refine (w_signed p v3 _ s w3 (S4.out.at_ (l1 := [])) (by decide)).mono ?_
    rintro e w4 ⟨rfl, v4, hw4, hs4⟩
    have S5 := Lib.hid (S4.out.wturn (l1 := []) hw4 hs4)
    clear hw4 hs4 c0
    go_wp2_with (refine wpList_load_agg rfl 23 (.tmp 19) rfl ⟨g1, 1, none⟩ rfl (bv h) _ (HLoad.out _ S5.out.k) Tryd.underlying23 rfl (by rw [bv_length, HH.out]; exact Tryd.infoHashP) ?_)
    refine (w_hash p v4 _ h w4 (S5.out.at_ (l1 := [])) HH.out (by simp [ntry])).mono ?_
    rintro e w5 ⟨rfl, v5, hw5, hs5⟩
    have S6 := Lib.hid (S5.out.wturn (l1 := []) hw5 hs5)
    rw [show [] ++ ntry ++ be 8 (tou64 s) ++ h = headL s h from by simp [headL]] at S6
    clear hw5 hs5
    have hhl := headL_length (s := s) HH.out
    have HFm : Hid (headL s h ++ le4 (crc (headL s h)) = formL s h) := Lib.hid rfl
    obtain ⟨hd, Hhd⟩ : ∃ hd, Hid (headL s h = hd) := ⟨_, Lib.hid rfl⟩
    rw [Hhd.out] at S6 hhl HFm
    have Hhl := Lib.hid hhl
    clear hhl
    go_wp2_with fail
    refine (w_bytes p v5 hd w5 (S6.out.at_ (l1 := [])) (by rw [Hhl.out]; decide)).mono ?_
    rintro e w6 ⟨v6, rfl, o6, k6, f6⟩
    have H := fun g hg => Sum_any _ _ _ (txs1 (g := g) 45 hg (Rd.of_own o6)) (by simp)
    obtain ⟨A6, c6, rfl, _, _⟩ := ow_form o6
    have S7 := Lib.hid ((S6.out.rownew o6 k6 f6).alloc (.cells #[.slice A6 hd.length c6] 45))
    rw [show ([hd] : List (List UInt8)).flatten = hd from by simp] at H
    have hlt := crc32_lt hd
    obtain ⟨y, Hy⟩ : ∃ y, Hid (crc hd = y) := ⟨_, Lib.hid rfl⟩
    rw [Hy.out] at H hlt HFm
    have H' := Lib.hid H
    clear H o6 k6 f6
    go_wp2_with fail
    refine (H'.out _ rfl).mono ?_
    rintro e w7 ⟨rfl, rfl⟩
    have hle := le4_cells y hlt
    have R8 := rd_txt (w6.alloc (.cells #[.slice A6 hd.length c6] 45)) 5 #[.int .u8 ((y : Int) % 256), .int .u8 ((y : Int) / 256 % 256), .int .u8 ((y : Int) / 65536 % 256), .int .u8 ((y : Int) / 16777216)] (le4 y) (0, 0) hle (show 4 ≤ 4096 by decide) rfl
    have S8 := Lib.hid (S7.out.kp ((Kp.refl [] _).alloc (.cells #[.int .u8 ((y : Int) % 256), .int .u8 ((y : Int) / 256 % 256), .int .u8 ((y : Int) / 65536 % 256), .int .u8 ((y : Int) / 16777216)] 5 (0, 0))))
    have R8 := Lib.hid R8
    clear hle H'
    go_wp2_with fail
    refine (w_raw p v5 hd _ (le4 y) _ (S8.out.at_ (l1 := [_])) (by have := R8.out; rw [World.size_alloc] at this; exact this) (by rw [Hhl.out]; show 44 + 4 ≤ _; decide)).mono ?_
    rintro e w8 ⟨rfl, v8, hw8, hs8⟩
    have S9 := Lib.hid (S8.out.wturn (l1 := [_]) hw8 hs8)
    rw [HFm.out] at S9
    clear hw8 hs8 R8
    go_wp2_with fail
    refine (w_bytes p v8 _ w8 (S9.out.at_ (l1 := [_])) (by rw [formL_length HH.out]; decide)).mono ?_
    rintro e w9 ⟨v9, rfl, o9, k9, f9⟩
    have K9 := Lib.hid (S9.out.k.trans k9 (by simp))
    have O9 := Lib.hid o9
    have F9 := Lib.hid f9
    clear o9 k9 f9
    go_wp2_with fail
    go_ret2
    refine ⟨v9, by rw [HT.out.2]; rfl, by rw [HT.out.1]; exact O9.out, ?_, fun g hg => ?_⟩
    · exact K0.out.trans K9.out (by simp)
    · have h1 := F9.out g hg
      have h2 := S9.out.k.size
      have h3 := K0.out.size
      omega
end Go.Proofs.YtolfckhjfadhdaaDoor
/- Comparing hashes and points. -/
namespace Go.Proofs.YtolfckhjfadhdaaDoor
open Go.RowKit
theorem items_eq (w : World) (d : Nat) (a b : List UInt8) : ∀ (m k : Nat), a.length = k + m → b.length = k + m →
    (Op.eqItems (d + 1) 5 1 (hashA a) (hashA b) (List.range' k m)).run Tryd.prog w = .ok (a.drop k == b.drop k) w
  | 0, k, ha, hb => by
    rw [List.drop_of_length_le (by omega), List.drop_of_length_le (by omega)]
    simp [Op.eqItems]
  | m + 1, k, ha, hb => by
    have h1 : k < a.length := by omega
    have h2 : k < b.length := by omega
    have p1 : (part 5 (hashA a) (k * 1)).run Tryd.prog w = .ok (.int .u8 (a[k].toNat : Int)) w := run_part_plain w (by kernel_rfl) (by
      rw [Nat.mul_one]; simp [hashA, bv, h1])
    have p2 : (part 5 (hashA b) (k * 1)).run Tryd.prog w = .ok (.int .u8 (b[k].toNat : Int)) w := run_part_plain w (by kernel_rfl) (by
      rw [Nat.mul_one]; simp [hashA, bv, h2])
    have p3 := run_equalIn_int (P := Tryd.prog) w d 5 .u8 .u8 (a[k].toNat : Int) (b[k].toNat : Int) Tryd.underlying5
    rw [List.range'_succ, List.drop_eq_getElem_cons h1, List.drop_eq_getElem_cons h2, List.cons_beq_cons]
    simp only [Op.eqItems, Sem.run_bind, p1, p2, p3, Result.andThen_ok]
    by_cases e : a[k] = b[k]
    · rw [e]
      simp only [beq_self_eq_true, Bool.not_true, Bool.false_eq_true, if_false]
      rw [items_eq w d a b m (k + 1) (by omega) (by omega), Bool.true_and]
    · have e1 : ((a[k].toNat : Int) == (b[k].toNat : Int)) = false := beq_false_of_ne (fun h => e (UInt8.toNat.inj (by omega)))
      rw [e1, beq_false_of_ne e]
      rfl
theorem run_hash_eq (w : World) (d : Nat) (a b : List UInt8) (ha : a.length = 32) (hb : b.length = 32) : (Op.equalIn (d + 2) 23 (.agg (hashA a)) (.agg (hashA b))).run Tryd.prog w = .ok (a == b) w := by
  obtain ⟨i0, hi, -, -, -⟩ := info_parts Tryd.infoU8
  rw [run_equalIn_array w (d + 1) (hashA a) (hashA b) Tryd.underlying23 hi, show Tryd.prog.cellsOf 5 = 1 from by kernel_rfl, List.range_eq_range', items_eq w d a b 32 0 (by omega) (by omega)]
  rfl
theorem ptA_root (s : Int) (h : List UInt8) (hh : h.length = 32) : (ptA s h).extract 1 33 = hashA h := by
  apply Array.ext'
  rw [Array.toList_extract, List.extract_eq_take_drop]
  show ((Value.int .i64 s :: bv h).drop 1).take 32 = bv h
  rw [List.drop_succ_cons, List.drop_zero, List.take_of_length_le (by rw [bv_length, hh]; omega)]
theorem eq_fields2 {P : Program} (w : World) (D : Nat) (xs ys : Array Value) (f g : Field) (n1 : f.name ≠ "_") (n2 : g.name ≠ "_") (a b c e : Value) (r1 r2 : Bool)
    (h1 : (part f.type xs f.offset).run P w = .ok a w) (h2 : (part f.type ys f.offset).run P w = .ok b w) (h3 : (Op.equalIn D f.type a b).run P w = .ok r1 w)
    (h4 : (part g.type xs g.offset).run P w = .ok c w) (h5 : (part g.type ys g.offset).run P w = .ok e w) (h6 : (Op.equalIn D g.type c e).run P w = .ok r2 w) : (Op.eqFields D xs ys [f, g]).run P w = .ok (r1 && r2) w := by
  simp only [Op.eqFields, n1, n2, ne_eq, not_false_eq_true, if_true, Sem.run_bind, h1, h2, h3, Result.andThen_ok]
  cases r1
  · simp
  · simp only [Bool.not_true, Bool.false_eq_true, if_false, Sem.run_bind, h4, h5, h6, Result.andThen_ok]
    cases r2 <;> simp
theorem run_pt_eq (w : World) (d : Nat) (s t : Int) (a b : List UInt8) (ha : a.length = 32) (hb : b.length = 32) : (Op.equalIn (d + 3) 25 (.agg (ptA s a)) (.agg (ptA t b))).run Tryd.prog w = .ok (decide (s = t) && (a == b)) w := by
  have hu : ∃ f g : Field, Tryd.prog.underlying 25 = some (.struct #[f, g]) ∧ f.name = "Size" ∧ f.type = 2 ∧ f.offset = 0 ∧ g.name = "Root" ∧ g.type = 23 ∧ g.offset = 1 := ⟨_, _, Tryd.underlying25, rfl, rfl, rfl, rfl, rfl, rfl⟩
  obtain ⟨f, g, hu, f1, f2, f3, g1, g2, g3⟩ := hu
  have hf : Tryd.prog.fieldsOf 25 = #[f, g] := by unfold Program.fieldsOf; rw [hu]
  rw [run_equalIn_agg (P := Tryd.prog) w (d + 2) 25 (ptA s a) (ptA t b) (by rw [hf]; exact hu) Tryd.stoodInHeld25, hf]
  have n1 : ¬ ("Size" = "_") := by decide
  have n2 : ¬ ("Root" = "_") := by decide
  have p1 : (part 2 (ptA s a) 0).run Tryd.prog w = .ok (.int .i64 s) w := run_part_plain w (by kernel_rfl) rfl
  have p2 : (part 2 (ptA t b) 0).run Tryd.prog w = .ok (.int .i64 t) w := run_part_plain w (by kernel_rfl) rfl
  have p3 := run_equalIn_int (P := Tryd.prog) w (d + 1) 2 .i64 .i64 s t Tryd.underlying2
  have q : ∀ s a, a.length = 32 → (part 23 (ptA s a) 1).run Tryd.prog w = .ok (.agg (hashA a)) w := by
    intro s a ha
    obtain ⟨i0, hi, hz⟩ : ∃ i, Tryd.prog.info? 23 = some i ∧ i.size = 32 := by
      have := Tryd.infoHashP
      cases h : Tryd.prog.info? 23 with
      | none => rw [h] at this; cases this
      | some i => rw [h] at this; exact ⟨i, rfl, Option.some.inj this⟩
    have hS : (sizeOf 23).run Tryd.prog w = .ok 32 w := by rw [← hz]; simp only [sizeOf, typeInfo]; simp [hi, go_sem]
    have hA : (isAgg 23).run Tryd.prog w = .ok true w := by simp [isAgg, run_underlying Tryd.underlying23]
    simp only [part, Sem.run_bind, hA, hS, Result.andThen_ok, if_true, Sem.run_pure]
    rw [show 1 + 32 = 33 from rfl, ptA_root s a ha]
  have q3 := run_hash_eq w d a b ha hb
  have e1 : decide (s = t) = (s == t) := by by_cases e : s = t <;> simp [e]
  rw [e1]
  exact eq_fields2 w (d + 2) _ _ f g (by rw [f1]; exact n1) (by rw [g1]; exact n2) (.int .i64 s) (.int .i64 t) (.agg (hashA a)) (.agg (hashA b)) _ _ (by rw [f2, f3]; exact p1) (by rw [f2, f3]; exact p2) (by rw [f2]; exact p3) (by rw [g2, g3]; exact q s a ha) (by rw [g2, g3]; exact q t b hb) (by rw [g2]; exact q3)
theorem hash_eq_top (w : World) (a b : List UInt8) (ha : a.length = 32) (hb : b.length = 32) : (Op.equalIn 10000 23 (.agg (hashA a)) (.agg (hashA b))).run Tryd.prog w = .ok (a == b) w := by
  have h := fun n (e : n + 2 = 10000) => e ▸ run_hash_eq w n a b ha hb
  exact h 9998 (by decide)
theorem pt_eq_top (w : World) (s t : Int) (a b : List UInt8) (ha : a.length = 32) (hb : b.length = 32) : (Op.equalIn 10000 25 (.agg (ptA s a)) (.agg (ptA t b))).run Tryd.prog w = .ok (decide (s = t) && (a == b)) w := by
  have h := fun n (e : n + 3 = 10000) => e ▸ run_pt_eq w n s t a b ha hb
  exact h 9997 (by decide)
theorem eql_hash (w : World) (a b : List UInt8) (ha : a.length = 32) (hb : b.length = 32) : (binOp .eql 23 (.agg (hashA a)) (.agg (hashA b))).run Tryd.prog w = .ok (.bool (a == b)) w := by
  rw [run_eql_struct, hash_eq_top w a b ha hb, Result.andThen_ok]
theorem neq_hash (w : World) (a b : List UInt8) (ha : a.length = 32) (hb : b.length = 32) : (binOp .neq 23 (.agg (hashA a)) (.agg (hashA b))).run Tryd.prog w = .ok (.bool (!(a == b))) w := by
  rw [run_neq_struct, hash_eq_top w a b ha hb, Result.andThen_ok]
theorem eql_pt (w : World) (s t : Int) (a b : List UInt8) (ha : a.length = 32) (hb : b.length = 32) : (binOp .eql 25 (.agg (ptA s a)) (.agg (ptA t b))).run Tryd.prog w = .ok (.bool (decide (s = t) && (a == b))) w := by
  rw [run_eql_struct, pt_eq_top w s t a b ha hb, Result.andThen_ok]
theorem neq_pt (w : World) (s t : Int) (a b : List UInt8) (ha : a.length = 32) (hb : b.length = 32) : (binOp .neq 25 (.agg (ptA s a)) (.agg (ptA t b))).run Tryd.prog w = .ok (.bool (!(decide (s = t) && (a == b)))) w := by
  rw [run_neq_struct, pt_eq_top w s t a b ha hb, Result.andThen_ok]
end Go.Proofs.YtolfckhjfadhdaaDoor
/- Laws for operations whose guard says: go. -/
namespace Go.Proofs.YtolfckhjfadhdaaDoor
open Go.RowKit
section
variable {P : Program} {ops : Array Oper} {rest : List Oper} {o : Oper} {a : Act} {w : World} {Q : Exit → Act → World → Prop}
theorem wpList_met (j d : Nat) (b : Bool) (hg : o.guard = some (j, b)) (hj : (ops[j]?).bind (·.dst) = some d) (hd : a.tmps[d]?.getD undef = .bool b)
    (h : ∀ K : Act → World → Prop, (∀ a w, wpList P ops Q rest a w → K a w) → o.wp P a w K Q) : wpList P ops Q (o :: rest) a w :=
  wpList_step fun K hK => by
    rw [if_pos (by simp [Region.wanted, hg, yielded_of hj hd])]
    exact h K hK
theorem wpList_load_blkG (j d : Nat) (b : Bool) (hg : o.guard = some (j, b)) (hj : (ops[j]?).bind (·.dst) = some d) (hd : a.tmps[d]?.getD undef = .bool b)
    (ty : TypeId) (x : Operand) (ho : o.op = .load ty x) (g : Nat) (hx : a.eval x = .pointer (some ⟨g, 0, none⟩))
    (t : TypeId) (cs : Array Value) (hb : Blk w g t cs) (ds : TypeDesc) (hu : P.underlying ty = some ds) (hds : aggB ds = true) (hi : (P.info? ty).map (·.size) = some cs.size)
    (h : wpList P ops Q rest (a.put o.dst (.agg cs)) w) : wpList P ops Q (o :: rest) a w :=
  wpList_met j d b hg hj hd fun K hK => by
    unfold Oper.wp
    rw [exec_load ho hx (run_loadAt_agg w ⟨g, 0, none⟩ ty cs.toList ds hb.agg hu hds (by rw [hi, Array.length_toList]))]
    exact hK _ _ h
end
end Go.Proofs.YtolfckhjfadhdaaDoor
/- The chapter's rows: known. -/
namespace Go.Proofs.YtolfckhjfadhdaaDoor
open Go.RowKit
set_option maxRecDepth 100000 in
theorem num19_any (n : Int) (w : World) : Calls Tryd.prog 13 #[.int .i64 n] w fun e w' => e = .returned (.int .i64 n) ∧ w = w' := by
  go_enter Tryd.func13, Tryd.ntmps13
  go_wp2
  go_ret
  exact ⟨rfl, rfl⟩
theorem dec12 : dec 12 = [49, 50] := by kernel_rfl
set_option maxRecDepth 100000 in
set_option maxHeartbeats 8000000 in
theorem known_any (w : World) (L : LD w) : Calls Tryd.prog 14 #[] w fun e w' => e = .returned (.bool true) ∧ Kp [] w w' := by
  have HL := Lib.hid L
  obtain ⟨z, Hz⟩ : ∃ z, Hid (List.replicate 32 (0 : UInt8) = z) := ⟨_, Lib.hid rfl⟩
  have Hzl : Hid (z.length = 32) := Lib.hid (by rw [← Hz.out]; rfl)
  have HPsz := Lib.hid (ptA_size (s := 12) Hzl.out)
  have HPO := Lib.hid (ptA_one 12 z)
  have HB := Lib.hid (Tryd.built_sz 12)
  have HB1 := Lib.hid (Tryd.built_sz (-1))
  have HT1 : Hid (txt 12 z = told 12 z ∧ txE 12 = 0) := Lib.hid ⟨rfl, rfl⟩
  have HT2 : Hid (ptB 12 z = formL 12 z ∧ txE (-1) = 2) := Lib.hid ⟨rfl, rfl⟩
  have HPV := Lib.hid (PVs_some (PT_told (n := 12) (h := z) (by decide) Hzl.out [120]))
  have HBY := Lib.hid (fun V => pbytes_any 12 z Hzl.out V)
  have HBN := Lib.hid (fun V => pbytes_any (-1) z Hzl.out V)
  have HTX := Lib.hid (fun V (l : LD V) => ptext_any 12 (by decide) z Hzl.out V l)
  have htl : (told 12 z).length = 75 := by rw [told_length, dec12, hexS_length, Hzl.out]; rfl
  have Htk : Hid ((told 12 z).take 10 = [110, 111, 116, 97, 114, 121, 10, 49, 50, 10]) := Lib.hid (by unfold told titleL; rw [dec12]; rfl)
  have HPP := Lib.hid (fun V (l : LD V) => pparse_any ⟨(told 12 z ++ [120]).toArray⟩ (by rw [Lib.size_eq]; show (told 12 z ++ [120]).length ≤ _; rw [List.length_append, htl]; decide) V l)
  rw [Hz.out] at HB HB1
  clear L
  go_enter Tryd.func14, Tryd.ntmps14
  go_wp2_with (first
    | (refine wpList_build1 rfl 25 (.const (.int .i64 12)) rfl (.int .i64 12) rfl _ HB.out ?_)
    | (refine wpList_store_blk rfl 25 (.tmp 1) (.tmp 11) rfl w.heap.size rfl (ptA 12 z) rfl 25 _ (Blk.new w 25 _) (by rw [HPsz.out]; exact Tryd.infoPointP) (by rw [HPsz.out]; rfl) HPO.out ?_; intro w1 b1 k1; have S1 := Lib.hid (Held.setBlk (l1 := []) ((Held.start w).newBlk 25 _) b1 k1); clear b1 k1)
    | (refine wpList_load_blk rfl 25 (.tmp 1) rfl w.heap.size rfl 25 _ (S1.out.at_ (l1 := [])) _ Tryd.underlying25 rfl (by rw [HPsz.out]; exact Tryd.infoPointP) ?_))
  generalize hg1 : w.heap.size = g1 at *
  clear hg1
  refine (HBY.out w1).mono ?_
  rintro e w2 ⟨v2, rfl, o2, k2, f2⟩
  rw [HT2.out.1, formL_length Hzl.out] at o2
  have S2 := Lib.hid (S1.out.rownew o2 k2 f2)
  obtain ⟨A2, c2, rfl, _, _⟩ := ow_form o2
  clear o2 k2 f2
  go_wp2_with (refine wpList_load_blk rfl 25 (.tmp 1) rfl g1 rfl 25 _ (S2.out.at_ (l1 := [_])) _ Tryd.underlying25 rfl (by rw [HPsz.out]; exact Tryd.infoPointP) ?_)
  refine (HTX.out w2 (HL.out.kp S2.out.k)).mono ?_
  rintro e w3 ⟨rfl, k3⟩
  have S3 := Lib.hid (S2.out.kp k3)
  rw [HT1.out.1, HT1.out.2]
  clear k3
  obtain ⟨tl, Htl⟩ : ∃ tl, Hid (told 12 z = tl) := ⟨_, Lib.hid rfl⟩
  rw [Htl.out] at htl Htk HPP HPV ⊢
  have hadd := str_add tl [120]
  go_wp2_with fail
  refine (HPP.out w3 (HL.out.kp S3.out.k)).mono ?_
  rintro e w4 ⟨rfl, k4⟩
  rw [HPV.out.1, HPV.out.2]
  have S4 := Lib.hid (S3.out.kp k4)
  clear k4
  go_wp2_with (first
    | (refine wpList_store_blk rfl 25 (.tmp 6) (.tmp 26) rfl w4.heap.size rfl (ptA 12 z) rfl 25 _ (Blk.new w4 25 _) (by rw [HPsz.out]; exact Tryd.infoPointP) (by rw [HPsz.out]; rfl) HPO.out ?_; intro w5 b5 k5; have S5 := Lib.hid (Held.setBlk (l1 := []) (S4.out.newBlk 25 _) b5 k5); clear b5 k5)
    | (refine wpList_build1 rfl 25 (.const (.int .i64 (-1))) rfl (.int .i64 (-1)) rfl _ HB1.out ?_))
  generalize hg6 : w4.heap.size = g6 at *
  clear hg6
  refine (HBN.out w5).mono ?_
  rintro e w6 ⟨v6, rfl, o6, k6, f6⟩
  rw [HT2.out.2]
  have S6 := Lib.hid (S5.out.kp k6)
  clear o6 k6 f6
  obtain ⟨g2, c2', hv2, -, -⟩ := ow_some (S6.out.at_ (l1 := [_])) (by decide)
  injection hv2 with hA hn hc
  subst hA hc
  clear hn
  have hb0 := (S6.out.at_ (l1 := [_])).cellAt (g := g2) 0 (by decide)
  have hb11 := (S6.out.at_ (l1 := [_])).cellAt (g := g2) 11 (by decide)
  have hf0 : (bv (formL 12 z))[0]? = some (.int .u8 78) := rfl
  have hf11 : (bv (formL 12 z))[11]? = some (.int .u8 12) := by kernel_rfl
  rw [hf0] at hb0
  rw [hf11] at hb11
  have hq := fun W => eql_pt W 12 12 z z Hzl.out Hzl.out
  simp only [decide_true, beq_self_eq_true, Bool.and_self] at hq
  have htk := ext_take ⟨tl.toArray⟩ 10
  rw [show (⟨tl.toArray⟩ : ByteArray).data.toList = tl from rfl, Htk.out] at htk
  have B1 := S6.out.at_ (l1 := [_, _])
  have B6 := S6.out.at_ (l1 := [])
  go_wp2_with (first
    | (go_at_call 13; refine (num19_any _ _).mono ?_; rintro e w' ⟨rfl, rfl⟩)
    | (refine wpList_load_blkG 35 69 true rfl rfl rfl 25 (.tmp 6) rfl g6 rfl 25 _ B6 _ Tryd.underlying25 rfl (by rw [HPsz.out]; exact Tryd.infoPointP) ?_)
    | (refine wpList_load_blkG 35 69 true rfl rfl rfl 25 (.tmp 1) rfl g1 rfl 25 _ B1 _ Tryd.underlying25 rfl (by rw [HPsz.out]; exact Tryd.infoPointP) ?_))
  go_ret
  exact ⟨rfl, S6.out.k⟩
end Go.Proofs.YtolfckhjfadhdaaDoor
/- PointParses: the walk of the law. -/
namespace Go.Proofs.YtolfckhjfadhdaaDoor
open Go.RowKit
theorem PV_cases (l : List UInt8) : ∃ (z : Int) (hh r : List UInt8) (E : Int), PVs l = (z, hh, r) ∧ PEs l = E ∧ hh.length = 32 ∧ (E = 290 ∨ E = 0 ∧ ∃ n : Nat, z = n ∧ n < 9223372036854775808 ∧ l = told n hh ++ r) := by
  cases h : PT l with
  | none =>
    obtain ⟨h1, h2⟩ := PVs_none h
    exact ⟨_, _, _, _, h1, h2, by simp, .inl rfl⟩
  | some x =>
    obtain ⟨n, hh, r⟩ := x
    obtain ⟨h1, h2⟩ := PVs_some h
    obtain ⟨f1, f2, f3⟩ := PT_form h
    exact ⟨_, _, _, _, h1, h2, f3, .inr ⟨rfl, n, rfl, f2, f1⟩⟩
set_option maxRecDepth 100000 in
set_option maxHeartbeats 8000000 in
theorem pointparses_any (s : ByteArray) (hs0 : s.size ≤ 140737488351232) (w : World) (L : LD w) : Calls Tryd.prog 3 #[.string s] w fun e w' => e = .returned (.bool true) ∧ Kp [] w w' := by
  have hs : s.size ≤ 140737488355328 := by omega
  have HL := Lib.hid L
  obtain ⟨z, hh, r, E, h1, h2, h3, h4⟩ := PV_cases s.data.toList
  have HPV : Hid (PVs s.data.toList = (z, hh, r) ∧ PEs s.data.toList = E) := Lib.hid ⟨h1, h2⟩
  have HH := Lib.hid h3
  have HC := Lib.hid h4
  have HPsz := Lib.hid (ptA_size (s := z) h3)
  have HPO := Lib.hid (ptA_one z hh)
  obtain ⟨uh, ub, Huh⟩ : ∃ uh ub, Hid (UH s.data.toList = (uh, ub)) := ⟨_, _, Lib.hid rfl⟩
  have HU32 : Hid (uh.length = 32) := Lib.hid (by have := UH_len s.data.toList; rw [Huh.out] at this; exact this)
  have HUsz : Hid ((hashA uh).size = 32) := Lib.hid (by rw [hashA_size, HU32.out])
  have HUO := Lib.hid (hashA_one uh)
  have HP1 := Lib.hid (fun V (l : LD V) => pparse_any s hs V l)
  have HP2 := Lib.hid (fun V => rparse_any s hs V)
  have HU1 := Lib.hid (fun V => unhex_any s V)
  have HU2 := Lib.hid (fun V => runhex_any s V)
  unfold ParsePost at HP1 HP2
  unfold UnhexPost at HU1 HU2
  rw [h1, h2] at HP1 HP2
  rw [Huh.out] at HU1 HU2
  simp only at HP1 HP2 HU1 HU2
  clear L h1 h2 h3 h4
  go_enter Tryd.func3, Tryd.ntmps3
  go_wp2_with fail
  refine (HP1.out w HL.out).mono ?_
  rintro e w1 ⟨rfl, k1⟩
  have S1 := Lib.hid ((Held.start w).kp k1)
  clear k1
  go_wp2_with (refine wpList_store_blk rfl 25 (.tmp 3) (.tmp 18) rfl w1.heap.size rfl (ptA z hh) rfl 25 _ (Blk.new w1 25 _) (by rw [HPsz.out]; exact Tryd.infoPointP) (by rw [HPsz.out]; rfl) HPO.out ?_; intro w2 b2 k2; have S2 := Lib.hid (Held.setBlk (l1 := []) (S1.out.newBlk 25 _) b2 k2); clear b2 k2)
  generalize w1.heap.size = g3 at *
  refine (HP2.out w2).mono ?_
  rintro e w3 ⟨rfl, k3⟩
  have S3 := Lib.hid (S2.out.kp k3)
  clear k3
  go_wp2_with (refine wpList_store_blk rfl 25 (.tmp 6) (.tmp 24) rfl w3.heap.size rfl (ptA z hh) rfl 25 _ (Blk.new w3 25 _) (by rw [HPsz.out]; exact Tryd.infoPointP) (by rw [HPsz.out]; rfl) HPO.out ?_; intro w4 b4 k4; have S4 := Lib.hid (Held.setBlk (l1 := []) (S3.out.newBlk 25 _) b4 k4); clear b4 k4)
  generalize w3.heap.size = g6 at *
  refine (HU1.out w4).mono ?_
  rintro e w5 ⟨rfl, k5⟩
  have S5 := Lib.hid (S4.out.kp k5)
  clear k5
  go_wp2_with (refine wpList_store_blk rfl 23 (.tmp 9) (.tmp 30) rfl w5.heap.size rfl (hashA uh) rfl 23 _ (Blk.new w5 23 _) (by rw [HUsz.out]; exact Tryd.infoHashP) (by rw [HUsz.out]; rfl) HUO.out ?_; intro w6 b6 k6; have S6 := Lib.hid (Held.setBlk (l1 := []) (S5.out.newBlk 23 _) b6 k6); clear b6 k6)
  generalize w5.heap.size = g9 at *
  refine (HU2.out w6).mono ?_
  rintro e w7 ⟨rfl, k7⟩
  have S7 := Lib.hid (S6.out.kp k7)
  clear k7
  have hq := fun W => neq_pt W z z hh hh HH.out HH.out
  simp only [decide_true, beq_self_eq_true, Bool.and_self, Bool.not_true] at hq
  have hqh := fun W => neq_hash W uh uh HU32.out HU32.out
  simp only [beq_self_eq_true, Bool.not_true] at hqh
  go_wp2_with (first
    | (refine wpList_store_blk rfl 23 (.tmp 11) (.tmp 35) rfl w7.heap.size rfl (hashA uh) rfl 23 _ (Blk.new w7 23 _) (by rw [HUsz.out]; exact Tryd.infoHashP) (by rw [HUsz.out]; rfl) HUO.out ?_; intro w8 b8 k8; have S8 := Lib.hid (Held.setBlk (l1 := []) (S7.out.newBlk 23 _) b8 k8); clear b8 k8)
    | (go_at_call 13; refine (num19_any _ _).mono ?_; rintro e w' ⟨rfl, rfl⟩)
    | (refine wpList_load_blk rfl 25 (.tmp 3) rfl g3 rfl 25 _ (S8.out.at_ (l1 := [_, _, _])) _ Tryd.underlying25 rfl (by rw [HPsz.out]; exact Tryd.infoPointP) ?_)
    | (refine wpList_load_blk rfl 25 (.tmp 6) rfl g6 rfl 25 _ (S8.out.at_ (l1 := [_, _])) _ Tryd.underlying25 rfl (by rw [HPsz.out]; exact Tryd.infoPointP) ?_)
    | (refine wpList_load_blkG 14 51 false rfl rfl rfl 23 (.tmp 9) rfl g9 rfl 23 _ (S8.out.at_ (l1 := [_])) _ Tryd.underlying23 rfl (by rw [HUsz.out]; exact Tryd.infoHashP) ?_)
    | (refine wpList_load_blkG 14 51 false rfl rfl rfl 23 (.tmp 11) rfl w7.heap.size rfl 23 _ (S8.out.at_ (l1 := [])) _ Tryd.underlying23 rfl (by rw [HUsz.out]; exact Tryd.infoHashP) ?_))
  · refine (known_any w8 (HL.out.kp S8.out.k)).mono ?_
    rintro e w9 ⟨rfl, k9⟩
    have K9 := Lib.hid (S8.out.k.trans k9 (by simp))
    clear k9
    go_wp2_with fail
    go_ret
    exact ⟨rfl, K9.out⟩
  · have hE : (E != 0) = false := by assumption
    have hE0 : E = 0 := by simpa using hE
    obtain ⟨n, hzn, hn, hl⟩ : ∃ n : Nat, z = n ∧ n < 9223372036854775808 ∧ s.data.toList = told n hh ++ r := by
      rcases HC.out with h | ⟨-, h⟩
      · omega
      · exact h
    subst hzn
    have HT1 : Hid (txt (n : Int) hh = told n hh ∧ txE (n : Int) = 0) := Lib.hid ⟨by unfold txt; rw [if_neg (by omega), Int.toNat_natCast], if_neg (by omega)⟩
    obtain ⟨tl, Htl⟩ : ∃ tl, Hid (told n hh = tl) := ⟨_, Lib.hid rfl⟩
    rw [Htl.out] at HT1 hl
    have hadd := str_add tl r
    have Hsz : Hid (tl.length + r.length = s.size) := Lib.hid (by rw [Lib.size_eq, hl, List.length_append])
    have hsz := Hsz.out
    have hlen : ¬ (9223372036854775807 : Int) < (tl.length : Int) + r.length := by omega
    have hse : s = ⟨(tl ++ r).toArray⟩ := by rw [← hl]
    refine (ptext_any n (by omega) hh HH.out w8 (HL.out.kp S8.out.k)).mono ?_
    rintro e w9 ⟨rfl, k9⟩
    rw [HT1.out.1, HT1.out.2]
    have S9 := Lib.hid (S8.out.kp k9)
    clear k9 hsz
    go_wp2_with (go_at_call 13; refine (num19_any _ _).mono ?_; rintro e w' ⟨rfl, rfl⟩)
    refine (known_any w9 (HL.out.kp S9.out.k)).mono ?_
    rintro e w10 ⟨rfl, k10⟩
    have K10 := Lib.hid (S9.out.k.trans k10 (by simp))
    clear k10
    go_wp2_with fail
    go_ret
    exact ⟨rfl, K10.out⟩
end Go.Proofs.YtolfckhjfadhdaaDoor
/- What the listed variables give; a world for the witness. -/
namespace Go.Proofs.YtolfckhjfadhdaaDoor
open Go.ChangeShapes Go.WideShapes Go.ChangeAt Go.RowKit
theorem door_met (os : Os) (args : Array Value) : laidMet Tryd.prog Rows.pointParsesRow.laid ((World.doorLaid Tryd.prog 2000 os).forCall (fun _ _ => 0) ⟨#[], args, []⟩).memory :=
  laidMet_of_run' 8 (by kernel_rfl) (by kernel_rfl)
theorem star_es : "*" ++ "errors.errorString" = "*errors.errorString" := by decide
theorem row_es (u : TypeId) (h : Tryd.prog.typeName? 3 u = some "*errors.errorString") : u = 155 :=
  typeName_ptr_named (nm := "errors.errorString") (by rw [star_es]; kernel_rfl) (by kernel_rfl) (by decide) u (by rw [star_es]; exact h)
theorem LD_laid {W : World} (h : laidMet Tryd.prog Rows.pointParsesRow.laid W) : LD W := by
  have h3 := h.tail.tail
  have h4 := h3.tail
  have h5 := h4.tail
  refine ⟨Lib.tabIs_of_head (g := 3) (by kernel_rfl) (by kernel_rfl) Tryd.underlying147 Tryd.underlying100 (by kernel_rfl) (by kernel_rfl) h3, ?_, ?_⟩
  · obtain ⟨a, s, hv, -⟩ := laid_sentinel (g := 1) h5 (by kernel_rfl) (by kernel_rfl) Tryd.underlying66 row_es Tryd.underlying155 Tryd.underlying157 rfl rfl Tryd.underlying9 (by kernel_rfl) (by kernel_rfl)
    exact ⟨_, _, hv⟩
  · obtain ⟨a, s, hv, -⟩ := laid_sentinel (g := 2) h4 (by kernel_rfl) (by kernel_rfl) Tryd.underlying66 row_es Tryd.underlying155 Tryd.underlying157 rfl rfl Tryd.underlying9 (by kernel_rfl) (by kernel_rfl)
    exact ⟨_, _, hv⟩
end Go.Proofs.YtolfckhjfadhdaaDoor
/- The row's last step, where a walk has left 'Below' of the world it began in. -/
namespace Go.Proofs.YtolfckhjfadhdaaDoor
open Go.RowKit Go.WideShapes Go.ChangeShapes

theorem own_knob : ownKnob Tryd.prog.godebug = none := by kernel_rfl

section
variable {H : Type} {enc : TypeId × Value → H} {P : Program}
/-- 'post_of_same' for a world of which 'Below' alone is known (old cells and old marks are as they were). -/
theorem post_below {f : Func} {s : ChangeSpec} {apart fresh handsOn again : Bool} {W W' : World} {args : Array Value} {v : Value} {ds gs : List (DataW H)} {before pa pv : List MemPlace}
    (hW : DataW.Whole enc P f.params.toList s.vars apart W args.toList ds gs before)
    (hres : ∀ (b : Nat) (sp : Nat → Bool) (hd : Bool), DataW.TrodAll enc P W' b sp hd f.resultTypes.toList (v.resultList f.resultTypes.size) (s.fn H (ds ++ gs)).results [])
    (hargs : ∀ sp : Nat → Bool, (∀ p ∈ before, sp p.block = true) → DataW.TrodAll enc P W' 0 sp true f.params.toList args.toList (s.fn H (ds ++ gs)).args pa)
    (hvars : ∀ sp : Nat → Bool, (∀ p ∈ before, sp p.block = true) → DataW.TrodVars enc P W' sp s.vars (s.fn H (ds ++ gs)).vars pv)
    (hps : before = pa ++ pv) (hb : Below W.heap.size W W')
    (hok : ∀ (j : Nat) (t : TypeId) (r : Value), f.resultTypes[j]? = some t → (v.resultList f.resultTypes.size)[j]? = some r → Value.okWide P W' .any 0 t r) :
    s.post enc P f apart fresh handsOn again W args v W' := by
  have hlt : ∀ p ∈ before, p.block < W.heap.size := fun p hp => hW.lt p hp
  have hold : ∀ p ∈ before, (fun b => decide (b < W.heap.size)) p.block = true := fun p hp => by simpa using hlt p hp
  refine ⟨ds, gs, before, [], pa, pv, hW, hres _ _ _, hargs _ hold, hvars _ hold, World.keptBut_mono (fun p hp => ⟨hp, ?_⟩) (hb.frame (· ∈ before)), fun _ => ?_⟩
  · rw [hps, List.mem_append] at hp
    exact Or.inr hp
  · obtain ⟨_, _, _, _, _, hz, hn⟩ := hW
    refine ⟨hok, _, _, ([] ++ pa) ++ pv, ⟨[] ++ pa, pv, trodAll_append (hargs _ (fun _ _ => rfl)) (hres _ _ _), hvars _ (fun _ _ => rfl), rfl, ?_, ?_⟩, ?_⟩
    · intro b off hp
      have hin : MemPlace.cell b off ∈ before := by rw [hps]; simpa using hp
      rw [hb.frozen (hlt _ hin)]
      exact hz b off hin
    · intro ha
      have := hn ha
      rw [hps] at this
      simpa using this
    · intro p hp _
      rw [hps]
      simpa using hp
end
theorem Kp.below0 {w w' : World} (h : Kp [] w w') : Below w.heap.size w w' := h.below (Nat.le_refl _) (by simp)
theorem u64_wf {a : Int} (h : (Lit.int .u64 a).wf = true) : ∃ n : Nat, a = (n : Int) ∧ n < 18446744073709551616 := by
  have hx : 0 ≤ a ∧ a ≤ 18446744073709551615 := by simpa [Lit.wf, IntKind.min, IntKind.max, IntKind.signed, IntKind.bits] using h
  exact ⟨a.toNat, by omega, by omega⟩
theorem u32_wf {a : Int} (h : (Lit.int .u32 a).wf = true) : ∃ n : Nat, a = (n : Int) ∧ n < 4294967296 := by
  have hx : 0 ≤ a ∧ a ≤ 4294967295 := by simpa [Lit.wf, IntKind.min, IntKind.max, IntKind.signed, IntKind.bits] using h
  exact ⟨a.toNat, by omega, by omega⟩
end Go.Proofs.YtolfckhjfadhdaaDoor
/- The row's last step, where the arguments read as they did (out of 'Below' alone). -/
namespace Go.Proofs.YtolfckhjfadhdaaDoor
open Go.RowKit Go.WideShapes Go.ChangeShapes

section
variable {H : Type} {enc : TypeId × Value → H} {P : Program}
theorem trodAll_stays (hl : laidOutB P = true) {W W' : World} {sp' : Nat → Bool} : ∀ {ts : List TypeId} {vs : List Value} {ds : List (DataW H)} {ps : List MemPlace}, ts.all (fun t => P.readableRec t && decide (t < P.types.size)) = true →
    DataW.TrodAll enc P W 0 (fun _ => true) true ts vs ds ps → (∀ p ∈ ps, W.sameAt W' p) → (∀ p ∈ ps, sp' p.block = true) → DataW.TrodAll enc P W' 0 sp' true ts vs ds ps
  | [], [], [], _, _, h, _, _ => h
  | t :: ts, v :: vs, d :: ds, _, hr, ⟨p, q, h1, h2, e⟩, hm, hs => by
    simp only [List.all_cons, Bool.and_eq_true, decide_eq_true_eq] at hr
    exact ⟨p, q, WideElems.Trod_stays hl hr.1.1 hr.1.2 h1 (fun x hx => hm x (by rw [e]; exact List.mem_append_left _ hx)) (fun x hx => hs x (by rw [e]; exact List.mem_append_left _ hx)),
      trodAll_stays hl hr.2 h2 (fun x hx => hm x (by rw [e]; exact List.mem_append_right _ hx)) (fun x hx => hs x (by rw [e]; exact List.mem_append_right _ hx)), e⟩

theorem post_kept {f : Func} {s : ChangeSpec} {apart fresh handsOn again : Bool} {W W' : World} {args : Array Value} {v : Value} {ds gs : List (DataW H)} {before : List MemPlace}
    (hl : laidOutB P = true) (hr : f.params.toList.all (fun t => P.readableRec t && decide (t < P.types.size)) = true) (hsv : s.vars = [])
    (hW : DataW.Whole enc P f.params.toList s.vars apart W args.toList ds gs before)
    (hres : ∀ (b : Nat) (sp : Nat → Bool) (hd : Bool), DataW.TrodAll enc P W' b sp hd f.resultTypes.toList (v.resultList f.resultTypes.size) (s.fn H (ds ++ gs)).results [])
    (hfa : (s.fn H (ds ++ gs)).args = ds) (hfv : (s.fn H (ds ++ gs)).vars = []) (hb : Below W.heap.size W W')
    (hok : ∀ (j : Nat) (t : TypeId) (r : Value), f.resultTypes[j]? = some t → (v.resultList f.resultTypes.size)[j]? = some r → Value.okWide P W' .any 0 t r) :
    s.post enc P f apart fresh handsOn again W args v W' := by
  have hlt : ∀ p ∈ before, p.block < W.heap.size := fun p hp => hW.lt p hp
  have hW2 := hW
  obtain ⟨p, q, hA, hV, rfl, hz, hn⟩ := hW2
  rw [hsv] at hV
  obtain ⟨rfl, rfl⟩ := trodVars_none hV
  refine post_below (pa := p) (pv := []) hW hres (fun sp hs => ?_) (fun sp hs => ?_) rfl hb hok
  · rw [hfa]
    exact trodAll_stays hl hr hA (fun x hx => hb.same (hlt x (List.mem_append_left _ hx))) (fun x hx => hs x (List.mem_append_left _ hx))
  · rw [hsv, hfv]; exact rfl
end
theorem laid_out : laidOutB Tryd.prog = true := by kernel_rfl
end Go.Proofs.YtolfckhjfadhdaaDoor
/- What comes in, opened: slices of bytes; how much there is of it. -/
namespace Go.Proofs.YtolfckhjfadhdaaDoor
open Go.RowKit Go.WideShapes Go.ChangeShapes

section
variable {H : Type} {enc : TypeId × Value → H} {P : Program}
/-! ### Bulk -/
theorem bulk_pos (d : DataW H) : 1 ≤ Rows.uptoBulk d := by
  cases d with
  | lit l => cases l <;> simp [Rows.uptoBulk]
  | nil => simp [Rows.uptoBulk]
  | ptr d => simp [Rows.uptoBulk]
  | slice elems spare => simp [Rows.uptoBulk]
  | agg parts => simp [Rows.uptoBulk]
  | iface t d => simp [Rows.uptoBulk]
  | map entries => simp [Rows.uptoBulk]
  | held h => simp [Rows.uptoBulk]
theorem bulk_len (l : List (DataW H)) : l.length ≤ Rows.uptoBulkAll l := by
  induction l with
  | nil => simp [Rows.uptoBulkAll]
  | cons x r ih => have := bulk_pos x; simp only [Rows.uptoBulkAll, List.length_cons]; omega
theorem bulk_slice (l r : List (DataW H)) : Rows.uptoBulk (.slice l r) = Rows.uptoBulkAll l + Rows.uptoBulkAll r + 1 := by simp [Rows.uptoBulk]
/-- Sums, place by place. -/
def sumTo (f : Nat → Nat) : Nat → Nat
  | 0 => 0
  | n + 1 => sumTo f n + f n
theorem bulk_append (l r : List (DataW H)) : Rows.uptoBulkAll (l ++ r) = Rows.uptoBulkAll l + Rows.uptoBulkAll r := by
  induction l with
  | nil => simp [Rows.uptoBulkAll]
  | cons x l ih => simp only [List.cons_append, Rows.uptoBulkAll, ih]; omega
theorem bulk_range (D : Nat → DataW H) (n : Nat) : Rows.uptoBulkAll ((List.range n).map D) = sumTo (fun i => Rows.uptoBulk (D i)) n := by
  induction n with
  | zero => rfl
  | succ n ih => rw [List.range_succ, List.map_append, bulk_append, ih]; simp [Rows.uptoBulkAll, sumTo]
theorem sumTo_le {f g : Nat → Nat} : ∀ n, (∀ i, i < n → f i ≤ g i) → sumTo f n ≤ sumTo g n
  | 0, _ => Nat.le_refl _
  | n + 1, h => Nat.add_le_add (sumTo_le n (fun i hi => h i (by omega))) (h n (by omega))
theorem sumTo_mono {f : Nat → Nat} {m n : Nat} (h : m ≤ n) : sumTo f m ≤ sumTo f n := by
  induction n with
  | zero => rw [show m = 0 by omega]; exact Nat.le_refl _
  | succ n ih =>
    by_cases e : m = n + 1
    · subst e; exact Nat.le_refl _
    · exact Nat.le_trans (ih (by omega)) (Nat.le_add_right _ _)
theorem sumTo_at {f : Nat → Nat} {i n : Nat} (h : i < n) : f i ≤ sumTo f n := Nat.le_trans (Nat.le_add_left _ _) (sumTo_mono (f := f) (show i + 1 ≤ n by omega))
theorem bulk_bound {l : List (DataW H)} (hk : Rows.uptoSmall H l = true) : Rows.uptoBulkAll l ≤ 1048576 := of_decide_eq_true hk

/-! ### A slice of bytes -/
theorem u8_lit {z : Int} (h : (Lit.int .u8 z).wf = true) : 0 ≤ z ∧ z ≤ 255 := by simpa [Lit.wf, IntKind.min, IntKind.max, IntKind.signed, IntKind.bits] using h
theorem open_bytes {W : World} {n : Nat} {t e : TypeId} {cs : List Value} {x : DataW H × List MemPlace} (ht : P.underlying t = some (.slice e)) (he : P.underlying e = some (.int .u8)) (hc : P.cellsOf e = 1)
    (h : DataW.trod enc P W 0 (fun _ => true) true n t cs = some x) : ∃ B bs, cs = [B] ∧ Rd W 1 B bs.length (bv bs) ∧ bs.length + 1 ≤ Rows.uptoBulk x.1 := by
  rcases open_ints ht he hc h with ⟨rfl, rfl⟩ | ⟨a, len, cap, zs, rfl, _, hl, hm, hz, rfl, hcell, hwf⟩
  · exact ⟨_, [], rfl, Rd.nil _ _, by simp [Rows.uptoBulk]⟩
  · simp only [if_true] at hz
    have hbl : ((zs.take len).map fun z => UInt8.ofNat z.toNat).length = len := by rw [List.length_map, List.length_take]; omega
    refine ⟨_, (zs.take len).map fun z => UInt8.ofNat z.toNat, rfl, ?_, ?_⟩
    · rw [hbl]
      refine ⟨by rw [bv_length, hbl]; omega, some a, cap, rfl, hl, hm, (fun h => by cases h), fun ad had j u hu => ?_⟩
      cases had
      rw [bv_get, List.getElem?_map] at hu
      cases hj : (zs.take len)[j]? with
      | none => rw [hj] at hu; simp at hu
      | some z =>
        rw [hj] at hu
        have hz' : zs[j]? = some z := by
          rw [List.getElem?_take] at hj
          split at hj
          · exact hj
          · cases hj
        have hlt : j < zs.length := (List.getElem?_eq_some_iff.1 hz').1
        have hw := u8_lit (hwf z (List.mem_of_getElem? hz'))
        have hg := hcell j hlt
        rw [List.getD_eq_getElem?_getD, hz', Option.getD_some] at hg
        rw [hg]
        simp only [Option.map_some, Option.some.injEq] at hu
        rw [← hu, UInt8.toNat_ofNat', Nat.mod_eq_of_lt (by omega)]
        congr 2
        omega
    · rw [bulk_slice]
      have := bulk_len (lits (H := H) .u8 (zs.take len))
      rw [hbl]
      have hll : (lits (H := H) .u8 (zs.take len)).length = len := by simp [lits]; omega
      omega
/-- The same, with the reading's length. -/
theorem open_bytes_len {W : World} {n : Nat} {t e : TypeId} {cs : List Value} {x : DataW H × List MemPlace} (ht : P.underlying t = some (.slice e)) (he : P.underlying e = some (.int .u8)) (hc : P.cellsOf e = 1)
    (h : DataW.trod enc P W 0 (fun _ => true) true n t cs = some x) : ∃ B bs, cs = [B] ∧ Rd W 1 B bs.length (bv bs) ∧ bs.length + 1 ≤ Rows.uptoBulk x.1 ∧ (bs = [] ∨ ∃ elems spare, x.1 = .slice elems spare ∧ elems.length = bs.length) := by
  obtain ⟨B, bs, h1, h2, h3⟩ := open_bytes ht he hc h
  refine ⟨B, bs, h1, h2, h3, ?_⟩
  rcases open_ints ht he hc h with ⟨hB, _⟩ | ⟨a, len, cap, zs, hB, _, _, _, hz, hx, _, _⟩
  · left
    obtain ⟨A, c, hv, _⟩ := h2.2
    rw [h1, hv] at hB
    simp only [List.cons.injEq, Value.slice.injEq, and_true] at hB
    exact List.eq_nil_of_length_eq_zero hB.2.1
  · right
    simp only [if_true] at hz
    refine ⟨_, _, by rw [hx], ?_⟩
    obtain ⟨A, c, hv, _⟩ := h2.2
    rw [h1, hv] at hB
    simp only [List.cons.injEq, Value.slice.injEq, and_true] at hB
    simp [lits]
    omega
end
end Go.Proofs.YtolfckhjfadhdaaDoor
