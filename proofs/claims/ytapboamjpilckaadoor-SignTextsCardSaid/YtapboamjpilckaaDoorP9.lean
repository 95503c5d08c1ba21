/- Several texts in one: SigBR, SigBS, SigBA, SigBT, Open, WireOpen, PtOpen, SgOpen, KyOpen, PtOpens, NtOpen, SgLaid2, Post, PostKept. -/
import Derived.ProofKit
import Derived.OpenShut
import Derived.Deep.Slices
import Derived.JoinedCond
import Derived.Carry
import Derived.SizedLaws
import Derived.Test.YtapboamjpilckaaDoorCards
import Derived.Test.YtapboamjpilckaaDoorTie
import Derived.Deep.DeepHandedRow
import Derived.Deep.DeepWitnessRowRef
import Derived.Lib.LaidTab
import Derived.LaidMore
import Derived.Stop.LaidErr
import Derived.Test.YtapboamjpilckaaDoorRows
import Derived.Test.YtapboamjpilckaaDoorP8
set_option linter.unusedVariables false
set_option linter.unusedSimpArgs false
set_option maxRecDepth 100000
set_option maxHeartbeats 8000000
namespace Go.Proofs.YtapboamjpilckaaDoor
/- Parse of sign and of the reference; Told, Text of the reference. -/
section
open Go.RowKit
theorem ba_cut (r : List UInt8) (f k : Nat) : (ByteArray.mk r.toArray).extract f k = ⟨((r.take k).drop f).toArray⟩ := by
 apply ByteArray.ext
 rw [ByteArray.data_extract]
 apply Array.ext'
 rw [Array.toList_extract, List.extract_eq_take_drop, List.drop_take]
theorem ba_from (r : List UInt8) (f : Nat) : (ByteArray.mk r.toArray).extract f (ByteArray.mk r.toArray).size = ⟨(r.drop f).toArray⟩ := by
 rw [str_size, ba_cut, List.take_length]
theorem ba_to (r : List UInt8) (k : Nat) : (ByteArray.mk r.toArray).extract 0 k = ⟨(r.take k).toArray⟩ := by
 rw [ba_cut, List.drop_zero]
theorem notes_len {l : List SigD} (hok : SgOk l) (hn : ∀ s, s ∈ l → s.1.length ≤ 64) (k : Nat) : (flat (l.take k)).length ≤ 130 * l.length := by
 refine Nat.le_trans (lines_len (fun x hx => ⟨hn x (List.mem_of_mem_take hx), (hok x (List.mem_of_mem_take hx)).1⟩)) (Nat.mul_le_mul_left _ ?_)
 rw [List.length_take]; omega
theorem rntold_any (n : Nat) (hn : n < 9223372036854775808) (h : List UInt8) (hh : h.length = 32) (A : Option Addr) (c : Nat) (l : List SigD) (hok : SgOk l) (hll : l.length ≤ 64) (hnn : ∀ s, s ∈ l → s.1.length ≤ 64) (w : World) (hv : Rd w 33 (.slice A l.length c) l.length (sgsC l)) :
 Calls Tryd.prog 56 #[.agg (ntA (n : Int) h (.slice A l.length c))] w fun e w' => e = .returned (.string ⟨(told n h ++ flat l).toArray⟩) ∧ Kp [] w w' := by
 refine calls_fr Tryd.func56 rfl 34 rfl (fun a0 hsz hdf hAr => ?_)
 have hz0 : a0.tmps.size = 34 := hsz
 have D := hdf
 have o0 := hAr 0 _ rfl
 refine wp_seq (rtd_r0 w _ [] (Held.start w) hz0 o0 (fun a1 w1 hs1 o2 h1 => ?_))
 have hz1 := hs1.size.trans hz0; have o0 := hs1.k o0; have D := hs1.defers.trans D
 obtain ⟨g1, o1, S⟩ := h1
 refine wp_seq (rtd_r1 w g1 _ h hh _ _ [] S (fun V => rtold_any n hn h hh V) hz1 o1 (fun a2 w2 hs2 o3 S => ?_))
 have hz2 := hs2.size.trans hz1; have o1 := hs2.k o1; have D := hs2.defers.trans D
 refine wp_seq (wp_seq (rtd_r2 hz2 (fun a3 hs3 o4 => ?_)))
 have hz3 := hs3.size.trans hz2; have o1 := hs3.k o1; have o3 := hs3.k o3; have D := hs3.defers.trans D
 have htl : (told n h).length ≤ 900000 := by
  have h1 := dec_19 hn
  rw [told_length, hexS_length, hh]
  omega
 refine wp_block ?_
 (conv => arg 2; whnf)
 refine wp_loop (fun a' w' => ∃ (k : Nat), k ≤ l.length ∧ a'.tmps.size = 34 ∧ a'.defers = [] ∧ Sl a' 1 (.pointer (some ⟨g1, 0, none⟩)) ∧ Sl a' 3 (.string ⟨(told n h ++ flat (l.take k)).toArray⟩) ∧ Sl a' 4 (.int .i64 ((k : Nat) : Int)) ∧ Held w w' [blkR g1 36 (ntA (n : Int) h (.slice A l.length c))]) (fun a' _ => l.length - (intOf (a'.eval (.tmp 4))).toNat) ⟨0, Nat.zero_le _, hz3, D, o1, by rw [List.take_zero, flat_nil, List.append_nil]; exact o3, o4, S⟩ ?_
 iterate 9 (try clear o1)
 iterate 9 (try clear o3)
 iterate 9 (try clear o4)
 iterate 9 (try clear S)
 iterate 9 (try clear D)
 rintro a4 w4 ⟨k, hk, hz4, D, o1, o3, o4, S⟩
 have e4 := o4.eval (by rw [hz4]; decide)
 refine wp_seq (wp_seq (rtd_r3 g1 k _ h hh A l.length c (S.at_ (l1 := [])) hz4 o1 o4 (fun a5 hs5 o12 => ?_)))
 have hz5 := hs5.size.trans hz4; have o1 := hs5.k o1; have o3 := hs5.k o3; have o4 := hs5.k o4; have D := hs5.defers.trans D
 by_cases hlt : k < l.length
 · refine wp_cond_true ((o12.eval (by rw [hz5]; decide)).trans (by rw [decide_eq_true hlt])) (wp_skip ?_)
   simp only [Exit.then]
   obtain ⟨ad, hA⟩ := sgs_addr hv (by omega)
   have hvb := rd_old hv S.k
   have hb := S.at_ (l1 := [])
   rw [hA] at hvb hb
   obtain ⟨s, hs⟩ : ∃ s, l[k]? = some s := ⟨_, List.getElem?_eq_getElem hlt⟩
   have hsm := List.mem_of_getElem? hs
   have hsk := hok s hsm
   have hfl := notes_len hok hnn k
   refine wp_seq (wp_block ?_)
   refine rtd_r5 g1 k _ h hh ad l.length c hlt hb.drew s hsk.1 (hnn s hsm) _ (by rw [List.length_append]; omega) (fun V kV => sgs_at (rd_old hvb (((Kp.refl [] w4).drew).trans kV (by simp))) hok hs) hz5 o1 o3 o4 (fun a6 w6 hs6 k6 o3 => ?_)
   have hz6 := hs6.size.trans hz5; have o1 := hs6.k o1; have o4 := hs6.k o4; have o12 := hs6.k o12; have D := hs6.defers.trans D
   have S := S.kp (((Kp.refl [] w4).drew).trans k6 (by simp))
   simp only [Exit.inBlock, Exit.then]
   refine rtd_r4 k (by omega) hz6 o4 (fun a7 hs7 o4 => ?_)
   have hz7 := hs7.size.trans hz6; have o1 := hs7.k o1; have o3 := hs7.k o3; have o12 := hs7.k o12; have D := hs7.defers.trans D
   have o3 : Sl a7 3 (.string ⟨(told n h ++ flat (l.take (k + 1))).toArray⟩) := by
    rw [show l.take (k + 1) = l.take k ++ [s] from by rw [List.take_add_one, hs]; rfl, flat_append, flat_cons, flat_nil, List.append_nil, ← List.append_assoc]
    exact o3
   refine ⟨⟨k + 1, by omega, hz7, D, o1, o3, o4, S⟩, ?_⟩
   show l.length - (intOf _).toNat < l.length - (intOf _).toNat
   rw [e4, o4.eval (by rw [hz7]; decide)]
   simp only [intOf]; omega
 · refine wp_cond_false ((o12.eval (by rw [hz5]; decide)).trans (by rw [decide_eq_false hlt])) (wp_exit ?_)
   obtain rfl : k = l.length := by omega
   rw [List.take_length] at o3
   simp only [Exit.then, Exit.inBlock]
   refine wp_seq (rtd_r6 _ hz5 o3 (fun a6 hs6 o2 => ?_))
   have hz6 := hs6.size.trans hz5; have o1 := hs6.k o1; have o3 := hs6.k o3; have o4 := hs6.k o4; have o12 := hs6.k o12; have D := hs6.defers.trans D
   refine wp_ret ?_
   exact bodyPost_ret (results_t1 (by rfl) (o2.eval (by rw [hz6]; decide))) D ⟨rfl, S.k⟩
theorem rntext_any (z : Int) (hz : -9223372036854775808 ≤ z ∧ z ≤ 9223372036854775807) (h : List UInt8) (hh : h.length = 32) (A : Option Addr) (c : Nat) (l : List SigD) (hok : SgOk l) (hll : l.length ≤ 9223372036854775807) (w : World) (hv : Rd w 33 (.slice A l.length c) l.length (sgsC l)) :
 Calls Tryd.prog 37 #[.agg (ntA z h (.slice A l.length c))] w fun e w' => e = .returned (.tuple #[.string ⟨(textN z h l).toArray⟩, .int .i64 (chkN z l)]) ∧ Kp [] w w' := by
 refine calls_fr Tryd.func37 rfl 9 rfl (fun a0 hsz hdf hAr => ?_)
 have hz0 : a0.tmps.size = 9 := hsz
 have D := hdf
 have o0 := hAr 0 _ rfl
 refine wp_seq (rtx_r0 w _ [] (Held.start w) hz0 o0 (fun a1 w1 hs1 o2 h1 => ?_))
 have hz1 := hs1.size.trans hz0; have o0 := hs1.k o0; have D := hs1.defers.trans D
 obtain ⟨g1, o1, S⟩ := h1
 refine wp_seq (wp_seq (rtx_r1 w g1 _ (ntA_size hh) (mayN z l) [] S (fun V SV => rmay_any z hz h hh l hok hll A c V (rd_old hv SV.k)) hz1 o1 (fun a2 w2 hs2 o6 S => ?_)))
 have hz2 := hs2.size.trans hz1; have o1 := hs2.k o1; have o2 := hs2.k o2; have D := hs2.defers.trans D
 cases hm : mayN z l
 · refine wp_cond_true ((o6.eval (by rw [hz2]; decide)).trans (by rw [hm]; rfl)) ?_
   refine wp_seq (rtx_r2 hz2 (fun a3 hs3 o2 o3 => ?_))
   have hz3 := hs3.size.trans hz2; have o1 := hs3.k o1; have o6 := hs3.k o6; have D := hs3.defers.trans D
   refine wp_ret ?_
   simp only [Exit.then]
   exact bodyPost_ret (results_t2 (by rfl) (o2.eval (by rw [hz3]; decide)) (o3.eval (by rw [hz3]; decide))) D ⟨by unfold textN chkN; rw [hm]; rfl, S.k⟩
 · refine wp_cond_false ((o6.eval (by rw [hz2]; decide)).trans (by rw [hm]; rfl)) (wp_skip ?_)
   simp only [Exit.then]
   obtain ⟨h0, h64, hris⟩ := mayN_z hm
   obtain ⟨n, rfl⟩ : ∃ n : Nat, z = n := ⟨z.toNat, by omega⟩
   refine wp_seq (rtx_r3 w g1 _ (ntA_size hh) _ [] S (fun V SV => rntold_any n (by omega) h hh A c l hok h64 (fun s hs => nmOk_len (rising_nm hris s hs)) V (rd_old hv SV.k)) hz2 o1 (fun a3 w3 hs3 o2 o3 S => ?_))
   have hz3 := hs3.size.trans hz2; have o1 := hs3.k o1; have o6 := hs3.k o6; have D := hs3.defers.trans D
   refine wp_ret ?_
   exact bodyPost_ret (results_t2 (by rfl) (o2.eval (by rw [hz3]; decide)) (o3.eval (by rw [hz3]; decide))) D ⟨by unfold textN chkN flat; rw [hm, Int.toNat_natCast]; rfl, S.k⟩
noncomputable def npN (s : List UInt8) : Int × List UInt8 × List SigD := (noteP s).getD (0, List.replicate 32 0, [])
noncomputable def npE (s : List UInt8) : Int := if (noteP s).isSome then 0 else 381
def NpPost (s : List UInt8) (w : World) (e : Ending) (w' : World) : Prop := ∃ v, e = .returned (.tuple #[.agg (ntA (npN s).1 (npN s).2.1 v), .int .i64 (npE s)]) ∧ Held w w' [rowR 81 33 v (npN s).2.2.length (sgsC (npN s).2.2)]
theorem np_none {s : List UInt8} (h : noteP s = none) : npN s = (0, List.replicate 32 0, []) ∧ npE s = 381 := by unfold npN npE; rw [h]; exact ⟨rfl, rfl⟩
theorem np_some {s : List UInt8} {z : Int} {h : List UInt8} {l : List SigD} (k : IsNote s z h l) : npN s = (z, h, l) ∧ npE s = 0 := by unfold npN npE; rw [noteP_some k]; exact ⟨rfl, rfl⟩
theorem pvs_len (s : List UInt8) : (PVs s).2.1.length = 32 := by
 cases h : PT s with
 | none => rw [(PVs_none h).1]; rfl
 | some p => obtain ⟨n, g, r⟩ := p; rw [(PVs_some h).1]; exact (PT_form h).2.2
def strLen : Value → Nat
 | .string b => b.size
 | _ => 0
theorem nil_row {w0 w : World} {L : List Res} (S : Held w0 w L) : Held w0 w (rowR 81 33 (.slice none 0 0) 0 [] :: L) :=
 S.new (rowR 81 33 (.slice none 0 0) 0 []) kR (show Ow w 81 33 (.slice none 0 0) 0 [] from ⟨rfl, .inl ⟨rfl, rfl⟩⟩) (fun b hb => by simp [rowR, Value.ownBlock] at hb)
theorem sparse_any (s : List UInt8) (hs : s.length ≤ 140737488355328) (w : World) (LPw : LP w) : Calls Tryd.prog 38 #[.string ⟨s.toArray⟩] w (NpPost s w) := by
 refine calls_fr Tryd.func38 rfl 73 rfl (fun a0 hsz hdf hAr => ?_)
 have hz0 : a0.tmps.size = 73 := hsz
 have D := hdf
 have o0 := hAr 0 _ rfl
 refine wp_seq (sps_r0 w [] (Held.start w) hz0 (fun a1 w1 hs1 o3 h1 => ?_))
 have hz1 := hs1.size.trans hz0; have o0 := hs1.k o0; have D := hs1.defers.trans D
 obtain ⟨g2, o2, S⟩ := h1
 have hfail : ∀ (a : Act) (W : World) (L : List Res), a.tmps.size = 73 → a.defers = [] → Sl a 2 (.pointer (some ⟨g2, 0, none⟩)) → Sl a 3 (.int .i64 (381 : Int)) → Held w W (blkR g2 36 zeroN :: L) → noteP s = none → bodyPost Tryd.prog Tryd.f38 (NpPost s w) .ret a W := by
  intro a W L hs hd o2 o3 S hN
  refine (bodyPost_ret (results_cell_tmp (by rfl) (o2.eval (by rw [hs]; decide)) (S.at_ (l1 := [])) Tryd.underlying36 rfl (by rw [show zeroN.size = 34 from rfl]; exact Tryd.infoNote)) hd ⟨.slice none 0 0, ?_, by rw [(np_none hN).1]; exact nil_row (Held.of_kp S.k)⟩)
  rw [(np_none hN).1, (np_none hN).2]
  exact congrArg (fun x => Ending.returned (.tuple #[.agg zeroN, x])) (o3.eval (by rw [hs]; decide))
 refine wp_seq (sps_r1 w _ (PVs s).1 (PVs s).2.1 (pvs_len s) (PVs s).2.2 (PEs s) _ S (fun V SV => pparse_any ⟨s.toArray⟩ (by rw [str_size]; exact hs) V (LPw.kp SV.k)) hz1 o0 (fun a2 w2 hs2 o5 o6 h2 => ?_))
 have hz2 := hs2.size.trans hz1; have o0 := hs2.k o0; have o2 := hs2.k o2; have D := hs2.defers.trans D
 obtain ⟨g4, o4, S⟩ := h2
 refine wp_seq (wp_seq (sps_r2 (PEs s) hz2 o6 (fun a3 hs3 o23 => ?_)))
 have hz3 := hs3.size.trans hz2; have o0 := hs3.k o0; have o2 := hs3.k o2; have o4 := hs3.k o4; have o5 := hs3.k o5; have o6 := hs3.k o6; have D := hs3.defers.trans D
 cases hP : PT s with
 | none =>
  refine wp_cond_true ((o23.eval (by rw [hz3]; decide)).trans (by rw [(PVs_none hP).2]; rfl)) ?_
  have S := S.pull 1 rfl
  refine wp_seq (sps_r3 w g2 _ S hz3 o2 (fun a4 w4 hs4 o3 S => ?_))
  have hz4 := hs4.size.trans hz3; have o0 := hs4.k o0; have o2 := hs4.k o2; have o4 := hs4.k o4; have o5 := hs4.k o5; have o6 := hs4.k o6; have o23 := hs4.k o23; have D := hs4.defers.trans D
  refine wp_ret ?_
  simp only [Exit.then]
  exact hfail a4 w4 _ hz4 D o2 o3 S (pt_none hP)
 | some q =>
  obtain ⟨n, h, r0⟩ := q
  obtain ⟨hPT, hnb, hh⟩ := PT_form hP
  rw [(PVs_some hP).1] at S o5
  simp only at S o5
  refine wp_cond_false ((o23.eval (by rw [hz3]; decide)).trans (by rw [(PVs_some hP).2]; rfl)) (wp_skip ?_)
  simp only [Exit.then]
  have hrl : r0.length ≤ s.length := by rw [hPT, List.length_append]; omega
  refine wp_seq (sps_r4 w g4 _ h hh _ S hz3 o4 (fun a4 w4 hs4 h4 => ?_))
  have hz4 := hs4.size.trans hz3; have o2 := hs4.k o2; have o4 := hs4.k o4; have o5 := hs4.k o5; have D := hs4.defers.trans D
  obtain ⟨g7, o7, S⟩ := h4
  have S := nil_row ((S.pull 1 rfl).drop)
  refine wp_seq (wp_block ?_)
  (conv => arg 2; whnf)
  refine wp_loop (fun a' w' => ∃ (l : List SigD) (A : Option Addr) (c : Nat) (r : List UInt8), PT s = some (n, h, flat l ++ r) ∧ (∀ x, x ∈ l → Cln x) ∧ SgOk l ∧ r.length ≤ s.length ∧ l.length ≤ 64 ∧ a'.tmps.size = 73 ∧ a'.defers = [] ∧ Sl a' 2 (.pointer (some ⟨g2, 0, none⟩)) ∧ Sl a' 5 (.string ⟨r.toArray⟩) ∧ Sl a' 7 (.pointer (some ⟨g7, 0, none⟩)) ∧ Held w w' [rowR 81 33 (.slice A l.length c) l.length (sgsC l), blkR g7 36 (ntA (n : Int) h (.slice A l.length c)), blkR g2 36 zeroN]) (fun a' _ => strLen (a'.eval (.tmp 5))) ⟨[], none, 0, r0, by rw [flat_nil, List.nil_append]; exact hP, fun x hx => (by cases hx), fun x hx => (by cases hx), hrl, by simp, hz4, D, o2, o5, o7, S.some_of (List.Sublist.cons_cons _ (List.Sublist.cons_cons _ (List.Sublist.cons_cons _ (List.nil_sublist _))))⟩ ?_
  iterate 9 (try clear o2)
  iterate 9 (try clear o5)
  iterate 9 (try clear o7)
  iterate 9 (try clear S)
  iterate 9 (try clear D)
  rintro a5 w5 ⟨l, A, c, r, hPr, hcl, hok, hrl, h64, hz5, D, o2, o5, o7, S⟩
  have e5 := o5.eval (by rw [hz5]; decide)
  refine wp_seq (wp_seq (sps_r5 r hz5 o5 (fun a6 hs6 o28 => ?_)))
  have hz6 := hs6.size.trans hz5; have o2 := hs6.k o2; have o5 := hs6.k o5; have o7 := hs6.k o7; have D := hs6.defers.trans D
  by_cases hr : r = []
  · subst hr
    refine wp_cond_false ((o28.eval (by rw [hz6]; decide)).trans rfl) (wp_exit ?_)
    simp only [Exit.then, Exit.inBlock]
    rw [List.append_nil] at hPr
    have S := S.pull 1 rfl
    refine wp_seq (wp_seq (sps_r13 w g7 _ (ntA_size hh) (chkN n l) _ S (fun V SV => scheck_any n (by omega) h hh l hok (by omega) A c V (LPw.kp SV.k).toLD (Rd.of_own (SV.at_ (l1 := [_])))) hz6 o7 (fun a7 w7 hs7 o70 S => ?_)))
    have hz7 := hs7.size.trans hz6; have o2 := hs7.k o2; have o5 := hs7.k o5; have o7 := hs7.k o7; have o28 := hs7.k o28; have D := hs7.defers.trans D
    cases hm : mayN n l
    · have S := S.pull 2 rfl
      refine wp_cond_true ((o70.eval (by rw [hz7]; decide)).trans (by unfold chkN; rw [hm]; rfl)) ?_
      refine wp_seq (sps_r14 w g2 _ S hz7 o2 (fun a8 w8 hs8 o3 S => ?_))
      have hz8 := hs8.size.trans hz7; have o2 := hs8.k o2; have o5 := hs8.k o5; have o7 := hs8.k o7; have o28 := hs8.k o28; have o70 := hs8.k o70; have D := hs8.defers.trans D
      refine wp_ret ?_
      simp only [Exit.then]
      exact hfail a8 w8 _ hz8 D o2 o3 S (end_none (by rw [Int.toNat_natCast]; exact hPr) (by omega) hcl hm)
    · have S := S.pull 2 rfl
      refine wp_cond_false ((o70.eval (by rw [hz7]; decide)).trans (by unfold chkN; rw [hm]; rfl)) (wp_skip ?_)
      simp only [Exit.then]
      have hI : IsNote s n h l := by
       obtain ⟨q1, q2, q3⟩ := PT_form hPr
       exact ⟨by rw [Int.toNat_natCast]; exact q1, hm, hh, by omega, fun x hx => (hok x hx).1⟩
      refine wp_seq (sps_r15 w g7 g2 _ (ntA_size hh) (ntA_one rfl) _ S hz7 o2 o7 (fun a8 w8 hs8 o3 S => ?_))
      have hz8 := hs8.size.trans hz7; have o2 := hs8.k o2; have o5 := hs8.k o5; have o7 := hs8.k o7; have o28 := hs8.k o28; have o70 := hs8.k o70; have D := hs8.defers.trans D
      refine wp_ret ?_
      have hN := np_some hI
      refine (bodyPost_ret (results_cell_tmp (by rfl) (o2.eval (by rw [hz8]; decide)) (S.at_ (l1 := [])) Tryd.underlying36 rfl (by rw [ntA_size hh]; exact Tryd.infoNote)) D ⟨.slice A l.length c, ?_, ?_⟩)
      · rw [hN.1, hN.2]
        exact congrArg (fun q => Ending.returned (.tuple #[.agg _, q])) (o3.eval (by rw [hz8]; decide))
      · rw [hN.1]
        exact S.some_of (List.singleton_sublist.2 (by simp))
  · have hr0 : r.isEmpty = false := by cases r with
     | nil => exact absurd rfl hr
     | cons _ _ => rfl
    refine wp_cond_true ((o28.eval (by rw [hz6]; decide)).trans (by rw [hr0]; rfl)) (wp_skip ?_)
    simp only [Exit.then]
    refine wp_block ?_
    have c1 := cut1_any ⟨r.toArray⟩ (by rw [str_size]; omega) 10
    have hl1 : (ct 10 r).1.length ≤ r.length := by
     unfold ct
     split
     · rw [List.length_take]; omega
     · exact Nat.le_refl _
    refine wp_seq (sps_r6 w _ _ _ _ _ S (fun V => c1 V) hz6 o5 (fun a7 w7 hs7 o8 o9 o10 S => ?_))
    have hz7 := hs7.size.trans hz6; have o2 := hs7.k o2; have o5 := hs7.k o5; have o7 := hs7.k o7; have o28 := hs7.k o28; have D := hs7.defers.trans D
    have c2 := cut1_any ⟨(ct 10 r).1.toArray⟩ (by rw [str_size]; omega) 32
    refine wp_seq (sps_r7 w _ _ _ _ _ S (fun V => c2 V) hz7 o8 (fun a8 w8 hs8 o11 o12 o13 S => ?_))
    have hz8 := hs8.size.trans hz7; have o2 := hs8.k o2; have o5 := hs8.k o5; have o7 := hs8.k o7; have o28 := hs8.k o28; have o8 := hs8.k o8; have o9 := hs8.k o9; have o10 := hs8.k o10; have D := hs8.defers.trans D
    refine wp_seq (sps_r8 w _ (UH (ct 32 (ct 10 r).1).2.1).1 (UH_len _) (UH (ct 32 (ct 10 r).1).2.1).2 _ S (fun V => unhex_any ⟨(ct 32 (ct 10 r).1).2.1.toArray⟩ V) hz8 o12 (fun a9 w9 hs9 o15 h9 => ?_))
    have hz9 := hs9.size.trans hz8; have o2 := hs9.k o2; have o5 := hs9.k o5; have o7 := hs9.k o7; have o28 := hs9.k o28; have o8 := hs9.k o8; have o9 := hs9.k o9; have o10 := hs9.k o10; have o11 := hs9.k o11; have o12 := hs9.k o12; have o13 := hs9.k o13; have D := hs9.defers.trans D
    obtain ⟨gh, o14, S⟩ := h9
    have o10 : Sl a9 10 (.bool (ct 10 r).2.2) := o10
    have o11 : Sl a9 11 (.string ⟨(lnS r).1.toArray⟩) := o11
    have S : Held w w9 (blkR gh 25 (hashA (lnS r).2) :: [rowR 81 33 (.slice A l.length c) l.length (sgsC l), blkR g7 36 (ntA (n : Int) h (.slice A l.length c)), blkR g2 36 zeroN]) := S
    have hlb : lnB r = ((ct 10 r).2.2 && (UH (ct 32 (ct 10 r).1).2.1).2) := rfl
    have hu32 : (lnS r).2.length = 32 := UH_len _
    cases hw : (ct 10 r).2.2
    · rw [hw] at o10 hlb
      refine wp_seq (wp_seq (sps_r9N hz9 o10 (fun a10 w10 hs10 k10 o57 => ?_)))
      have hz10 := hs10.size.trans hz9; have o2 := hs10.k o2; have o5 := hs10.k o5; have o7 := hs10.k o7; have o28 := hs10.k o28; have o8 := hs10.k o8; have o9 := hs10.k o9; have o10 := hs10.k o10; have o11 := hs10.k o11; have o12 := hs10.k o12; have o13 := hs10.k o13; have o15 := hs10.k o15; have o14 := hs10.k o14; have D := hs10.defers.trans D
      have S := ((S.kp k10).pull 3 rfl)
      refine wp_cond_true (o57.eval (by rw [hz10]; decide)) ?_
      refine wp_seq (sps_r10 w g2 _ S hz10 o2 (fun a11 w11 hs11 o3 S => ?_))
      have hz11 := hs11.size.trans hz10; have o2 := hs11.k o2; have o5 := hs11.k o5; have o7 := hs11.k o7; have o28 := hs11.k o28; have o8 := hs11.k o8; have o9 := hs11.k o9; have o10 := hs11.k o10; have o11 := hs11.k o11; have o12 := hs11.k o12; have o13 := hs11.k o13; have o15 := hs11.k o15; have o14 := hs11.k o14; have o57 := hs11.k o57; have D := hs11.defers.trans D
      refine wp_ret ?_
      simp only [Exit.then, Exit.inBlock]
      exact hfail a11 w11 _ hz11 D o2 o3 S (step_none (by rw [Int.toNat_natCast]; exact hPr) hcl hr (.inl (by rw [hlb]; rfl)))
    cases ho : (UH (ct 32 (ct 10 r).1).2.1).2
    · rw [hw] at o10 hlb
      rw [ho] at o15 hlb
      refine wp_seq (wp_seq (sps_r9M hz9 o10 o15 (fun a10 w10 hs10 k10 o57 => ?_)))
      have hz10 := hs10.size.trans hz9; have o2 := hs10.k o2; have o5 := hs10.k o5; have o7 := hs10.k o7; have o28 := hs10.k o28; have o8 := hs10.k o8; have o9 := hs10.k o9; have o10 := hs10.k o10; have o11 := hs10.k o11; have o12 := hs10.k o12; have o13 := hs10.k o13; have o15 := hs10.k o15; have o14 := hs10.k o14; have D := hs10.defers.trans D
      have S := ((S.kp k10).pull 3 rfl)
      refine wp_cond_true (o57.eval (by rw [hz10]; decide)) ?_
      refine wp_seq (sps_r10 w g2 _ S hz10 o2 (fun a11 w11 hs11 o3 S => ?_))
      have hz11 := hs11.size.trans hz10; have o2 := hs11.k o2; have o5 := hs11.k o5; have o7 := hs11.k o7; have o28 := hs11.k o28; have o8 := hs11.k o8; have o9 := hs11.k o9; have o10 := hs11.k o10; have o11 := hs11.k o11; have o12 := hs11.k o12; have o13 := hs11.k o13; have o15 := hs11.k o15; have o14 := hs11.k o14; have o57 := hs11.k o57; have D := hs11.defers.trans D
      refine wp_ret ?_
      simp only [Exit.then, Exit.inBlock]
      exact hfail a11 w11 _ hz11 D o2 o3 S (step_none (by rw [Int.toNat_natCast]; exact hPr) hcl hr (.inl (by rw [hlb]; rfl)))
    rw [hw] at o10 hlb
    rw [ho] at o15 hlb
    have hlb : lnB r = true := hlb
    refine wp_seq (wp_seq (sps_r9Y _ h hh A l.length c g7 (S.at_ (l1 := [_, _])) hz9 o7 o10 o15 (fun a10 w10 hs10 k10 o57 => ?_)))
    have hz10 := hs10.size.trans hz9; have o2 := hs10.k o2; have o5 := hs10.k o5; have o7 := hs10.k o7; have o28 := hs10.k o28; have o8 := hs10.k o8; have o9 := hs10.k o9; have o10 := hs10.k o10; have o11 := hs10.k o11; have o12 := hs10.k o12; have o13 := hs10.k o13; have o15 := hs10.k o15; have o14 := hs10.k o14; have D := hs10.defers.trans D
    by_cases h6 : l.length = 64
    · have S := ((S.kp k10).pull 3 rfl)
      refine wp_cond_true ((o57.eval (by rw [hz10]; decide)).trans (by rw [decide_eq_true h6])) ?_
      refine wp_seq (sps_r10 w g2 _ S hz10 o2 (fun a11 w11 hs11 o3 S => ?_))
      have hz11 := hs11.size.trans hz10; have o2 := hs11.k o2; have o5 := hs11.k o5; have o7 := hs11.k o7; have o28 := hs11.k o28; have o8 := hs11.k o8; have o9 := hs11.k o9; have o10 := hs11.k o10; have o11 := hs11.k o11; have o12 := hs11.k o12; have o13 := hs11.k o13; have o15 := hs11.k o15; have o14 := hs11.k o14; have o57 := hs11.k o57; have D := hs11.defers.trans D
      refine wp_ret ?_
      simp only [Exit.then, Exit.inBlock]
      exact hfail a11 w11 _ hz11 D o2 o3 S (step_none (by rw [Int.toNat_natCast]; exact hPr) hcl hr (.inr h6))
    refine wp_cond_false ((o57.eval (by rw [hz10]; decide)).trans (by rw [decide_eq_false h6])) (wp_skip ?_)
    simp only [Exit.then]
    have S := ((S.kp k10).pull 2 rfl).pull 2 rfl
    refine wp_seq (sps_r11 w _ h hh A l.length c (by omega) (sgsC l) g7 gh ⟨(lnS r).1.toArray⟩ (lnS r) hu32 rfl _ S hz10 o7 o11 o14 (fun a11 w11 hs11 h11 => ?_))
    have hz11 := hs11.size.trans hz10; have o2 := hs11.k o2; have o5 := hs11.k o5; have o7 := hs11.k o7; have o28 := hs11.k o28; have o8 := hs11.k o8; have o9 := hs11.k o9; have o10 := hs11.k o10; have o11 := hs11.k o11; have o12 := hs11.k o12; have o13 := hs11.k o13; have o15 := hs11.k o15; have o14 := hs11.k o14; have o57 := hs11.k o57; have D := hs11.defers.trans D
    obtain ⟨A2, c2, S⟩ := h11
    refine sps_r12 _ hz11 o9 (fun a12 hs12 o5 => ?_)
    have hz12 := hs12.size.trans hz11; have o2 := hs12.k o2; have o7 := hs12.k o7; have o28 := hs12.k o28; have o8 := hs12.k o8; have o9 := hs12.k o9; have o10 := hs12.k o10; have o11 := hs12.k o11; have o12 := hs12.k o12; have o13 := hs12.k o13; have o15 := hs12.k o15; have o14 := hs12.k o14; have o57 := hs12.k o57; have D := hs12.defers.trans D
    obtain ⟨hf, hcn⟩ := lnB_form hlb
    have hlen : r.length = (lineN (lnS r)).length + (ct 10 r).2.1.length := by conv => lhs; rw [hf, List.length_append]
    have hpos : 0 < (lineN (lnS r)).length := by unfold lineN; rw [List.length_append, List.length_cons]; omega
    have S : Held w w11 (rowR 81 33 (.slice A2 (l ++ [lnS r]).length c2) (l ++ [lnS r]).length (sgsC (l ++ [lnS r])) :: blkR g7 36 (ntA (n : Int) h (.slice A2 (l ++ [lnS r]).length c2)) :: blkR gh 25 (hashA (lnS r).2) :: [blkR g2 36 zeroN]) := by
     rw [List.length_append, sgsC_append, show sgsC [lnS r] = (sgA (lnS r)).toList from by simp [sgsC, sgA]]
     exact S
    simp only [Exit.inBlock, Exit.then]
    refine ⟨⟨l ++ [lnS r], A2, c2, (ct 10 r).2.1, ?_, ?_, ?_, by omega, by rw [List.length_append, List.length_singleton]; omega, hz12, D, o2, o5, o7, S.some_of (List.Sublist.cons_cons _ (List.Sublist.cons_cons _ (List.Sublist.cons _ (List.Sublist.refl _))))⟩, ?_⟩
    · rw [flat_append, flat_cons, flat_nil, List.append_nil, List.append_assoc, ← hf]
      exact hPr
    · intro x hx
      rcases List.mem_append.1 hx with hx | hx
      · exact hcl x hx
      · rw [List.mem_singleton.1 hx]; exact hcn
    · intro x hx
      rcases List.mem_append.1 hx with hx | hx
      · exact hok x hx
      · rw [List.mem_singleton.1 hx]
        refine ⟨hu32, ?_⟩
        have h1 : (lineN (lnS r)).length ≤ r.length := by omega
        have h2 : (lnS r).1.length ≤ (lineN (lnS r)).length := by unfold lineN; rw [List.length_append]; omega
        omega
    · show strLen _ < strLen _
      rw [e5, o5.eval (by rw [hz12]; decide)]
      show (ByteArray.mk _).size < (ByteArray.mk _).size
      rw [str_size, str_size]
      show (ct 10 r).2.1.length < r.length
      omega
theorem idx_first {c : UInt8} : ∀ {l : List UInt8} {p : Nat}, c ∉ l.take p → l[p]? = some c → l.idxOf c = p
 | x :: l, 0, _, h => by
  rw [List.getElem?_cons_zero] at h
  cases h
  simp
 | x :: l, p + 1, hn, h => by
  rw [List.take_succ_cons] at hn
  rw [List.getElem?_cons_succ] at h
  rw [idxOf_ne _ (fun e => hn (by simp [e])), idx_first (fun m => hn (by simp [m])) h]
theorem srparse_any (s : List UInt8) (hs : s.length ≤ 140737488355328) (w : World) : Calls Tryd.prog 39 #[.string ⟨s.toArray⟩] w (NpPost s w) := by
 refine calls_fr Tryd.func39 rfl 93 rfl (fun a0 hsz hdf hAr => ?_)
 have hz0 : a0.tmps.size = 93 := hsz
 have D := hdf
 have o0 := hAr 0 _ rfl
 refine wp_seq (rps_r0 w [] (Held.start w) hz0 (fun a1 w1 hs1 o3 h1 => ?_))
 have hz1 := hs1.size.trans hz0; have o0 := hs1.k o0; have D := hs1.defers.trans D
 obtain ⟨g2, o2, S⟩ := h1
 have hfail : ∀ (a : Act) (W : World) (L : List Res), a.tmps.size = 93 → a.defers = [] → Sl a 2 (.pointer (some ⟨g2, 0, none⟩)) → Sl a 3 (.int .i64 (381 : Int)) → Held w W (blkR g2 36 zeroN :: L) → noteP s = none → bodyPost Tryd.prog Tryd.f39 (NpPost s w) .ret a W := by
  intro a W L hs hd o2 o3 S hN
  refine (bodyPost_ret (results_cell_tmp (by rfl) (o2.eval (by rw [hs]; decide)) (S.at_ (l1 := [])) Tryd.underlying36 rfl (by rw [show zeroN.size = 34 from rfl]; exact Tryd.infoNote)) hd ⟨.slice none 0 0, ?_, by rw [(np_none hN).1]; exact nil_row (Held.of_kp S.k)⟩)
  rw [(np_none hN).1, (np_none hN).2]
  exact congrArg (fun x => Ending.returned (.tuple #[.agg zeroN, x])) (o3.eval (by rw [hs]; decide))
 refine wp_seq (rps_r1 w _ (PVs s).1 (PVs s).2.1 (pvs_len s) (PVs s).2.2 (PEs s) _ S (fun V SV => rparse_any ⟨s.toArray⟩ (by rw [str_size]; exact hs) V) hz1 o0 (fun a2 w2 hs2 o5 o6 h2 => ?_))
 have hz2 := hs2.size.trans hz1; have o0 := hs2.k o0; have o2 := hs2.k o2; have D := hs2.defers.trans D
 obtain ⟨g4, o4, S⟩ := h2
 refine wp_seq (wp_seq (rps_r2 (PEs s) hz2 o6 (fun a3 hs3 o21 => ?_)))
 have hz3 := hs3.size.trans hz2; have o0 := hs3.k o0; have o2 := hs3.k o2; have o4 := hs3.k o4; have o5 := hs3.k o5; have o6 := hs3.k o6; have D := hs3.defers.trans D
 cases hP : PT s with
 | none =>
  refine wp_cond_true ((o21.eval (by rw [hz3]; decide)).trans (by rw [(PVs_none hP).2]; rfl)) ?_
  have S := S.pull 1 rfl
  refine wp_seq (rps_r3 w g2 _ S hz3 o2 (fun a4 w4 hs4 o3 S => ?_))
  have hz4 := hs4.size.trans hz3; have o0 := hs4.k o0; have o2 := hs4.k o2; have o4 := hs4.k o4; have o5 := hs4.k o5; have o6 := hs4.k o6; have o21 := hs4.k o21; have D := hs4.defers.trans D
  refine wp_ret ?_
  simp only [Exit.then]
  exact hfail a4 w4 _ hz4 D o2 o3 S (pt_none hP)
 | some q =>
  obtain ⟨n, h, r0⟩ := q
  obtain ⟨hPT, hnb, hh⟩ := PT_form hP
  rw [(PVs_some hP).1] at S o5
  simp only at S o5
  refine wp_cond_false ((o21.eval (by rw [hz3]; decide)).trans (by rw [(PVs_some hP).2]; rfl)) (wp_skip ?_)
  simp only [Exit.then]
  have hrl : r0.length ≤ s.length := by rw [hPT, List.length_append]; omega
  refine wp_seq (rps_r4 w g4 _ h hh _ S hz3 o4 (fun a4 w4 hs4 h4 => ?_))
  have hz4 := hs4.size.trans hz3; have o0 := hs4.k o0; have o2 := hs4.k o2; have o4 := hs4.k o4; have o5 := hs4.k o5; have D := hs4.defers.trans D
  obtain ⟨g7, o7, S⟩ := h4
  have S := nil_row ((S.pull 1 rfl).drop)
  refine wp_seq (rps_r5 hz4 (fun a5 hs5 o8 => ?_))
  have hz5 := hs5.size.trans hz4; have o0 := hs5.k o0; have o2 := hs5.k o2; have o5 := hs5.k o5; have o7 := hs5.k o7; have D := hs5.defers.trans D
  refine wp_seq (wp_seq (rps_r6 hz5 (fun a6 hs6 o9 => ?_)))
  have hz6 := hs6.size.trans hz5; have o0 := hs6.k o0; have o2 := hs6.k o2; have o5 := hs6.k o5; have o7 := hs6.k o7; have o8 := hs6.k o8; have D := hs6.defers.trans D
  have hend : ∀ (a : Act) (W : World) (l : List SigD) (A : Option Addr) (c f : Nat), Far s r0 l f → SgOk l → l.length ≤ 65 → (l.length = 65 ∨ (10 : UInt8) ∉ r0.drop f) → a.tmps.size = 93 → a.defers = [] → Sl a 0 (.string ⟨s.toArray⟩) → Sl a 2 (.pointer (some ⟨g2, 0, none⟩)) → Sl a 7 (.pointer (some ⟨g7, 0, none⟩)) → Held w W [rowR 81 33 (.slice A l.length c) l.length (sgsC l), blkR g7 36 (ntA (n : Int) h (.slice A l.length c)), blkR g2 36 zeroN] → (tailOf 6 Tryd.f39).wp Tryd.prog (bodyPost Tryd.prog Tryd.f39 (NpPost s w)) a W := by
   intro a W l A c f F hok h65 hdone hz6 D o0 o2 o7 S
   (conv => arg 2; whnf)
   have hPz : PT s = some ((n : Int).toNat, h, r0) := by rw [Int.toNat_natCast]; exact hP
   cases hm : mayN n l
   · skip
     refine wp_seq (wp_seq (rps_r19N n (by omega) h hh A c l hok (by omega) g7 (S.at_ (l1 := [_])) (Rd.of_own (S.at_ (l1 := []))) hm hz6 o7 (fun a7 w7 hs7 k7 o90 => ?_)))
     have hz7 := hs7.size.trans hz6; have o0 := hs7.k o0; have o2 := hs7.k o2; have o7 := hs7.k o7; have D := hs7.defers.trans D
     have S := (S.kp k7).pull 2 rfl
     refine wp_cond_true (o90.eval (by rw [hz7]; decide)) ?_
     refine wp_seq (rps_r20 w g2 _ S hz7 o2 (fun a8 w8 hs8 o3 S => ?_))
     have hz8 := hs8.size.trans hz7; have o0 := hs8.k o0; have o2 := hs8.k o2; have o7 := hs8.k o7; have o90 := hs8.k o90; have D := hs8.defers.trans D
     refine wp_ret ?_
     simp only [Exit.then]
     exact hfail a8 w8 _ hz8 D o2 o3 S (F.done (by omega) hPz hdone (.inl hm))
   · skip
     obtain ⟨-, h64, hris⟩ := mayN_z hm
     have HT := fun (V : World) (kV : Kp [] W V) => rntold_any n (by omega) h hh A c l hok h64 (fun x hx => nmOk_len (rising_nm hris x hx)) V (rd_old (Rd.of_own (S.at_ (l1 := []))) kV)
     cases hb : ((ByteArray.mk (told n h ++ flat l).toArray).toList != (ByteArray.mk s.toArray).toList)
     · skip
       refine wp_seq (wp_seq (rps_r19Y n (by omega) h hh A c l hok (by omega) g7 (S.at_ (l1 := [_])) (Rd.of_own (S.at_ (l1 := []))) hm ⟨(told n h ++ flat l).toArray⟩ ⟨s.toArray⟩ false hb HT hz6 o0 o7 (fun a7 w7 hs7 k7 o90 => ?_)))
       have hz7 := hs7.size.trans hz6; have o0 := hs7.k o0; have o2 := hs7.k o2; have o7 := hs7.k o7; have D := hs7.defers.trans D
       have S := (S.kp k7).pull 2 rfl
       refine wp_cond_false (o90.eval (by rw [hz7]; decide)) (wp_skip ?_)
       simp only [Exit.then]
       have S := (S.pull 2 rfl).pull 1 rfl
       rw [str_list, str_list] at hb
       have hI : IsNote s n h l := ⟨by rw [Int.toNat_natCast]; exact (by simpa using hb : told n h ++ flat l = s).symm, hm, hh, by omega, fun x hx => (hok x hx).1⟩
       refine wp_seq (rps_r21 w g7 g2 _ (ntA_size hh) (ntA_one rfl) _ S hz7 o2 o7 (fun a8 w8 hs8 o3 S => ?_))
       have hz8 := hs8.size.trans hz7; have o0 := hs8.k o0; have o2 := hs8.k o2; have o7 := hs8.k o7; have o90 := hs8.k o90; have D := hs8.defers.trans D
       refine wp_ret ?_
       have hN := np_some hI
       refine (bodyPost_ret (results_cell_tmp (by rfl) (o2.eval (by rw [hz8]; decide)) (S.at_ (l1 := [])) Tryd.underlying36 rfl (by rw [ntA_size hh]; exact Tryd.infoNote)) D ⟨.slice A l.length c, ?_, ?_⟩)
       · rw [hN.1, hN.2]
         exact congrArg (fun q => Ending.returned (.tuple #[.agg _, q])) (o3.eval (by rw [hz8]; decide))
       · rw [hN.1]
         exact S.some_of (List.singleton_sublist.2 (by simp))
     · skip
       refine wp_seq (wp_seq (rps_r19Y n (by omega) h hh A c l hok (by omega) g7 (S.at_ (l1 := [_])) (Rd.of_own (S.at_ (l1 := []))) hm ⟨(told n h ++ flat l).toArray⟩ ⟨s.toArray⟩ true hb HT hz6 o0 o7 (fun a7 w7 hs7 k7 o90 => ?_)))
       have hz7 := hs7.size.trans hz6; have o0 := hs7.k o0; have o2 := hs7.k o2; have o7 := hs7.k o7; have D := hs7.defers.trans D
       have S := (S.kp k7).pull 2 rfl
       refine wp_cond_true (o90.eval (by rw [hz7]; decide)) ?_
       refine wp_seq (rps_r20 w g2 _ S hz7 o2 (fun a8 w8 hs8 o3 S => ?_))
       have hz8 := hs8.size.trans hz7; have o0 := hs8.k o0; have o2 := hs8.k o2; have o7 := hs8.k o7; have o90 := hs8.k o90; have D := hs8.defers.trans D
       rw [str_list, str_list] at hb
       refine wp_ret ?_
       simp only [Exit.then]
       exact hfail a8 w8 _ hz8 D o2 o3 S (F.done (by omega) hPz hdone (.inr (by rw [Int.toNat_natCast]; exact bne_iff_ne.1 hb)))
  refine wp_block ?_
  (conv => arg 2; whnf)
  refine wp_loop (fun a' w' => ∃ (l : List SigD) (A : Option Addr) (c f k : Nat), Far s r0 l f ∧ SgOk l ∧ l.length ≤ 65 ∧ f ≤ k ∧ k ≤ r0.length ∧ (∀ x, x ∈ (r0.take k).drop f → x ≠ 10) ∧ a'.tmps.size = 93 ∧ a'.defers = [] ∧ Sl a' 0 (.string ⟨s.toArray⟩) ∧ Sl a' 2 (.pointer (some ⟨g2, 0, none⟩)) ∧ Sl a' 5 (.string ⟨r0.toArray⟩) ∧ Sl a' 7 (.pointer (some ⟨g7, 0, none⟩)) ∧ Sl a' 8 (.int .i64 ((f : Nat) : Int)) ∧ Sl a' 9 (.int .i64 ((k : Nat) : Int)) ∧ Held w w' [rowR 81 33 (.slice A l.length c) l.length (sgsC l), blkR g7 36 (ntA (n : Int) h (.slice A l.length c)), blkR g2 36 zeroN]) (fun a' _ => r0.length - (intOf (a'.eval (.tmp 9))).toNat) ⟨[], none, 0, 0, 0, Far.start hP, fun x hx => (by cases hx), by simp, Nat.le_refl _, Nat.zero_le _, fun x hx => (by simp at hx), hz6, D, o0, o2, o5, o7, o8, o9, S.some_of (List.Sublist.cons_cons _ (List.Sublist.cons_cons _ (List.Sublist.cons_cons _ (List.nil_sublist _))))⟩ ?_
  iterate 9 (try clear o0)
  iterate 9 (try clear o2)
  iterate 9 (try clear o5)
  iterate 9 (try clear o7)
  iterate 9 (try clear o8)
  iterate 9 (try clear o9)
  iterate 9 (try clear S)
  iterate 9 (try clear D)
  rintro a7 w7 ⟨l, A, c, f, k, F, hok, h65, hfk, hkl, hnl, hz7, D, o0, o2, o5, o7, o8, o9, S⟩
  have e9 := o9.eval (by rw [hz7]; decide)
  by_cases hk : k < r0.length
  · skip
    refine wp_seq (wp_seq (rps_r7Y k _ _ (str_size r0) hk n h hh A l.length c g7 (S.at_ (l1 := [_])) hz7 o5 o7 o9 (fun a8 w8 hs8 k8 o34 => ?_)))
    have hz8 := hs8.size.trans hz7; have o0 := hs8.k o0; have o2 := hs8.k o2; have o5 := hs8.k o5; have o7 := hs8.k o7; have o8 := hs8.k o8; have o9 := hs8.k o9; have D := hs8.defers.trans D
    have S := S.kp k8
    by_cases h6 : l.length ≤ 64
    · refine wp_cond_true ((o34.eval (by rw [hz8]; decide)).trans (by rw [decide_eq_true h6])) (wp_skip ?_)
      simp only [Exit.then]
      have hback : ∀ (a9 : Act) (w9 : World) (l2 : List SigD) (A2 : Option Addr) (c2 f2 : Nat), Far s r0 l2 f2 → SgOk l2 → l2.length ≤ 65 → f2 ≤ k + 1 → (∀ x, x ∈ (r0.take (k + 1)).drop f2 → x ≠ 10) → a9.tmps.size = 93 → a9.defers = [] → Sl a9 0 (.string ⟨s.toArray⟩) → Sl a9 2 (.pointer (some ⟨g2, 0, none⟩)) → Sl a9 5 (.string ⟨r0.toArray⟩) → Sl a9 7 (.pointer (some ⟨g7, 0, none⟩)) → Sl a9 8 (.int .i64 ((f2 : Nat) : Int)) → Sl a9 9 (.int .i64 ((k : Nat) : Int)) → Held w w9 [rowR 81 33 (.slice A2 l2.length c2) l2.length (sgsC l2), blkR g7 36 (ntA (n : Int) h (.slice A2 l2.length c2)), blkR g2 36 zeroN] →
       ∀ R, (Code.region 8 (opsOf 8 Tryd.f39).toArray false).wp Tryd.prog (Exit.then (fun a' w' => (∃ (l : List SigD) (A : Option Addr) (c f k : Nat), Far s r0 l f ∧ SgOk l ∧ l.length ≤ 65 ∧ f ≤ k ∧ k ≤ r0.length ∧ (∀ x, x ∈ (r0.take k).drop f → x ≠ 10) ∧ a'.tmps.size = 93 ∧ a'.defers = [] ∧ Sl a' 0 (.string ⟨s.toArray⟩) ∧ Sl a' 2 (.pointer (some ⟨g2, 0, none⟩)) ∧ Sl a' 5 (.string ⟨r0.toArray⟩) ∧ Sl a' 7 (.pointer (some ⟨g7, 0, none⟩)) ∧ Sl a' 8 (.int .i64 ((f : Nat) : Int)) ∧ Sl a' 9 (.int .i64 ((k : Nat) : Int)) ∧ Held w w' [rowR 81 33 (.slice A l.length c) l.length (sgsC l), blkR g7 36 (ntA (n : Int) h (.slice A l.length c)), blkR g2 36 zeroN]) ∧ r0.length - (intOf (a'.eval (.tmp 9))).toNat < r0.length - (intOf (a7.eval (.tmp 9))).toNat) R) a9 w9 := by
       intro a9 w9 l2 A2 c2 f2 F2 hok2 h652 hf2 hn2 hz9 D o0 o2 o5 o7 o8 o9 S R
       refine rps_r8 k (by omega) hz9 o9 (fun a10 hs10 o9' => ?_)
       have hz10 := hs10.size.trans hz9
       refine ⟨⟨l2, A2, c2, f2, k + 1, F2, hok2, h652, hf2, by omega, hn2, hz10, hs10.defers.trans D, hs10.k o0, hs10.k o2, hs10.k o5, hs10.k o7, hs10.k o8, o9', S⟩, ?_⟩
       rw [e9, o9'.eval (by rw [hz10]; decide)]
       simp only [intOf]; omega
      have hx : r0[k]? = some r0[k] := List.getElem?_eq_getElem hk
      refine wp_seq (wp_block ?_)
      refine wp_seq (wp_seq (rps_r9 k r0 r0[k] hx (((r0[k]).toNat : Int) != 10) rfl hz8 o5 o9 (fun a9 hs9 o40 => ?_)))
      have hz9 := hs9.size.trans hz8; have o0 := hs9.k o0; have o2 := hs9.k o2; have o5 := hs9.k o5; have o7 := hs9.k o7; have o8 := hs9.k o8; have o9 := hs9.k o9; have o34 := hs9.k o34; have D := hs9.defers.trans D
      by_cases h10 : r0[k] = 10
      · skip
        refine wp_cond_false ((o40.eval (by rw [hz9]; decide)).trans (by rw [h10]; rfl)) (wp_skip ?_)
        simp only [Exit.then]
        refine wp_seq (rps_r10 f k _ hfk (by rw [str_size]; omega) _ (ba_cut r0 f k) hz9 o5 o8 o9 (fun a10 hs10 o10 => ?_))
        have hz10 := hs10.size.trans hz9; have o0 := hs10.k o0; have o2 := hs10.k o2; have o5 := hs10.k o5; have o7 := hs10.k o7; have o8 := hs10.k o8; have o9 := hs10.k o9; have o34 := hs10.k o34; have o40 := hs10.k o40; have D := hs10.defers.trans D
        refine wp_seq (rps_r11 k (by omega) hz10 o9 (fun a11 hs11 o8 => ?_))
        have hz11 := hs11.size.trans hz10; have o0 := hs11.k o0; have o2 := hs11.k o2; have o5 := hs11.k o5; have o7 := hs11.k o7; have o9 := hs11.k o9; have o34 := hs11.k o34; have o40 := hs11.k o40; have o10 := hs11.k o10; have D := hs11.defers.trans D
        refine wp_seq (rps_r12 hz11 (fun a12 hs12 o11 => ?_))
        have hz12 := hs12.size.trans hz11; have o0 := hs12.k o0; have o2 := hs12.k o2; have o5 := hs12.k o5; have o7 := hs12.k o7; have o8 := hs12.k o8; have o9 := hs12.k o9; have o34 := hs12.k o34; have o40 := hs12.k o40; have o10 := hs12.k o10; have D := hs12.defers.trans D
        obtain ⟨ln, hln⟩ : ∃ ln, (r0.take k).drop f = ln := ⟨_, rfl⟩
        have hll : ln.length ≤ r0.length := by rw [← hln, List.length_drop, List.length_take]; omega
        obtain ⟨hst1, hst2⟩ := F.step hk hfk hnl h10
        rw [hln] at o10 hst1 hst2
        have S8 := S
        refine wp_seq (wp_block ?_)
        (conv => arg 2; whnf)
        refine wp_loop (fun a' w' => ∃ (p : Nat), p ≤ ln.length ∧ (32 : UInt8) ∉ ln.take p ∧ Kp [] w8 w' ∧ a'.tmps.size = 93 ∧ a'.defers = [] ∧ Sl a' 0 (.string ⟨s.toArray⟩) ∧ Sl a' 2 (.pointer (some ⟨g2, 0, none⟩)) ∧ Sl a' 5 (.string ⟨r0.toArray⟩) ∧ Sl a' 7 (.pointer (some ⟨g7, 0, none⟩)) ∧ Sl a' 8 (.int .i64 ((k + 1 : Nat) : Int)) ∧ Sl a' 9 (.int .i64 ((k : Nat) : Int)) ∧ Sl a' 10 (.string ⟨ln.toArray⟩) ∧ Sl a' 11 (.int .i64 ((p : Nat) : Int))) (fun a' _ => ln.length - (intOf (a'.eval (.tmp 11))).toNat) ⟨0, Nat.zero_le _, by simp, Kp.refl _ _, hz12, D, o0, o2, o5, o7, o8, o9, o10, o11⟩ ?_
        iterate 9 (try clear o0)
        iterate 9 (try clear o2)
        iterate 9 (try clear o5)
        iterate 9 (try clear o7)
        iterate 9 (try clear o8)
        iterate 9 (try clear o9)
        iterate 9 (try clear o10)
        iterate 9 (try clear o11)
        iterate 9 (try clear S)
        iterate 9 (try clear D)
        rintro a13 w13 ⟨p, hp, hnp, kp, hz13, D, o0, o2, o5, o7, o8, o9, o10, o11⟩
        have S := S8.kp kp
        have e11 := o11.eval (by rw [hz13]; decide)
        by_cases hpl : p < ln.length
        · have hxp : ln[p]? = some ln[p] := List.getElem?_eq_getElem hpl
          refine wp_seq (wp_seq (rps_r13Y p ln ln[p] hxp hpl hz13 o10 o11 (fun a14 w14 hs14 k14 o56 => ?_)))
          have hz14 := hs14.size.trans hz13; have o0 := hs14.k o0; have o2 := hs14.k o2; have o5 := hs14.k o5; have o7 := hs14.k o7; have o8 := hs14.k o8; have o9 := hs14.k o9; have o10 := hs14.k o10; have o11 := hs14.k o11; have D := hs14.defers.trans D
          have S := S.kp k14
          by_cases h32 : ln[p] = 32
          · have hidx := idx_first hnp (hxp.trans (congrArg some h32))
            have hmem : (32 : UInt8) ∈ ln := by rw [← h32]; exact List.getElem_mem hpl
            refine wp_cond_false ((o56.eval (by rw [hz14]; decide)).trans (by rw [h32]; rfl)) (wp_exit ?_)
            simp only [Exit.then, Exit.inBlock]
            refine wp_seq (wp_seq (rps_r15 p _ _ (str_size ln) false (beq_false_of_ne (by omega)) hz14 o10 o11 (fun a15 hs15 o62 => ?_)))
            have hz15 := hs15.size.trans hz14; have o0 := hs15.k o0; have o2 := hs15.k o2; have o5 := hs15.k o5; have o7 := hs15.k o7; have o8 := hs15.k o8; have o9 := hs15.k o9; have o10 := hs15.k o10; have o11 := hs15.k o11; have o56 := hs15.k o56; have D := hs15.defers.trans D
            refine wp_cond_false (o62.eval (by rw [hz15]; decide)) (wp_skip ?_)
            simp only [Exit.then]
            refine wp_seq (rps_r17 w _ (UH (ln.drop (p + 1))).1 (UH_len _) (UH (ln.drop (p + 1))).2 _ S (fun V => runhex_any ⟨(ln.drop (p + 1)).toArray⟩ V) ⟨ln.toArray⟩ p (by rw [str_size]; exact hpl) (by rw [str_size]; omega) (ba_from ln (p + 1)) hz15 o10 o11 (fun a16 w16 hs16 o13 h16 => ?_))
            have hz16 := hs16.size.trans hz15; have o0 := hs16.k o0; have o2 := hs16.k o2; have o5 := hs16.k o5; have o7 := hs16.k o7; have o8 := hs16.k o8; have o9 := hs16.k o9; have o10 := hs16.k o10; have o11 := hs16.k o11; have o56 := hs16.k o56; have o62 := hs16.k o62; have D := hs16.defers.trans D
            obtain ⟨gh, o12, S⟩ := h16
            obtain ⟨y, hy⟩ : ∃ y : SigD, (ln.take p, (UH (ln.drop (p + 1))).1) = y := ⟨_, rfl⟩
            have hy1 : y.1 = ln.take p := by rw [← hy]
            have hy2 : y.2 = (UH (ln.drop (p + 1))).1 := by rw [← hy]
            rw [← hy2] at S
            have hyl : y.2.length = 32 := by rw [hy2]; exact UH_len _
            have hF := hst1 p hidx.symm hmem
            rw [hy] at hF
            have S := (S.pull 1 rfl).pull 2 rfl
            refine rps_r18 w n h hh A l.length c (by omega) (sgsC l) g7 gh ⟨ln.toArray⟩ ⟨(ln.take p).toArray⟩ p (by rw [str_size]; omega) (ba_to ln p) y hyl (by rw [← hy1]; rfl) _ hz16 o7 o10 o11 o12 S (fun a17 vs gs w17 hs17 S => ?_)
            have hz17 := hs17.size.trans hz16; have o0 := hs17.k o0; have o2 := hs17.k o2; have o5 := hs17.k o5; have o7 := hs17.k o7; have o8 := hs17.k o8; have o9 := hs17.k o9; have o10 := hs17.k o10; have o11 := hs17.k o11; have o56 := hs17.k o56; have o62 := hs17.k o62; have o13 := hs17.k o13; have o12 := hs17.k o12; have D := hs17.defers.trans D
            obtain ⟨A2, c2, hv8, -, -⟩ := ow_form (show Ow w17 81 33 (vs 8) (l.length + 1) (sgsC l ++ (sgA y).toList) from S.at_ (l1 := [_]))
            rw [hv8] at S
            have S : Held w w17 (blkR (gs 7) 81 (sgA y) :: rowR 81 33 (.slice A2 (l ++ [y]).length c2) (l ++ [y]).length (sgsC (l ++ [y])) :: blkR g7 36 (ntA (n : Int) h (.slice A2 (l ++ [y]).length c2)) :: blkR gh 25 (hashA y.2) :: [blkR g2 36 zeroN]) := by
             rw [List.length_append, sgsC_append, show sgsC [y] = (sgA y).toList from by simp [sgsC, sgA]]
             exact S
            simp only [Exit.inBlock, Exit.then]
            exact hback a17 w17 (l ++ [y]) A2 c2 (k + 1) hF (by
             intro x hx
             rcases List.mem_append.1 hx with hx | hx
             · exact hok x hx
             · rw [List.mem_singleton.1 hx]
               refine ⟨hyl, ?_⟩
               rw [hy1, List.length_take]; omega) (by rw [List.length_append, List.length_singleton]; omega) (Nat.le_refl _) (by
             intro x hx
             rw [List.drop_eq_nil_of_le (by rw [List.length_take]; omega)] at hx
             cases hx) hz17 D o0 o2 o5 o7 o8 o9 (S.some_of (List.Sublist.cons _ (List.Sublist.cons_cons _ (List.Sublist.cons_cons _ (List.Sublist.cons _ (List.Sublist.refl _)))))) _
          · refine wp_cond_true ((o56.eval (by rw [hz14]; decide)).trans (by rw [bne_iff_ne.2 (fun e => h32 (UInt8.toNat_inj.1 (by simpa using (by omega : (ln[p]).toNat = 32))))])) (wp_skip ?_)
            simp only [Exit.then]
            refine wp_block ?_
            refine rps_r14 p (by omega) hz14 o11 (fun a15 hs15 o11 => ?_)
            have hz15 := hs15.size.trans hz14; have o0 := hs15.k o0; have o2 := hs15.k o2; have o5 := hs15.k o5; have o7 := hs15.k o7; have o8 := hs15.k o8; have o9 := hs15.k o9; have o10 := hs15.k o10; have o56 := hs15.k o56; have D := hs15.defers.trans D
            simp only [Exit.inBlock, Exit.then]
            refine ⟨⟨p + 1, hpl, ?_, kp.trans k14 (by simp), hz15, D, o0, o2, o5, o7, o8, o9, o10, o11⟩, ?_⟩
            · rw [List.take_add_one, hxp]
              intro m
              rcases List.mem_append.1 m with m | m
              · exact hnp m
              · simp only [Option.toList_some, List.mem_singleton] at m
                exact h32 m.symm
            · show ln.length - (intOf _).toNat < ln.length - (intOf _).toNat
              rw [e11, o11.eval (by rw [hz15]; decide)]
              simp only [intOf]; omega
        · obtain rfl : p = ln.length := by omega
          rw [List.take_length] at hnp
          refine wp_seq (wp_seq (rps_r13N _ _ _ (str_size ln) hpl hz13 o10 o11 (fun a14 w14 hs14 k14 o56 => ?_)))
          have hz14 := hs14.size.trans hz13; have o0 := hs14.k o0; have o2 := hs14.k o2; have o5 := hs14.k o5; have o7 := hs14.k o7; have o8 := hs14.k o8; have o9 := hs14.k o9; have o10 := hs14.k o10; have o11 := hs14.k o11; have D := hs14.defers.trans D
          have S := (S.kp k14).pull 2 rfl
          refine wp_cond_false (o56.eval (by rw [hz14]; decide)) (wp_exit ?_)
          simp only [Exit.then, Exit.inBlock]
          refine wp_seq (wp_seq (rps_r15 _ _ _ (str_size ln) true (beq_self_eq_true _) hz14 o10 o11 (fun a15 hs15 o62 => ?_)))
          have hz15 := hs15.size.trans hz14; have o0 := hs15.k o0; have o2 := hs15.k o2; have o5 := hs15.k o5; have o7 := hs15.k o7; have o8 := hs15.k o8; have o9 := hs15.k o9; have o10 := hs15.k o10; have o11 := hs15.k o11; have o56 := hs15.k o56; have D := hs15.defers.trans D
          refine wp_cond_true (o62.eval (by rw [hz15]; decide)) ?_
          refine wp_seq (rps_r16 w g2 _ S hz15 o2 (fun a16 w16 hs16 o3 S => ?_))
          have hz16 := hs16.size.trans hz15; have o0 := hs16.k o0; have o2 := hs16.k o2; have o5 := hs16.k o5; have o7 := hs16.k o7; have o8 := hs16.k o8; have o9 := hs16.k o9; have o10 := hs16.k o10; have o11 := hs16.k o11; have o56 := hs16.k o56; have o62 := hs16.k o62; have D := hs16.defers.trans D
          refine wp_ret ?_
          simp only [Exit.then, Exit.inBlock]
          exact hfail a16 w16 _ hz16 D o2 o3 S (hst2 hnp)
      · skip
        refine wp_cond_true ((o40.eval (by rw [hz9]; decide)).trans (by rw [bne_iff_ne.2 (fun e => h10 (UInt8.toNat_inj.1 (by simpa using (by omega : (r0[k]).toNat = 10))))])) (wp_exit ?_)
        simp only [Exit.inBlock, Exit.then]
        exact hback a9 _ l A c f F hok h65 (by omega) (by
         intro x hx1
         rw [List.take_add_one, hx, List.drop_append] at hx1
         rcases List.mem_append.1 hx1 with hx1 | hx1
         · exact hnl x hx1
         · have := List.mem_of_mem_drop hx1
           simp only [Option.toList_some, List.mem_singleton] at this
           rw [this]; exact h10) hz9 D o0 o2 o5 o7 o8 o9 S _
    · refine wp_cond_false ((o34.eval (by rw [hz8]; decide)).trans (by rw [decide_eq_false h6])) (wp_exit ?_)
      simp only [Exit.then, Exit.inBlock]
      exact hend a8 _ l A c f F hok h65 (.inl (by omega)) hz8 D o0 o2 o7 S
  · skip
    refine wp_seq (wp_seq (rps_r7N k _ _ (str_size r0) hk hz7 o5 o9 (fun a8 w8 hs8 k8 o34 => ?_)))
    have hz8 := hs8.size.trans hz7; have o0 := hs8.k o0; have o2 := hs8.k o2; have o5 := hs8.k o5; have o7 := hs8.k o7; have o8 := hs8.k o8; have o9 := hs8.k o9; have D := hs8.defers.trans D
    have S := S.kp k8
    obtain rfl : k = r0.length := by omega
    rw [List.take_length] at hnl
    refine wp_cond_false (o34.eval (by rw [hz8]; decide)) (wp_exit ?_)
    simp only [Exit.then, Exit.inBlock]
    exact hend a8 _ l A c f F hok h65 (.inr (fun m => hnl 10 m rfl)) hz8 D o0 o2 o7 S
end
/- SignTexts: its regions. -/
section
variable {Q : Exit → Act → World → Prop} {a : Act} {w : World}
open Go.RowKit
theorem sgt_r0 (w0 : World) (ca : Array Value) (L : List Res) (S : Held w0 w L) (hsz : a.tmps.size = 101) (o0 : Sl a 0 (.agg ca))
 (hend : ∀ a' W, Same a a' [2, 4] → Sl a' 4 (.bool false) → (∃ g2, Sl a' 2 (.pointer (some ⟨g2, 0, none⟩)) ∧ Held w0 W (blkR g2 36 ca :: L)) → Q .normal a' W) : (Code.region 0 (opsOf 0 Tryd.f8).toArray false).wp Tryd.prog Q a w := by
 refine wp_region_lit ?_
 (conv => arg 4; whnf)
 unfold Sl at o0
 have S1 := Lib.hid (S.newBlk 36 ca)
 go_wp2_with fail
 try simp only [Act.put]
 exact hend _ _ sS sP (⟨_, sP0, S1.out⟩)
theorem sgt_r1 (w0 : World) (z : Int) (h : List UInt8) (hh : h.length = 32) (l : List SigD) (g2 : Nat) (ca : Array Value) (hca : ca.size = 34) (hba : Blk w g2 36 ca) (HC0 : Calls Tryd.prog 18 #[.agg ca] w fun e w' => ∃ gr cr, e = .returned (.agg (ntA z h (.slice (some ⟨gr, 0, none⟩) l.length cr))) ∧ l.length + 1 ≤ cr ∧ Held w w' [rowR 81 33 (.slice (some ⟨gr, 0, none⟩) (l.length + 1) cr) (l.length + 1) (sgsC (l ++ [roomS]))]) (L : List Res) (S : Held w0 w L) (hsz : a.tmps.size = 101) (o2 : Sl a 2 (.pointer (some ⟨g2, 0, none⟩)))
 (hend : ∀ a' W, Same a a' [18, 19, 5] → (∃ g5 gr cr, Sl a' 5 (.pointer (some ⟨g5, 0, none⟩)) ∧ l.length + 1 ≤ cr ∧ Held w0 W (blkR g5 36 (ntA z h (.slice (some ⟨gr, 0, none⟩) l.length cr)) :: rowR 81 33 (.slice (some ⟨gr, 0, none⟩) (l.length + 1) cr) (l.length + 1) (sgsC (l ++ [roomS])) :: L)) → Q .normal a' W) : (Code.region 1 (opsOf 1 Tryd.f8).toArray false).wp Tryd.prog Q a w := by
 refine wp_region_lit ?_
 (conv => arg 4; whnf)
 unfold Sl at o2
 have S := Lib.hid S
 have HC := Lib.hid HC0
 have HBa := Lib.hid hba
 have hza := Lib.hid hca
 clear hba hca HC0
 go_wp2_with (refine wpList_load_blk rfl 36 (.tmp 2) rfl g2 (by simp [Act.eval, Act.put, hsz, o2]) 36 _ HBa.out _ Tryd.underlying36 rfl (by rw [hza.out]; exact Tryd.infoNote) ?_)
 refine HC.out.mono ?_
 rintro e w1 ⟨gr, cr, rfl, hcr, H1⟩
 have hcr := Lib.hid hcr
 have HO : Hid (∀ u, u ∈ (ntA z h (.slice (some ⟨gr, 0, none⟩) l.length cr)).toList → u.oneCell' = true) := Lib.hid (ntA_one rfl)
 have hz2 : Hid ((ntA z h (.slice (some ⟨gr, 0, none⟩) l.length cr)).size = 34) := Lib.hid (ntA_size hh)
 have S1 := Lib.hid (((S.out.join H1).perm (List.perm_append_singleton _ _)).newBlk 36 zeroN)
 clear H1
 obtain ⟨cn, hcn⟩ : ∃ cn, ntA z h (.slice (some ⟨gr, 0, none⟩) l.length cr) = cn := ⟨_, rfl⟩
 rw [hcn] at HO hz2 ⊢
 have hcn := Lib.hid hcn
 go_wp2_with (refine wpList_store_blk rfl 36 (.tmp 5) (.tmp 19) rfl w1.heap.size (by simp [Act.eval, Act.put, hsz]) cn (by simp [Act.eval, Act.put, hsz]) 36 _ (S1.out.at_ (l1 := [])) (by rw [hz2.out]; exact Tryd.infoNote) (by rw [hz2.out]; rfl) HO.out ?_; intro w7 b7 k7; have S7 := Lib.hid (Held.setBlk (l1 := []) S1.out b7 k7); clear b7 k7)
 try simp only [Act.put]
 exact hend _ _ sS (⟨w1.heap.size, gr, cr, sP0, hcr.out, (by rw [hcn.out]; exact S7.out)⟩)
theorem sgt_r2 (w0 : World) (ga : Nat) (ca : Array Value) (hca : ca.size = 34) (hba : Blk w ga 36 ca) (t : ByteArray) (E : Int) (HC0 : Calls Tryd.prog 34 #[.agg ca] w fun e w' => e = .returned (.tuple #[.string t, .int .i64 E]) ∧ Kp [] w w') (L : List Res) (S : Held w0 w L) (hsz : a.tmps.size = 101) (o5 : Sl a 5 (.pointer (some ⟨ga, 0, none⟩)))
 (hend : ∀ a' W, Same a a' [21, 22, 20, 23, 24, 6, 7] → Sl a' 6 (.string t) → Sl a' 7 (.int .i64 E) → (Held w0 W L) → Q .normal a' W) : (Code.region 2 (opsOf 2 Tryd.f8).toArray false).wp Tryd.prog Q a w := by
 refine wp_region_lit ?_
 (conv => arg 4; whnf)
 unfold Sl at o5
 have S := Lib.hid S
 have HC := Lib.hid HC0
 have HBa := Lib.hid hba
 have hza := Lib.hid hca
 clear hba hca HC0
 go_wp2_with (refine wpList_load_blk rfl 36 (.tmp 5) rfl ga (by simp [Act.eval, Act.put, hsz, o5]) 36 _ HBa.out _ Tryd.underlying36 rfl (by rw [hza.out]; exact Tryd.infoNote) ?_)
 refine HC.out.mono ?_
 rintro e w1 ⟨rfl, k1⟩
 have S1 := Lib.hid (S.out.kp k1)
 clear k1
 go_wp2_with fail
 try simp only [Act.put]
 exact hend _ _ sS sP sP (S1.out)
theorem sgt_r3 (w0 : World) (ga : Nat) (ca : Array Value) (hca : ca.size = 34) (hba : Blk w ga 36 ca) (t : ByteArray) (E : Int) (HC0 : Calls Tryd.prog 37 #[.agg ca] w fun e w' => e = .returned (.tuple #[.string t, .int .i64 E]) ∧ Kp [] w w') (L : List Res) (S : Held w0 w L) (hsz : a.tmps.size = 101) (o2 : Sl a 2 (.pointer (some ⟨ga, 0, none⟩)))
 (hend : ∀ a' W, Same a a' [26, 27, 25, 28, 29, 8, 9] → Sl a' 8 (.string t) → Sl a' 9 (.int .i64 E) → (Held w0 W L) → Q .normal a' W) : (Code.region 3 (opsOf 3 Tryd.f8).toArray false).wp Tryd.prog Q a w := by
 refine wp_region_lit ?_
 (conv => arg 4; whnf)
 unfold Sl at o2
 have S := Lib.hid S
 have HC := Lib.hid HC0
 have HBa := Lib.hid hba
 have hza := Lib.hid hca
 clear hba hca HC0
 go_wp2_with (refine wpList_load_blk rfl 36 (.tmp 2) rfl ga (by simp [Act.eval, Act.put, hsz, o2]) 36 _ HBa.out _ Tryd.underlying36 rfl (by rw [hza.out]; exact Tryd.infoNote) ?_)
 refine HC.out.mono ?_
 rintro e w1 ⟨rfl, k1⟩
 have S1 := Lib.hid (S.out.kp k1)
 clear k1
 go_wp2_with fail
 try simp only [Act.put]
 exact hend _ _ sS sP sP (S1.out)
theorem sgt_r9 (w0 : World) (ga : Nat) (ca : Array Value) (hca : ca.size = 34) (hba : Blk w ga 36 ca) (t : ByteArray) (E : Int) (HC0 : Calls Tryd.prog 34 #[.agg ca] w fun e w' => e = .returned (.tuple #[.string t, .int .i64 E]) ∧ Kp [] w w') (L : List Res) (S : Held w0 w L) (hsz : a.tmps.size = 101) (o10 : Sl a 10 (.pointer (some ⟨ga, 0, none⟩)))
 (hend : ∀ a' W, Same a a' [70, 71, 69, 72, 73, 14, 15] → Sl a' 14 (.string t) → Sl a' 15 (.int .i64 E) → (Held w0 W L) → Q .normal a' W) : (Code.region 9 (opsOf 9 Tryd.f8).toArray false).wp Tryd.prog Q a w := by
 refine wp_region_lit ?_
 (conv => arg 4; whnf)
 unfold Sl at o10
 have S := Lib.hid S
 have HC := Lib.hid HC0
 have HBa := Lib.hid hba
 have hza := Lib.hid hca
 clear hba hca HC0
 go_wp2_with (refine wpList_load_blk rfl 36 (.tmp 10) rfl ga (by simp [Act.eval, Act.put, hsz, o10]) 36 _ HBa.out _ Tryd.underlying36 rfl (by rw [hza.out]; exact Tryd.infoNote) ?_)
 refine HC.out.mono ?_
 rintro e w1 ⟨rfl, k1⟩
 have S1 := Lib.hid (S.out.kp k1)
 clear k1
 go_wp2_with fail
 try simp only [Act.put]
 exact hend _ _ sS sP sP (S1.out)
theorem sgt_r4 (w0 : World) (t : ByteArray) (Z : Int) (H : List UInt8) (hH : H.length = 32) (n : Nat) (xs : List Value) (E : Int) (HJ : Calls Tryd.prog 38 #[.string t] w fun r w' => ∃ v, r = .returned (.tuple #[.agg (ntA Z H v), .int .i64 E]) ∧ Held w w' [rowR 81 33 v n xs]) (L : List Res) (S : Held w0 w L) (hsz : a.tmps.size = 101) (o1 : Sl a 1 (.string t))
 (hend : ∀ a' W, Same a a' [31, 32, 30, 33, 34, 10, 11] → Sl a' 11 (.int .i64 E) → (∃ g v, Sl a' 10 (.pointer (some ⟨g, 0, none⟩)) ∧ Held w0 W (blkR g 36 (ntA Z H v) :: rowR 81 33 v n xs :: L)) → Q .normal a' W) : (Code.region 4 (opsOf 4 Tryd.f8).toArray false).wp Tryd.prog Q a w := by
 refine wp_region_lit ?_
 (conv => arg 4; whnf)
 unfold Sl at o1
 have S := Lib.hid S
 have HJ := Lib.hid HJ
 go_wp2_with fail
 refine HJ.out.mono ?_
 rintro e w1 ⟨v1, rfl, H1⟩
 have S0 := (S.out.join H1).perm (List.perm_append_singleton _ _)
 obtain ⟨A1, c1, hv1, -, -⟩ := ow_form (S0.at_ (l1 := []))
 have HO : Hid (∀ u, u ∈ (ntA Z H v1).toList → u.oneCell' = true) := Lib.hid (ntA_one (by rw [hv1]; rfl))
 have hz2 : Hid ((ntA Z H v1).size = 34) := Lib.hid (ntA_size hH)
 have S1 := Lib.hid (S0.newBlk 36 zeroN)
 clear S0 H1
 obtain ⟨cn, hcn⟩ : ∃ cn, ntA Z H v1 = cn := ⟨_, rfl⟩
 rw [hcn] at HO hz2 ⊢
 have hcn := Lib.hid hcn
 clear hv1
 go_wp2_with (refine wpList_store_blk rfl 36 (.tmp 10) (.tmp 33) rfl w1.heap.size (by simp [Act.eval, Act.put, hsz]) cn (by simp [Act.eval, Act.put, hsz]) 36 _ (S1.out.at_ (l1 := [])) (by rw [hz2.out]; exact Tryd.infoNote) (by rw [hz2.out]; rfl) HO.out ?_; intro w7 b7 k7; have S7 := Lib.hid (Held.setBlk (l1 := []) S1.out b7 k7); clear b7 k7)
 try simp only [Act.put]
 exact hend _ _ sS sP (⟨w1.heap.size, v1, sP0, (by rw [hcn.out]; exact S7.out)⟩)
theorem sgt_r5 (w0 : World) (t : ByteArray) (Z : Int) (H : List UInt8) (hH : H.length = 32) (n : Nat) (xs : List Value) (E : Int) (HJ : Calls Tryd.prog 39 #[.string t] w fun r w' => ∃ v, r = .returned (.tuple #[.agg (ntA Z H v), .int .i64 E]) ∧ Held w w' [rowR 81 33 v n xs]) (L : List Res) (S : Held w0 w L) (hsz : a.tmps.size = 101) (o1 : Sl a 1 (.string t))
 (hend : ∀ a' W, Same a a' [36, 37, 35, 38, 39, 12, 13] → Sl a' 13 (.int .i64 E) → (∃ g v, Sl a' 12 (.pointer (some ⟨g, 0, none⟩)) ∧ Held w0 W (blkR g 36 (ntA Z H v) :: rowR 81 33 v n xs :: L)) → Q .normal a' W) : (Code.region 5 (opsOf 5 Tryd.f8).toArray false).wp Tryd.prog Q a w := by
 refine wp_region_lit ?_
 (conv => arg 4; whnf)
 unfold Sl at o1
 have S := Lib.hid S
 have HJ := Lib.hid HJ
 go_wp2_with fail
 refine HJ.out.mono ?_
 rintro e w1 ⟨v1, rfl, H1⟩
 have S0 := (S.out.join H1).perm (List.perm_append_singleton _ _)
 obtain ⟨A1, c1, hv1, -, -⟩ := ow_form (S0.at_ (l1 := []))
 have HO : Hid (∀ u, u ∈ (ntA Z H v1).toList → u.oneCell' = true) := Lib.hid (ntA_one (by rw [hv1]; rfl))
 have hz2 : Hid ((ntA Z H v1).size = 34) := Lib.hid (ntA_size hH)
 have S1 := Lib.hid (S0.newBlk 36 zeroN)
 clear S0 H1
 obtain ⟨cn, hcn⟩ : ∃ cn, ntA Z H v1 = cn := ⟨_, rfl⟩
 rw [hcn] at HO hz2 ⊢
 have hcn := Lib.hid hcn
 clear hv1
 go_wp2_with (refine wpList_store_blk rfl 36 (.tmp 12) (.tmp 38) rfl w1.heap.size (by simp [Act.eval, Act.put, hsz]) cn (by simp [Act.eval, Act.put, hsz]) 36 _ (S1.out.at_ (l1 := [])) (by rw [hz2.out]; exact Tryd.infoNote) (by rw [hz2.out]; rfl) HO.out ?_; intro w7 b7 k7; have S7 := Lib.hid (Held.setBlk (l1 := []) S1.out b7 k7); clear b7 k7)
 try simp only [Act.put]
 exact hend _ _ sS sP (⟨w1.heap.size, v1, sP0, (by rw [hcn.out]; exact S7.out)⟩)
theorem sgt_r14 (w0 : World) (t : ByteArray) (Z : Int) (H : List UInt8) (hH : H.length = 32) (n : Nat) (xs : List Value) (E : Int) (HJ : Calls Tryd.prog 38 #[.string t] w fun r w' => ∃ v, r = .returned (.tuple #[.agg (ntA Z H v), .int .i64 E]) ∧ Held w w' [rowR 81 33 v n xs]) (L : List Res) (S : Held w0 w L) (hsz : a.tmps.size = 101) (o6 : Sl a 6 (.string t))
 (hend : ∀ a' W, Same a a' [86, 87, 85, 88, 89, 16, 17] → Sl a' 17 (.int .i64 E) → (∃ g v, Sl a' 16 (.pointer (some ⟨g, 0, none⟩)) ∧ Held w0 W (blkR g 36 (ntA Z H v) :: rowR 81 33 v n xs :: L)) → Q .normal a' W) : (Code.region 14 (opsOf 14 Tryd.f8).toArray false).wp Tryd.prog Q a w := by
 refine wp_region_lit ?_
 (conv => arg 4; whnf)
 unfold Sl at o6
 have S := Lib.hid S
 have HJ := Lib.hid HJ
 go_wp2_with fail
 refine HJ.out.mono ?_
 rintro e w1 ⟨v1, rfl, H1⟩
 have S0 := (S.out.join H1).perm (List.perm_append_singleton _ _)
 obtain ⟨A1, c1, hv1, -, -⟩ := ow_form (S0.at_ (l1 := []))
 have HO : Hid (∀ u, u ∈ (ntA Z H v1).toList → u.oneCell' = true) := Lib.hid (ntA_one (by rw [hv1]; rfl))
 have hz2 : Hid ((ntA Z H v1).size = 34) := Lib.hid (ntA_size hH)
 have S1 := Lib.hid (S0.newBlk 36 zeroN)
 clear S0 H1
 obtain ⟨cn, hcn⟩ : ∃ cn, ntA Z H v1 = cn := ⟨_, rfl⟩
 rw [hcn] at HO hz2 ⊢
 have hcn := Lib.hid hcn
 clear hv1
 go_wp2_with (refine wpList_store_blk rfl 36 (.tmp 16) (.tmp 88) rfl w1.heap.size (by simp [Act.eval, Act.put, hsz]) cn (by simp [Act.eval, Act.put, hsz]) 36 _ (S1.out.at_ (l1 := [])) (by rw [hz2.out]; exact Tryd.infoNote) (by rw [hz2.out]; rfl) HO.out ?_; intro w7 b7 k7; have S7 := Lib.hid (Held.setBlk (l1 := []) S1.out b7 k7); clear b7 k7)
 try simp only [Act.put]
 exact hend _ _ sS sP (⟨w1.heap.size, v1, sP0, (by rw [hcn.out]; exact S7.out)⟩)
theorem sgt_r6 (t : ByteArray) (E G : Int) (Z : Int) (H : List UInt8) (hH : H.length = 32) (X : List SigD) (hX : SgOk X) (hXl : X.length ≤ 9223372036854775806) (A1 : Option Addr) (c1 g10 : Nat) (hb10 : Blk w g10 36 (ntA Z H (.slice A1 X.length c1))) (hr1 : Rd w 33 (.slice A1 X.length c1) X.length (sgsC X)) (A2 : Option Addr) (c2 g12 : Nat) (hb12 : Blk w g12 36 (ntA Z H (.slice A2 X.length c2))) (hr2 : Rd w 33 (.slice A2 X.length c2) X.length (sgsC X)) (z : Int) (h : List UInt8) (hh : h.length = 32) (A : Option Addr) (c : Nat) (l : List SigD) (gr cr g2 g5 : Nat) (hb2 : Blk w g2 36 (ntA z h (.slice A l.length c))) (hb5 : Blk w g5 36 (ntA z h (.slice (some ⟨gr, 0, none⟩) l.length cr))) (HL : ∀ V, Kp [] w V → Calls Tryd.prog 33 #[.agg (ntA z h (.slice (some ⟨gr, 0, none⟩) l.length cr)), .agg (ntA z h (.slice A l.length c))] V fun e w' => e = .returned (.bool true) ∧ Kp [] V w') (hsz : a.tmps.size = 101) (o2 : Sl a 2 (.pointer (some ⟨g2, 0, none⟩))) (o5 : Sl a 5 (.pointer (some ⟨g5, 0, none⟩))) (o6 : Sl a 6 (.string t)) (o7 : Sl a 7 (.int .i64 E)) (o8 : Sl a 8 (.string t)) (o9 : Sl a 9 (.int .i64 E)) (o10 : Sl a 10 (.pointer (some ⟨g10, 0, none⟩))) (o11 : Sl a 11 (.int .i64 G)) (o12 : Sl a 12 (.pointer (some ⟨g12, 0, none⟩))) (o13 : Sl a 13 (.int .i64 G))
 (hend : ∀ a' W, Same a a' [40, 41, 42, 43, 44, 45, 46, 47, 48, 49, 50, 51, 52, 53, 54, 55, 56, 57, 58, 59, 60, 61, 62, 63, 64, 65, 66] → Kp [] w W → Sl a' 66 (.bool false) → Q .normal a' W) : (Code.region 6 (opsOf 6 Tryd.f8).toArray false).wp Tryd.prog Q a w := by
 have hap : apartB (opsOf 6 Tryd.f8) = true := by kernel_rfl
 refine wp_region_invS (l := (opsOf 6 Tryd.f8)) (fun i v W => match i with | 0 => v = .string t | 1 => v = .string t | 2 => v = .bool false | 3 => v = .bool false | 4 => v = .int .i64 E | 5 => v = .int .i64 E | 6 => v = .int .i64 E | 7 => v = .bool false | 8 => v = .bool false | 9 => v = .bool false | 10 => v = .agg (ntA Z H (.slice A1 X.length c1)) | 11 => v = .agg (ntA Z H (.slice A2 X.length c2)) | 12 => v = .bool true | 13 => v = .bool false | 14 => v = .bool false | 15 => v = .bool false | 16 => v = .int .i64 G | 17 => v = .int .i64 G | 18 => v = .int .i64 G | 19 => v = .bool false | 20 => v = .bool false | 21 => v = .bool false | 22 => v = .agg (ntA z h (.slice (some ⟨gr, 0, none⟩) l.length cr)) | 23 => v = .agg (ntA z h (.slice A l.length c)) | 24 => v = .bool true | 25 => v = .bool false | 26 => v = .bool false | _ => True) hap ?_ ?_ ?_
 · intro i v W W' h _
   iterate 27 (rcases i with _ | i; · exact h)
   exact h
 · refine ⟨?_, ?_, ?_, ?_, ?_, ?_, ?_, ?_, ?_, ?_, ?_, ?_, ?_, ?_, ?_, ?_, ?_, ?_, ?_, ?_, ?_, ?_, ?_, ?_, ?_, ?_, ?_, trivial⟩
   · intro vs A' W hA hW hd hu K hK; refine wpOp_free _ rfl rfl ?_; (conv => arg 2; whnf); have e6 := sO 6 o6 hA hap hsz; clear hA hd hu o2 o5 o6 o7 o8 o9 o10 o11 o12 o13; go_step; exact hK _ _ kR rfl
   · intro vs A' W hA hW hd hu K hK; refine wpOp_free _ rfl rfl ?_; (conv => arg 2; whnf); have e8 := sO 8 o8 hA hap hsz; clear hA hd hu o2 o5 o6 o7 o8 o9 o10 o11 o12 o13; go_step; exact hK _ _ kR rfl
   · intro vs A' W hA hW hd hu K hK; refine wpOp_free _ rfl rfl ?_; (conv => arg 2; whnf); have e40 := sV 40 (hd 0 (by kernel_rfl)) hA hap hsz; have e41 := sV 41 (hd 1 (by kernel_rfl)) hA hap hsz; clear hA hd hu o2 o5 o6 o7 o8 o9 o10 o11 o12 o13; go_step
     exact hK _ _ kR (by first | rfl | exact (show Value.bool (t.toList != t.toList) = Value.bool false from by rw [bne_self_eq_false]))
   · intro vs A' W hA hW hd hu K hK; refine wpOp_free _ rfl rfl ?_; (conv => arg 2; whnf); have e42 := sV 42 (hd 2 (by kernel_rfl)) hA hap hsz; clear hA hd hu o2 o5 o6 o7 o8 o9 o10 o11 o12 o13; go_step; exact hK _ _ kR rfl
   · intro vs A' W hA hW hd hu K hK; have e43 := sV 43 (hd 3 (by kernel_rfl)) hA hap hsz; refine wpOp_go _ rfl 3 43 false rfl rfl e43 ?_; (conv => arg 2; whnf); have e7 := sO 7 o7 hA hap hsz; clear hA hd hu o2 o5 o6 o7 o8 o9 o10 o11 o12 o13; go_step; exact hK _ _ kR rfl
   · intro vs A' W hA hW hd hu K hK; have e43 := sV 43 (hd 3 (by kernel_rfl)) hA hap hsz; refine wpOp_go _ rfl 3 43 false rfl rfl e43 ?_; (conv => arg 2; whnf); have e44 := sV 44 (hd 4 (by kernel_rfl)) hA hap hsz; clear hA hd hu o2 o5 o6 o7 o8 o9 o10 o11 o12 o13; go_step
     refine (lnum_any E W).mono ?_
     rintro e w' ⟨rfl, rfl⟩
     exact hK _ _ kR rfl
   · intro vs A' W hA hW hd hu K hK; have e43 := sV 43 (hd 3 (by kernel_rfl)) hA hap hsz; refine wpOp_go _ rfl 3 43 false rfl rfl e43 ?_; (conv => arg 2; whnf); have e9 := sO 9 o9 hA hap hsz; clear hA hd hu o2 o5 o6 o7 o8 o9 o10 o11 o12 o13; go_step; exact hK _ _ kR rfl
   · intro vs A' W hA hW hd hu K hK; have e43 := sV 43 (hd 3 (by kernel_rfl)) hA hap hsz; refine wpOp_go _ rfl 3 43 false rfl rfl e43 ?_; (conv => arg 2; whnf); have e45 := sV 45 (hd 5 (by kernel_rfl)) hA hap hsz; have e46 := sV 46 (hd 6 (by kernel_rfl)) hA hap hsz; clear hA hd hu o2 o5 o6 o7 o8 o9 o10 o11 o12 o13; go_step
     exact hK _ _ kR (by first | rfl | exact (show Value.bool (E != E) = Value.bool false from by rw [bne_self_eq_false]))
   · intro vs A' W hA hW hd hu K hK; refine wpOp_free _ rfl rfl ?_; (conv => arg 2; whnf); have e43 := sV 43 (hd 3 (by kernel_rfl)) hA hap hsz; have e47 := sV 47 (hd 7 (by kernel_rfl)) hA hap hsz; clear hA hd hu o2 o5 o6 o7 o8 o9 o10 o11 o12 o13; go_step; exact hK _ _ kR rfl
   · intro vs A' W hA hW hd hu K hK; refine wpOp_free _ rfl rfl ?_; (conv => arg 2; whnf); have e48 := sV 48 (hd 8 (by kernel_rfl)) hA hap hsz; clear hA hd hu o2 o5 o6 o7 o8 o9 o10 o11 o12 o13; go_step; exact hK _ _ kR rfl
   · intro vs A' W hA hW hd hu K hK; have e49 := sV 49 (hd 9 (by kernel_rfl)) hA hap hsz; refine wpOp_go _ rfl 9 49 false rfl rfl e49 ?_; (conv => arg 2; whnf); have e10 := sO 10 o10 hA hap hsz; clear hA hd hu o2 o5 o6 o7 o8 o9 o10 o11 o12 o13
     refine op_runs (v := .agg (ntA Z H (.slice A1 X.length c1))) (w' := W) (exec_load rfl (by simpa [Act.eval] using e10) (run_loadAt_agg W (⟨g10, 0, none⟩) 36 (ntA Z H (.slice A1 X.length c1)).toList _ (Blk.agg (hb10.kp hW (by simp))) Tryd.underlying36 rfl (by rw [Array.length_toList, ntA_size hH]; exact Tryd.infoNote))) ?_
     exact hK _ _ kR rfl
   · intro vs A' W hA hW hd hu K hK; have e49 := sV 49 (hd 9 (by kernel_rfl)) hA hap hsz; refine wpOp_go _ rfl 9 49 false rfl rfl e49 ?_; (conv => arg 2; whnf); have e12 := sO 12 o12 hA hap hsz; clear hA hd hu o2 o5 o6 o7 o8 o9 o10 o11 o12 o13
     refine op_runs (v := .agg (ntA Z H (.slice A2 X.length c2))) (w' := W) (exec_load rfl (by simpa [Act.eval] using e12) (run_loadAt_agg W (⟨g12, 0, none⟩) 36 (ntA Z H (.slice A2 X.length c2)).toList _ (Blk.agg (hb12.kp hW (by simp))) Tryd.underlying36 rfl (by rw [Array.length_toList, ntA_size hH]; exact Tryd.infoNote))) ?_
     exact hK _ _ kR rfl
   · intro vs A' W hA hW hd hu K hK; have e49 := sV 49 (hd 9 (by kernel_rfl)) hA hap hsz; refine wpOp_go _ rfl 9 49 false rfl rfl e49 ?_; (conv => arg 2; whnf); have e50 := sV 50 (hd 10 (by kernel_rfl)) hA hap hsz; have e51 := sV 51 (hd 11 (by kernel_rfl)) hA hap hsz; clear hA hd hu o2 o5 o6 o7 o8 o9 o10 o11 o12 o13; go_step
     refine (ssame_any Z Z H H hH hH A1 A2 c1 c2 X X hX hX (by omega) W (rd_old hr1 hW) (rd_old hr2 hW)).mono ?_
     rintro e w' ⟨rfl, k⟩
     exact hK _ _ k (show Value.bool (sameN Z H X Z H X) = Value.bool true from by rw [sameN_self])
   · intro vs A' W hA hW hd hu K hK; have e49 := sV 49 (hd 9 (by kernel_rfl)) hA hap hsz; refine wpOp_go _ rfl 9 49 false rfl rfl e49 ?_; (conv => arg 2; whnf); have e52 := sV 52 (hd 12 (by kernel_rfl)) hA hap hsz; clear hA hd hu o2 o5 o6 o7 o8 o9 o10 o11 o12 o13; go_step; exact hK _ _ kR rfl
   · intro vs A' W hA hW hd hu K hK; refine wpOp_free _ rfl rfl ?_; (conv => arg 2; whnf); have e49 := sV 49 (hd 9 (by kernel_rfl)) hA hap hsz; have e53 := sV 53 (hd 13 (by kernel_rfl)) hA hap hsz; clear hA hd hu o2 o5 o6 o7 o8 o9 o10 o11 o12 o13; go_step; exact hK _ _ kR rfl
   · intro vs A' W hA hW hd hu K hK; refine wpOp_free _ rfl rfl ?_; (conv => arg 2; whnf); have e54 := sV 54 (hd 14 (by kernel_rfl)) hA hap hsz; clear hA hd hu o2 o5 o6 o7 o8 o9 o10 o11 o12 o13; go_step; exact hK _ _ kR rfl
   · intro vs A' W hA hW hd hu K hK; have e55 := sV 55 (hd 15 (by kernel_rfl)) hA hap hsz; refine wpOp_go _ rfl 15 55 false rfl rfl e55 ?_; (conv => arg 2; whnf); have e11 := sO 11 o11 hA hap hsz; clear hA hd hu o2 o5 o6 o7 o8 o9 o10 o11 o12 o13; go_step; exact hK _ _ kR rfl
   · intro vs A' W hA hW hd hu K hK; have e55 := sV 55 (hd 15 (by kernel_rfl)) hA hap hsz; refine wpOp_go _ rfl 15 55 false rfl rfl e55 ?_; (conv => arg 2; whnf); have e56 := sV 56 (hd 16 (by kernel_rfl)) hA hap hsz; clear hA hd hu o2 o5 o6 o7 o8 o9 o10 o11 o12 o13; go_step
     refine (lnum_any G W).mono ?_
     rintro e w' ⟨rfl, rfl⟩
     exact hK _ _ kR rfl
   · intro vs A' W hA hW hd hu K hK; have e55 := sV 55 (hd 15 (by kernel_rfl)) hA hap hsz; refine wpOp_go _ rfl 15 55 false rfl rfl e55 ?_; (conv => arg 2; whnf); have e13 := sO 13 o13 hA hap hsz; clear hA hd hu o2 o5 o6 o7 o8 o9 o10 o11 o12 o13; go_step; exact hK _ _ kR rfl
   · intro vs A' W hA hW hd hu K hK; have e55 := sV 55 (hd 15 (by kernel_rfl)) hA hap hsz; refine wpOp_go _ rfl 15 55 false rfl rfl e55 ?_; (conv => arg 2; whnf); have e57 := sV 57 (hd 17 (by kernel_rfl)) hA hap hsz; have e58 := sV 58 (hd 18 (by kernel_rfl)) hA hap hsz; clear hA hd hu o2 o5 o6 o7 o8 o9 o10 o11 o12 o13; go_step
     exact hK _ _ kR (by first | rfl | exact (show Value.bool (G != G) = Value.bool false from by rw [bne_self_eq_false]))
   · intro vs A' W hA hW hd hu K hK; refine wpOp_free _ rfl rfl ?_; (conv => arg 2; whnf); have e55 := sV 55 (hd 15 (by kernel_rfl)) hA hap hsz; have e59 := sV 59 (hd 19 (by kernel_rfl)) hA hap hsz; clear hA hd hu o2 o5 o6 o7 o8 o9 o10 o11 o12 o13; go_step; exact hK _ _ kR rfl
   · intro vs A' W hA hW hd hu K hK; refine wpOp_free _ rfl rfl ?_; (conv => arg 2; whnf); have e60 := sV 60 (hd 20 (by kernel_rfl)) hA hap hsz; clear hA hd hu o2 o5 o6 o7 o8 o9 o10 o11 o12 o13; go_step; exact hK _ _ kR rfl
   · intro vs A' W hA hW hd hu K hK; have e61 := sV 61 (hd 21 (by kernel_rfl)) hA hap hsz; refine wpOp_go _ rfl 21 61 false rfl rfl e61 ?_; (conv => arg 2; whnf); have e5 := sO 5 o5 hA hap hsz; clear hA hd hu o2 o5 o6 o7 o8 o9 o10 o11 o12 o13
     refine op_runs (v := .agg (ntA z h (.slice (some ⟨gr, 0, none⟩) l.length cr))) (w' := W) (exec_load rfl (by simpa [Act.eval] using e5) (run_loadAt_agg W (⟨g5, 0, none⟩) 36 (ntA z h (.slice (some ⟨gr, 0, none⟩) l.length cr)).toList _ (Blk.agg (hb5.kp hW (by simp))) Tryd.underlying36 rfl (by rw [Array.length_toList, ntA_size hh]; exact Tryd.infoNote))) ?_
     exact hK _ _ kR rfl
   · intro vs A' W hA hW hd hu K hK; have e61 := sV 61 (hd 21 (by kernel_rfl)) hA hap hsz; refine wpOp_go _ rfl 21 61 false rfl rfl e61 ?_; (conv => arg 2; whnf); have e2 := sO 2 o2 hA hap hsz; clear hA hd hu o2 o5 o6 o7 o8 o9 o10 o11 o12 o13
     refine op_runs (v := .agg (ntA z h (.slice A l.length c))) (w' := W) (exec_load rfl (by simpa [Act.eval] using e2) (run_loadAt_agg W (⟨g2, 0, none⟩) 36 (ntA z h (.slice A l.length c)).toList _ (Blk.agg (hb2.kp hW (by simp))) Tryd.underlying36 rfl (by rw [Array.length_toList, ntA_size hh]; exact Tryd.infoNote))) ?_
     exact hK _ _ kR rfl
   · intro vs A' W hA hW hd hu K hK; have e61 := sV 61 (hd 21 (by kernel_rfl)) hA hap hsz; refine wpOp_go _ rfl 21 61 false rfl rfl e61 ?_; (conv => arg 2; whnf); have e62 := sV 62 (hd 22 (by kernel_rfl)) hA hap hsz; have e63 := sV 63 (hd 23 (by kernel_rfl)) hA hap hsz; clear hA hd hu o2 o5 o6 o7 o8 o9 o10 o11 o12 o13; go_step
     refine (HL W hW).mono ?_
     rintro e w' ⟨rfl, k⟩
     exact hK _ _ k rfl
   · intro vs A' W hA hW hd hu K hK; have e61 := sV 61 (hd 21 (by kernel_rfl)) hA hap hsz; refine wpOp_go _ rfl 21 61 false rfl rfl e61 ?_; (conv => arg 2; whnf); have e64 := sV 64 (hd 24 (by kernel_rfl)) hA hap hsz; clear hA hd hu o2 o5 o6 o7 o8 o9 o10 o11 o12 o13; go_step; exact hK _ _ kR rfl
   · intro vs A' W hA hW hd hu K hK; refine wpOp_free _ rfl rfl ?_; (conv => arg 2; whnf); have e61 := sV 61 (hd 21 (by kernel_rfl)) hA hap hsz; have e65 := sV 65 (hd 25 (by kernel_rfl)) hA hap hsz; clear hA hd hu o2 o5 o6 o7 o8 o9 o10 o11 o12 o13; go_step; exact hK _ _ kR rfl
 · intro vs W hW hp
   rw [putAll_eq]
   exact hend _ W sQ hW (sW (hp 26 sB))
theorem sgt_r8 (E : Int) (hsz : a.tmps.size = 101) (o13 : Sl a 13 (.int .i64 E))
 (hend : ∀ a', Same a a' [67, 68] → Sl a' 68 (.bool (E == 0)) → Q .normal a' (w)) : (Code.region 8 (opsOf 8 Tryd.f8).toArray false).wp Tryd.prog Q a w := by
 refine wp_region_lit ?_
 (conv => arg 4; whnf)
 unfold Sl at o13
 go_wp2_with fail
 try simp only [Act.put]
 exact hend _ sS sP
theorem sgt_r10 (t : ByteArray) (hsz : a.tmps.size = 101) (o1 : Sl a 1 (.string t)) (o14 : Sl a 14 (.string t)) (o15 : Sl a 15 (.int .i64 (0 : Int)))
 (hend : ∀ a' W, Same a a' [74, 75, 76, 77, 78, 79, 80, 81] → Kp [] w W → Sl a' 81 (.bool false) → Q .normal a' W) : (Code.region 10 (opsOf 10 Tryd.f8).toArray false).wp Tryd.prog Q a w := by
 have hap : apartB (opsOf 10 Tryd.f8) = true := by kernel_rfl
 refine wp_region_invS (l := (opsOf 10 Tryd.f8)) (fun i v W => match i with | 0 => v = .string t | 1 => v = .string t | 2 => v = .bool false | 3 => v = .bool false | 4 => v = .int .i64 (0 : Int) | 5 => v = .int .i64 (0 : Int) | 6 => v = .bool false | 7 => v = .bool false | _ => True) hap ?_ ?_ ?_
 · intro i v W W' h _
   iterate 8 (rcases i with _ | i; · exact h)
   exact h
 · refine ⟨?_, ?_, ?_, ?_, ?_, ?_, ?_, ?_, trivial⟩
   · intro vs A' W hA hW hd hu K hK; refine wpOp_free _ rfl rfl ?_; (conv => arg 2; whnf); have e14 := sO 14 o14 hA hap hsz; clear hA hd hu o1 o14 o15; go_step; exact hK _ _ kR rfl
   · intro vs A' W hA hW hd hu K hK; refine wpOp_free _ rfl rfl ?_; (conv => arg 2; whnf); have e1 := sO 1 o1 hA hap hsz; clear hA hd hu o1 o14 o15; go_step; exact hK _ _ kR rfl
   · intro vs A' W hA hW hd hu K hK; refine wpOp_free _ rfl rfl ?_; (conv => arg 2; whnf); have e74 := sV 74 (hd 0 (by kernel_rfl)) hA hap hsz; have e75 := sV 75 (hd 1 (by kernel_rfl)) hA hap hsz; clear hA hd hu o1 o14 o15; go_step
     exact hK _ _ kR (by first | rfl | exact (show Value.bool (t.toList != t.toList) = Value.bool false from by rw [bne_self_eq_false]))
   · intro vs A' W hA hW hd hu K hK; refine wpOp_free _ rfl rfl ?_; (conv => arg 2; whnf); have e76 := sV 76 (hd 2 (by kernel_rfl)) hA hap hsz; clear hA hd hu o1 o14 o15; go_step; exact hK _ _ kR rfl
   · intro vs A' W hA hW hd hu K hK; have e77 := sV 77 (hd 3 (by kernel_rfl)) hA hap hsz; refine wpOp_go _ rfl 3 77 false rfl rfl e77 ?_; (conv => arg 2; whnf); have e15 := sO 15 o15 hA hap hsz; clear hA hd hu o1 o14 o15; go_step; exact hK _ _ kR rfl
   · intro vs A' W hA hW hd hu K hK; have e77 := sV 77 (hd 3 (by kernel_rfl)) hA hap hsz; refine wpOp_go _ rfl 3 77 false rfl rfl e77 ?_; (conv => arg 2; whnf); have e78 := sV 78 (hd 4 (by kernel_rfl)) hA hap hsz; clear hA hd hu o1 o14 o15; go_step
     refine (lnum_any 0 W).mono ?_
     rintro e w' ⟨rfl, rfl⟩
     exact hK _ _ kR rfl
   · intro vs A' W hA hW hd hu K hK; have e77 := sV 77 (hd 3 (by kernel_rfl)) hA hap hsz; refine wpOp_go _ rfl 3 77 false rfl rfl e77 ?_; (conv => arg 2; whnf); have e79 := sV 79 (hd 5 (by kernel_rfl)) hA hap hsz; clear hA hd hu o1 o14 o15; go_step; exact hK _ _ kR rfl
   · intro vs A' W hA hW hd hu K hK; refine wpOp_free _ rfl rfl ?_; (conv => arg 2; whnf); have e77 := sV 77 (hd 3 (by kernel_rfl)) hA hap hsz; have e80 := sV 80 (hd 6 (by kernel_rfl)) hA hap hsz; clear hA hd hu o1 o14 o15; go_step; exact hK _ _ kR rfl
 · intro vs W hW hp
   rw [putAll_eq]
   exact hend _ W sQ hW (sW (hp 7 sB))
theorem sgt_r12 (E : Int) (hsz : a.tmps.size = 101) (o9 : Sl a 9 (.int .i64 E))
 (hend : ∀ a', Same a a' [82, 83] → Sl a' 83 (.bool (E != 0)) → Q .normal a' (w)) : (Code.region 12 (opsOf 12 Tryd.f8).toArray false).wp Tryd.prog Q a w := by
 refine wp_region_lit ?_
 (conv => arg 4; whnf)
 unfold Sl at o9
 go_wp2_with fail
 try simp only [Act.put]
 exact hend _ sS sP
theorem sgt_r13 (LDw : LD w) (hsz : a.tmps.size = 101) 
 (hend : ∀ a' W, Same a a' [84, 4] → Sl a' 4 (.bool true) → (Kp [] w W) → Q .normal a' W) : (Code.region 13 (opsOf 13 Tryd.f8).toArray false).wp Tryd.prog Q a w := by
 refine wp_region_lit ?_
 (conv => arg 4; whnf)
 go_wp2_with fail
 refine (sknown_any w LDw).mono ?_
 rintro e w1 ⟨rfl, k1⟩
 have k1 := Lib.hid k1
 go_wp2_with fail
 try simp only [Act.put]
 exact hend _ _ sS sP (k1.out)
theorem sgt_r15 (LDw : LD w) (Z : Int) (H : List UInt8) (hH : H.length = 32) (X : List SigD) (hX : SgOk X) (hXl : X.length ≤ 9223372036854775806) (A1 : Option Addr) (c1 g16 : Nat) (hb16 : Blk w g16 36 (ntA Z H (.slice A1 X.length c1))) (hr1 : Rd w 33 (.slice A1 X.length c1) X.length (sgsC X)) (A2 : Option Addr) (c2 g2 : Nat) (hb2 : Blk w g2 36 (ntA Z H (.slice A2 X.length c2))) (hr2 : Rd w 33 (.slice A2 X.length c2) X.length (sgsC X)) (hsz : a.tmps.size = 101) (o2 : Sl a 2 (.pointer (some ⟨g2, 0, none⟩))) (o16 : Sl a 16 (.pointer (some ⟨g16, 0, none⟩))) (o17 : Sl a 17 (.int .i64 (0 : Int)))
 (hend : ∀ a' W, Same a a' [90, 91, 92, 93, 94, 95, 96, 97, 98, 99, 100, 4] → Kp [] w W → Sl a' 4 (.bool true) → Q .normal a' W) : (Code.region 15 (opsOf 15 Tryd.f8).toArray false).wp Tryd.prog Q a w := by
 have hap : apartB (opsOf 15 Tryd.f8) = true := by kernel_rfl
 refine wp_region_invS (l := (opsOf 15 Tryd.f8)) (fun i v W => match i with | 0 => v = .agg (ntA Z H (.slice A1 X.length c1)) | 1 => v = .agg (ntA Z H (.slice A2 X.length c2)) | 2 => v = .bool true | 3 => v = .bool true | 4 => v = .int .i64 (0 : Int) | 5 => v = .int .i64 (0 : Int) | 6 => v = .bool true | 7 => v = .bool true | 8 => v = .bool true | 9 => v = .bool true | 10 => v = .bool true | 11 => v = .bool true | _ => True) hap ?_ ?_ ?_
 · intro i v W W' h _
   iterate 12 (rcases i with _ | i; · exact h)
   exact h
 · refine ⟨?_, ?_, ?_, ?_, ?_, ?_, ?_, ?_, ?_, ?_, ?_, ?_, trivial⟩
   · intro vs A' W hA hW hd hu K hK; refine wpOp_free _ rfl rfl ?_; (conv => arg 2; whnf); have e16 := sO 16 o16 hA hap hsz; clear hA hd hu o2 o16 o17
     refine op_runs (v := .agg (ntA Z H (.slice A1 X.length c1))) (w' := W) (exec_load rfl (by simpa [Act.eval] using e16) (run_loadAt_agg W (⟨g16, 0, none⟩) 36 (ntA Z H (.slice A1 X.length c1)).toList _ (Blk.agg (hb16.kp hW (by simp))) Tryd.underlying36 rfl (by rw [Array.length_toList, ntA_size hH]; exact Tryd.infoNote))) ?_
     exact hK _ _ kR rfl
   · intro vs A' W hA hW hd hu K hK; refine wpOp_free _ rfl rfl ?_; (conv => arg 2; whnf); have e2 := sO 2 o2 hA hap hsz; clear hA hd hu o2 o16 o17
     refine op_runs (v := .agg (ntA Z H (.slice A2 X.length c2))) (w' := W) (exec_load rfl (by simpa [Act.eval] using e2) (run_loadAt_agg W (⟨g2, 0, none⟩) 36 (ntA Z H (.slice A2 X.length c2)).toList _ (Blk.agg (hb2.kp hW (by simp))) Tryd.underlying36 rfl (by rw [Array.length_toList, ntA_size hH]; exact Tryd.infoNote))) ?_
     exact hK _ _ kR rfl
   · intro vs A' W hA hW hd hu K hK; refine wpOp_free _ rfl rfl ?_; (conv => arg 2; whnf); have e90 := sV 90 (hd 0 (by kernel_rfl)) hA hap hsz; have e91 := sV 91 (hd 1 (by kernel_rfl)) hA hap hsz; clear hA hd hu o2 o16 o17; go_step
     refine (ssame_any Z Z H H hH hH A1 A2 c1 c2 X X hX hX (by omega) W (rd_old hr1 hW) (rd_old hr2 hW)).mono ?_
     rintro e w' ⟨rfl, k⟩
     exact hK _ _ k (show Value.bool (sameN Z H X Z H X) = Value.bool true from by rw [sameN_self])
   · intro vs A' W hA hW hd hu K hK; refine wpOp_free _ rfl rfl ?_; (conv => arg 2; whnf); have e92 := sV 92 (hd 2 (by kernel_rfl)) hA hap hsz; clear hA hd hu o2 o16 o17; go_step; exact hK _ _ kR rfl
   · intro vs A' W hA hW hd hu K hK; have e93 := sV 93 (hd 3 (by kernel_rfl)) hA hap hsz; refine wpOp_go _ rfl 3 93 true rfl rfl e93 ?_; (conv => arg 2; whnf); have e17 := sO 17 o17 hA hap hsz; clear hA hd hu o2 o16 o17; go_step; exact hK _ _ kR rfl
   · intro vs A' W hA hW hd hu K hK; have e93 := sV 93 (hd 3 (by kernel_rfl)) hA hap hsz; refine wpOp_go _ rfl 3 93 true rfl rfl e93 ?_; (conv => arg 2; whnf); have e94 := sV 94 (hd 4 (by kernel_rfl)) hA hap hsz; clear hA hd hu o2 o16 o17; go_step
     refine (lnum_any 0 W).mono ?_
     rintro e w' ⟨rfl, rfl⟩
     exact hK _ _ kR rfl
   · intro vs A' W hA hW hd hu K hK; have e93 := sV 93 (hd 3 (by kernel_rfl)) hA hap hsz; refine wpOp_go _ rfl 3 93 true rfl rfl e93 ?_; (conv => arg 2; whnf); have e95 := sV 95 (hd 5 (by kernel_rfl)) hA hap hsz; clear hA hd hu o2 o16 o17; go_step; exact hK _ _ kR rfl
   · intro vs A' W hA hW hd hu K hK; refine wpOp_free _ rfl rfl ?_; (conv => arg 2; whnf); have e93 := sV 93 (hd 3 (by kernel_rfl)) hA hap hsz; have e96 := sV 96 (hd 6 (by kernel_rfl)) hA hap hsz; clear hA hd hu o2 o16 o17; go_step; exact hK _ _ kR rfl
   · intro vs A' W hA hW hd hu K hK; refine wpOp_free _ rfl rfl ?_; (conv => arg 2; whnf); have e97 := sV 97 (hd 7 (by kernel_rfl)) hA hap hsz; clear hA hd hu o2 o16 o17; go_step; exact hK _ _ kR rfl
   · intro vs A' W hA hW hd hu K hK; have e98 := sV 98 (hd 8 (by kernel_rfl)) hA hap hsz; refine wpOp_go _ rfl 8 98 true rfl rfl e98 ?_; (conv => arg 2; whnf); clear hA hd hu o2 o16 o17; go_step
     refine (sknown_any W (LDw.kp hW)).mono ?_
     rintro e w' ⟨rfl, k⟩
     exact hK _ _ k rfl
   · intro vs A' W hA hW hd hu K hK; refine wpOp_free _ rfl rfl ?_; (conv => arg 2; whnf); have e98 := sV 98 (hd 8 (by kernel_rfl)) hA hap hsz; have e99 := sV 99 (hd 9 (by kernel_rfl)) hA hap hsz; clear hA hd hu o2 o16 o17; go_step; exact hK _ _ kR rfl
   · intro vs A' W hA hW hd hu K hK; refine wpOp_free _ rfl rfl ?_; (conv => arg 2; whnf); have e100 := sV 100 (hd 10 (by kernel_rfl)) hA hap hsz; clear hA hd hu o2 o16 o17; go_step; exact hK _ _ kR rfl
 · intro vs W hW hp
   rw [putAll_eq]
   exact hend _ W sQ hW (sW (hp 11 sB))
end
/- SignJoins, whole. -/
section
open Go.RowKit
theorem ok_room {l : List SigD} (hok : SgOk l) : SgOk (l ++ [roomS]) := by
 intro s hs
 rcases List.mem_append.1 hs with hs | hs
 · exact hok s hs
 · rw [List.mem_singleton.1 hs]; exact ⟨rfl, by decide⟩
theorem rd_room {w : World} {gr cr : Nat} {l : List SigD} (hok : SgOk l) (ho : Ow w 81 33 (.slice (some ⟨gr, 0, none⟩) (l.length + 1) cr) (l.length + 1) (sgsC (l ++ [roomS]))) : Rd w 33 (.slice (some ⟨gr, 0, none⟩) l.length cr) l.length (sgsC l) := by
 have := rd_hiS (ok_room hok) (Rd.of_own ho) (by rw [List.length_append]; rfl) (show l.length ≤ l.length + 1 by omega)
 rwa [List.take_left' rfl] at this
end
/- SignTexts, whole. -/
section
open Go.RowKit
theorem npN_ok (s : List UInt8) : (npN s).2.1.length = 32 ∧ SgOk (npN s).2.2 ∧ (npN s).2.2.length ≤ 64 := by
 unfold npN
 cases h : noteP s with
 | none => exact ⟨by simp, fun x hx => (by cases hx), by simp⟩
 | some q =>
  obtain ⟨z, g, l⟩ := q
  have k := noteP_is h
  exact ⟨k.hash, k.ok, (mayN_z k.may).2.1⟩
theorem textN_len {z : Int} {h : List UInt8} {l : List SigD} (hz : z ≤ 9223372036854775807) (hh : h.length = 32) (hok : SgOk l) : (textN z h l).length ≤ 1000000 := by
 unfold textN
 cases hm : mayN z l
 · simp
 · obtain ⟨h0, h64, hr⟩ := mayN_z hm
   rw [if_pos rfl, List.length_append, told_length, hexS_length, hh]
   have h1 := dec_19 (n := z.toNat) (by omega)
   have h2 := lines_len (l := l) (fun x hx => ⟨nmOk_len (rising_nm hr x hx), (hok x hx).1⟩)
   omega
theorem signtexts_any (z : Int) (hz : -9223372036854775808 ≤ z ∧ z ≤ 9223372036854775807) (h : List UInt8) (hh : h.length = 32) (A : Option Addr) (c : Nat) (l : List SigD) (hok : SgOk l) (hll : (l.length + 1) * 48 ≤ 140737488355328) (s : List UInt8) (hs : s.length ≤ 140737488355328) (w : World) (LPw : LP w) (hv : Rd w 33 (.slice A l.length c) l.length (sgsC l)) :
 Calls Tryd.prog 8 #[.agg (ntA z h (.slice A l.length c)), .string ⟨s.toArray⟩] w fun e w' => e = .returned (.bool true) ∧ Kp [] w w' := by
 refine calls_fr Tryd.func8 rfl 101 rfl (fun a0 hsz hdf hAr => ?_)
 have hz0 : a0.tmps.size = 101 := hsz
 have D := hdf
 have o0 := hAr 0 _ rfl
 have o1 := hAr 1 _ rfl
 refine wp_seq (sgt_r0 w _ [] (Held.start w) hz0 o0 (fun a1 w1 hs1 o4 h1 => ?_))
 have hz1 := hs1.size.trans hz0; have o0 := hs1.k o0; have o1 := hs1.k o1; have D := hs1.defers.trans D
 obtain ⟨g2, o2, S⟩ := h1
 have hl63 : l.length ≤ 9223372036854775807 := by omega
 refine wp_seq (sgt_r1 w z h hh l g2 _ (ntA_size hh) (S.at_ (l1 := [])) (slent_any z h hh A c l hok hll w1 (rd_old hv S.k)) _ S hz1 o2 (fun a2 w2 hs2 h2 => ?_))
 have hz2 := hs2.size.trans hz1; have o1 := hs2.k o1; have o2 := hs2.k o2; have D := hs2.defers.trans D
 obtain ⟨g5, gr, cr, o5, hcr, S⟩ := h2
 have hx := rd_room hok (show Ow w2 81 33 (.slice (some ⟨gr, 0, none⟩) (l.length + 1) cr) (l.length + 1) (sgsC (l ++ [roomS])) from S.at_ (l1 := [_]))
 refine wp_seq (sgt_r2 w g5 _ (ntA_size hh) (S.at_ (l1 := [])) _ _ (stext_any z hz h hh (some ⟨gr, 0, none⟩) cr l hok hl63 w2 (LPw.kp S.k).toLD hx) _ S hz2 o5 (fun a3 w3 hs3 o6 o7 S => ?_))
 have hz3 := hs3.size.trans hz2; have o1 := hs3.k o1; have o2 := hs3.k o2; have o5 := hs3.k o5; have D := hs3.defers.trans D
 refine wp_seq (sgt_r3 w g2 _ (ntA_size hh) (S.at_ (l1 := [_, _])) _ _ (rntext_any z hz h hh A c l hok hl63 w3 (rd_old hv S.k)) _ S hz3 o2 (fun a4 w4 hs4 o8 o9 S => ?_))
 have hz4 := hs4.size.trans hz3; have o1 := hs4.k o1; have o2 := hs4.k o2; have o5 := hs4.k o5; have o6 := hs4.k o6; have o7 := hs4.k o7; have D := hs4.defers.trans D
 obtain ⟨hH, hX, hX64⟩ := npN_ok s
 refine wp_seq (sgt_r4 w _ _ _ hH _ _ _ (sparse_any s hs w4 (LPw.kp S.k)) _ S hz4 o1 (fun a5 w5 hs5 o11 h5 => ?_))
 have hz5 := hs5.size.trans hz4; have o1 := hs5.k o1; have o2 := hs5.k o2; have o5 := hs5.k o5; have o6 := hs5.k o6; have o7 := hs5.k o7; have o8 := hs5.k o8; have o9 := hs5.k o9; have D := hs5.defers.trans D
 obtain ⟨g10, v1, o10, S⟩ := h5
 refine wp_seq (sgt_r5 w _ _ _ hH _ _ _ (srparse_any s hs w5) _ S hz5 o1 (fun a6 w6 hs6 o13 h6 => ?_))
 have hz6 := hs6.size.trans hz5; have o1 := hs6.k o1; have o2 := hs6.k o2; have o5 := hs6.k o5; have o6 := hs6.k o6; have o7 := hs6.k o7; have o8 := hs6.k o8; have o9 := hs6.k o9; have o11 := hs6.k o11; have o10 := hs6.k o10; have D := hs6.defers.trans D
 obtain ⟨g12, v2, o12, S⟩ := h6
 have hIs : npE s = 0 → IsNote s (npN s).1 (npN s).2.1 (npN s).2.2 := by
  intro h0
  unfold npN npE at *
  cases hn : noteP s with
  | none => rw [hn] at h0; simp at h0
  | some q => obtain ⟨z', g', l'⟩ := q; exact noteP_is hn
 have hG : npE s = 0 ∨ npE s = 381 := by unfold npE; cases (noteP s).isSome <;> simp
 generalize npE s = G0 at *
 generalize npN s = J at *
 obtain ⟨Z, H, X⟩ := J
 simp only at hH hX hX64 S hIs
 obtain ⟨A1, c1, hv1, -, -⟩ := ow_form (show Ow w6 81 33 v1 X.length (sgsC X) from S.at_ (l1 := [_, _, _]))
 obtain ⟨A2, c2, hv2, -, -⟩ := ow_form (show Ow w6 81 33 v2 X.length (sgsC X) from S.at_ (l1 := [_]))
 subst hv1
 subst hv2
 refine wp_seq (wp_seq (sgt_r6 _ _ _ Z H hH X hX (by omega) A1 c1 g10 (S.at_ (l1 := [_, _])) (Rd.of_own (S.at_ (l1 := [_, _, _]))) A2 c2 g12 (S.at_ (l1 := [])) (Rd.of_own (S.at_ (l1 := [_]))) z h hh A c l gr cr g2 g5 (S.at_ (l1 := [_, _, _, _, _, _])) (S.at_ (l1 := [_, _, _, _])) (fun V kV => sleft_any z h hh A c l hok hll gr cr hcr V (rd_old hv (S.k.trans kV (by simp))) ((S.kp kV).at_ (l1 := [_, _, _, _, _]))) hz6 o2 o5 o6 o7 o8 o9 o10 o11 o12 o13 (fun a7 w7 hs7 k7 o66 => ?_)))
 have hz7 := hs7.size.trans hz6; have o1 := hs7.k o1; have o2 := hs7.k o2; have o5 := hs7.k o5; have o6 := hs7.k o6; have o7 := hs7.k o7; have o8 := hs7.k o8; have o9 := hs7.k o9; have o11 := hs7.k o11; have o10 := hs7.k o10; have o13 := hs7.k o13; have o12 := hs7.k o12; have D := hs7.defers.trans D
 have S := S.kp k7
 refine wp_cond_false (o66.eval (by rw [hz7]; decide)) (wp_skip ?_)
 simp only [Exit.then]
 have hend : ∀ (a : Act) (W : World), a.tmps.size = 101 → a.defers = [] → Sl a 2 (.pointer (some ⟨g2, 0, none⟩)) → Sl a 6 (.string ⟨(textN z h l).toArray⟩) → Sl a 9 (.int .i64 (chkN z l)) → Kp [] w7 W → (tailOf 8 Tryd.f8).wp Tryd.prog (bodyPost Tryd.prog Tryd.f8 fun e w' => e = .returned (.bool true) ∧ Kp [] w w') a W := by
  intro a W hz8 D o2 o6 o9 kW
  (conv => arg 2; whnf)
  have S := S.kp kW
  refine wp_seq (wp_seq (sgt_r12 (chkN z l) hz8 o9 (fun a9 hs9 o83 => ?_)))
  have hz9 := hs9.size.trans hz8; have o2 := hs9.k o2; have o6 := hs9.k o6; have o9 := hs9.k o9; have D := hs9.defers.trans D
  cases hm : mayN z l
  · refine wp_cond_true ((o83.eval (by rw [hz9]; decide)).trans (by unfold chkN; rw [hm]; rfl)) ?_
    refine wp_seq (sgt_r13 (LPw.kp S.k).toLD hz9 (fun a10 w10 hs10 o4 k10 => ?_))
    have hz10 := hs10.size.trans hz9; have o2 := hs10.k o2; have o6 := hs10.k o6; have o9 := hs10.k o9; have o83 := hs10.k o83; have D := hs10.defers.trans D
    refine wp_ret ?_
    simp only [Exit.then]
    exact (bodyPost_ret (results_t1 (by rfl) (o4.eval (by rw [hz10]; decide))) D ⟨rfl, S.k.trans k10 (by simp)⟩)
  · refine wp_cond_false ((o83.eval (by rw [hz9]; decide)).trans (by unfold chkN; rw [hm]; rfl)) (wp_skip ?_)
    simp only [Exit.then]
    have hT := noteP_text hm hh (by omega) hok
    have hI := noteP_is hT
    have HP := sparse_any (textN z h l) (Nat.le_trans (textN_len hz.2 hh hok) (by decide)) W (LPw.kp S.k)
    unfold NpPost at HP
    rw [(np_some hI).1, (np_some hI).2] at HP
    refine wp_seq (sgt_r14 w _ z h hh l.length (sgsC l) 0 HP _ S hz9 o6 (fun a10 w10 hs10 o17 h10 => ?_))
    have hz10 := hs10.size.trans hz9; have o2 := hs10.k o2; have o6 := hs10.k o6; have o9 := hs10.k o9; have o83 := hs10.k o83; have D := hs10.defers.trans D
    obtain ⟨g16, v3, o16, S⟩ := h10
    obtain ⟨A3, c3, hv3, -, -⟩ := ow_form (show Ow w10 81 33 v3 l.length (sgsC l) from S.at_ (l1 := [_]))
    subst hv3
    refine wp_seq (sgt_r15 (LPw.kp S.k).toLD z h hh l hok (by omega) A3 c3 g16 (S.at_ (l1 := [])) (Rd.of_own (S.at_ (l1 := [_]))) A c g2 (S.at_ (l1 := [_, _, _, _, _, _, _, _])) (rd_old hv S.k) hz10 o2 o16 o17 (fun a11 w11 hs11 k11 o4 => ?_))
    have hz11 := hs11.size.trans hz10; have o2 := hs11.k o2; have o6 := hs11.k o6; have o9 := hs11.k o9; have o83 := hs11.k o83; have o17 := hs11.k o17; have o16 := hs11.k o16; have D := hs11.defers.trans D
    refine wp_ret ?_
    exact (bodyPost_ret (results_t1 (by rfl) (o4.eval (by rw [hz11]; decide))) D ⟨rfl, S.k.trans k11 (by simp)⟩)
 refine wp_seq (wp_seq (sgt_r8 _ hz7 o13 (fun a8 hs8 o68 => ?_)))
 have hz8 := hs8.size.trans hz7; have o1 := hs8.k o1; have o2 := hs8.k o2; have o5 := hs8.k o5; have o6 := hs8.k o6; have o7 := hs8.k o7; have o8 := hs8.k o8; have o9 := hs8.k o9; have o11 := hs8.k o11; have o10 := hs8.k o10; have o13 := hs8.k o13; have o12 := hs8.k o12; have o66 := hs8.k o66; have D := hs8.defers.trans D
 rcases hG with hG | hG
 · rw [hG] at o68
   have hI := hIs hG
   have HT := stext_any Z (by have := mayN_z hI.may; have := hI.big; omega) H hH A1 c1 X hX (by omega) w7 (LPw.kp S.k).toLD (Rd.of_own (S.at_ (l1 := [_, _, _])))
   rw [hI.textN, show chkN Z X = 0 from by unfold chkN; rw [hI.may]; rfl] at HT
   refine wp_cond_true ((o68.eval (by rw [hz8]; decide)).trans rfl) ?_
   refine wp_seq (sgt_r9 w7 g10 _ (ntA_size hH) (S.at_ (l1 := [_, _])) _ _ HT [] (Held.start w7) hz8 o10 (fun a9 w9 hs9 o14 o15 S2 => ?_))
   have hz9 := hs9.size.trans hz8; have o1 := hs9.k o1; have o2 := hs9.k o2; have o5 := hs9.k o5; have o6 := hs9.k o6; have o7 := hs9.k o7; have o8 := hs9.k o8; have o9 := hs9.k o9; have o11 := hs9.k o11; have o10 := hs9.k o10; have o13 := hs9.k o13; have o12 := hs9.k o12; have o66 := hs9.k o66; have o68 := hs9.k o68; have D := hs9.defers.trans D
   refine wp_seq (sgt_r10 _ hz9 o1 o14 o15 (fun a10 w10 hs10 k10 o81 => ?_))
   have hz10 := hs10.size.trans hz9; have o1 := hs10.k o1; have o2 := hs10.k o2; have o5 := hs10.k o5; have o6 := hs10.k o6; have o7 := hs10.k o7; have o8 := hs10.k o8; have o9 := hs10.k o9; have o11 := hs10.k o11; have o10 := hs10.k o10; have o13 := hs10.k o13; have o12 := hs10.k o12; have o66 := hs10.k o66; have o68 := hs10.k o68; have o14 := hs10.k o14; have o15 := hs10.k o15; have D := hs10.defers.trans D
   have kk : Kp [] w7 w10 := S2.k.trans k10 (by simp)
   refine wp_cond_false (o81.eval (by rw [hz10]; decide)) (wp_skip ?_)
   simp only [Exit.then]
   exact hend a10 w10 hz10 D o2 o6 o9 kk
 · rw [hG] at o68
   refine wp_cond_false ((o68.eval (by rw [hz8]; decide)).trans rfl) (wp_skip ?_)
   simp only [Exit.then]
   exact hend a8 w7 hz8 D o2 o6 o9 kR
theorem signtexts_law (w : World) (z : Int) (hz : -9223372036854775808 ≤ z ∧ z ≤ 9223372036854775807) (h : List UInt8) (hh : h.length = 32) (A : Option Addr) (c : Nat) (l : List SigD) (hok : SgOk l) (hll : (l.length + 1) * 48 ≤ 140737488355328) (hv : Rd w 33 (.slice A l.length c) l.length (sgsC l)) (s : ByteArray) (hs : s.size ≤ 140737488351232) (LPw : LP w) :
 Calls Tryd.prog 8 #[.agg (ntA z h (.slice A l.length c)), .string s] w fun e w' => e = .returned (.bool true) ∧ Kp [] w w' :=
 signtexts_any z hz h hh A c l hok hll s.data.toList (by rw [← Lib.size_eq]; omega) w LPw hv
end
/- What comes in, opened: slices of bytes; how much there is of it. -/
section
open Go.RowKit Go.WideShapes Go.ChangeShapes
section
variable {H : Type} {enc : TypeId × Value → H} {P : Program}
/-! ### Bulk -/
theorem bulk_pos (d : DataW H) : 1 ≤ Rows.uptoBulk d := by
 cases d with
 | lit l => cases l <;> simp [Rows.uptoBulk]
 | nil => simp [Rows.uptoBulk]
 | ptr d => simp [Rows.uptoBulk]
 | slice elems spare => simp [Rows.uptoBulk]
 | agg parts => simp [Rows.uptoBulk]
 | iface t d => simp [Rows.uptoBulk]
 | map entries => simp [Rows.uptoBulk]
 | held h => simp [Rows.uptoBulk]
theorem bulk_len (l : List (DataW H)) : l.length ≤ Rows.uptoBulkAll l := by
 induction l with
 | nil => simp [Rows.uptoBulkAll]
 | cons x r ih => have := bulk_pos x; simp only [Rows.uptoBulkAll, List.length_cons]; omega
/-! ### A slice of bytes -/
theorem u8_lit {z : Int} (h : (Lit.int .u8 z).wf = true) : 0 ≤ z ∧ z ≤ 255 := by simpa [Lit.wf, IntKind.min, IntKind.max, IntKind.signed, IntKind.bits] using h
end
end
/- What comes in, opened: slices of Puts. -/
section
open Go.RowKit Go.WideShapes Go.ChangeShapes
section
variable {H : Type} {enc : TypeId × Value → H}
theorem open_hash {P : Program} {W : World} {n m : Nat} {t e : TypeId} {cs : List Value} {x : DataW H × List MemPlace} (ht : P.underlying t = some (.array m e)) (he : P.underlying e = some (.int .u8)) (hc : P.cellsOf e = 1) (hct : P.cellsOf t = m)
 (h : DataW.trod enc P W 0 (fun _ => true) true n t cs = some x) : ∃ h : List UInt8, h.length = m ∧ cs = bv h ∧ m + 1 ≤ Rows.uptoBulk x.1 := by
 obtain ⟨xs, k, rfl, rfl, hl, hxl, hel⟩ := DataW.trod_array ht h
 rw [hct] at hl
 have one : ∀ i, i < m → ∃ z : Int, cs[i]? = some (.int .u8 z) ∧ 0 ≤ z ∧ z ≤ 255 := fun i hi => by
  have h1 := hel i hi
  rw [hc, Nat.mul_one, cut_one] at h1
  have hx : xs[i]? = some xs[i] := List.getElem?_eq_getElem (by omega)
  rw [hx] at h1
  obtain ⟨z, hz, _, hw⟩ := DataW.trod_int he h1
  have hw := u8_lit hw
  cases hcs : cs[i]? with
  | none => rw [hcs] at hz; cases hz
  | some v => rw [hcs] at hz; cases hz; exact ⟨z, rfl, hw.1, hw.2⟩
 refine ⟨(List.range m).map fun i => (match (cs[i]? : Option Value) with | some (Value.int _ z) => UInt8.ofNat z.toNat | _ => 0), by simp, ?_, ?_⟩
 · apply List.ext_getElem?
   intro i
   rw [bv_get, List.getElem?_map]
   by_cases hi : i < m
   · obtain ⟨z, hz, h1, h2⟩ := one i hi
     rw [hz, List.getElem?_range hi]
     simp only [Option.map_some]
     rw [hz]
     simp only [UInt8.toNat_ofNat', Nat.mod_eq_of_lt (show z.toNat < 2 ^ 8 by omega)]
     congr 2
     omega
   · rw [List.getElem?_eq_none (by omega), List.getElem?_eq_none (by simp; omega)]
     rfl
 · simp only [Rows.uptoBulk]
   have := bulk_len (xs.map (·.1))
   rw [List.length_map, hxl] at this
   omega
theorem Tryd.cellsHash : Tryd.prog.cellsOf 25 = 32 := by kernel_rfl
end
end
/- Points that came in, opened. -/
section
open Go.RowKit Go.WideShapes Go.ChangeShapes
section
variable {H : Type} {enc : TypeId × Value → H}
theorem Tryd.cellsPoint : Tryd.prog.cellsOf 33 = 33 := by kernel_rfl
theorem Tryd.cellsI64 : Tryd.prog.cellsOf 2 = 1 := by kernel_rfl
theorem open_pt {W : World} {n : Nat} {cs : List Value} {x : DataW H × List MemPlace} (h : DataW.trod enc Tryd.prog W 0 (fun _ => true) true n 33 cs = some x) :
 ∃ (z : Int) (hh : List UInt8), cs = (ptA z hh).toList ∧ (-9223372036854775808 ≤ z ∧ z ≤ 9223372036854775807) ∧ hh.length = 32 := by
 obtain ⟨xs, k, rfl, rfl, hl, hxl, hf⟩ := DataW.trod_struct Tryd.underlying33 h
 rw [Tryd.cellsPoint] at hl
 obtain ⟨x0, x1, rfl⟩ : ∃ x0 x1, xs = [x0, x1] := by
  match xs, hxl with
  | [x0, x1], _ => exact ⟨x0, x1, rfl⟩
 have f0 : DataW.trod enc Tryd.prog W 0 (fun _ => true) true k 2 ((cs.drop 0).take (Tryd.prog.cellsOf 2)) = some x0 := hf 0 _ rfl
 have f1 : DataW.trod enc Tryd.prog W 0 (fun _ => true) true k 25 ((cs.drop 1).take (Tryd.prog.cellsOf 25)) = some x1 := hf 1 _ rfl
 rw [Tryd.cellsI64] at f0
 rw [Tryd.cellsHash] at f1
 clear hf hxl
 obtain ⟨z, e0, _, w0⟩ := DataW.trod_int Tryd.underlying2 f0
 obtain ⟨hh, hhl, e1, _⟩ := open_hash Tryd.underlying25 Tryd.underlying5 Tryd.cellsU8 Tryd.cellsHash f1
 have w0 := i64_lit w0
 have g0 := at_of_cut (i := 0) e0
 refine ⟨z, hh, ?_, w0, hhl⟩
 obtain ⟨a, l, rfl⟩ := List.exists_cons_of_length_pos (l := cs) (by omega)
 rw [List.length_cons] at hl
 have g0 := Option.some.inj g0
 subst g0
 have : l = bv hh := by
  rw [← e1, List.drop_succ_cons, List.drop_zero, List.take_of_length_le (by omega)]
 rw [this]
 rfl
end
end
/- Hashes that came in, opened. -/
section
open Go.RowKit Go.WideShapes Go.ChangeShapes
section
variable {H : Type} {enc : TypeId × Value → H}
end
end
/- Keys that came in, opened. -/
section
open Go.RowKit Go.WideShapes Go.ChangeShapes
section
variable {H : Type} {enc : TypeId × Value → H}
theorem Tryd.cellsStr : Tryd.prog.cellsOf 9 = 1 := by kernel_rfl
theorem str_back (s : ByteArray) : strV s.data.toList = .string s := by
 unfold strV
 congr 1
end
end
/- Lists of points that came in, opened. -/
section
open Go.RowKit Go.WideShapes Go.ChangeShapes
section
variable {H : Type} {enc : TypeId × Value → H}
end
end
/- Notes that came in, opened. -/
section
open Go.RowKit Go.WideShapes Go.ChangeShapes
section
variable {H : Type} {enc : TypeId × Value → H}
theorem Tryd.cellsSig : Tryd.prog.cellsOf 81 = 33 := by kernel_rfl
theorem Tryd.cellsNote : Tryd.prog.cellsOf 36 = 34 := by kernel_rfl
theorem Tryd.cellsSigs : Tryd.prog.cellsOf 34 = 1 := by kernel_rfl
theorem open_sig {W : World} {n : Nat} {cs : List Value} {x : DataW H × List MemPlace} (h : DataW.trod enc Tryd.prog W 0 (fun _ => true) true n 81 cs = some x) :
 ∃ s : SigD, cs = sgL s ∧ s.2.length = 32 ∧ s.1.length ≤ 9223372036854775807 := by
 obtain ⟨xs, k, rfl, rfl, hl, hxl, hf⟩ := DataW.trod_struct Tryd.underlying81 h
 rw [Tryd.cellsSig] at hl
 obtain ⟨x0, x1, rfl⟩ : ∃ x0 x1, xs = [x0, x1] := by
  match xs, hxl with
  | [x0, x1], _ => exact ⟨x0, x1, rfl⟩
 have f0 : DataW.trod enc Tryd.prog W 0 (fun _ => true) true k 9 ((cs.drop 0).take (Tryd.prog.cellsOf 9)) = some x0 := hf 0 _ rfl
 have f1 : DataW.trod enc Tryd.prog W 0 (fun _ => true) true k 25 ((cs.drop 1).take (Tryd.prog.cellsOf 25)) = some x1 := hf 1 _ rfl
 rw [Tryd.cellsStr] at f0
 rw [Tryd.cellsHash] at f1
 clear hf hxl
 obtain ⟨s, e0, rfl, hs⟩ := DataW.trod_string Tryd.underlying9 f0
 obtain ⟨hh, hhl, e1, _⟩ := open_hash Tryd.underlying25 Tryd.underlying5 Tryd.cellsU8 Tryd.cellsHash f1
 have g0 := at_of_cut (i := 0) e0
 rw [Lib.size_eq] at hs
 refine ⟨(s.data.toList, hh), ?_, hhl, Nat.le_trans hs (by unfold maxLen; omega)⟩
 obtain ⟨a, l, rfl⟩ := List.exists_cons_of_length_pos (l := cs) (by omega)
 rw [List.length_cons] at hl
 have g0 := Option.some.inj g0
 subst g0
 have : l = bv hh := by
  rw [← e1, List.drop_succ_cons, List.drop_zero, List.take_of_length_le (by omega)]
 rw [this]
 unfold sgL
 rw [str_back]
theorem sgsC_inv {l : List SigD} (hok : SgOk l) {j : Nat} {u : Value} (h : (sgsC l)[j]? = some u) : ∃ s, l[j / 33]? = some s ∧ (sgL s)[j % 33]? = some u := by
 have hl := sgsC_length hok
 have hj := (List.getElem?_eq_some_iff.1 h).1
 obtain ⟨q, hq⟩ : ∃ q, l[j / 33]? = some q := ⟨_, List.getElem?_eq_getElem (by omega)⟩
 have hs := sgL_length (s := q) (hok q (List.mem_of_getElem? hq)).1
 obtain ⟨v, hv⟩ : ∃ v, (sgL q)[j % 33]? = some v := ⟨_, List.getElem?_eq_getElem (by rw [hs]; omega)⟩
 have := sgsC_at hok hq _ _ hv
 rw [show j / 33 * 33 + j % 33 = j from by omega, h] at this
 exact ⟨q, hq, by rw [hv, ← this]⟩
theorem open_sigs {W : World} {n : Nat} {v : Value} {x : DataW H × List MemPlace} (h : DataW.trod enc Tryd.prog W 0 (fun _ => true) true n 34 [v] = some x) :
 ∃ l, Rd W 33 v l.length (sgsC l) ∧ SgOk l ∧ (l = [] ∨ ∃ elems spare, x.1 = .slice elems spare ∧ elems.length = l.length) := by
 rcases Deep.open_slice Tryd.underlying34 h with ⟨hv, rfl⟩ | ⟨a, len, cap, m, k, D, Pl, hv, _, hl, hm, hmm, rfl, hel⟩
 · cases hv
   exact ⟨[], Rd.nil _ _, (fun _ h => by cases h), .inl rfl⟩
 · cases hv
   simp only [if_true] at hmm
   obtain ⟨G, hG⟩ := Deep.choose_lt (α := SigD) (n := len) (p := fun i q => (∀ j u, (sgL q)[j]? = some u → W.cell? ((a.add (i * 33)).add j) = some u) ∧ q.2.length = 32 ∧ q.1.length ≤ 9223372036854775807) (fun i hi => by
    obtain ⟨cs, h1, h2⟩ := hel i (by omega)
    rw [Tryd.cellsSig] at h1
    obtain ⟨s, rfl, hs1, hs2⟩ := open_sig h2
    obtain ⟨_, hlen, hcell⟩ := World.cells?_some h1
    exact ⟨s, (fun j u hu => by rw [hcell j (by have := (List.getElem?_eq_some_iff.1 hu).1; rw [sgL_length hs1] at this; omega)]; exact hu), hs1, hs2⟩)
   have hget : ∀ i q, ((List.range len).map G)[i]? = some q → i < len ∧ q = G i := fun i q h => by
    rw [List.getElem?_map] at h
    by_cases hi : i < len
    · rw [List.getElem?_range hi] at h
      exact ⟨hi, (Option.some.inj h).symm⟩
    · rw [List.getElem?_eq_none (by simp; omega)] at h; cases h
   have hok : SgOk ((List.range len).map G) := fun q hq => by
    obtain ⟨i, hi, rfl⟩ := List.mem_map.1 hq
    exact (hG i (List.mem_range.1 hi)).2
   refine ⟨(List.range len).map G, ?_, hok, .inr ⟨_, _, rfl, by simp⟩⟩
   have hlen : ((List.range len).map G).length = len := by simp
   have hC := sgsC_length hok
   rw [hlen] at hC ⊢
   refine rd_some hC hl hm (fun ad had j u hu => ?_)
   cases had
   obtain ⟨q, hq, hqu⟩ := sgsC_inv hok hu
   obtain ⟨hi, rfl⟩ := hget _ _ hq
   have := (hG _ hi).1 _ _ hqu
   rw [add_of_add, show j / 33 * 33 + j % 33 = j from by omega] at this
   exact this
theorem open_nt {W : World} {n : Nat} {cs : List Value} {x : DataW H × List MemPlace} (h : DataW.trod enc Tryd.prog W 0 (fun _ => true) true n 36 cs = some x) :
 ∃ (z : Int) (hh : List UInt8) (v : Value) (l : List SigD), cs = ntL z hh v ∧ (-9223372036854775808 ≤ z ∧ z ≤ 9223372036854775807) ∧ hh.length = 32 ∧ Rd W 33 v l.length (sgsC l) ∧ SgOk l ∧ ∃ d0 d1, x.1 = .agg [d0, d1] ∧ (l = [] ∨ ∃ elems spare, d1 = .slice elems spare ∧ elems.length = l.length) := by
 obtain ⟨xs, k, rfl, rfl, hl, hxl, hf⟩ := DataW.trod_struct Tryd.underlying36 h
 rw [Tryd.cellsNote] at hl
 obtain ⟨x0, x1, rfl⟩ : ∃ x0 x1, xs = [x0, x1] := by
  match xs, hxl with
  | [x0, x1], _ => exact ⟨x0, x1, rfl⟩
 have f0 : DataW.trod enc Tryd.prog W 0 (fun _ => true) true k 33 ((cs.drop 0).take (Tryd.prog.cellsOf 33)) = some x0 := hf 0 _ rfl
 have f1 : DataW.trod enc Tryd.prog W 0 (fun _ => true) true k 34 ((cs.drop 33).take (Tryd.prog.cellsOf 34)) = some x1 := hf 1 _ rfl
 rw [Tryd.cellsPoint] at f0
 rw [Tryd.cellsSigs] at f1
 clear hf hxl
 obtain ⟨z, hh, e0, hz, hhl⟩ := open_pt f0
 obtain ⟨v, hv⟩ : ∃ v, (cs.drop 33).take 1 = [v] := by
  obtain ⟨a, ha⟩ : ∃ a, cs.drop 33 = [a] := List.length_eq_one_iff.1 (by rw [List.length_drop, hl])
  exact ⟨a, by rw [ha]; rfl⟩
 rw [hv] at f1
 obtain ⟨l, hr, hok, hb⟩ := open_sigs f1
 refine ⟨z, hh, v, l, ?_, hz, hhl, hr, hok, _, _, rfl, hb⟩
 have h2 : cs.drop 33 = [v] := by rw [← hv, List.take_of_length_le (by rw [List.length_drop, hl]; decide)]
 rw [← List.take_append_drop 33 cs, h2]
 rw [List.drop_zero] at e0
 rw [e0]
 rfl
theorem open_nt_arg {W : World} {b0 : Nat} {v : Value} {d : DataW H} {pl : List MemPlace} (hv : Value.okWide Tryd.prog W .any b0 36 v) (h : DataW.Trod enc Tryd.prog W 0 (fun _ => true) true 36 v d pl) :
 ∃ (z : Int) (hh : List UInt8) (A : Option Addr) (c : Nat) (l : List SigD), v = .agg (ntA z hh (.slice A l.length c)) ∧ (-9223372036854775808 ≤ z ∧ z ≤ 9223372036854775807) ∧ hh.length = 32 ∧ Rd W 33 (.slice A l.length c) l.length (sgsC l) ∧ SgOk l ∧ ∃ d0 d1, d = .agg [d0, d1] ∧ (l = [] ∨ ∃ elems spare, d1 = .slice elems spare ∧ elems.length = l.length) := by
 obtain ⟨cs, rfl, hsz⟩ := okWide_struct Tryd.underlying36 hv
 obtain ⟨fuel, hf⟩ := h
 obtain ⟨z, hh, v, l, h1, h2, h3, h4, h5, h6⟩ := open_nt hf
 obtain ⟨A, c, rfl⟩ := rd_form h4
 refine ⟨z, hh, A, c, l, ?_, h2, h3, h4, h5, h6⟩
 congr 1
 apply Array.ext'
 exact h1
theorem bytes_of_sg : Tryd.prog.bytesOf 81 = 48 := by kernel_rfl
theorem sized_nt {ts : List TypeId} {ds : List (DataW H)} (h : (DataW.weightsEach Tryd.prog ts ds).all (· ≤ reachBytes) = true) (j : Nat) {d0 d1 : DataW H} {l : List SigD} (ht : ts[j]? = some 36) (hd : ds[j]? = some (.agg [d0, d1]))
 (hb : l = [] ∨ ∃ elems spare, d1 = .slice elems spare ∧ elems.length = l.length) : (l.length + 1) * 48 ≤ 140737488355328 := by
 rcases hb with rfl | ⟨elems, spare, rfl, hl⟩
 · simp
 · have hm : (elems.length + spare.length) * Tryd.prog.bytesOf 81 ∈ (DataW.agg [d0, .slice elems spare] : DataW H).weights Tryd.prog 36 := by
    rw [DataW.weights, Tryd.underlying36]
    exact DataW.weights_mem_each (j := 1) (t := 34) rfl rfl _ (by simp [DataW.weights, Tryd.underlying34])
   have := List.all_eq_true.1 h _ (DataW.weights_mem_each ht hd _ hm)
   rw [bytes_of_sg] at this
   simp only [decide_eq_true_eq] at this
   unfold reachBytes at this
   omega
end
end
/- What the listed variables give; a world for the witness. -/
section
open Go.ChangeShapes Go.WideShapes Go.ChangeAt Go.RowKit
theorem door_met (os : Os) (args : Array Value) : laidMet Tryd.prog Rows.signTextsRow.laid ((World.doorLaid Tryd.prog 2000 os).forCall (fun _ _ => 0) ⟨#[], args, []⟩).memory :=
 laidMet_of_run' 8 (by kernel_rfl) (by kernel_rfl)
theorem star_es : "*" ++ "errors.errorString" = "*errors.errorString" := by decide
theorem row_es (u : TypeId) (h : Tryd.prog.typeName? 3 u = some "*errors.errorString") : u = 178 :=
 typeName_ptr_named (nm := "errors.errorString") (by rw [star_es]; kernel_rfl) (by kernel_rfl) (by decide) u (by rw [star_es]; exact h)
theorem LD_laid {W : World} (h : laidMet Tryd.prog Rows.signTextsRow.laid W) : LP W := by
 have h3 := h.tail.tail
 have h4 := h3.tail
 have h5 := h4.tail
 refine ⟨⟨Lib.tabIs_of_head (g := 1) (by kernel_rfl) (by kernel_rfl) Tryd.underlying166 Tryd.underlying136 (by kernel_rfl) (by kernel_rfl) h3⟩, ?_, ?_⟩
 · obtain ⟨a, s, hv, -⟩ := laid_sentinel (g := 2) h5 (by kernel_rfl) (by kernel_rfl) Tryd.underlying125 row_es Tryd.underlying178 Tryd.underlying180 rfl rfl Tryd.underlying9 (by kernel_rfl) (by kernel_rfl)
   exact ⟨_, _, hv⟩
 · obtain ⟨a, s, hv, -⟩ := laid_sentinel (g := 3) h4 (by kernel_rfl) (by kernel_rfl) Tryd.underlying125 row_es Tryd.underlying178 Tryd.underlying180 rfl rfl Tryd.underlying9 (by kernel_rfl) (by kernel_rfl)
   exact ⟨_, _, hv⟩
end
/- The row's last step, where a walk has left 'Below' of the world it began in. -/
section
open Go.RowKit Go.WideShapes Go.ChangeShapes
theorem own_knob : ownKnob Tryd.prog.godebug = none := by kernel_rfl
section
variable {H : Type} {enc : TypeId × Value → H} {P : Program}
theorem post_below {f : Func} {s : ChangeSpec} {apart fresh handsOn again : Bool} {W W' : World} {args : Array Value} {v : Value} {ds gs : List (DataW H)} {before pa pv : List MemPlace}
 (hW : DataW.Whole enc P f.params.toList s.vars apart W args.toList ds gs before)
 (hres : ∀ (b : Nat) (sp : Nat → Bool) (hd : Bool), DataW.TrodAll enc P W' b sp hd f.resultTypes.toList (v.resultList f.resultTypes.size) (s.fn H (ds ++ gs)).results [])
 (hargs : ∀ sp : Nat → Bool, (∀ p ∈ before, sp p.block = true) → DataW.TrodAll enc P W' 0 sp true f.params.toList args.toList (s.fn H (ds ++ gs)).args pa)
 (hvars : ∀ sp : Nat → Bool, (∀ p ∈ before, sp p.block = true) → DataW.TrodVars enc P W' sp s.vars (s.fn H (ds ++ gs)).vars pv)
 (hps : before = pa ++ pv) (hb : Below W.heap.size W W')
 (hok : ∀ (j : Nat) (t : TypeId) (r : Value), f.resultTypes[j]? = some t → (v.resultList f.resultTypes.size)[j]? = some r → Value.okWide P W' .any 0 t r) :
 s.post enc P f apart fresh handsOn again W args v W' := by
 have hlt : ∀ p ∈ before, p.block < W.heap.size := fun p hp => hW.lt p hp
 have hold : ∀ p ∈ before, (fun b => decide (b < W.heap.size)) p.block = true := fun p hp => by simpa using hlt p hp
 refine ⟨ds, gs, before, [], pa, pv, hW, hres _ _ _, hargs _ hold, hvars _ hold, World.keptBut_mono (fun p hp => ⟨hp, ?_⟩) (hb.frame (· ∈ before)), fun _ => ?_⟩
 · rw [hps, List.mem_append] at hp
   exact Or.inr hp
 · obtain ⟨_, _, _, _, _, hz, hn⟩ := hW
   refine ⟨hok, _, _, ([] ++ pa) ++ pv, ⟨[] ++ pa, pv, trodAll_append (hargs _ (fun _ _ => rfl)) (hres _ _ _), hvars _ (fun _ _ => rfl), rfl, ?_, ?_⟩, ?_⟩
   · intro b off hp
     have hin : MemPlace.cell b off ∈ before := by rw [hps]; simpa using hp
     rw [hb.frozen (hlt _ hin)]
     exact hz b off hin
   · intro ha
     have := hn ha
     rw [hps] at this
     simpa using this
   · intro p hp _
     rw [hps]
     simpa using hp
end
theorem Kp.below0 {w w' : World} (h : Kp [] w w') : Below w.heap.size w w' := h.below (Nat.le_refl _) (by simp)
end
/- The row's last step, where the arguments read as they did (out of 'Below' alone). -/
section
open Go.RowKit Go.WideShapes Go.ChangeShapes
section
variable {H : Type} {enc : TypeId × Value → H} {P : Program}
theorem trodAll_stays (hl : laidOutB P = true) {W W' : World} {sp' : Nat → Bool} : ∀ {ts : List TypeId} {vs : List Value} {ds : List (DataW H)} {ps : List MemPlace}, ts.all (fun t => P.readableRec t && decide (t < P.types.size)) = true →
 DataW.TrodAll enc P W 0 (fun _ => true) true ts vs ds ps → (∀ p ∈ ps, W.sameAt W' p) → (∀ p ∈ ps, sp' p.block = true) → DataW.TrodAll enc P W' 0 sp' true ts vs ds ps
 | [], [], [], _, _, h, _, _ => h
 | t :: ts, v :: vs, d :: ds, _, hr, ⟨p, q, h1, h2, e⟩, hm, hs => by
  simp only [List.all_cons, Bool.and_eq_true, decide_eq_true_eq] at hr
  exact ⟨p, q, WideElems.Trod_stays hl hr.1.1 hr.1.2 h1 (fun x hx => hm x (by rw [e]; exact List.mem_append_left _ hx)) (fun x hx => hs x (by rw [e]; exact List.mem_append_left _ hx)),
   trodAll_stays hl hr.2 h2 (fun x hx => hm x (by rw [e]; exact List.mem_append_right _ hx)) (fun x hx => hs x (by rw [e]; exact List.mem_append_right _ hx)), e⟩
theorem post_kept {f : Func} {s : ChangeSpec} {apart fresh handsOn again : Bool} {W W' : World} {args : Array Value} {v : Value} {ds gs : List (DataW H)} {before : List MemPlace}
 (hl : laidOutB P = true) (hr : f.params.toList.all (fun t => P.readableRec t && decide (t < P.types.size)) = true) (hsv : s.vars = [])
 (hW : DataW.Whole enc P f.params.toList s.vars apart W args.toList ds gs before)
 (hres : ∀ (b : Nat) (sp : Nat → Bool) (hd : Bool), DataW.TrodAll enc P W' b sp hd f.resultTypes.toList (v.resultList f.resultTypes.size) (s.fn H (ds ++ gs)).results [])
 (hfa : (s.fn H (ds ++ gs)).args = ds) (hfv : (s.fn H (ds ++ gs)).vars = []) (hb : Below W.heap.size W W')
 (hok : ∀ (j : Nat) (t : TypeId) (r : Value), f.resultTypes[j]? = some t → (v.resultList f.resultTypes.size)[j]? = some r → Value.okWide P W' .any 0 t r) :
 s.post enc P f apart fresh handsOn again W args v W' := by
 have hlt : ∀ p ∈ before, p.block < W.heap.size := fun p hp => hW.lt p hp
 have hW2 := hW
 obtain ⟨p, q, hA, hV, rfl, hz, hn⟩ := hW2
 rw [hsv] at hV
 obtain ⟨rfl, rfl⟩ := trodVars_none hV
 refine post_below (pa := p) (pv := []) hW hres (fun sp hs => ?_) (fun sp hs => ?_) rfl hb hok
 · rw [hfa]
   exact trodAll_stays hl hr hA (fun x hx => hb.same (hlt x (List.mem_append_left _ hx))) (fun x hx => hs x (List.mem_append_left _ hx))
 · rw [hsv, hfv]; exact rfl
end
theorem laid_out : laidOutB Tryd.prog = true := by kernel_rfl
end
end Go.Proofs.YtapboamjpilckaaDoor
