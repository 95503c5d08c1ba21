/- Several texts in one: SigBG, SigBH, SigBI, SigBJ, SigBK, SigBL, SigBM. -/
import Derived.Test.YtapboamjpilckaaDoorP9
set_option maxRecDepth 100000
set_option maxHeartbeats 8000000
namespace Go.Proofs.YtapboamjpilckaaDoor
/- Right of the reference, whole. -/
section
open Go.RowKit
theorem beq_swap (a b : List UInt8) : (a == b) = (b == a) := by
 by_cases e : a = b
 · rw [e]
 · rw [beq_false_of_ne e, beq_false_of_ne (fun e2 => e e2.symm)]
theorem srright_any (z : Int) (hz : -9223372036854775808 ≤ z ∧ z ≤ 9223372036854775807) (h : List UInt8) (hh : h.length = 32) (A : Option Addr) (c : Nat) (l : List SigD) (hok : SgOk l) (hll : l.length ≤ 9223372036854775806) (Ak : Option Addr) (ck : Nat) (ks : List KeyD) (hks : ks.length ≤ 35184372088832) (hnm : ∀ k, k ∈ ks → k.1.length ≤ maxLen) (vs : List Value) (w : World) (hv : Rd w 33 (.slice A l.length c) l.length (sgsC l)) (hkv : KysF w (.slice Ak ks.length ck) vs ks) :
 Calls Tryd.prog 29 #[.agg (ntA z h (.slice A l.length c)), .slice Ak ks.length ck] w fun e w' => ∃ v, e = .returned v ∧ Held w w' [rowR 9 1 v (rightA z h l ks).length ((rightA z h l ks).map strV)] := by
 refine calls_fr Tryd.func29 rfl 75 rfl (fun a0 hsz hdf hAr => ?_)
 have hz0 : a0.tmps.size = 75 := hsz
 have D := hdf
 have o0 := hAr 0 _ rfl
 have o1 := hAr 1 _ rfl
 refine wp_seq (rrt_r0 w _ [] (Held.start w) hz0 o0 (fun a1 w1 hs1 o4 h1 => ?_))
 have hz1 := hs1.size.trans hz0; have o0 := hs1.k o0; have o1 := hs1.k o1; have D := hs1.defers.trans D
 obtain ⟨g2, o2, S⟩ := h1
 refine wp_seq (rrt_r1 hz1 (fun a2 hs2 o5 => ?_))
 have hz2 := hs2.size.trans hz1; have o1 := hs2.k o1; have o2 := hs2.k o2; have D := hs2.defers.trans D
 refine wp_seq (wp_seq (rrt_r2 hz2 (fun a3 hs3 o6 => ?_)))
 have hz3 := hs3.size.trans hz2; have o1 := hs3.k o1; have o2 := hs3.k o2; have o5 := hs3.k o5; have D := hs3.defers.trans D
 have S : Held w w1 [rowR 9 1 (.slice none 0 0) 0 [], blkR g2 36 (ntA z h (.slice A l.length c))] := S.new (rowR 9 1 (.slice none 0 0) 0 []) kR (show Ow w1 9 1 (.slice none 0 0) 0 [] from ⟨rfl, .inl ⟨rfl, rfl⟩⟩) (fun b hb => by simp [rowR, Value.ownBlock] at hb)
 have hend : ∀ (a : Act) (W : World) (v : Value) (R : List (List UInt8)), a.tmps.size = 75 → a.defers = [] → Sl a 5 v → Held w W [rowR 9 1 v R.length (R.map strV), blkR g2 36 (ntA z h (.slice A l.length c))] → R = rightA z h l ks → (tailOf 3 Tryd.f29).wp Tryd.prog (bodyPost Tryd.prog Tryd.f29 fun e w' => ∃ v, e = .returned v ∧ Held w w' [rowR 9 1 v (rightA z h l ks).length ((rightA z h l ks).map strV)]) a W := by
  intro a W v R hs hd o5 S hR
  (conv => arg 2; whnf)
  refine wp_seq (rrt_r12 v hs o5 (fun a2 hs2 o4 => ?_))
  refine wp_ret ?_
  rw [hR] at S
  exact (bodyPost_ret (results_t1 (by rfl) (o4.eval (by rw [hs2.size, hs]; decide))) (hs2.defers.trans hd) ⟨v, rfl, S.some_of (List.singleton_sublist.2 (by simp))⟩)
 cases hm : mayN z l
 · refine wp_block ?_
   (conv => arg 2; whnf)
   refine wp_loop (fun a' w' => a' = a3 ∧ w' = w1) (fun _ _ => 0) ⟨rfl, rfl⟩ ?_
   rintro a4 w4 ⟨rfl, rfl⟩
   refine wp_seq (wp_seq (rrt_r3N z hz h hh A c l hok hll (rd_old hv S.k) 0 g2 (S.at_ (l1 := [_])) hm hz3 o2 o6 (fun a5 w5 hs5 k5 o17 => ?_)))
   have hz5 := hs5.size.trans hz3
   refine wp_cond_false (o17.eval (by rw [hz5]; decide)) (wp_exit ?_)
   simp only [Exit.then, Exit.inBlock]
   exact hend a5 w5 _ [] hz5 (hs5.defers.trans D) (hs5.k o5) (S.kp k5) (by unfold rightA; rw [hm]; rfl)
 · obtain ⟨h64, hr⟩ := mayN_64 hm
   have hz0' : 0 ≤ z := by unfold mayN at hm; simp only [Bool.and_eq_true, decide_eq_true_eq] at hm; exact hm.1.1
   refine wp_block ?_
   (conv => arg 2; whnf)
   refine wp_loop (fun a' w' => ∃ (ix : Nat) (v : Value), ix ≤ l.length ∧ a'.tmps.size = 75 ∧ a'.defers = [] ∧ Sl a' 1 (.slice Ak ks.length ck) ∧ Sl a' 2 (.pointer (some ⟨g2, 0, none⟩)) ∧ Sl a' 5 v ∧ Sl a' 6 (.int .i64 ((ix : Nat) : Int)) ∧ Held w w' [rowR 9 1 v (((l.take (ix)).filter fun s => ks.any fun k => matchS z h k s).map (·.1)).length ((((l.take (ix)).filter fun s => ks.any fun k => matchS z h k s).map (·.1)).map strV), blkR g2 36 (ntA z h (.slice A l.length c))]) (fun a' _ => l.length - (intOf (a'.eval (.tmp 6))).toNat) ⟨0, _, Nat.zero_le _, hz3, D, o1, o2, o5, o6, S⟩ ?_
   iterate 9 (try clear o1)
   iterate 9 (try clear o2)
   iterate 9 (try clear o5)
   iterate 9 (try clear o6)
   iterate 9 (try clear S)
   iterate 9 (try clear D)
   rintro a5 w5 ⟨ix, v, hix, hz5, D, o1, o2, o5, o6, S⟩
   have e6 := o6.eval (by rw [hz5]; decide)
   refine wp_seq (wp_seq (rrt_r3Y z hz h hh A c l hok hll (rd_old hv S.k) ix g2 (S.at_ (l1 := [_])) hm hz5 o2 o6 (fun a6 w6 hs6 k6 o17 => ?_)))
   have hz6 := hs6.size.trans hz5; have o1 := hs6.k o1; have o2 := hs6.k o2; have o5 := hs6.k o5; have o6 := hs6.k o6; have D := hs6.defers.trans D
   have S := S.kp k6
   by_cases hlt : ix < l.length
   · refine wp_cond_true ((o17.eval (by rw [hz6]; decide)).trans (by rw [decide_eq_true hlt])) (wp_skip ?_)
     simp only [Exit.then]
     obtain ⟨a2', hA⟩ := sgs_addr hv (by omega)
     have hva := hv
     rw [hA] at hva
     obtain ⟨s, hs⟩ : ∃ s, l[ix]? = some s := ⟨_, List.getElem?_eq_getElem hlt⟩
     have hsk := hok s (List.mem_of_getElem? hs)
     have htk : l.take (ix + 1) = l.take ix ++ [s] := by rw [List.take_add_one, hs]; rfl
     have hback : ∀ (a9 : Act) (w9 : World) (v2 : Value), a9.tmps.size = 75 → a9.defers = [] → Sl a9 1 (.slice Ak ks.length ck) → Sl a9 2 (.pointer (some ⟨g2, 0, none⟩)) → Sl a9 5 v2 → Sl a9 6 (.int .i64 ((ix : Nat) : Int)) → Held w w9 [rowR 9 1 v2 (((l.take (ix + 1)).filter fun s => ks.any fun k => matchS z h k s).map (·.1)).length ((((l.take (ix + 1)).filter fun s => ks.any fun k => matchS z h k s).map (·.1)).map strV), blkR g2 36 (ntA z h (.slice A l.length c))] →
      ∀ R, (Code.region 4 (opsOf 4 Tryd.f29).toArray false).wp Tryd.prog (Exit.then (fun a' w' => (∃ (ix : Nat) (v : Value), ix ≤ l.length ∧ a'.tmps.size = 75 ∧ a'.defers = [] ∧ Sl a' 1 (.slice Ak ks.length ck) ∧ Sl a' 2 (.pointer (some ⟨g2, 0, none⟩)) ∧ Sl a' 5 v ∧ Sl a' 6 (.int .i64 ((ix : Nat) : Int)) ∧ Held w w' [rowR 9 1 v (((l.take (ix)).filter fun s => ks.any fun k => matchS z h k s).map (·.1)).length ((((l.take (ix)).filter fun s => ks.any fun k => matchS z h k s).map (·.1)).map strV), blkR g2 36 (ntA z h (.slice A l.length c))]) ∧ l.length - (intOf (a'.eval (.tmp 6))).toNat < l.length - (intOf (a5.eval (.tmp 6))).toNat) R) a9 w9 := by
      intro a9 w9 v2 hz9 D o1 o2 o5 o6 S R
      refine rrt_r4 ix (by omega) hz9 o6 (fun a10 hs10 o6' => ?_)
      have hz10 := hs10.size.trans hz9
      refine ⟨⟨ix + 1, v2, by omega, hz10, hs10.defers.trans D, hs10.k o1, hs10.k o2, hs10.k o5, o6', S⟩, ?_⟩
      rw [e6, o6'.eval (by rw [hz10]; decide)]
      simp only [intOf]; omega
     refine wp_seq (wp_block ?_)
     refine wp_seq (rrt_r5 hz6 (fun a7 hs7 o7 => ?_))
     have hz7 := hs7.size.trans hz6; have o1 := hs7.k o1; have o2 := hs7.k o2; have o5 := hs7.k o5; have o6 := hs7.k o6; have o17 := hs7.k o17; have D := hs7.defers.trans D
     refine wp_seq (wp_seq (rrt_r6 hz7 (fun a8 hs8 o8 => ?_)))
     have hz8 := hs8.size.trans hz7; have o1 := hs8.k o1; have o2 := hs8.k o2; have o5 := hs8.k o5; have o6 := hs8.k o6; have o17 := hs8.k o17; have o7 := hs8.k o7; have D := hs8.defers.trans D
     refine wp_block ?_
     (conv => arg 2; whnf)
     refine wp_loop (fun a' w' => ∃ kx : Nat, kx ≤ ks.length ∧ a'.tmps.size = 75 ∧ a'.defers = [] ∧ Sl a' 1 (.slice Ak ks.length ck) ∧ Sl a' 2 (.pointer (some ⟨g2, 0, none⟩)) ∧ Sl a' 5 v ∧ Sl a' 6 (.int .i64 ((ix : Nat) : Int)) ∧ Sl a' 7 (.bool ((ks.take kx).any fun k => matchS z h k s)) ∧ Sl a' 8 (.int .i64 ((kx : Nat) : Int)) ∧ Held w w' [rowR 9 1 v (((l.take (ix)).filter fun s => ks.any fun k => matchS z h k s).map (·.1)).length ((((l.take (ix)).filter fun s => ks.any fun k => matchS z h k s).map (·.1)).map strV), blkR g2 36 (ntA z h (.slice A l.length c))]) (fun a' _ => ks.length - (intOf (a'.eval (.tmp 8))).toNat) ⟨0, Nat.zero_le _, hz8, D, o1, o2, o5, o6, o7, o8, S⟩ ?_
     iterate 9 (try clear o1)
     iterate 9 (try clear o2)
     iterate 9 (try clear o5)
     iterate 9 (try clear o6)
     iterate 9 (try clear o7)
     iterate 9 (try clear o8)
     iterate 9 (try clear o17)
     iterate 9 (try clear S)
     iterate 9 (try clear D)
     rintro a9 w9 ⟨kx, hkx, hz9, D, o1, o2, o5, o6, o7, o8, S⟩
     have e8 := o8.eval (by rw [hz9]; decide)
     refine wp_seq (wp_seq (rrt_r7 Ak kx ks.length ck hz9 o1 o8 (fun a10 hs10 o23 => ?_)))
     have hz10 := hs10.size.trans hz9; have o1 := hs10.k o1; have o2 := hs10.k o2; have o5 := hs10.k o5; have o6 := hs10.k o6; have o7 := hs10.k o7; have o8 := hs10.k o8; have D := hs10.defers.trans D
     by_cases hlk : kx < ks.length
     · refine wp_cond_true ((o23.eval (by rw [hz10]; decide)).trans (by rw [decide_eq_true hlk])) (wp_skip ?_)
       simp only [Exit.then]
       obtain ⟨kk, hkk⟩ : ∃ kk, ks[kx]? = some kk := ⟨_, List.getElem?_eq_getElem hlk⟩
       have htk2 : (ks.take (kx + 1)).any (fun k => matchS z h k s) = ((ks.take kx).any (fun k => matchS z h k s) || matchS z h kk s) := by rw [List.take_add_one, hkk]; simp
       have hback2 : ∀ (a' : Act) (w' : World), a'.tmps.size = 75 → a'.defers = [] → Sl a' 1 (.slice Ak ks.length ck) → Sl a' 2 (.pointer (some ⟨g2, 0, none⟩)) → Sl a' 5 v → Sl a' 6 (.int .i64 ((ix : Nat) : Int)) → Sl a' 7 (.bool ((ks.take (kx + 1)).any fun k => matchS z h k s)) → Sl a' 8 (.int .i64 ((kx : Nat) : Int)) → Held w w' [rowR 9 1 v (((l.take (ix)).filter fun s => ks.any fun k => matchS z h k s).map (·.1)).length ((((l.take (ix)).filter fun s => ks.any fun k => matchS z h k s).map (·.1)).map strV), blkR g2 36 (ntA z h (.slice A l.length c))] →
        ∀ R, (Code.region 8 (opsOf 8 Tryd.f29).toArray false).wp Tryd.prog (Exit.then (fun a' w' => (∃ kx : Nat, kx ≤ ks.length ∧ a'.tmps.size = 75 ∧ a'.defers = [] ∧ Sl a' 1 (.slice Ak ks.length ck) ∧ Sl a' 2 (.pointer (some ⟨g2, 0, none⟩)) ∧ Sl a' 5 v ∧ Sl a' 6 (.int .i64 ((ix : Nat) : Int)) ∧ Sl a' 7 (.bool ((ks.take kx).any fun k => matchS z h k s)) ∧ Sl a' 8 (.int .i64 ((kx : Nat) : Int)) ∧ Held w w' [rowR 9 1 v (((l.take (ix)).filter fun s => ks.any fun k => matchS z h k s).map (·.1)).length ((((l.take (ix)).filter fun s => ks.any fun k => matchS z h k s).map (·.1)).map strV), blkR g2 36 (ntA z h (.slice A l.length c))]) ∧ ks.length - (intOf (a'.eval (.tmp 8))).toNat < ks.length - (intOf (a9.eval (.tmp 8))).toNat) R) a' w' := by
        intro a' w' hza D o1 o2 o5 o6 o7 o8 S R
        refine rrt_r8 kx (by omega) hza o8 (fun a12 hs12 o8' => ?_)
        have hz12 := hs12.size.trans hza
        refine ⟨⟨kx + 1, by omega, hz12, hs12.defers.trans D, hs12.k o1, hs12.k o2, hs12.k o5, hs12.k o6, hs12.k o7, o8', S⟩, ?_⟩
        rw [e8, o8'.eval (by rw [hz12]; decide)]
        simp only [intOf]; omega
       have hSd := fun (V : World) (kV : Kp [] w9.drew V) => S.k.drew.trans kV (by simp)
       refine wp_seq (wp_block ?_)
       cases hb0 : (ks.take kx).any (fun k => matchS z h k s)
       · rw [hb0, Bool.false_or] at htk2
         rw [hb0] at o7
         obtain ⟨adk, hK⟩ : ∃ ad, Ak = some ad := kys_addr hkv (by omega)
         have hkv2 := hkv
         rw [hK] at hkv2 o1
         obtain ⟨As, cs, hkc, hks'⟩ := hkv2.at2 hkk
         have hb2' : Blk w9.drew g2 36 (ntA z h (.slice (some a2') l.length c)) := by rw [← hA]; exact (S.at_ (l1 := [_])).drew
         have hSF : (sumF z h kk.1 kk.2).length = 32 := sumF_length ..
         have HKY := fun (V : World) (kV : Kp [] w9.drew V) => rkey_any ⟨kk.1.toArray⟩ (by rw [str_size]; have := hnm kk (List.mem_of_getElem? hkk); unfold maxLen at this; omega) As kk.2.length cs V
         have hbq : ((ByteArray.mk kk.1.toArray).toList == (ByteArray.mk s.1.toArray).toList) = (kk.1 == s.1) := by rw [str_list, str_list]
         have hsO : sumOk z kk.1 kk.2 = keyOk kk.1 kk.2 := by unfold sumOk; rw [decide_eq_true hz0', Bool.true_and]
         cases hKo : keyOk kk.1 kk.2
         · have hM : matchS z h kk s = false := by unfold matchS; rw [hsO, hKo, Bool.false_and, Bool.and_false]
           refine rrt_r9B adk kx ks.length ck hlk ⟨kk.1.toArray⟩ As kk.2.length cs (fun V kV => hkc V (hSd V kV)) z h hh a2' l.length c ix hlt g2 hb2' ⟨s.1.toArray⟩ s.2 hsk.1 (fun V kV => sgs_at (rd_old hva (hSd V kV)) hok hs) (keyOk kk.1 kk.2) HKY (sumF z h kk.1 kk.2) hSF (kk.1 == s.1) hbq hKo hz10 o1 o2 o6 o7 o8 (fun a11 w11 hs11 k11 o7 => ?_)
           have hz11 := hs11.size.trans hz10; have o1 := hs11.k o1; have o2 := hs11.k o2; have o5 := hs11.k o5; have o6 := hs11.k o6; have o8 := hs11.k o8; have o23 := hs11.k o23; have D := hs11.defers.trans D
           simp only [Exit.inBlock, Exit.then]
           rw [← hK] at o1
           exact hback2 a11 w11 hz11 D o1 o2 o5 o6 (by rw [htk2, hM]; exact o7) o8 (S.kp (((Kp.refl [] w9).drew).trans k11 (by simp))) _
         · cases hN : (kk.1 == s.1)
           · have hM : matchS z h kk s = false := by unfold matchS; rw [beq_swap s.1 kk.1, hN, Bool.false_and]
             refine rrt_r9C adk kx ks.length ck hlk ⟨kk.1.toArray⟩ As kk.2.length cs (fun V kV => hkc V (hSd V kV)) z h hh a2' l.length c ix hlt g2 hb2' ⟨s.1.toArray⟩ s.2 hsk.1 (fun V kV => sgs_at (rd_old hva (hSd V kV)) hok hs) (keyOk kk.1 kk.2) HKY (sumF z h kk.1 kk.2) hSF (kk.1 == s.1) hbq hKo hN hz10 o1 o2 o6 o7 o8 (fun a11 w11 hs11 k11 o7 => ?_)
             have hz11 := hs11.size.trans hz10; have o1 := hs11.k o1; have o2 := hs11.k o2; have o5 := hs11.k o5; have o6 := hs11.k o6; have o8 := hs11.k o8; have o23 := hs11.k o23; have D := hs11.defers.trans D
             simp only [Exit.inBlock, Exit.then]
             rw [← hK] at o1
             exact hback2 a11 w11 hz11 D o1 o2 o5 o6 (by rw [htk2, hM]; exact o7) o8 (S.kp (((Kp.refl [] w9).drew).trans k11 (by simp))) _
           · have hM : matchS z h kk s = (sumF z h kk.1 kk.2 == s.2) := by unfold matchS sumV; rw [show (s.1 == kk.1) = true from by rw [eq_of_beq hN]; exact beq_self_eq_true _, hsO, hKo, if_pos rfl, Bool.true_and, Bool.true_and]
             refine rrt_r9D adk kx ks.length ck hlk ⟨kk.1.toArray⟩ As kk.2.length cs (fun V kV => hkc V (hSd V kV)) z h hh a2' l.length c ix hlt g2 hb2' ⟨s.1.toArray⟩ s.2 hsk.1 (fun V kV => sgs_at (rd_old hva (hSd V kV)) hok hs) (keyOk kk.1 kk.2) HKY (sumF z h kk.1 kk.2) hSF (kk.1 == s.1) hbq hKo hN (fun V kV => sum_call z hz h hh kk.1 (by have := hnm kk (List.mem_of_getElem? hkk); unfold maxLen at this; omega) As cs kk.2 V (rd_old hks' (hSd V kV)) (hsO.trans hKo)) hz10 o1 o2 o6 o7 o8 (fun a11 w11 hs11 k11 o7 => ?_)
             have hz11 := hs11.size.trans hz10; have o1 := hs11.k o1; have o2 := hs11.k o2; have o5 := hs11.k o5; have o6 := hs11.k o6; have o8 := hs11.k o8; have o23 := hs11.k o23; have D := hs11.defers.trans D
             simp only [Exit.inBlock, Exit.then]
             rw [← hK] at o1
             exact hback2 a11 w11 hz11 D o1 o2 o5 o6 (by rw [htk2, hM]; exact o7) o8 (S.kp (((Kp.refl [] w9).drew).trans k11 (by simp))) _
       · rw [hb0, Bool.true_or] at htk2
         rw [hb0] at o7
         refine rrt_r9A hz10 o7 (fun a11 w11 hs11 k11 o7 => ?_)
         have hz11 := hs11.size.trans hz10; have o1 := hs11.k o1; have o2 := hs11.k o2; have o5 := hs11.k o5; have o6 := hs11.k o6; have o8 := hs11.k o8; have o23 := hs11.k o23; have D := hs11.defers.trans D
         simp only [Exit.inBlock, Exit.then]
         exact hback2 a11 w11 hz11 D o1 o2 o5 o6 (by rw [htk2]; exact o7) o8 (S.kp (((Kp.refl [] w9).drew).trans k11 (by simp))) _
     · refine wp_cond_false ((o23.eval (by rw [hz10]; decide)).trans (by rw [decide_eq_false hlk])) (wp_exit ?_)
       simp only [Exit.then, Exit.inBlock]
       have hkl : kx = ks.length := by omega
       rw [hkl, List.take_length] at o7
       refine wp_seq (rrt_r10 _ hz10 o7 (fun a11 hs11 o64 => ?_))
       have hz11 := hs11.size.trans hz10; have o1 := hs11.k o1; have o2 := hs11.k o2; have o5 := hs11.k o5; have o6 := hs11.k o6; have o7 := hs11.k o7; have D := hs11.defers.trans D
       cases hb : ks.any (fun k => matchS z h k s)
       · have hR : (((l.take (ix + 1)).filter fun s => ks.any fun k => matchS z h k s).map (·.1)) = (((l.take (ix)).filter fun s => ks.any fun k => matchS z h k s).map (·.1)) := by rw [htk, List.filter_append, List.filter_cons_of_neg (by rw [hb]; decide), List.filter_nil, List.append_nil]
         refine wp_cond_false ((o64.eval (by rw [hz11]; decide)).trans (by rw [hb])) (wp_skip ?_)
         simp only [Exit.inBlock, Exit.then]
         exact hback a11 w9 v hz11 D o1 o2 o5 o6 (by rw [hR]; exact S) _
       · have hR : (((l.take (ix + 1)).filter fun s => ks.any fun k => matchS z h k s).map (·.1)) = (((l.take (ix)).filter fun s => ks.any fun k => matchS z h k s).map (·.1)) ++ [s.1] := by rw [htk, List.filter_append, List.filter_cons_of_pos (by rw [hb]), List.filter_nil, List.map_append]; rfl
         have hRl : (((l.take (ix)).filter fun s => ks.any fun k => matchS z h k s).map (·.1)).length ≤ 64 := by rw [List.length_map]; have := List.length_filter_le (fun s => ks.any fun k => matchS z h k s) (l.take ix); rw [List.length_take] at this; omega
         refine wp_cond_true ((o64.eval (by rw [hz11]; decide)).trans (by rw [hb])) ?_
         have hc0 := sgs_at (rd_old hva S.k) hok hs 0 (strV s.1) rfl
         rw [addr0] at hc0
         have S0 : Held w w9 [rowR 9 1 v (((l.take (ix)).filter fun s => ks.any fun k => matchS z h k s).map (·.1)).length ((((l.take (ix)).filter fun s => ks.any fun k => matchS z h k s).map (·.1)).map strV), blkR g2 36 (ntA z h (.slice (some a2') l.length c))] := by rw [← hA]; exact S
         refine rrt_r11 w z h hh a2' l.length c ix hlt g2 ⟨s.1.toArray⟩ hc0 _ (by omega) v _ [] S0 hz11 o2 o5 o6 (fun a12 w12 hs12 h12 => ?_)
         have hz12 := hs12.size.trans hz11; have o1 := hs12.k o1; have o2 := hs12.k o2; have o6 := hs12.k o6; have o7 := hs12.k o7; have o64 := hs12.k o64; have D := hs12.defers.trans D
         obtain ⟨v2, o5, S⟩ := h12
         simp only [Exit.inBlock, Exit.then]
         rw [← hA] at S
         exact hback a12 w12 v2 hz12 D o1 o2 o5 o6 (by rw [hR, List.length_append, List.map_append]; exact S) _
   · refine wp_cond_false ((o17.eval (by rw [hz6]; decide)).trans (by rw [decide_eq_false hlt])) (wp_exit ?_)
     simp only [Exit.then, Exit.inBlock]
     have hil : ix = l.length := by omega
     exact hend a6 w6 v _ hz6 D o5 S (by unfold rightA rightN; rw [hm, if_pos rfl, hil, List.take_length])
end
/- Enough, SameTexts of the reference: their regions. -/
section
variable {Q : Exit → Act → World → Prop} {a : Act} {w : World}
open Go.RowKit
theorem rno_r0 (w0 : World) (ca : Array Value) (L : List Res) (S : Held w0 w L) (hsz : a.tmps.size = 21) (o0 : Sl a 0 (.agg ca))
 (hend : ∀ a' W, Same a a' [3, 6] → Sl a' 6 (.bool false) → (∃ g3, Sl a' 3 (.pointer (some ⟨g3, 0, none⟩)) ∧ Held w0 W (blkR g3 36 ca :: L)) → Q .normal a' W) : (Code.region 0 (opsOf 0 Tryd.f31).toArray false).wp Tryd.prog Q a w := by
 refine wp_region_lit ?_
 (conv => arg 4; whnf)
 unfold Sl at o0
 have S0 := Lib.hid (S.newBlk 36 ca)
 go_wp2_with fail
 try simp only [Act.put]
 exact hend _ _ sS sP (⟨_, sP0, S0.out⟩)
theorem rno_r1N (z : Int) (hz : -9223372036854775808 ≤ z ∧ z ≤ 9223372036854775807) (h : List UInt8) (hh : h.length = 32) (A : Option Addr) (c : Nat) (l : List SigD) (hok : SgOk l) (hll : l.length ≤ 9223372036854775806) (hv : Rd w 33 (.slice A l.length c) l.length (sgsC l)) (g3 : Nat) (hb3 : Blk w g3 36 (ntA z h (.slice A l.length c))) (Ak : Option Addr) (ck : Nat) (ks : List KeyD) (hks : ks.length ≤ 35184372088832) (hnm : ∀ k, k ∈ ks → k.1.length ≤ maxLen) (us : List Value) (hkv : KysF w (.slice Ak ks.length ck) us ks) (most : Int) (hm : mayN z l = false) (hsz : a.tmps.size = 21) (o1 : Sl a 1 (.int .i64 (most : Int))) (o2 : Sl a 2 (.slice Ak ks.length ck)) (o3 : Sl a 3 (.pointer (some ⟨g3, 0, none⟩)))
 (hend : ∀ a' W, Same a a' [7, 8, 9, 10, 11, 12, 13, 14, 15, 16, 17, 18, 19, 20, 6] → Kp [] w W → Sl a' 6 (.bool false) → Q .normal a' W) : (Code.region 1 (opsOf 1 Tryd.f31).toArray false).wp Tryd.prog Q a w := by
 have hap : apartB (opsOf 1 Tryd.f31) = true := by kernel_rfl
 refine wp_region_invS (l := (opsOf 1 Tryd.f31)) (fun i v W => match i with | 0 => v = .agg (ntA z h (.slice A l.length c)) | 1 => v = .bool false | 2 => v = .bool false | 5 => v = .bool false | 6 => v = .bool false | 13 => v = .bool false | 14 => v = .bool false | _ => True) hap ?_ ?_ ?_
 · intro i v W W' h k
   rcases i with _ | i
   · exact h
   rcases i with _ | i
   · exact h
   rcases i with _ | i
   · exact h
   rcases i with _ | i
   · exact h
   rcases i with _ | i
   · exact h
   rcases i with _ | i
   · exact h
   rcases i with _ | i
   · exact h
   rcases i with _ | i
   · exact h
   rcases i with _ | i
   · exact h
   rcases i with _ | i
   · exact h
   rcases i with _ | i
   · exact h
   rcases i with _ | i
   · exact h
   rcases i with _ | i
   · exact h
   rcases i with _ | i
   · exact h
   rcases i with _ | i
   · exact h
   exact h
 · refine ⟨?_, ?_, ?_, ?_, ?_, ?_, ?_, ?_, ?_, ?_, ?_, ?_, ?_, ?_, ?_, trivial⟩
   · intro vs A' W hA hW hd hu K hK; refine wpOp_free _ rfl rfl ?_; (conv => arg 2; whnf); have e3 := sO 3 o3 hA hap hsz; clear hA hd hu o1 o2 o3
     refine op_runs (v := .agg (ntA z h (.slice A l.length c))) (w' := W) (exec_load rfl (by simpa [Act.eval] using e3) (run_loadAt_agg W (⟨g3, 0, none⟩) 36 (ntA z h (.slice A l.length c)).toList _ (Blk.agg (hb3.kp hW (by simp))) Tryd.underlying36 rfl (by rw [Array.length_toList, ntA_size hh]; exact Tryd.infoNote))) ?_
     exact hK _ _ kR rfl
   · intro vs A' W hA hW hd hu K hK; refine wpOp_free _ rfl rfl ?_; (conv => arg 2; whnf); have e7 := sV 7 (hd 0 (by kernel_rfl)) hA hap hsz; clear hA hd hu o1 o2 o3; go_step
     refine (rmay_any z hz h hh l hok (by omega) A c W (rd_old hv hW)).mono ?_
     rintro e w' ⟨rfl, k⟩
     exact hK _ _ k (congrArg Value.bool hm)
   · intro vs A' W hA hW hd hu K hK; refine wpOp_free _ rfl rfl ?_; (conv => arg 2; whnf); have e8 := sV 8 (hd 1 (by kernel_rfl)) hA hap hsz; clear hA hd hu o1 o2 o3; go_step; exact hK _ _ kR rfl
   · intro vs A' W hA hW hd hu K hK; have e9 := sV 9 (hd 2 (by kernel_rfl)) hA hap hsz; refine wpOp_skip _ rfl 2 9 true rfl rfl e9 ?_; exact hK _ _ kR trivial
   · intro vs A' W hA hW hd hu K hK; have e9 := sV 9 (hd 2 (by kernel_rfl)) hA hap hsz; refine wpOp_skip _ rfl 2 9 true rfl rfl e9 ?_; exact hK _ _ kR trivial
   · intro vs A' W hA hW hd hu K hK; refine wpOp_free _ rfl rfl ?_; (conv => arg 2; whnf); have e9 := sV 9 (hd 2 (by kernel_rfl)) hA hap hsz
     have e11 := sU 11 4 hA hap hsz
     clear hA hd hu o1 o2 o3; go_step; exact hK _ _ kR rfl
   · intro vs A' W hA hW hd hu K hK; refine wpOp_free _ rfl rfl ?_; (conv => arg 2; whnf); have e12 := sV 12 (hd 5 (by kernel_rfl)) hA hap hsz; clear hA hd hu o1 o2 o3; go_step; exact hK _ _ kR rfl
   · intro vs A' W hA hW hd hu K hK; have e13 := sV 13 (hd 6 (by kernel_rfl)) hA hap hsz; refine wpOp_skip _ rfl 6 13 true rfl rfl e13 ?_; exact hK _ _ kR trivial
   · intro vs A' W hA hW hd hu K hK; have e13 := sV 13 (hd 6 (by kernel_rfl)) hA hap hsz; refine wpOp_skip _ rfl 6 13 true rfl rfl e13 ?_; exact hK _ _ kR trivial
   · intro vs A' W hA hW hd hu K hK; have e13 := sV 13 (hd 6 (by kernel_rfl)) hA hap hsz; refine wpOp_skip _ rfl 6 13 true rfl rfl e13 ?_; exact hK _ _ kR trivial
   · intro vs A' W hA hW hd hu K hK; have e13 := sV 13 (hd 6 (by kernel_rfl)) hA hap hsz; refine wpOp_skip _ rfl 6 13 true rfl rfl e13 ?_; exact hK _ _ kR trivial
   · intro vs A' W hA hW hd hu K hK; have e13 := sV 13 (hd 6 (by kernel_rfl)) hA hap hsz; refine wpOp_skip _ rfl 6 13 true rfl rfl e13 ?_; exact hK _ _ kR trivial
   · intro vs A' W hA hW hd hu K hK; have e13 := sV 13 (hd 6 (by kernel_rfl)) hA hap hsz; refine wpOp_skip _ rfl 6 13 true rfl rfl e13 ?_; exact hK _ _ kR trivial
   · intro vs A' W hA hW hd hu K hK; refine wpOp_free _ rfl rfl ?_; (conv => arg 2; whnf); have e13 := sV 13 (hd 6 (by kernel_rfl)) hA hap hsz
     have e19 := sU 19 12 hA hap hsz
     clear hA hd hu o1 o2 o3; go_step; exact hK _ _ kR rfl
   · intro vs A' W hA hW hd hu K hK; refine wpOp_free _ rfl rfl ?_; (conv => arg 2; whnf); have e20 := sV 20 (hd 13 (by kernel_rfl)) hA hap hsz; clear hA hd hu o1 o2 o3; go_step; exact hK _ _ kR rfl
 · intro vs W hW hp
   rw [putAll_eq]
   exact hend _ W sQ hW (sW (hp 14 sB))
theorem rno_r1M (z : Int) (hz : -9223372036854775808 ≤ z ∧ z ≤ 9223372036854775807) (h : List UInt8) (hh : h.length = 32) (A : Option Addr) (c : Nat) (l : List SigD) (hok : SgOk l) (hll : l.length ≤ 9223372036854775806) (hv : Rd w 33 (.slice A l.length c) l.length (sgsC l)) (g3 : Nat) (hb3 : Blk w g3 36 (ntA z h (.slice A l.length c))) (Ak : Option Addr) (ck : Nat) (ks : List KeyD) (hks : ks.length ≤ 35184372088832) (hnm : ∀ k, k ∈ ks → k.1.length ≤ maxLen) (us : List Value) (hkv : KysF w (.slice Ak ks.length ck) us ks) (most : Int) (hm : mayN z l = true) (hmo : ¬ 0 ≤ most) (hsz : a.tmps.size = 21) (o1 : Sl a 1 (.int .i64 (most : Int))) (o2 : Sl a 2 (.slice Ak ks.length ck)) (o3 : Sl a 3 (.pointer (some ⟨g3, 0, none⟩)))
 (hend : ∀ a' W, Same a a' [7, 8, 9, 10, 11, 12, 13, 14, 15, 16, 17, 18, 19, 20, 6] → Kp [] w W → Sl a' 6 (.bool false) → Q .normal a' W) : (Code.region 1 (opsOf 1 Tryd.f31).toArray false).wp Tryd.prog Q a w := by
 have hap : apartB (opsOf 1 Tryd.f31) = true := by kernel_rfl
 refine wp_region_invS (l := (opsOf 1 Tryd.f31)) (fun i v W => match i with | 0 => v = .agg (ntA z h (.slice A l.length c)) | 1 => v = .bool true | 2 => v = .bool true | 3 => v = .int .i64 (most : Int) | 4 => v = .bool false | 5 => v = .bool false | 6 => v = .bool false | 13 => v = .bool false | 14 => v = .bool false | _ => True) hap ?_ ?_ ?_
 · intro i v W W' h k
   rcases i with _ | i
   · exact h
   rcases i with _ | i
   · exact h
   rcases i with _ | i
   · exact h
   rcases i with _ | i
   · exact h
   rcases i with _ | i
   · exact h
   rcases i with _ | i
   · exact h
   rcases i with _ | i
   · exact h
   rcases i with _ | i
   · exact h
   rcases i with _ | i
   · exact h
   rcases i with _ | i
   · exact h
   rcases i with _ | i
   · exact h
   rcases i with _ | i
   · exact h
   rcases i with _ | i
   · exact h
   rcases i with _ | i
   · exact h
   rcases i with _ | i
   · exact h
   exact h
 · refine ⟨?_, ?_, ?_, ?_, ?_, ?_, ?_, ?_, ?_, ?_, ?_, ?_, ?_, ?_, ?_, trivial⟩
   · intro vs A' W hA hW hd hu K hK; refine wpOp_free _ rfl rfl ?_; (conv => arg 2; whnf); have e3 := sO 3 o3 hA hap hsz; clear hA hd hu o1 o2 o3
     refine op_runs (v := .agg (ntA z h (.slice A l.length c))) (w' := W) (exec_load rfl (by simpa [Act.eval] using e3) (run_loadAt_agg W (⟨g3, 0, none⟩) 36 (ntA z h (.slice A l.length c)).toList _ (Blk.agg (hb3.kp hW (by simp))) Tryd.underlying36 rfl (by rw [Array.length_toList, ntA_size hh]; exact Tryd.infoNote))) ?_
     exact hK _ _ kR rfl
   · intro vs A' W hA hW hd hu K hK; refine wpOp_free _ rfl rfl ?_; (conv => arg 2; whnf); have e7 := sV 7 (hd 0 (by kernel_rfl)) hA hap hsz; clear hA hd hu o1 o2 o3; go_step
     refine (rmay_any z hz h hh l hok (by omega) A c W (rd_old hv hW)).mono ?_
     rintro e w' ⟨rfl, k⟩
     exact hK _ _ k (congrArg Value.bool hm)
   · intro vs A' W hA hW hd hu K hK; refine wpOp_free _ rfl rfl ?_; (conv => arg 2; whnf); have e8 := sV 8 (hd 1 (by kernel_rfl)) hA hap hsz; clear hA hd hu o1 o2 o3; go_step; exact hK _ _ kR rfl
   · intro vs A' W hA hW hd hu K hK; have e9 := sV 9 (hd 2 (by kernel_rfl)) hA hap hsz; refine wpOp_go _ rfl 2 9 true rfl rfl e9 ?_; (conv => arg 2; whnf); have e1 := sO 1 o1 hA hap hsz; clear hA hd hu o1 o2 o3; go_step; exact hK _ _ kR rfl
   · intro vs A' W hA hW hd hu K hK; have e9 := sV 9 (hd 2 (by kernel_rfl)) hA hap hsz; refine wpOp_go _ rfl 2 9 true rfl rfl e9 ?_; (conv => arg 2; whnf); have e10 := sV 10 (hd 3 (by kernel_rfl)) hA hap hsz; clear hA hd hu o1 o2 o3; go_step
     exact hK _ _ kR (by first | rfl | exact congrArg Value.bool (decide_eq_false hmo))
   · intro vs A' W hA hW hd hu K hK; refine wpOp_free _ rfl rfl ?_; (conv => arg 2; whnf); have e9 := sV 9 (hd 2 (by kernel_rfl)) hA hap hsz; have e11 := sV 11 (hd 4 (by kernel_rfl)) hA hap hsz; clear hA hd hu o1 o2 o3; go_step; exact hK _ _ kR rfl
   · intro vs A' W hA hW hd hu K hK; refine wpOp_free _ rfl rfl ?_; (conv => arg 2; whnf); have e12 := sV 12 (hd 5 (by kernel_rfl)) hA hap hsz; clear hA hd hu o1 o2 o3; go_step; exact hK _ _ kR rfl
   · intro vs A' W hA hW hd hu K hK; have e13 := sV 13 (hd 6 (by kernel_rfl)) hA hap hsz; refine wpOp_skip _ rfl 6 13 true rfl rfl e13 ?_; exact hK _ _ kR trivial
   · intro vs A' W hA hW hd hu K hK; have e13 := sV 13 (hd 6 (by kernel_rfl)) hA hap hsz; refine wpOp_skip _ rfl 6 13 true rfl rfl e13 ?_; exact hK _ _ kR trivial
   · intro vs A' W hA hW hd hu K hK; have e13 := sV 13 (hd 6 (by kernel_rfl)) hA hap hsz; refine wpOp_skip _ rfl 6 13 true rfl rfl e13 ?_; exact hK _ _ kR trivial
   · intro vs A' W hA hW hd hu K hK; have e13 := sV 13 (hd 6 (by kernel_rfl)) hA hap hsz; refine wpOp_skip _ rfl 6 13 true rfl rfl e13 ?_; exact hK _ _ kR trivial
   · intro vs A' W hA hW hd hu K hK; have e13 := sV 13 (hd 6 (by kernel_rfl)) hA hap hsz; refine wpOp_skip _ rfl 6 13 true rfl rfl e13 ?_; exact hK _ _ kR trivial
   · intro vs A' W hA hW hd hu K hK; have e13 := sV 13 (hd 6 (by kernel_rfl)) hA hap hsz; refine wpOp_skip _ rfl 6 13 true rfl rfl e13 ?_; exact hK _ _ kR trivial
   · intro vs A' W hA hW hd hu K hK; refine wpOp_free _ rfl rfl ?_; (conv => arg 2; whnf); have e13 := sV 13 (hd 6 (by kernel_rfl)) hA hap hsz
     have e19 := sU 19 12 hA hap hsz
     clear hA hd hu o1 o2 o3; go_step; exact hK _ _ kR rfl
   · intro vs A' W hA hW hd hu K hK; refine wpOp_free _ rfl rfl ?_; (conv => arg 2; whnf); have e20 := sV 20 (hd 13 (by kernel_rfl)) hA hap hsz; clear hA hd hu o1 o2 o3; go_step; exact hK _ _ kR rfl
 · intro vs W hW hp
   rw [putAll_eq]
   exact hend _ W sQ hW (sW (hp 14 sB))
theorem rno_r1Y (z : Int) (hz : -9223372036854775808 ≤ z ∧ z ≤ 9223372036854775807) (h : List UInt8) (hh : h.length = 32) (A : Option Addr) (c : Nat) (l : List SigD) (hok : SgOk l) (hll : l.length ≤ 9223372036854775806) (hv : Rd w 33 (.slice A l.length c) l.length (sgsC l)) (g3 : Nat) (hb3 : Blk w g3 36 (ntA z h (.slice A l.length c))) (Ak : Option Addr) (ck : Nat) (ks : List KeyD) (hks : ks.length ≤ 35184372088832) (hnm : ∀ k, k ∈ ks → k.1.length ≤ maxLen) (us : List Value) (hkv : KysF w (.slice Ak ks.length ck) us ks) (most : Int) (hm : mayN z l = true) (hmo : 0 ≤ most) (hsz : a.tmps.size = 21) (o1 : Sl a 1 (.int .i64 (most : Int))) (o2 : Sl a 2 (.slice Ak ks.length ck)) (o3 : Sl a 3 (.pointer (some ⟨g3, 0, none⟩)))
 (hend : ∀ a' W, Same a a' [7, 8, 9, 10, 11, 12, 13, 14, 15, 16, 17, 18, 19, 20, 6] → Kp [] w W → Sl a' 6 (.bool (decide (most ≤ ((rightA z h l ks).length : Int)))) → Q .normal a' W) : (Code.region 1 (opsOf 1 Tryd.f31).toArray false).wp Tryd.prog Q a w := by
 have hap : apartB (opsOf 1 Tryd.f31) = true := by kernel_rfl
 refine wp_region_invS (l := (opsOf 1 Tryd.f31)) (fun i v W => match i with | 0 => v = .agg (ntA z h (.slice A l.length c)) | 1 => v = .bool true | 2 => v = .bool true | 3 => v = .int .i64 (most : Int) | 4 => v = .bool true | 5 => v = .bool true | 6 => v = .bool true | 7 => v = .agg (ntA z h (.slice A l.length c)) | 8 => v = .slice Ak ks.length ck | 9 => ∃ A c, v = .slice A (rightA z h l ks).length c | 10 => v = .int .i64 ((rightA z h l ks).length : Int) | 11 => v = .int .i64 (most : Int) | 12 => v = .bool (decide (most ≤ ((rightA z h l ks).length : Int))) | 13 => v = .bool (decide (most ≤ ((rightA z h l ks).length : Int))) | 14 => v = .bool (decide (most ≤ ((rightA z h l ks).length : Int))) | _ => True) hap ?_ ?_ ?_
 · intro i v W W' h k
   rcases i with _ | i
   · exact h
   rcases i with _ | i
   · exact h
   rcases i with _ | i
   · exact h
   rcases i with _ | i
   · exact h
   rcases i with _ | i
   · exact h
   rcases i with _ | i
   · exact h
   rcases i with _ | i
   · exact h
   rcases i with _ | i
   · exact h
   rcases i with _ | i
   · exact h
   rcases i with _ | i
   · exact h
   rcases i with _ | i
   · exact h
   rcases i with _ | i
   · exact h
   rcases i with _ | i
   · exact h
   rcases i with _ | i
   · exact h
   rcases i with _ | i
   · exact h
   exact h
 · refine ⟨?_, ?_, ?_, ?_, ?_, ?_, ?_, ?_, ?_, ?_, ?_, ?_, ?_, ?_, ?_, trivial⟩
   · intro vs A' W hA hW hd hu K hK; refine wpOp_free _ rfl rfl ?_; (conv => arg 2; whnf); have e3 := sO 3 o3 hA hap hsz; clear hA hd hu o1 o2 o3
     refine op_runs (v := .agg (ntA z h (.slice A l.length c))) (w' := W) (exec_load rfl (by simpa [Act.eval] using e3) (run_loadAt_agg W (⟨g3, 0, none⟩) 36 (ntA z h (.slice A l.length c)).toList _ (Blk.agg (hb3.kp hW (by simp))) Tryd.underlying36 rfl (by rw [Array.length_toList, ntA_size hh]; exact Tryd.infoNote))) ?_
     exact hK _ _ kR rfl
   · intro vs A' W hA hW hd hu K hK; refine wpOp_free _ rfl rfl ?_; (conv => arg 2; whnf); have e7 := sV 7 (hd 0 (by kernel_rfl)) hA hap hsz; clear hA hd hu o1 o2 o3; go_step
     refine (rmay_any z hz h hh l hok (by omega) A c W (rd_old hv hW)).mono ?_
     rintro e w' ⟨rfl, k⟩
     exact hK _ _ k (congrArg Value.bool hm)
   · intro vs A' W hA hW hd hu K hK; refine wpOp_free _ rfl rfl ?_; (conv => arg 2; whnf); have e8 := sV 8 (hd 1 (by kernel_rfl)) hA hap hsz; clear hA hd hu o1 o2 o3; go_step; exact hK _ _ kR rfl
   · intro vs A' W hA hW hd hu K hK; have e9 := sV 9 (hd 2 (by kernel_rfl)) hA hap hsz; refine wpOp_go _ rfl 2 9 true rfl rfl e9 ?_; (conv => arg 2; whnf); have e1 := sO 1 o1 hA hap hsz; clear hA hd hu o1 o2 o3; go_step; exact hK _ _ kR rfl
   · intro vs A' W hA hW hd hu K hK; have e9 := sV 9 (hd 2 (by kernel_rfl)) hA hap hsz; refine wpOp_go _ rfl 2 9 true rfl rfl e9 ?_; (conv => arg 2; whnf); have e10 := sV 10 (hd 3 (by kernel_rfl)) hA hap hsz; clear hA hd hu o1 o2 o3; go_step
     exact hK _ _ kR (by first | rfl | exact congrArg Value.bool (decide_eq_true hmo))
   · intro vs A' W hA hW hd hu K hK; refine wpOp_free _ rfl rfl ?_; (conv => arg 2; whnf); have e9 := sV 9 (hd 2 (by kernel_rfl)) hA hap hsz; have e11 := sV 11 (hd 4 (by kernel_rfl)) hA hap hsz; clear hA hd hu o1 o2 o3; go_step; exact hK _ _ kR rfl
   · intro vs A' W hA hW hd hu K hK; refine wpOp_free _ rfl rfl ?_; (conv => arg 2; whnf); have e12 := sV 12 (hd 5 (by kernel_rfl)) hA hap hsz; clear hA hd hu o1 o2 o3; go_step; exact hK _ _ kR rfl
   · intro vs A' W hA hW hd hu K hK; have e13 := sV 13 (hd 6 (by kernel_rfl)) hA hap hsz; refine wpOp_go _ rfl 6 13 true rfl rfl e13 ?_; (conv => arg 2; whnf); have e3 := sO 3 o3 hA hap hsz; clear hA hd hu o1 o2 o3
     refine op_runs (v := .agg (ntA z h (.slice A l.length c))) (w' := W) (exec_load rfl (by simpa [Act.eval] using e3) (run_loadAt_agg W (⟨g3, 0, none⟩) 36 (ntA z h (.slice A l.length c)).toList _ (Blk.agg (hb3.kp hW (by simp))) Tryd.underlying36 rfl (by rw [Array.length_toList, ntA_size hh]; exact Tryd.infoNote))) ?_
     exact hK _ _ kR rfl
   · intro vs A' W hA hW hd hu K hK; have e13 := sV 13 (hd 6 (by kernel_rfl)) hA hap hsz; refine wpOp_go _ rfl 6 13 true rfl rfl e13 ?_; (conv => arg 2; whnf); have e2 := sO 2 o2 hA hap hsz; clear hA hd hu o1 o2 o3; go_step; exact hK _ _ kR rfl
   · intro vs A' W hA hW hd hu K hK; have e13 := sV 13 (hd 6 (by kernel_rfl)) hA hap hsz; refine wpOp_go _ rfl 6 13 true rfl rfl e13 ?_; (conv => arg 2; whnf); have e14 := sV 14 (hd 7 (by kernel_rfl)) hA hap hsz; have e15 := sV 15 (hd 8 (by kernel_rfl)) hA hap hsz; clear hA hd hu o1 o2 o3; go_step
     refine (srright_any z hz h hh A c l hok hll Ak ck ks hks hnm us W (rd_old hv hW) (hkv.kp0 hW)).mono ?_
     rintro e w' ⟨u, rfl, H⟩
     obtain ⟨A2, c2, hu, -, -⟩ := ow_form (show Ow w' 9 1 u _ _ from H.at_ (l1 := []))
     exact hK _ _ H.k ⟨A2, c2, hu⟩
   · intro vs A' W hA hW hd hu K hK; have e13 := sV 13 (hd 6 (by kernel_rfl)) hA hap hsz; refine wpOp_go _ rfl 6 13 true rfl rfl e13 ?_; (conv => arg 2; whnf); have f9 : ∃ A c, (vs 9) = .slice A (rightA z h l ks).length c := hd 9 (by kernel_rfl)
     have e16 := sU 16 9 hA hap hsz
     clear hA hd hu o1 o2 o3
     obtain ⟨A1, c1, hv1⟩ := f9
     rw [hv1] at e16
     go_step; exact hK _ _ kR rfl
   · intro vs A' W hA hW hd hu K hK; have e13 := sV 13 (hd 6 (by kernel_rfl)) hA hap hsz; refine wpOp_go _ rfl 6 13 true rfl rfl e13 ?_; (conv => arg 2; whnf); have e1 := sO 1 o1 hA hap hsz; clear hA hd hu o1 o2 o3; go_step; exact hK _ _ kR rfl
   · intro vs A' W hA hW hd hu K hK; have e13 := sV 13 (hd 6 (by kernel_rfl)) hA hap hsz; refine wpOp_go _ rfl 6 13 true rfl rfl e13 ?_; (conv => arg 2; whnf); have e17 := sV 17 (hd 10 (by kernel_rfl)) hA hap hsz; have e18 := sV 18 (hd 11 (by kernel_rfl)) hA hap hsz; clear hA hd hu o1 o2 o3; go_step; exact hK _ _ kR rfl
   · intro vs A' W hA hW hd hu K hK; refine wpOp_free _ rfl rfl ?_; (conv => arg 2; whnf); have e13 := sV 13 (hd 6 (by kernel_rfl)) hA hap hsz; have e19 := sV 19 (hd 12 (by kernel_rfl)) hA hap hsz; clear hA hd hu o1 o2 o3; go_step; exact hK _ _ kR rfl
   · intro vs A' W hA hW hd hu K hK; refine wpOp_free _ rfl rfl ?_; (conv => arg 2; whnf); have e20 := sV 20 (hd 13 (by kernel_rfl)) hA hap hsz; clear hA hd hu o1 o2 o3; go_step; exact hK _ _ kR rfl
 · intro vs W hW hp
   rw [putAll_eq]
   exact hend _ W sQ hW (sW (hp 14 sB))
theorem rst_r0  (hsz : a.tmps.size = 26) 
 (hend : ∀ a', Same a a' [4] → Sl a' 4 (.bool false) → Q .normal a' (w)) : (Code.region 0 (opsOf 0 Tryd.f28).toArray false).wp Tryd.prog Q a w := by
 refine wp_region_lit ?_
 (conv => arg 4; whnf)
 go_wp2_with fail
 try simp only [Act.put]
 exact hend _ sS sP
theorem rst_r3  (hsz : a.tmps.size = 26) 
 (hend : ∀ a', Same a a' [5] → Sl a' 5 (.int .i64 ((0 : Nat) : Int)) → Q .normal a' (w)) : (Code.region 3 (opsOf 3 Tryd.f28).toArray false).wp Tryd.prog Q a w := by
 refine wp_region_lit ?_
 (conv => arg 4; whnf)
 go_wp2_with fail
 try simp only [Act.put]
 exact hend _ sS sP
theorem rst_r8  (hsz : a.tmps.size = 26) 
 (hend : ∀ a', Same a a' [4] → Sl a' 4 (.bool true) → Q .normal a' (w)) : (Code.region 8 (opsOf 8 Tryd.f28).toArray false).wp Tryd.prog Q a w := by
 refine wp_region_lit ?_
 (conv => arg 4; whnf)
 go_wp2_with fail
 try simp only [Act.put]
 exact hend _ sS sP
theorem rst_r1 (A B : Option Addr) (n c e : Nat) (hsz : a.tmps.size = 26) (o0 : Sl a 0 (.slice A n c)) (o1 : Sl a 1 (.slice B n e))
 (hend : ∀ a', Same a a' [6, 7, 8, 9, 10] → Sl a' 10 (.bool false) → Q .normal a' (w)) : (Code.region 1 (opsOf 1 Tryd.f28).toArray false).wp Tryd.prog Q a w := by
 refine wp_region_lit ?_
 (conv => arg 4; whnf)
 unfold Sl at o0 o1
 go_wp2_with fail
 try simp only [Act.put]
 exact hend _ sS sP
theorem rst_r4 (A : Option Addr) (k n c : Nat) (hsz : a.tmps.size = 26) (o0 : Sl a 0 (.slice A n c)) (o5 : Sl a 5 (.int .i64 ((k : Nat) : Int)))
 (hend : ∀ a', Same a a' [11, 12, 13, 14] → Sl a' 14 (.bool (decide (k < n))) → Q .normal a' (w)) : (Code.region 4 (opsOf 4 Tryd.f28).toArray false).wp Tryd.prog Q a w := by
 refine wp_region_lit ?_
 (conv => arg 4; whnf)
 unfold Sl at o0 o5
 go_wp2_with fail
 try simp only [Act.put]
 exact hend _ sS sP
theorem rst_r5 (k : Nat) (hk : k < 9223372036854775807) (hsz : a.tmps.size = 26) (o5 : Sl a 5 (.int .i64 ((k : Nat) : Int)))
 (hend : ∀ a', Same a a' [15, 16, 5] → Sl a' 5 (.int .i64 ((k + 1 : Nat) : Int)) → Q .normal a' (w)) : (Code.region 5 (opsOf 5 Tryd.f28).toArray false).wp Tryd.prog Q a w := by
 refine wp_region_lit ?_
 (conv => arg 4; whnf)
 unfold Sl at o5
 have hw : wrap64 ((k : Int) + 1) = (k : Int) + 1 := by unfold wrap64; omega
 go_wp2_with fail
 try simp only [Act.put]
 exact hend _ sS sP
theorem rst_r6 (ad be : Addr) (n c e k : Nat) (hk : k < n) (ns : ByteArray) (hc : ∀ V, Kp [] w.drew V → V.cell? (ad.add k) = some (.string ns)) (hd2 : ∀ V, Kp [] w.drew V → V.cell? (be.add k) = some (.string ns)) (hsz : a.tmps.size = 26) (o0 : Sl a 0 (.slice (some ad) n c)) (o1 : Sl a 1 (.slice (some be) n e)) (o5 : Sl a 5 (.int .i64 ((k : Nat) : Int)))
 (hend : ∀ a' W, Same a a' [17, 18, 19, 20, 21, 22, 23, 24, 25] → Kp [] w.drew W → Sl a' 25 (.bool false) → Q .normal a' W) : (Code.region 6 (opsOf 6 Tryd.f28).toArray true).wp Tryd.prog Q a w := by
 have hap : apartB (opsOf 6 Tryd.f28) = true := by kernel_rfl
 refine wp_region_inv (l := (opsOf 6 Tryd.f28)) (fun i v W => match i with | 0 => v = .slice (some ad) n c | 1 => v = .int .i64 ((k : Nat) : Int) | 2 => v = .pointer (some (ad.add k)) | 3 => v = .string ns | 4 => v = .slice (some be) n e | 5 => v = .int .i64 ((k : Nat) : Int) | 6 => v = .pointer (some (be.add k)) | 7 => v = .string ns | 8 => v = .bool false | _ => True) (by kernel_rfl) hap (by kernel_rfl) ?_ ?_ ?_
 · intro i v W W' h _
   iterate 9 (rcases i with _ | i; · exact h)
   exact h
 · refine ⟨?_, ?_, ?_, ?_, ?_, ?_, ?_, ?_, ?_, trivial⟩
   · intro vs A' W hA hW hd K hK; have e0 := sO 0 o0 hA hap hsz; clear hA hd o0 o1 o5; go_step; exact hK _ _ kR rfl
   · intro vs A' W hA hW hd K hK; have e5 := sO 5 o5 hA hap hsz; clear hA hd o0 o1 o5; go_step; exact hK _ _ kR rfl
   · intro vs A' W hA hW hd K hK; have e17 := sV 17 (hd 0 (by kernel_rfl)) hA hap hsz; have e18 := sV 18 (hd 1 (by kernel_rfl)) hA hap hsz; clear hA hd o0 o1 o5
     have h0 : 0 ≤ (k : Int) := by omega
     have h1 : (k : Int) < (n : Int) := by omega
     go_step; exact hK _ _ kR rfl
   · intro vs A' W hA hW hd K hK; have e19 := sV 19 (hd 2 (by kernel_rfl)) hA hap hsz; clear hA hd o0 o1 o5
     have c0 := hc _ hW
     go_step; exact hK _ _ kR rfl
   · intro vs A' W hA hW hd K hK; have e1 := sO 1 o1 hA hap hsz; clear hA hd o0 o1 o5; go_step; exact hK _ _ kR rfl
   · intro vs A' W hA hW hd K hK; have e5 := sO 5 o5 hA hap hsz; clear hA hd o0 o1 o5; go_step; exact hK _ _ kR rfl
   · intro vs A' W hA hW hd K hK; have e21 := sV 21 (hd 4 (by kernel_rfl)) hA hap hsz; have e22 := sV 22 (hd 5 (by kernel_rfl)) hA hap hsz; clear hA hd o0 o1 o5
     have h0 : 0 ≤ (k : Int) := by omega
     have h1 : (k : Int) < (n : Int) := by omega
     go_step; exact hK _ _ kR rfl
   · intro vs A' W hA hW hd K hK; have e23 := sV 23 (hd 6 (by kernel_rfl)) hA hap hsz; clear hA hd o0 o1 o5
     have c0 := hd2 _ hW
     go_step; exact hK _ _ kR rfl
   · intro vs A' W hA hW hd K hK; have e20 := sV 20 (hd 3 (by kernel_rfl)) hA hap hsz; have e24 := sV 24 (hd 7 (by kernel_rfl)) hA hap hsz; clear hA hd o0 o1 o5; go_step
     exact hK _ _ kR (by first | rfl | (refine congrArg Value.bool ?_; simp))
 · intro vs W hW hp
   rw [putAll_eq]
   exact hend _ W sQ hW (sW (hp 8 sB))
end
/- Enough, SameTexts of the reference. -/
section
open Go.RowKit
theorem srenough_any (z : Int) (hz : -9223372036854775808 ≤ z ∧ z ≤ 9223372036854775807) (h : List UInt8) (hh : h.length = 32) (A : Option Addr) (c : Nat) (l : List SigD) (hok : SgOk l) (hll : l.length ≤ 9223372036854775806) (most : Int) (Ak : Option Addr) (ck : Nat) (ks : List KeyD) (hks : ks.length ≤ 35184372088832) (hnm : ∀ k, k ∈ ks → k.1.length ≤ maxLen) (us : List Value) (w : World) (hv : Rd w 33 (.slice A l.length c) l.length (sgsC l)) (hkv : KysF w (.slice Ak ks.length ck) us ks) :
 Calls Tryd.prog 31 #[.agg (ntA z h (.slice A l.length c)), .int .i64 most, .slice Ak ks.length ck] w fun e w' => e = .returned (.bool (enoughN z h l ks most)) ∧ Kp [] w w' := by
 refine calls_fr Tryd.func31 rfl 21 rfl (fun a0 hsz hdf hAr => ?_)
 have hz0 : a0.tmps.size = 21 := hsz
 have D := hdf
 have o0 := hAr 0 _ rfl
 have o1 := hAr 1 _ rfl
 have o2 := hAr 2 _ rfl
 refine wp_seq (rno_r0 w _ [] (Held.start w) hz0 o0 (fun a1 w1 hs1 o6 h1 => ?_))
 have hz1 := hs1.size.trans hz0; have o0 := hs1.k o0; have o1 := hs1.k o1; have o2 := hs1.k o2; have D := hs1.defers.trans D
 obtain ⟨g3, o3, S⟩ := h1
 cases hm : mayN z l
 · skip
   refine wp_seq (rno_r1N z hz h hh A c l hok hll (rd_old hv S.k) g3 (S.at_ (l1 := [])) Ak ck ks hks hnm us (hkv.kp0 S.k) most hm hz1 o1 o2 o3 (fun a2 w2 hs2 k2 o6 => ?_))
   have hz2 := hs2.size.trans hz1; have o1 := hs2.k o1; have o2 := hs2.k o2; have o3 := hs2.k o3; have D := hs2.defers.trans D
   refine wp_ret ?_
   exact (bodyPost_ret (results_t1 (by rfl) (o6.eval (by rw [hz2]; decide))) D ⟨by unfold enoughN; rw [hm, Bool.false_and], S.k.trans k2 (by simp)⟩)
 · by_cases hmo : 0 ≤ most
   · skip
     refine wp_seq (rno_r1Y z hz h hh A c l hok hll (rd_old hv S.k) g3 (S.at_ (l1 := [])) Ak ck ks hks hnm us (hkv.kp0 S.k) most hm hmo hz1 o1 o2 o3 (fun a2 w2 hs2 k2 o6 => ?_))
     have hz2 := hs2.size.trans hz1; have o1 := hs2.k o1; have o2 := hs2.k o2; have o3 := hs2.k o3; have D := hs2.defers.trans D
     refine wp_ret ?_
     exact (bodyPost_ret (results_t1 (by rfl) (o6.eval (by rw [hz2]; decide))) D ⟨by unfold enoughN; rw [hm, decide_eq_true hmo, Bool.true_and, Bool.true_and], S.k.trans k2 (by simp)⟩)
   · skip
     refine wp_seq (rno_r1M z hz h hh A c l hok hll (rd_old hv S.k) g3 (S.at_ (l1 := [])) Ak ck ks hks hnm us (hkv.kp0 S.k) most hm hmo hz1 o1 o2 o3 (fun a2 w2 hs2 k2 o6 => ?_))
     have hz2 := hs2.size.trans hz1; have o1 := hs2.k o1; have o2 := hs2.k o2; have o3 := hs2.k o3; have D := hs2.defers.trans D
     refine wp_ret ?_
     exact (bodyPost_ret (results_t1 (by rfl) (o6.eval (by rw [hz2]; decide))) D ⟨by unfold enoughN; rw [hm, decide_eq_false hmo, Bool.true_and, Bool.false_and], S.k.trans k2 (by simp)⟩)
theorem samestr_true (A B : Option Addr) (c e : Nat) (xs : List (List UInt8)) (hxs : xs.length ≤ 9223372036854775806) (w : World) (hv : Rd w 1 (.slice A xs.length c) xs.length (xs.map strV)) (hu : Rd w 1 (.slice B xs.length e) xs.length (xs.map strV)) :
 Calls Tryd.prog 28 #[.slice A xs.length c, .slice B xs.length e] w fun r w' => r = .returned (.bool true) ∧ Kp [] w w' := by
 refine calls_fr Tryd.func28 rfl 26 rfl (fun a0 hsz hdf hAr => ?_)
 have hz0 : a0.tmps.size = 26 := hsz
 have D := hdf
 have o0 := hAr 0 _ rfl
 have o1 := hAr 1 _ rfl
 refine wp_seq (rst_r0 hz0 (fun a1 hs1 o4 => ?_))
 have hz1 := hs1.size.trans hz0; have o0 := hs1.k o0; have o1 := hs1.k o1; have D := hs1.defers.trans D
 refine wp_seq (wp_seq (rst_r1 A B xs.length c e hz1 o0 o1 (fun a2 hs2 o10 => ?_)))
 have hz2 := hs2.size.trans hz1; have o0 := hs2.k o0; have o1 := hs2.k o1; have D := hs2.defers.trans D
 refine wp_cond_false (o10.eval (by rw [hz2]; decide)) (wp_skip ?_)
 simp only [Exit.then]
 refine wp_seq (wp_seq (rst_r3 hz2 (fun a3 hs3 o5 => ?_)))
 have hz3 := hs3.size.trans hz2; have o0 := hs3.k o0; have o1 := hs3.k o1; have D := hs3.defers.trans D
 refine wp_block ?_
 (conv => arg 2; whnf)
 refine wp_loop (fun a' w' => ∃ kx : Nat, kx ≤ xs.length ∧ a'.tmps.size = 26 ∧ a'.defers = [] ∧ Kp [] w w' ∧ Sl a' 0 (.slice A xs.length c) ∧ Sl a' 1 (.slice B xs.length e) ∧ Sl a' 5 (.int .i64 ((kx : Nat) : Int))) (fun a' _ => xs.length - (intOf (a'.eval (.tmp 5))).toNat) ⟨0, Nat.zero_le _, hz3, D, Kp.refl _ _, o0, o1, o5⟩ ?_
 iterate 9 (try clear o0)
 iterate 9 (try clear o1)
 iterate 9 (try clear o5)
 iterate 9 (try clear o4)
 iterate 9 (try clear o10)
 iterate 9 (try clear D)
 rintro a5 w5 ⟨kx, hkx, hz5, D, k5, o0, o1, o5⟩
 have e5 := o5.eval (by rw [hz5]; decide)
 refine wp_seq (wp_seq (rst_r4 A kx xs.length c hz5 o0 o5 (fun a6 hs6 o14 => ?_)))
 have hz6 := hs6.size.trans hz5; have o0 := hs6.k o0; have o1 := hs6.k o1; have o5 := hs6.k o5; have D := hs6.defers.trans D
 by_cases hlt : kx < xs.length
 · refine wp_cond_true ((o14.eval (by rw [hz6]; decide)).trans (by rw [decide_eq_true hlt])) (wp_skip ?_)
   simp only [Exit.then]
   obtain ⟨x, hx⟩ : ∃ x, xs[kx]? = some x := ⟨_, List.getElem?_eq_getElem hlt⟩
   have hcell : ∀ {C : Option Addr} {q : Nat}, Rd w 1 (.slice C xs.length q) xs.length (xs.map strV) → ∃ ad, C = some ad ∧ ∀ V, Kp [] w5.drew V → V.cell? (ad.add kx) = some (.string ⟨x.toArray⟩) := by
    intro C q hR
    obtain ⟨-, A', c', he, -, -, hn, hc⟩ := hR
    cases he
    cases C with
    | none => have := (hn rfl).1; omega
    | some ad =>
     refine ⟨ad, rfl, fun V kV => cell_kept (hc ad rfl kx _ ?_) (k5.drew.trans kV (by simp))⟩
     rw [List.getElem?_map, hx]
     rfl
   obtain ⟨ad, hA, hcA⟩ := hcell hv
   obtain ⟨be, hB, hcB⟩ := hcell hu
   have o0' := o0
   have o1' := o1
   rw [hA] at o0'
   rw [hB] at o1'
   refine wp_seq (wp_block ?_)
   refine wp_seq (rst_r6 ad be xs.length c e kx hlt ⟨x.toArray⟩ hcA hcB hz6 o0' o1' o5 (fun a7 w7 hs7 k7 o25 => ?_))
   have hz7 := hs7.size.trans hz6
   refine wp_cond_false (o25.eval (by rw [hz7]; decide)) (wp_skip ?_)
   simp only [Exit.inBlock, Exit.then]
   refine rst_r5 kx (by omega) hz7 (hs7.k o5) (fun a8 hs8 o5' => ?_)
   have hz8 := hs8.size.trans hz7
   refine ⟨⟨kx + 1, by omega, hz8, hs8.defers.trans (hs7.defers.trans D), k5.drew.trans k7 (by simp), hs8.k (hs7.k o0), hs8.k (hs7.k o1), o5'⟩, ?_⟩
   show xs.length - (intOf _).toNat < xs.length - (intOf _).toNat
   rw [e5, o5'.eval (by rw [hz8]; decide)]
   simp only [intOf]; omega
 · refine wp_cond_false ((o14.eval (by rw [hz6]; decide)).trans (by rw [decide_eq_false hlt])) (wp_exit ?_)
   simp only [Exit.then, Exit.inBlock]
   refine wp_seq (rst_r8 hz6 (fun a7 hs7 o4 => ?_))
   have hz7 := hs7.size.trans hz6; have o0 := hs7.k o0; have o1 := hs7.k o1; have o5 := hs7.k o5; have o14 := hs7.k o14; have D := hs7.defers.trans D
   refine wp_ret ?_
   exact (bodyPost_ret (results_t1 (by rfl) (o4.eval (by rw [hz7]; decide))) D ⟨rfl, k5⟩)
end
/- SignNotes: its regions, the first half. -/
section
variable {Q : Exit → Act → World → Prop} {a : Act} {w : World}
open Go.RowKit
theorem snt_r0 (w0 : World) (ca cb : Array Value) (L : List Res) (S : Held w0 w L) (hsz : a.tmps.size = 207) (o0 : Sl a 0 (.agg ca)) (o1 : Sl a 1 (.agg cb))
 (hend : ∀ a' W, Same a a' [4, 5, 8] → Sl a' 8 (.bool false) → (∃ g4 g5, Sl a' 4 (.pointer (some ⟨g4, 0, none⟩)) ∧ Sl a' 5 (.pointer (some ⟨g5, 0, none⟩)) ∧ Held w0 W (blkR g4 36 ca :: blkR g5 42 cb :: L)) → Q .normal a' W) : (Code.region 0 (opsOf 0 Tryd.f5).toArray false).wp Tryd.prog Q a w := by
 refine wp_region_lit ?_
 (conv => arg 4; whnf)
 unfold Sl at o0 o1
 have S1 := Lib.hid ((S.newBlk 36 ca).newBlkN 42 cb (g := w.heap.size + 1) (by simp))
 go_wp2_with fail
 try simp only [Act.put]
 exact hend _ _ sS sP (⟨w.heap.size, w.heap.size + 1, sP0, sP0, S1.out.pull 1 rfl⟩)
theorem snt_r1 (w0 : World) (z : Int) (h : List UInt8) (hh : h.length = 32) (A : Option Addr) (c : Nat) (l : List SigD) (hok : SgOk l) (hll : (l.length + 1) * 48 ≤ 140737488355328) (hva : ∀ V, Kp [] w0 V → Rd V 33 (.slice A l.length c) l.length (sgsC l)) (nm : ByteArray) (Ak : Option Addr) (ck : Nat) (sec : List UInt8) (hsl : sec.length + 1 ≤ 140737488355328) (hvb : ∀ V, Kp [] w0 V → Rd V 1 (.slice Ak sec.length ck) sec.length (bv sec)) (g4 g5 : Nat) (L : List Res) (hsz : a.tmps.size = 207) (o4 : Sl a 4 (.pointer (some ⟨g4, 0, none⟩))) (o5 : Sl a 5 (.pointer (some ⟨g5, 0, none⟩)))
 (S0 : Held w0 w (blkR g4 36 (ntA z h (.slice A l.length c)) :: blkR g5 42 #[.string nm, .slice Ak sec.length ck] :: L))
 (hend : ∀ (a' : Act) (vs : Nat → Value) (gs : Nat → Nat × Nat) (W : World), Same a a' [31, 32, 33, 34, 9, 10] → Sl a' 9 (.pointer (some ⟨(gs 4).1, 0, none⟩)) → Sl a' 10 (.pointer (some ⟨(gs 5).1, 0, none⟩)) → Held w0 W (rowR 81 33 (.slice (some ⟨(gs 1).1, 0, none⟩) (l.length + 1) (gs 1).2) (l.length + 1) (sgsC (l ++ [roomS])) :: rowR 5 1 (.slice (some ⟨(gs 3).1, 0, none⟩) (sec.length + 1) (gs 3).2) (sec.length + 1) (bv (sec ++ [165])) :: blkR (gs 4).1 36 (ntA z h (.slice (some ⟨(gs 1).1, 0, none⟩) l.length (gs 1).2)) :: blkR (gs 5).1 42 #[.string nm, .slice (some ⟨(gs 3).1, 0, none⟩) sec.length (gs 3).2] :: blkR g4 36 (ntA z h (.slice A l.length c)) :: blkR g5 42 #[.string nm, .slice Ak sec.length ck] :: L) → Q .normal a' W) : (Code.region 1 (opsOf 1 Tryd.f5).toArray true).wp Tryd.prog Q a w := by
 have hap : apartB (opsOf 1 Tryd.f5) = true := by kernel_rfl
 refine wp_region_sep (Γ := Nat × Nat) (l := (opsOf 1 Tryd.f5)) 3 [0, 1, 2, 3, 6, 7, 8, 9, 10]
  (fun i vs gs => match i with | 0 => vs 0 = .agg (ntA z h (.slice A l.length c)) | 1 => vs 1 = .agg (ntA z h (.slice (some ⟨(gs 1).1, 0, none⟩) l.length (gs 1).2)) | 2 => vs 2 = .agg #[.string nm, .slice Ak sec.length ck] | 3 => vs 3 = .agg #[.string nm, .slice (some ⟨(gs 3).1, 0, none⟩) sec.length (gs 3).2] | 4 => vs 4 = .pointer (some ⟨(gs 4).1, 0, none⟩) | 5 => vs 5 = .pointer (some ⟨(gs 5).1, 0, none⟩) | _ => True)
  (fun i vs gs => match i with | 1 => [rowR 81 33 (.slice (some ⟨(gs 1).1, 0, none⟩) (l.length + 1) (gs 1).2) (l.length + 1) (sgsC (l ++ [roomS]))] | 3 => [rowR 5 1 (.slice (some ⟨(gs 3).1, 0, none⟩) (sec.length + 1) (gs 3).2) (sec.length + 1) (bv (sec ++ [165]))] | 4 => [blkR (gs 4).1 36 zeroN] | 5 => [blkR (gs 5).1 42 #[.string ⟨#[]⟩, .slice none 0 0]] | 6 => [blkR (gs 4).1 36 (ntA z h (.slice (some ⟨(gs 1).1, 0, none⟩) l.length (gs 1).2))] | 7 => [blkR (gs 5).1 42 #[.string nm, .slice (some ⟨(gs 3).1, 0, none⟩) sec.length (gs 3).2]] | 8 => [blkR g4 36 (ntA z h (.slice A l.length c))] | 9 => [blkR g5 42 #[.string nm, .slice Ak sec.length ck]] | 10 => L | _ => [])
  (fun i => match i with | 6 => [4] | 7 => [5] | _ => []) (fun i => match i with | 0 => [8] | 2 => [9] | _ => []) S0 (by kernel_rfl) hap (by kernel_rfl) (by kernel_rfl) (fun i => match i with | 0 => [0] | 1 => [1] | 2 => [2] | 3 => [3] | 4 => [4] | 5 => [5] | 6 => [1, 4] | 7 => [3, 5] | _ => []) (by kernel_rfl) ?_ (by kernel_rfl) ?_ ?_ ?_
 · intro s vs vs' gs gs' h
   iterate 11 (rcases s with _ | s; · (first | exact ⟨rfl, id⟩ | (simp only [List.mem_cons, List.not_mem_nil, or_false, forall_eq_or_imp, forall_eq] at h; simp [h])))
   exact ⟨rfl, id⟩
 · simp only [List.range, List.range.loop, List.flatMap_cons, List.flatMap_nil, List.append_nil]
   exact List.Perm.refl _
 · clear S0 hend
   refine ⟨?_, ?_, ?_, ?_, ?_, ?_, ?_, ?_, trivial⟩
   · intro vs gs A' W LF hA S hR hd hu K hK; replace hK := hK default; have e4 := sO 4 o4 hA hap hsz; clear hA o4 o5
     refine op_runs (v := .agg (ntA z h (.slice A l.length c))) (w' := W) (exec_load rfl (by simpa [Act.eval] using e4) (run_loadAt_agg W (⟨g4, 0, none⟩) 36 (ntA z h (.slice A l.length c)).toList _ (Blk.agg (show Blk W g4 36 (ntA z h (.slice A l.length c)) from (S.ok (blkR g4 36 (ntA z h (.slice A l.length c))) (hR 8 (List.mem_singleton.2 rfl) _ (List.mem_singleton.2 rfl))))) Tryd.underlying36 rfl (by rw [Array.length_toList, ntA_size hh]; exact Tryd.infoNote))) ?_
     exact hK _ _ S rfl
   · intro vs gs A' W LF hA S hR hd hu K hK; have e31 := sV 31 (hd 0 (by kernel_rfl)) hA hap hsz; clear hA o4 o5; go_step
     refine (slent_any z h hh A c l hok hll W (hva _ S.k)).mono ?_
     rintro e w' ⟨gr, cr, rfl, -, H⟩
     exact hK (gr, cr) _ w' ((S.join H).perm (List.perm_append_singleton _ _)) rfl
   · intro vs gs A' W LF hA S hR hd hu K hK; replace hK := hK default; have e5 := sO 5 o5 hA hap hsz; clear hA o4 o5
     refine op_runs (v := .agg (#[.string nm, .slice Ak sec.length ck])) (w' := W) (exec_load rfl (by simpa [Act.eval] using e5) (run_loadAt_agg W (⟨g5, 0, none⟩) 42 (#[.string nm, .slice Ak sec.length ck]).toList _ (Blk.agg (show Blk W g5 42 (#[.string nm, .slice Ak sec.length ck]) from (S.ok (blkR g5 42 (#[.string nm, .slice Ak sec.length ck])) (hR 9 (List.mem_singleton.2 rfl) _ (List.mem_singleton.2 rfl))))) Tryd.underlying42 rfl (by exact Tryd.infoKeyP))) ?_
     exact hK _ _ S rfl
   · intro vs gs A' W LF hA S hR hd hu K hK; have e33 := sV 33 (hd 2 (by kernel_rfl)) hA hap hsz; clear hA o4 o5; go_step
     refine (slentk_any nm Ak ck sec hsl W (hvb _ S.k)).mono ?_
     rintro e w' ⟨gr, cr, rfl, H⟩
     exact hK (gr, cr) _ w' ((S.join H).perm (List.perm_append_singleton _ _)) rfl
   · intro vs gs A' W LF hA S hR hd hu K hK; clear hA o4 o5; go_step
     exact hK (W.heap.size, 0) _ _ (S.newBlk 36 zeroN) rfl
   · intro vs gs A' W LF hA S hR hd hu K hK; clear hA o4 o5; go_step
     exact hK (W.heap.size, 0) _ _ (S.newBlk 42 #[.string ⟨#[]⟩, .slice none 0 0]) rfl
   · intro vs gs A' W LF hA S hR hd hu K hK; replace hK := hK default; have e9 := sV 9 (hd 4 (by kernel_rfl)) hA hap hsz; have e32 := sV 32 (hd 1 (by kernel_rfl)) hA hap hsz; clear hA o4 o5
     have S1 : Held w0 W (blkR (gs 4).1 36 zeroN :: LF) := S
     refine op_store_blkS (.tmp 9) (.tmp 32) 36 rfl (gs 4).1 (by simpa [Act.eval] using e9) (ntA z h (.slice (some ⟨(gs 1).1, 0, none⟩) l.length (gs 1).2)) (by simpa [Act.eval] using e32) 36 zeroN S1 (by rw [ntA_size hh]; exact Tryd.infoNote) (by rw [ntA_size hh] <;> rfl) (ntA_one rfl) ?_
     intro w' S2
     exact hK _ _ S2 trivial
   · intro vs gs A' W LF hA S hR hd hu K hK; replace hK := hK default; have e10 := sV 10 (hd 5 (by kernel_rfl)) hA hap hsz; have e34 := sV 34 (hd 3 (by kernel_rfl)) hA hap hsz; clear hA o4 o5
     have S1 : Held w0 W (blkR (gs 5).1 42 #[.string ⟨#[]⟩, .slice none 0 0] :: LF) := S
     refine op_store_blkS (.tmp 10) (.tmp 34) 42 rfl (gs 5).1 (by simpa [Act.eval] using e10) #[.string nm, .slice (some ⟨(gs 3).1, 0, none⟩) sec.length (gs 3).2] (by simpa [Act.eval] using e34) 42 #[.string ⟨#[]⟩, .slice none 0 0] S1 (by exact Tryd.infoKeyP) rfl (by intro u hu; simp at hu; rcases hu with rfl | rfl <;> rfl) ?_
     intro w' S2
     exact hK _ _ S2 trivial
 · intro vs gs W S hp
   have S : Held w0 W (rowR 81 33 (.slice (some ⟨(gs 1).1, 0, none⟩) (l.length + 1) (gs 1).2) (l.length + 1) (sgsC (l ++ [roomS])) :: rowR 5 1 (.slice (some ⟨(gs 3).1, 0, none⟩) (sec.length + 1) (gs 3).2) (sec.length + 1) (bv (sec ++ [165])) :: blkR (gs 4).1 36 (ntA z h (.slice (some ⟨(gs 1).1, 0, none⟩) l.length (gs 1).2)) :: blkR (gs 5).1 42 #[.string nm, .slice (some ⟨(gs 3).1, 0, none⟩) sec.length (gs 3).2] :: blkR g4 36 (ntA z h (.slice A l.length c)) :: blkR g5 42 #[.string nm, .slice Ak sec.length ck] :: L) := by simpa only [List.flatMap_cons, List.flatMap_nil, List.append_nil, List.nil_append, List.cons_append, List.append_assoc] using S
   rw [putAll_eq]
   exact hend _ vs gs W sQ (sW (hp 4 sB)) (sW (hp 5 sB)) S
theorem snt_r2  (hsz : a.tmps.size = 207) 
 (hend : ∀ a', Same a a' [11] → Sl a' 11 (.slice none 0 0) → Q .normal a' (w)) : (Code.region 2 (opsOf 2 Tryd.f5).toArray false).wp Tryd.prog Q a w := by
 refine wp_region_lit ?_
 (conv => arg 4; whnf)
 go_wp2_with fail
 try simp only [Act.put]
 exact hend _ sS sP
theorem snt_r3  (hsz : a.tmps.size = 207) 
 (hend : ∀ a', Same a a' [12] → Sl a' 12 (.int .i64 ((0 : Nat) : Int)) → Q .normal a' (w)) : (Code.region 3 (opsOf 3 Tryd.f5).toArray false).wp Tryd.prog Q a w := by
 refine wp_region_lit ?_
 (conv => arg 4; whnf)
 go_wp2_with fail
 try simp only [Act.put]
 exact hend _ sS sP
theorem snt_r4 (A : Option Addr) (k n c : Nat) (hsz : a.tmps.size = 207) (o2 : Sl a 2 (.slice A n c)) (o12 : Sl a 12 (.int .i64 ((k : Nat) : Int)))
 (hend : ∀ a', Same a a' [35, 36, 37, 38] → Sl a' 38 (.bool (decide (k < n))) → Q .normal a' (w)) : (Code.region 4 (opsOf 4 Tryd.f5).toArray false).wp Tryd.prog Q a w := by
 refine wp_region_lit ?_
 (conv => arg 4; whnf)
 unfold Sl at o2 o12
 go_wp2_with fail
 try simp only [Act.put]
 exact hend _ sS sP
theorem snt_r5 (k : Nat) (hk : k < 9223372036854775807) (hsz : a.tmps.size = 207) (o12 : Sl a 12 (.int .i64 ((k : Nat) : Int)))
 (hend : ∀ a', Same a a' [39, 40, 12] → Sl a' 12 (.int .i64 ((k + 1 : Nat) : Int)) → Q .normal a' (w)) : (Code.region 5 (opsOf 5 Tryd.f5).toArray false).wp Tryd.prog Q a w := by
 refine wp_region_lit ?_
 (conv => arg 4; whnf)
 unfold Sl at o12
 have hw : wrap64 ((k : Int) + 1) = (k : Int) + 1 := by unfold wrap64; omega
 go_wp2_with fail
 try simp only [Act.put]
 exact hend _ sS sP
theorem snt_r6 (w0 : World) (ad : Addr) (k n c : Nat) (hk : k < n) (nm : ByteArray) (Ak : Option Addr) (m ck : Nat) (hc : ∀ j u, ([.string nm, .slice Ak m ck] : List Value)[j]? = some u → w.cell? ((ad.add (k * 2)).add j) = some u) (ys : List Value) (HJ : Calls Tryd.prog 19 #[.agg #[.string nm, .slice Ak m ck]] w fun e w' => ∃ gr cr, e = .returned (.agg #[.string nm, .slice (some ⟨gr, 0, none⟩) m cr]) ∧ Held w w' [rowR 5 1 (.slice (some ⟨gr, 0, none⟩) (m + 1) cr) (m + 1) ys]) (u : Value) (q : Nat) (hq : (q + 1) * 40 ≤ 140737488355328) (xs : List Value) (L : List Res) (S : Held w0 w (rowR 42 2 u q xs :: L)) (hsz : a.tmps.size = 207) (o2 : Sl a 2 (.slice (some ad) n c)) (o11 : Sl a 11 (u)) (o12 : Sl a 12 (.int .i64 ((k : Nat) : Int)))
 (hend : ∀ a' W, Same a a' [41, 42, 43, 44, 45, 46, 47, 48, 11] → (∃ v2 gr cr, Sl a' 11 v2 ∧ Held w0 W (rowR 42 2 v2 (q + 1) (xs ++ [.string nm, .slice (some ⟨gr, 0, none⟩) m cr]) :: rowR 5 1 (.slice (some ⟨gr, 0, none⟩) (m + 1) cr) (m + 1) ys :: L)) → Q .normal a' W) : (Code.region 6 (opsOf 6 Tryd.f5).toArray false).wp Tryd.prog Q a w := by
 refine wp_region_lit ?_
 (conv => arg 4; whnf)
 unfold Sl at o2 o11 o12
 have S := Lib.hid S
 have HJ := Lib.hid HJ
 have h0 : 0 ≤ (k : Int) := by omega
 have h1 : (k : Int) < (n : Int) := by omega
 have HC := Lib.hid hc
 have HI := Lib.hid Tryd.infoKeyP
 clear hc
 have hb1 : Hid (q + 1 ≤ maxLen ∧ (q + 1) * 40 ≤ 140737488355328) := Lib.hid (by unfold maxLen; omega)
 clear hq
 go_wp2_with (refine wpList_load_agg rfl 42 (.tmp 44) rfl (ad.add (k * 2)) (by simp [Act.eval, Act.put, hsz]) [.string nm, .slice Ak m ck] _ HC.out Tryd.underlying42 rfl (by exact HI.out) ?_)
 refine HJ.out.mono ?_
 rintro e w1 ⟨gr, cr, rfl, H1⟩
 have S1 := Lib.hid (((S.out.join H1).perm (List.perm_append_singleton _ _)).pull 1 rfl)
 clear H1
 go_wp2_with (first
  | (refine wpList_keys1 rfl 46 42 (.tmp 46) rfl nm (some ⟨gr, 0, none⟩) m cr (by simp [Act.eval, Act.put, hsz]) ?_; have S2 := Lib.hid ((S1.out.newBlk 42 #[.string nm, .slice (some ⟨gr, 0, none⟩) m cr]).pull 1 rfl); have HR : Hid (Rd (w1.alloc (.cells #[.string nm, .slice (some ⟨gr, 0, none⟩) m cr] 42)) 2 (.slice (some ⟨w1.heap.size, 0, none⟩) 1 1) 1 [.string nm, .slice (some ⟨gr, 0, none⟩) m cr]) := Lib.hid (Rd.of_own (ow_new w1 42 2 1 #[.string nm, .slice (some ⟨gr, 0, none⟩) m cr] rfl (by decide))))
  | (at_builtin; refine wpList_appH rfl (.tmp 41) (.tmp 47) 46 42 rfl Tryd.infoKeyZ Tryd.underlying46 rfl (by decide) u q xs (by simp [Act.eval, Act.put, hsz]) S2.out (.slice (some ⟨w1.heap.size, 0, none⟩) 1 1) 1 [.string nm, .slice (some ⟨gr, 0, none⟩) m cr] (by simp [Act.eval, Act.put, hsz]) HR.out (by intro x hx; simp at hx; rcases hx with rfl | rfl <;> rfl) hb1.out.1 hb1.out.2 ?_; intro v2 w2 S3; have S3 := Lib.hid S3))
 try simp only [Act.put]
 exact hend _ _ sS (⟨v2, gr, cr, sP0, S3.out.some_of (List.Sublist.cons_cons _ (List.sublist_append_right [_] _))⟩)
theorem snt_r7 (w0 : World) (Z : Int) (H : List UInt8) (hH : H.length = 32) (n : Nat) (xs : List Value) (E : Int) (ga gb : Nat) (ca cb : Array Value) (hca : ca.size = 34) (hcb : cb.size = 2) (hba : Blk w ga 36 ca) (hbb : Blk w gb 42 cb) (HJ : Calls Tryd.prog 15 #[.agg ca, .agg cb] w fun r w' => ∃ v, r = .returned (.tuple #[.agg (ntA Z H v), .int .i64 E]) ∧ Held w w' [rowR 81 33 v n xs]) (L : List Res) (S : Held w0 w L) (hsz : a.tmps.size = 207) (o9 : Sl a 9 (.pointer (some ⟨ga, 0, none⟩))) (o10 : Sl a 10 (.pointer (some ⟨gb, 0, none⟩)))
 (hend : ∀ a' W, Same a a' [50, 51, 52, 49, 53, 54, 13, 14] → Sl a' 14 (.int .i64 E) → (∃ g v, Sl a' 13 (.pointer (some ⟨g, 0, none⟩)) ∧ Held w0 W (blkR g 36 (ntA Z H v) :: rowR 81 33 v n xs :: L)) → Q .normal a' W) : (Code.region 7 (opsOf 7 Tryd.f5).toArray false).wp Tryd.prog Q a w := by
 refine wp_region_lit ?_
 (conv => arg 4; whnf)
 unfold Sl at o9 o10
 have S := Lib.hid S
 have HJ := Lib.hid HJ
 have HBa := Lib.hid hba
 have hza := Lib.hid hca
 clear hba hca
 have HBb := Lib.hid hbb
 have hzb := Lib.hid hcb
 clear hbb hcb
 go_wp2_with (first | (refine wpList_load_blk rfl 36 (.tmp 9) rfl ga (by simp [Act.eval, Act.put, hsz, o9]) 36 _ HBa.out _ Tryd.underlying36 rfl (by rw [hza.out]; exact Tryd.infoNote) ?_) | (refine wpList_load_blk rfl 42 (.tmp 10) rfl gb (by simp [Act.eval, Act.put, hsz, o10]) 42 _ HBb.out _ Tryd.underlying42 rfl (by rw [hzb.out]; exact Tryd.infoKeyP) ?_))
 refine HJ.out.mono ?_
 rintro e w1 ⟨v1, rfl, H1⟩
 have S0 := (S.out.join H1).perm (List.perm_append_singleton _ _)
 obtain ⟨A1, c1, hv1, -, -⟩ := ow_form (S0.at_ (l1 := []))
 have HO : Hid (∀ u, u ∈ (ntA Z H v1).toList → u.oneCell' = true) := Lib.hid (ntA_one (by rw [hv1]; rfl))
 have hz2 : Hid ((ntA Z H v1).size = 34) := Lib.hid (ntA_size hH)
 have S1 := Lib.hid (S0.newBlk 36 zeroN)
 clear S0 H1
 obtain ⟨cn, hcn⟩ : ∃ cn, ntA Z H v1 = cn := ⟨_, rfl⟩
 rw [hcn] at HO hz2 ⊢
 have hcn := Lib.hid hcn
 clear hv1
 go_wp2_with (refine wpList_store_blk rfl 36 (.tmp 13) (.tmp 53) rfl w1.heap.size (by simp [Act.eval, Act.put, hsz]) cn (by simp [Act.eval, Act.put, hsz]) 36 _ (S1.out.at_ (l1 := [])) (by rw [hz2.out]; exact Tryd.infoNote) (by rw [hz2.out]; rfl) HO.out ?_; intro w7 b7 k7; have S7 := Lib.hid (Held.setBlk (l1 := []) S1.out b7 k7); clear b7 k7)
 try simp only [Act.put]
 exact hend _ _ sS sP (⟨w1.heap.size, v1, sP0, (by rw [hcn.out]; exact S7.out)⟩)
theorem snt_r8 (w0 : World) (Z : Int) (H : List UInt8) (hH : H.length = 32) (n : Nat) (xs : List Value) (E : Int) (ga gb : Nat) (ca cb : Array Value) (hca : ca.size = 34) (hcb : cb.size = 2) (hba : Blk w ga 36 ca) (hbb : Blk w gb 42 cb) (HJ : Calls Tryd.prog 15 #[.agg ca, .agg cb] w fun r w' => ∃ v, r = .returned (.tuple #[.agg (ntA Z H v), .int .i64 E]) ∧ Held w w' [rowR 81 33 v n xs]) (L : List Res) (S : Held w0 w L) (hsz : a.tmps.size = 207) (o9 : Sl a 9 (.pointer (some ⟨ga, 0, none⟩))) (o10 : Sl a 10 (.pointer (some ⟨gb, 0, none⟩)))
 (hend : ∀ a' W, Same a a' [56, 57, 58, 55, 59, 60, 15, 16] → Sl a' 16 (.int .i64 E) → (∃ g v, Sl a' 15 (.pointer (some ⟨g, 0, none⟩)) ∧ Held w0 W (blkR g 36 (ntA Z H v) :: rowR 81 33 v n xs :: L)) → Q .normal a' W) : (Code.region 8 (opsOf 8 Tryd.f5).toArray false).wp Tryd.prog Q a w := by
 refine wp_region_lit ?_
 (conv => arg 4; whnf)
 unfold Sl at o9 o10
 have S := Lib.hid S
 have HJ := Lib.hid HJ
 have HBa := Lib.hid hba
 have hza := Lib.hid hca
 clear hba hca
 have HBb := Lib.hid hbb
 have hzb := Lib.hid hcb
 clear hbb hcb
 go_wp2_with (first | (refine wpList_load_blk rfl 36 (.tmp 9) rfl ga (by simp [Act.eval, Act.put, hsz, o9]) 36 _ HBa.out _ Tryd.underlying36 rfl (by rw [hza.out]; exact Tryd.infoNote) ?_) | (refine wpList_load_blk rfl 42 (.tmp 10) rfl gb (by simp [Act.eval, Act.put, hsz, o10]) 42 _ HBb.out _ Tryd.underlying42 rfl (by rw [hzb.out]; exact Tryd.infoKeyP) ?_))
 refine HJ.out.mono ?_
 rintro e w1 ⟨v1, rfl, H1⟩
 have S0 := (S.out.join H1).perm (List.perm_append_singleton _ _)
 obtain ⟨A1, c1, hv1, -, -⟩ := ow_form (S0.at_ (l1 := []))
 have HO : Hid (∀ u, u ∈ (ntA Z H v1).toList → u.oneCell' = true) := Lib.hid (ntA_one (by rw [hv1]; rfl))
 have hz2 : Hid ((ntA Z H v1).size = 34) := Lib.hid (ntA_size hH)
 have S1 := Lib.hid (S0.newBlk 36 zeroN)
 clear S0 H1
 obtain ⟨cn, hcn⟩ : ∃ cn, ntA Z H v1 = cn := ⟨_, rfl⟩
 rw [hcn] at HO hz2 ⊢
 have hcn := Lib.hid hcn
 clear hv1
 go_wp2_with (refine wpList_store_blk rfl 36 (.tmp 15) (.tmp 59) rfl w1.heap.size (by simp [Act.eval, Act.put, hsz]) cn (by simp [Act.eval, Act.put, hsz]) 36 _ (S1.out.at_ (l1 := [])) (by rw [hz2.out]; exact Tryd.infoNote) (by rw [hz2.out]; rfl) HO.out ?_; intro w7 b7 k7; have S7 := Lib.hid (Held.setBlk (l1 := []) S1.out b7 k7); clear b7 k7)
 try simp only [Act.put]
 exact hend _ _ sS sP (⟨w1.heap.size, v1, sP0, (by rw [hcn.out]; exact S7.out)⟩)
theorem snt_r9 (w0 : World) (Z : Int) (H : List UInt8) (hH : H.length = 32) (n : Nat) (xs : List Value) (E : Int) (ga gb : Nat) (ca cb : Array Value) (hca : ca.size = 34) (hcb : cb.size = 2) (hba : Blk w ga 36 ca) (hbb : Blk w gb 42 cb) (HJ : Calls Tryd.prog 20 #[.agg ca, .agg cb] w fun r w' => ∃ v, r = .returned (.tuple #[.agg (ntA Z H v), .int .i64 E]) ∧ Held w w' [rowR 81 33 v n xs]) (L : List Res) (S : Held w0 w L) (hsz : a.tmps.size = 207) (o4 : Sl a 4 (.pointer (some ⟨ga, 0, none⟩))) (o5 : Sl a 5 (.pointer (some ⟨gb, 0, none⟩)))
 (hend : ∀ a' W, Same a a' [62, 63, 64, 61, 65, 66, 17, 18] → Sl a' 18 (.int .i64 E) → (∃ g v, Sl a' 17 (.pointer (some ⟨g, 0, none⟩)) ∧ Held w0 W (blkR g 36 (ntA Z H v) :: rowR 81 33 v n xs :: L)) → Q .normal a' W) : (Code.region 9 (opsOf 9 Tryd.f5).toArray false).wp Tryd.prog Q a w := by
 refine wp_region_lit ?_
 (conv => arg 4; whnf)
 unfold Sl at o4 o5
 have S := Lib.hid S
 have HJ := Lib.hid HJ
 have HBa := Lib.hid hba
 have hza := Lib.hid hca
 clear hba hca
 have HBb := Lib.hid hbb
 have hzb := Lib.hid hcb
 clear hbb hcb
 go_wp2_with (first | (refine wpList_load_blk rfl 36 (.tmp 4) rfl ga (by simp [Act.eval, Act.put, hsz, o4]) 36 _ HBa.out _ Tryd.underlying36 rfl (by rw [hza.out]; exact Tryd.infoNote) ?_) | (refine wpList_load_blk rfl 42 (.tmp 5) rfl gb (by simp [Act.eval, Act.put, hsz, o5]) 42 _ HBb.out _ Tryd.underlying42 rfl (by rw [hzb.out]; exact Tryd.infoKeyP) ?_))
 refine HJ.out.mono ?_
 rintro e w1 ⟨v1, rfl, H1⟩
 have S0 := (S.out.join H1).perm (List.perm_append_singleton _ _)
 obtain ⟨A1, c1, hv1, -, -⟩ := ow_form (S0.at_ (l1 := []))
 have HO : Hid (∀ u, u ∈ (ntA Z H v1).toList → u.oneCell' = true) := Lib.hid (ntA_one (by rw [hv1]; rfl))
 have hz2 : Hid ((ntA Z H v1).size = 34) := Lib.hid (ntA_size hH)
 have S1 := Lib.hid (S0.newBlk 36 zeroN)
 clear S0 H1
 obtain ⟨cn, hcn⟩ : ∃ cn, ntA Z H v1 = cn := ⟨_, rfl⟩
 rw [hcn] at HO hz2 ⊢
 have hcn := Lib.hid hcn
 clear hv1
 go_wp2_with (refine wpList_store_blk rfl 36 (.tmp 17) (.tmp 65) rfl w1.heap.size (by simp [Act.eval, Act.put, hsz]) cn (by simp [Act.eval, Act.put, hsz]) 36 _ (S1.out.at_ (l1 := [])) (by rw [hz2.out]; exact Tryd.infoNote) (by rw [hz2.out]; rfl) HO.out ?_; intro w7 b7 k7; have S7 := Lib.hid (Held.setBlk (l1 := []) S1.out b7 k7); clear b7 k7)
 try simp only [Act.put]
 exact hend _ _ sS sP (⟨w1.heap.size, v1, sP0, (by rw [hcn.out]; exact S7.out)⟩)
theorem snt_r10 (w0 : World) (z : Int) (h : List UInt8) (hh : h.length = 32) (v : Value) (g4 : Nat) (hb4 : Blk w g4 36 (ntA z h v)) (cs : Array Value) (hcs : cs.size = 34) (h1 : ∀ u, u ∈ cs.toList → u.oneCell' = true) (E : Int) (HJ : Calls Tryd.prog 14 #[.agg (ptA z h)] w fun r w' => r = .returned (.tuple #[.agg cs, .int .i64 E]) ∧ Kp [] w w') (L : List Res) (S : Held w0 w L) (hsz : a.tmps.size = 207) (o4 : Sl a 4 (.pointer (some ⟨g4, 0, none⟩)))
 (hend : ∀ a' W, Same a a' [68, 69, 70, 67, 71, 72, 19, 20] → Sl a' 20 (.int .i64 E) → (∃ g, Sl a' 19 (.pointer (some ⟨g, 0, none⟩)) ∧ Held w0 W (blkR g 36 cs :: L)) → Q .normal a' W) : (Code.region 10 (opsOf 10 Tryd.f5).toArray false).wp Tryd.prog Q a w := by
 refine wp_region_lit ?_
 (conv => arg 4; whnf)
 unfold Sl at o4
 have S := Lib.hid S
 have HJ := Lib.hid HJ
 have HP := Lib.hid (nt_pointAt hb4)
 have hzp : Hid ((ptA z h).size = 33) := Lib.hid (ptA_size hh)
 clear hb4
 have hz2 := Lib.hid hcs
 have HO := Lib.hid h1
 clear h1 hcs
 generalize ptA z h = cp at *
 go_wp2_with (first | (refine wpList_load_agg rfl 33 (.tmp 68) rfl ⟨g4, 0, none⟩ (by simp [Act.eval, Act.put, hsz, o4]) cp.toList _ HP.out Tryd.underlying33 rfl (by rw [Array.length_toList, hzp.out]; exact Tryd.infoPointP) ?_))
 refine HJ.out.mono ?_
 rintro e w1 ⟨rfl, k1⟩
 have S1 := Lib.hid ((S.out.kp k1).newBlk 36 zeroN)
 clear k1
 go_wp2_with (refine wpList_store_blk rfl 36 (.tmp 19) (.tmp 71) rfl w1.heap.size (by simp [Act.eval, Act.put, hsz]) cs (by simp [Act.eval, Act.put, hsz]) 36 _ (S1.out.at_ (l1 := [])) (by rw [hz2.out]; exact Tryd.infoNote) (by rw [hz2.out]; rfl) HO.out ?_; intro w7 b7 k7; have S7 := Lib.hid (Held.setBlk (l1 := []) S1.out b7 k7); clear b7 k7)
 try simp only [Act.put]
 exact hend _ _ sS sP (⟨w1.heap.size, sP0, S7.out⟩)
theorem snt_r11 (w0 : World) (z : Int) (h : List UInt8) (hh : h.length = 32) (v : Value) (g4 : Nat) (hb4 : Blk w g4 36 (ntA z h v)) (cs : Array Value) (hcs : cs.size = 34) (h1 : ∀ u, u ∈ cs.toList → u.oneCell' = true) (E : Int) (HJ : Calls Tryd.prog 21 #[.agg (ptA z h)] w fun r w' => r = .returned (.tuple #[.agg cs, .int .i64 E]) ∧ Kp [] w w') (L : List Res) (S : Held w0 w L) (hsz : a.tmps.size = 207) (o4 : Sl a 4 (.pointer (some ⟨g4, 0, none⟩)))
 (hend : ∀ a' W, Same a a' [74, 75, 76, 73, 77, 78, 21, 22] → Sl a' 22 (.int .i64 E) → (∃ g, Sl a' 21 (.pointer (some ⟨g, 0, none⟩)) ∧ Held w0 W (blkR g 36 cs :: L)) → Q .normal a' W) : (Code.region 11 (opsOf 11 Tryd.f5).toArray false).wp Tryd.prog Q a w := by
 refine wp_region_lit ?_
 (conv => arg 4; whnf)
 unfold Sl at o4
 have S := Lib.hid S
 have HJ := Lib.hid HJ
 have HP := Lib.hid (nt_pointAt hb4)
 have hzp : Hid ((ptA z h).size = 33) := Lib.hid (ptA_size hh)
 clear hb4
 have hz2 := Lib.hid hcs
 have HO := Lib.hid h1
 clear h1 hcs
 generalize ptA z h = cp at *
 go_wp2_with (first | (refine wpList_load_agg rfl 33 (.tmp 74) rfl ⟨g4, 0, none⟩ (by simp [Act.eval, Act.put, hsz, o4]) cp.toList _ HP.out Tryd.underlying33 rfl (by rw [Array.length_toList, hzp.out]; exact Tryd.infoPointP) ?_))
 refine HJ.out.mono ?_
 rintro e w1 ⟨rfl, k1⟩
 have S1 := Lib.hid ((S.out.kp k1).newBlk 36 zeroN)
 clear k1
 go_wp2_with (refine wpList_store_blk rfl 36 (.tmp 21) (.tmp 77) rfl w1.heap.size (by simp [Act.eval, Act.put, hsz]) cs (by simp [Act.eval, Act.put, hsz]) 36 _ (S1.out.at_ (l1 := [])) (by rw [hz2.out]; exact Tryd.infoNote) (by rw [hz2.out]; rfl) HO.out ?_; intro w7 b7 k7; have S7 := Lib.hid (Held.setBlk (l1 := []) S1.out b7 k7); clear b7 k7)
 try simp only [Act.put]
 exact hend _ _ sS sP (⟨w1.heap.size, sP0, S7.out⟩)
theorem snt_r12 (w0 : World) (z : Int) (h : List UInt8) (hh : h.length = 32) (v : Value) (g4 : Nat) (hb4 : Blk w g4 36 (ntA z h v)) (gb : Nat) (cb : Array Value) (hcb : cb.size = 2) (hbb : Blk w gb 42 cb) (cs : Array Value) (hcs : cs.size = 32) (h1 : ∀ u, u ∈ cs.toList → u.oneCell' = true) (E : Int) (HJ : Calls Tryd.prog 17 #[.agg (ptA z h), .agg cb] w fun r w' => r = .returned (.tuple #[.agg cs, .int .i64 E]) ∧ Kp [] w w') (L : List Res) (S : Held w0 w L) (hsz : a.tmps.size = 207) (o4 : Sl a 4 (.pointer (some ⟨g4, 0, none⟩))) (o10 : Sl a 10 (.pointer (some ⟨gb, 0, none⟩)))
 (hend : ∀ a' W, Same a a' [80, 81, 82, 83, 79, 84, 85, 23, 24] → Sl a' 24 (.int .i64 E) → (∃ g, Sl a' 23 (.pointer (some ⟨g, 0, none⟩)) ∧ Held w0 W (blkR g 25 cs :: L)) → Q .normal a' W) : (Code.region 12 (opsOf 12 Tryd.f5).toArray false).wp Tryd.prog Q a w := by
 refine wp_region_lit ?_
 (conv => arg 4; whnf)
 unfold Sl at o4 o10
 have S := Lib.hid S
 have HJ := Lib.hid HJ
 have HP := Lib.hid (nt_pointAt hb4)
 have hzp : Hid ((ptA z h).size = 33) := Lib.hid (ptA_size hh)
 clear hb4
 have hz2 := Lib.hid hcs
 have HO := Lib.hid h1
 clear h1 hcs
 have HBb := Lib.hid hbb
 have hzb := Lib.hid hcb
 clear hbb hcb
 generalize ptA z h = cp at *
 go_wp2_with (first | (refine wpList_load_agg rfl 33 (.tmp 80) rfl ⟨g4, 0, none⟩ (by simp [Act.eval, Act.put, hsz, o4]) cp.toList _ HP.out Tryd.underlying33 rfl (by rw [Array.length_toList, hzp.out]; exact Tryd.infoPointP) ?_) | (refine wpList_load_blk rfl 42 (.tmp 10) rfl gb (by simp [Act.eval, Act.put, hsz, o10]) 42 _ HBb.out _ Tryd.underlying42 rfl (by rw [hzb.out]; exact Tryd.infoKeyP) ?_))
 refine HJ.out.mono ?_
 rintro e w1 ⟨rfl, k1⟩
 have S1 := Lib.hid ((S.out.kp k1).newBlk 25 (hashA (List.replicate 32 0)))
 clear k1
 go_wp2_with (refine wpList_store_blk rfl 25 (.tmp 23) (.tmp 84) rfl w1.heap.size (by simp [Act.eval, Act.put, hsz]) cs (by simp [Act.eval, Act.put, hsz]) 25 _ (S1.out.at_ (l1 := [])) (by rw [hz2.out]; exact Tryd.infoHashP) (by rw [hz2.out]; rfl) HO.out ?_; intro w7 b7 k7; have S7 := Lib.hid (Held.setBlk (l1 := []) S1.out b7 k7); clear b7 k7)
 try simp only [Act.put]
 exact hend _ _ sS sP (⟨w1.heap.size, sP0, S7.out⟩)
theorem snt_r13 (w0 : World) (z : Int) (h : List UInt8) (hh : h.length = 32) (v : Value) (g4 : Nat) (hb4 : Blk w g4 36 (ntA z h v)) (gb : Nat) (cb : Array Value) (hcb : cb.size = 2) (hbb : Blk w gb 42 cb) (cs : Array Value) (hcs : cs.size = 32) (h1 : ∀ u, u ∈ cs.toList → u.oneCell' = true) (E : Int) (HJ : Calls Tryd.prog 22 #[.agg (ptA z h), .agg cb] w fun r w' => r = .returned (.tuple #[.agg cs, .int .i64 E]) ∧ Kp [] w w') (L : List Res) (S : Held w0 w L) (hsz : a.tmps.size = 207) (o4 : Sl a 4 (.pointer (some ⟨g4, 0, none⟩))) (o5 : Sl a 5 (.pointer (some ⟨gb, 0, none⟩)))
 (hend : ∀ a' W, Same a a' [87, 88, 89, 90, 86, 91, 92, 25, 26] → Sl a' 26 (.int .i64 E) → (∃ g, Sl a' 25 (.pointer (some ⟨g, 0, none⟩)) ∧ Held w0 W (blkR g 25 cs :: L)) → Q .normal a' W) : (Code.region 13 (opsOf 13 Tryd.f5).toArray false).wp Tryd.prog Q a w := by
 refine wp_region_lit ?_
 (conv => arg 4; whnf)
 unfold Sl at o4 o5
 have S := Lib.hid S
 have HJ := Lib.hid HJ
 have HP := Lib.hid (nt_pointAt hb4)
 have hzp : Hid ((ptA z h).size = 33) := Lib.hid (ptA_size hh)
 clear hb4
 have hz2 := Lib.hid hcs
 have HO := Lib.hid h1
 clear h1 hcs
 have HBb := Lib.hid hbb
 have hzb := Lib.hid hcb
 clear hbb hcb
 generalize ptA z h = cp at *
 go_wp2_with (first | (refine wpList_load_agg rfl 33 (.tmp 87) rfl ⟨g4, 0, none⟩ (by simp [Act.eval, Act.put, hsz, o4]) cp.toList _ HP.out Tryd.underlying33 rfl (by rw [Array.length_toList, hzp.out]; exact Tryd.infoPointP) ?_) | (refine wpList_load_blk rfl 42 (.tmp 5) rfl gb (by simp [Act.eval, Act.put, hsz, o5]) 42 _ HBb.out _ Tryd.underlying42 rfl (by rw [hzb.out]; exact Tryd.infoKeyP) ?_))
 refine HJ.out.mono ?_
 rintro e w1 ⟨rfl, k1⟩
 have S1 := Lib.hid ((S.out.kp k1).newBlk 25 (hashA (List.replicate 32 0)))
 clear k1
 go_wp2_with (refine wpList_store_blk rfl 25 (.tmp 25) (.tmp 91) rfl w1.heap.size (by simp [Act.eval, Act.put, hsz]) cs (by simp [Act.eval, Act.put, hsz]) 25 _ (S1.out.at_ (l1 := [])) (by rw [hz2.out]; exact Tryd.infoHashP) (by rw [hz2.out]; rfl) HO.out ?_; intro w7 b7 k7; have S7 := Lib.hid (Held.setBlk (l1 := []) S1.out b7 k7); clear b7 k7)
 try simp only [Act.put]
 exact hend _ _ sS sP (⟨w1.heap.size, sP0, S7.out⟩)
end
/- SignNotes: its regions, the second half. -/
section
variable {Q : Exit → Act → World → Prop} {a : Act} {w : World}
open Go.RowKit
theorem snt_r14 (E F G C : Int) (Z : Int) (H : List UInt8) (hH : H.length = 32) (X : List SigD) (hX : SgOk X) (hXl : X.length ≤ 9223372036854775806) (A1 : Option Addr) (c1 g13 : Nat) (hb13 : Blk w.drew g13 36 (ntA Z H (.slice A1 X.length c1))) (hr1 : Rd w.drew 33 (.slice A1 X.length c1) X.length (sgsC X)) (A3 : Option Addr) (c3 g17 : Nat) (hb17 : Blk w.drew g17 36 (ntA Z H (.slice A3 X.length c3))) (hr3 : Rd w.drew 33 (.slice A3 X.length c3) X.length (sgsC X)) (nz : Int) (nh : List UInt8) (hnh : nh.length = 32) (g19 g21 : Nat) (hb19 : Blk w.drew g19 36 (ntA nz nh (.slice none 0 0))) (hb21 : Blk w.drew g21 36 (ntA nz nh (.slice none 0 0))) (sv : List UInt8) (hsv : sv.length = 32) (g23 g25 : Nat) (hb23 : Blk w.drew g23 25 (hashA sv)) (hb25 : Blk w.drew g25 25 (hashA sv)) (z : Int) (h : List UInt8) (hh : h.length = 32) (A : Option Addr) (c : Nat) (l : List SigD) (gr cr g4 g9 : Nat) (hb4 : Blk w.drew g4 36 (ntA z h (.slice A l.length c))) (hb9 : Blk w.drew g9 36 (ntA z h (.slice (some ⟨gr, 0, none⟩) l.length cr))) (HC1 : ∀ V, Kp [] w.drew V → Calls Tryd.prog 24 #[.agg (ntA z h (.slice (some ⟨gr, 0, none⟩) l.length cr))] V fun e w' => e = .returned (.int .i64 C) ∧ Kp [] V w') (HC2 : ∀ V, Kp [] w.drew V → Calls Tryd.prog 25 #[.agg (ntA z h (.slice A l.length c))] V fun e w' => e = .returned (.int .i64 C) ∧ Kp [] V w') (hsz : a.tmps.size = 207) (o4 : Sl a 4 (.pointer (some ⟨g4, 0, none⟩))) (o9 : Sl a 9 (.pointer (some ⟨g9, 0, none⟩))) (o13 : Sl a 13 (.pointer (some ⟨g13, 0, none⟩))) (o14 : Sl a 14 (.int .i64 E)) (o17 : Sl a 17 (.pointer (some ⟨g17, 0, none⟩))) (o18 : Sl a 18 (.int .i64 E)) (o19 : Sl a 19 (.pointer (some ⟨g19, 0, none⟩))) (o20 : Sl a 20 (.int .i64 F)) (o21 : Sl a 21 (.pointer (some ⟨g21, 0, none⟩))) (o22 : Sl a 22 (.int .i64 F)) (o23 : Sl a 23 (.pointer (some ⟨g23, 0, none⟩))) (o24 : Sl a 24 (.int .i64 G)) (o25 : Sl a 25 (.pointer (some ⟨g25, 0, none⟩))) (o26 : Sl a 26 (.int .i64 G))
 (hend : ∀ a' W, Same a a' [93, 94, 95, 96, 97, 98, 99, 100, 101, 102, 103, 104, 105, 106, 107, 108, 109, 110, 111, 112, 113, 114, 115, 116, 117, 118, 119, 120, 121, 122, 123, 124, 125, 126, 127, 128, 129, 130, 131, 132, 133] → Kp [] w.drew W → Sl a' 133 (.bool false) → Q .normal a' W) : (Code.region 14 (opsOf 14 Tryd.f5).toArray true).wp Tryd.prog Q a w := by
 have hap : apartB (opsOf 14 Tryd.f5) = true := by kernel_rfl
 refine wp_region_invG (l := (opsOf 14 Tryd.f5)) (fun i v W => match i with | 0 => v = .int .i64 E | 1 => v = .int .i64 E | 2 => v = .int .i64 E | 3 => v = .bool false | 4 => v = .bool false | 5 => v = .agg (ntA Z H (.slice A1 X.length c1)) | 6 => v = .agg (ntA Z H (.slice A3 X.length c3)) | 7 => v = .bool true | 8 => v = .bool false | 9 => v = .bool false | 10 => v = .bool false | 11 => v = .int .i64 F | 12 => v = .int .i64 F | 13 => v = .int .i64 F | 14 => v = .bool false | 15 => v = .bool false | 16 => v = .bool false | 17 => v = .agg (ntA nz nh (.slice none 0 0)) | 18 => v = .agg (ntA nz nh (.slice none 0 0)) | 19 => v = .bool true | 20 => v = .bool false | 21 => v = .bool false | 22 => v = .bool false | 23 => v = .agg (hashA sv) | 24 => v = .agg (hashA sv) | 25 => v = .bool false | 26 => v = .bool false | 27 => v = .bool false | 28 => v = .int .i64 G | 29 => v = .int .i64 G | 30 => v = .int .i64 G | 31 => v = .bool false | 32 => v = .bool false | 33 => v = .bool false | 34 => v = .agg (ntA z h (.slice (some ⟨gr, 0, none⟩) l.length cr)) | 35 => v = .int .i64 C | 36 => v = .int .i64 C | 37 => v = .agg (ntA z h (.slice A l.length c)) | 38 => v = .int .i64 C | 39 => v = .bool false | 40 => v = .bool false | _ => True) (by kernel_rfl) hap (by kernel_rfl) ?_ ?_ ?_
 · intro i v W W' h _
   iterate 41 (rcases i with _ | i; · exact h)
   exact h
 · refine ⟨?_, ?_, ?_, ?_, ?_, ?_, ?_, ?_, ?_, ?_, ?_, ?_, ?_, ?_, ?_, ?_, ?_, ?_, ?_, ?_, ?_, ?_, ?_, ?_, ?_, ?_, ?_, ?_, ?_, ?_, ?_, ?_, ?_, ?_, ?_, ?_, ?_, ?_, ?_, ?_, ?_, trivial⟩
   · intro vs A' W hA hW hd K hK; refine wpOp_free _ rfl rfl ?_; (conv => arg 2; whnf); have e14 := sO 14 o14 hA hap hsz; clear hA hd o4 o9 o13 o14 o17 o18 o19 o20 o21 o22 o23 o24 o25 o26; go_step; exact hK _ _ kR rfl
   · intro vs A' W hA hW hd K hK; refine wpOp_free _ rfl rfl ?_; (conv => arg 2; whnf); have e93 := sV 93 (hd 0 (by kernel_rfl)) hA hap hsz; clear hA hd o4 o9 o13 o14 o17 o18 o19 o20 o21 o22 o23 o24 o25 o26; go_step
     refine (lnum_any E W).mono ?_
     rintro e w' ⟨rfl, rfl⟩
     exact hK _ _ kR rfl
   · intro vs A' W hA hW hd K hK; refine wpOp_free _ rfl rfl ?_; (conv => arg 2; whnf); have e18 := sO 18 o18 hA hap hsz; clear hA hd o4 o9 o13 o14 o17 o18 o19 o20 o21 o22 o23 o24 o25 o26; go_step; exact hK _ _ kR rfl
   · intro vs A' W hA hW hd K hK; refine wpOp_free _ rfl rfl ?_; (conv => arg 2; whnf); have e94 := sV 94 (hd 1 (by kernel_rfl)) hA hap hsz; have e95 := sV 95 (hd 2 (by kernel_rfl)) hA hap hsz; clear hA hd o4 o9 o13 o14 o17 o18 o19 o20 o21 o22 o23 o24 o25 o26; go_step
     exact hK _ _ kR (by first | rfl | exact (show Value.bool (E != E) = Value.bool false from by rw [bne_self_eq_false]))
   · intro vs A' W hA hW hd K hK; refine wpOp_free _ rfl rfl ?_; (conv => arg 2; whnf); have e96 := sV 96 (hd 3 (by kernel_rfl)) hA hap hsz; clear hA hd o4 o9 o13 o14 o17 o18 o19 o20 o21 o22 o23 o24 o25 o26; go_step; exact hK _ _ kR rfl
   · intro vs A' W hA hW hd K hK; have e97 := sV 97 (hd 4 (by kernel_rfl)) hA hap hsz; refine wpOp_go _ rfl 4 97 false rfl rfl e97 ?_; (conv => arg 2; whnf); have e13 := sO 13 o13 hA hap hsz; clear hA hd o4 o9 o13 o14 o17 o18 o19 o20 o21 o22 o23 o24 o25 o26
     refine op_runs (v := .agg (ntA Z H (.slice A1 X.length c1))) (w' := W) (exec_load rfl (by simpa [Act.eval] using e13) (run_loadAt_agg W (⟨g13, 0, none⟩) 36 (ntA Z H (.slice A1 X.length c1)).toList _ (Blk.agg (hb13.kp hW (by simp))) Tryd.underlying36 rfl (by rw [Array.length_toList, ntA_size hH]; exact Tryd.infoNote))) ?_
     exact hK _ _ kR rfl
   · intro vs A' W hA hW hd K hK; have e97 := sV 97 (hd 4 (by kernel_rfl)) hA hap hsz; refine wpOp_go _ rfl 4 97 false rfl rfl e97 ?_; (conv => arg 2; whnf); have e17 := sO 17 o17 hA hap hsz; clear hA hd o4 o9 o13 o14 o17 o18 o19 o20 o21 o22 o23 o24 o25 o26
     refine op_runs (v := .agg (ntA Z H (.slice A3 X.length c3))) (w' := W) (exec_load rfl (by simpa [Act.eval] using e17) (run_loadAt_agg W (⟨g17, 0, none⟩) 36 (ntA Z H (.slice A3 X.length c3)).toList _ (Blk.agg (hb17.kp hW (by simp))) Tryd.underlying36 rfl (by rw [Array.length_toList, ntA_size hH]; exact Tryd.infoNote))) ?_
     exact hK _ _ kR rfl
   · intro vs A' W hA hW hd K hK; have e97 := sV 97 (hd 4 (by kernel_rfl)) hA hap hsz; refine wpOp_go _ rfl 4 97 false rfl rfl e97 ?_; (conv => arg 2; whnf); have e98 := sV 98 (hd 5 (by kernel_rfl)) hA hap hsz; have e99 := sV 99 (hd 6 (by kernel_rfl)) hA hap hsz; clear hA hd o4 o9 o13 o14 o17 o18 o19 o20 o21 o22 o23 o24 o25 o26; go_step
     refine (ssame_any Z Z H H hH hH A1 A3 c1 c3 X X hX hX (by omega) W (rd_old hr1 hW) (rd_old hr3 hW)).mono ?_
     rintro e w' ⟨rfl, k⟩
     exact hK _ _ k (show Value.bool (sameN Z H X Z H X) = Value.bool true from by rw [sameN_self])
   · intro vs A' W hA hW hd K hK; have e97 := sV 97 (hd 4 (by kernel_rfl)) hA hap hsz; refine wpOp_go _ rfl 4 97 false rfl rfl e97 ?_; (conv => arg 2; whnf); have e100 := sV 100 (hd 7 (by kernel_rfl)) hA hap hsz; clear hA hd o4 o9 o13 o14 o17 o18 o19 o20 o21 o22 o23 o24 o25 o26; go_step; exact hK _ _ kR rfl
   · intro vs A' W hA hW hd K hK; refine wpOp_free _ rfl rfl ?_; (conv => arg 2; whnf); have e97 := sV 97 (hd 4 (by kernel_rfl)) hA hap hsz; have e101 := sV 101 (hd 8 (by kernel_rfl)) hA hap hsz; clear hA hd o4 o9 o13 o14 o17 o18 o19 o20 o21 o22 o23 o24 o25 o26; go_step; exact hK _ _ kR rfl
   · intro vs A' W hA hW hd K hK; refine wpOp_free _ rfl rfl ?_; (conv => arg 2; whnf); have e102 := sV 102 (hd 9 (by kernel_rfl)) hA hap hsz; clear hA hd o4 o9 o13 o14 o17 o18 o19 o20 o21 o22 o23 o24 o25 o26; go_step; exact hK _ _ kR rfl
   · intro vs A' W hA hW hd K hK; have e103 := sV 103 (hd 10 (by kernel_rfl)) hA hap hsz; refine wpOp_go _ rfl 10 103 false rfl rfl e103 ?_; (conv => arg 2; whnf); have e20 := sO 20 o20 hA hap hsz; clear hA hd o4 o9 o13 o14 o17 o18 o19 o20 o21 o22 o23 o24 o25 o26; go_step; exact hK _ _ kR rfl
   · intro vs A' W hA hW hd K hK; have e103 := sV 103 (hd 10 (by kernel_rfl)) hA hap hsz; refine wpOp_go _ rfl 10 103 false rfl rfl e103 ?_; (conv => arg 2; whnf); have e104 := sV 104 (hd 11 (by kernel_rfl)) hA hap hsz; clear hA hd o4 o9 o13 o14 o17 o18 o19 o20 o21 o22 o23 o24 o25 o26; go_step
     refine (lnum_any F W).mono ?_
     rintro e w' ⟨rfl, rfl⟩
     exact hK _ _ kR rfl
   · intro vs A' W hA hW hd K hK; have e103 := sV 103 (hd 10 (by kernel_rfl)) hA hap hsz; refine wpOp_go _ rfl 10 103 false rfl rfl e103 ?_; (conv => arg 2; whnf); have e22 := sO 22 o22 hA hap hsz; clear hA hd o4 o9 o13 o14 o17 o18 o19 o20 o21 o22 o23 o24 o25 o26; go_step; exact hK _ _ kR rfl
   · intro vs A' W hA hW hd K hK; have e103 := sV 103 (hd 10 (by kernel_rfl)) hA hap hsz; refine wpOp_go _ rfl 10 103 false rfl rfl e103 ?_; (conv => arg 2; whnf); have e105 := sV 105 (hd 12 (by kernel_rfl)) hA hap hsz; have e106 := sV 106 (hd 13 (by kernel_rfl)) hA hap hsz; clear hA hd o4 o9 o13 o14 o17 o18 o19 o20 o21 o22 o23 o24 o25 o26; go_step
     exact hK _ _ kR (by first | rfl | exact (show Value.bool (F != F) = Value.bool false from by rw [bne_self_eq_false]))
   · intro vs A' W hA hW hd K hK; refine wpOp_free _ rfl rfl ?_; (conv => arg 2; whnf); have e103 := sV 103 (hd 10 (by kernel_rfl)) hA hap hsz; have e107 := sV 107 (hd 14 (by kernel_rfl)) hA hap hsz; clear hA hd o4 o9 o13 o14 o17 o18 o19 o20 o21 o22 o23 o24 o25 o26; go_step; exact hK _ _ kR rfl
   · intro vs A' W hA hW hd K hK; refine wpOp_free _ rfl rfl ?_; (conv => arg 2; whnf); have e108 := sV 108 (hd 15 (by kernel_rfl)) hA hap hsz; clear hA hd o4 o9 o13 o14 o17 o18 o19 o20 o21 o22 o23 o24 o25 o26; go_step; exact hK _ _ kR rfl
   · intro vs A' W hA hW hd K hK; have e109 := sV 109 (hd 16 (by kernel_rfl)) hA hap hsz; refine wpOp_go _ rfl 16 109 false rfl rfl e109 ?_; (conv => arg 2; whnf); have e19 := sO 19 o19 hA hap hsz; clear hA hd o4 o9 o13 o14 o17 o18 o19 o20 o21 o22 o23 o24 o25 o26
     refine op_runs (v := .agg (ntA nz nh (.slice none 0 0))) (w' := W) (exec_load rfl (by simpa [Act.eval] using e19) (run_loadAt_agg W (⟨g19, 0, none⟩) 36 (ntA nz nh (.slice none 0 0)).toList _ (Blk.agg (hb19.kp hW (by simp))) Tryd.underlying36 rfl (by rw [Array.length_toList, ntA_size hnh]; exact Tryd.infoNote))) ?_
     exact hK _ _ kR rfl
   · intro vs A' W hA hW hd K hK; have e109 := sV 109 (hd 16 (by kernel_rfl)) hA hap hsz; refine wpOp_go _ rfl 16 109 false rfl rfl e109 ?_; (conv => arg 2; whnf); have e21 := sO 21 o21 hA hap hsz; clear hA hd o4 o9 o13 o14 o17 o18 o19 o20 o21 o22 o23 o24 o25 o26
     refine op_runs (v := .agg (ntA nz nh (.slice none 0 0))) (w' := W) (exec_load rfl (by simpa [Act.eval] using e21) (run_loadAt_agg W (⟨g21, 0, none⟩) 36 (ntA nz nh (.slice none 0 0)).toList _ (Blk.agg (hb21.kp hW (by simp))) Tryd.underlying36 rfl (by rw [Array.length_toList, ntA_size hnh]; exact Tryd.infoNote))) ?_
     exact hK _ _ kR rfl
   · intro vs A' W hA hW hd K hK; have e109 := sV 109 (hd 16 (by kernel_rfl)) hA hap hsz; refine wpOp_go _ rfl 16 109 false rfl rfl e109 ?_; (conv => arg 2; whnf); have e110 := sV 110 (hd 17 (by kernel_rfl)) hA hap hsz; have e111 := sV 111 (hd 18 (by kernel_rfl)) hA hap hsz; clear hA hd o4 o9 o13 o14 o17 o18 o19 o20 o21 o22 o23 o24 o25 o26; go_step
     refine (ssame_any nz nz nh nh hnh hnh none none 0 0 [] [] (fun s hs => by cases hs) (fun s hs => by cases hs) (by simp) W (Rd.nil W 33) (Rd.nil W 33)).mono ?_
     rintro e w' ⟨rfl, k⟩
     exact hK _ _ k (show Value.bool (sameN nz nh [] nz nh []) = Value.bool true from by rw [sameN_self])
   · intro vs A' W hA hW hd K hK; have e109 := sV 109 (hd 16 (by kernel_rfl)) hA hap hsz; refine wpOp_go _ rfl 16 109 false rfl rfl e109 ?_; (conv => arg 2; whnf); have e112 := sV 112 (hd 19 (by kernel_rfl)) hA hap hsz; clear hA hd o4 o9 o13 o14 o17 o18 o19 o20 o21 o22 o23 o24 o25 o26; go_step; exact hK _ _ kR rfl
   · intro vs A' W hA hW hd K hK; refine wpOp_free _ rfl rfl ?_; (conv => arg 2; whnf); have e109 := sV 109 (hd 16 (by kernel_rfl)) hA hap hsz; have e113 := sV 113 (hd 20 (by kernel_rfl)) hA hap hsz; clear hA hd o4 o9 o13 o14 o17 o18 o19 o20 o21 o22 o23 o24 o25 o26; go_step; exact hK _ _ kR rfl
   · intro vs A' W hA hW hd K hK; refine wpOp_free _ rfl rfl ?_; (conv => arg 2; whnf); have e114 := sV 114 (hd 21 (by kernel_rfl)) hA hap hsz; clear hA hd o4 o9 o13 o14 o17 o18 o19 o20 o21 o22 o23 o24 o25 o26; go_step; exact hK _ _ kR rfl
   · intro vs A' W hA hW hd K hK; have e115 := sV 115 (hd 22 (by kernel_rfl)) hA hap hsz; refine wpOp_go _ rfl 22 115 false rfl rfl e115 ?_; (conv => arg 2; whnf); have e23 := sO 23 o23 hA hap hsz; clear hA hd o4 o9 o13 o14 o17 o18 o19 o20 o21 o22 o23 o24 o25 o26
     refine op_runs (v := .agg (hashA sv)) (w' := W) (exec_load rfl (by simpa [Act.eval] using e23) (run_loadAt_agg W (⟨g23, 0, none⟩) 25 (hashA sv).toList _ (Blk.agg (hb23.kp hW (by simp))) Tryd.underlying25 rfl (by rw [Array.length_toList, hashA_size, hsv]; exact Tryd.infoHashP))) ?_
     exact hK _ _ kR rfl
   · intro vs A' W hA hW hd K hK; have e115 := sV 115 (hd 22 (by kernel_rfl)) hA hap hsz; refine wpOp_go _ rfl 22 115 false rfl rfl e115 ?_; (conv => arg 2; whnf); have e25 := sO 25 o25 hA hap hsz; clear hA hd o4 o9 o13 o14 o17 o18 o19 o20 o21 o22 o23 o24 o25 o26
     refine op_runs (v := .agg (hashA sv)) (w' := W) (exec_load rfl (by simpa [Act.eval] using e25) (run_loadAt_agg W (⟨g25, 0, none⟩) 25 (hashA sv).toList _ (Blk.agg (hb25.kp hW (by simp))) Tryd.underlying25 rfl (by rw [Array.length_toList, hashA_size, hsv]; exact Tryd.infoHashP))) ?_
     exact hK _ _ kR rfl
   · intro vs A' W hA hW hd K hK; have e115 := sV 115 (hd 22 (by kernel_rfl)) hA hap hsz; refine wpOp_go _ rfl 22 115 false rfl rfl e115 ?_; (conv => arg 2; whnf); have e116 := sV 116 (hd 23 (by kernel_rfl)) hA hap hsz; have e117 := sV 117 (hd 24 (by kernel_rfl)) hA hap hsz; clear hA hd o4 o9 o13 o14 o17 o18 o19 o20 o21 o22 o23 o24 o25 o26
     refine op_runs (v := .bool false) (w' := W) (exec_bin_agg rfl (by simpa [Act.eval] using e116) (by simpa [Act.eval] using e117) Tryd.eqGuardType25 ((neq_hash W sv sv hsv hsv).trans (by rw [beq_self_eq_true]; rfl))) ?_
     exact hK _ _ kR rfl
   · intro vs A' W hA hW hd K hK; refine wpOp_free _ rfl rfl ?_; (conv => arg 2; whnf); have e115 := sV 115 (hd 22 (by kernel_rfl)) hA hap hsz; have e118 := sV 118 (hd 25 (by kernel_rfl)) hA hap hsz; clear hA hd o4 o9 o13 o14 o17 o18 o19 o20 o21 o22 o23 o24 o25 o26; go_step; exact hK _ _ kR rfl
   · intro vs A' W hA hW hd K hK; refine wpOp_free _ rfl rfl ?_; (conv => arg 2; whnf); have e119 := sV 119 (hd 26 (by kernel_rfl)) hA hap hsz; clear hA hd o4 o9 o13 o14 o17 o18 o19 o20 o21 o22 o23 o24 o25 o26; go_step; exact hK _ _ kR rfl
   · intro vs A' W hA hW hd K hK; have e120 := sV 120 (hd 27 (by kernel_rfl)) hA hap hsz; refine wpOp_go _ rfl 27 120 false rfl rfl e120 ?_; (conv => arg 2; whnf); have e24 := sO 24 o24 hA hap hsz; clear hA hd o4 o9 o13 o14 o17 o18 o19 o20 o21 o22 o23 o24 o25 o26; go_step; exact hK _ _ kR rfl
   · intro vs A' W hA hW hd K hK; have e120 := sV 120 (hd 27 (by kernel_rfl)) hA hap hsz; refine wpOp_go _ rfl 27 120 false rfl rfl e120 ?_; (conv => arg 2; whnf); have e121 := sV 121 (hd 28 (by kernel_rfl)) hA hap hsz; clear hA hd o4 o9 o13 o14 o17 o18 o19 o20 o21 o22 o23 o24 o25 o26; go_step
     refine (lnum_any G W).mono ?_
     rintro e w' ⟨rfl, rfl⟩
     exact hK _ _ kR rfl
   · intro vs A' W hA hW hd K hK; have e120 := sV 120 (hd 27 (by kernel_rfl)) hA hap hsz; refine wpOp_go _ rfl 27 120 false rfl rfl e120 ?_; (conv => arg 2; whnf); have e26 := sO 26 o26 hA hap hsz; clear hA hd o4 o9 o13 o14 o17 o18 o19 o20 o21 o22 o23 o24 o25 o26; go_step; exact hK _ _ kR rfl
   · intro vs A' W hA hW hd K hK; have e120 := sV 120 (hd 27 (by kernel_rfl)) hA hap hsz; refine wpOp_go _ rfl 27 120 false rfl rfl e120 ?_; (conv => arg 2; whnf); have e122 := sV 122 (hd 29 (by kernel_rfl)) hA hap hsz; have e123 := sV 123 (hd 30 (by kernel_rfl)) hA hap hsz; clear hA hd o4 o9 o13 o14 o17 o18 o19 o20 o21 o22 o23 o24 o25 o26; go_step
     exact hK _ _ kR (by first | rfl | exact (show Value.bool (G != G) = Value.bool false from by rw [bne_self_eq_false]))
   · intro vs A' W hA hW hd K hK; refine wpOp_free _ rfl rfl ?_; (conv => arg 2; whnf); have e120 := sV 120 (hd 27 (by kernel_rfl)) hA hap hsz; have e124 := sV 124 (hd 31 (by kernel_rfl)) hA hap hsz; clear hA hd o4 o9 o13 o14 o17 o18 o19 o20 o21 o22 o23 o24 o25 o26; go_step; exact hK _ _ kR rfl
   · intro vs A' W hA hW hd K hK; refine wpOp_free _ rfl rfl ?_; (conv => arg 2; whnf); have e125 := sV 125 (hd 32 (by kernel_rfl)) hA hap hsz; clear hA hd o4 o9 o13 o14 o17 o18 o19 o20 o21 o22 o23 o24 o25 o26; go_step; exact hK _ _ kR rfl
   · intro vs A' W hA hW hd K hK; have e126 := sV 126 (hd 33 (by kernel_rfl)) hA hap hsz; refine wpOp_go _ rfl 33 126 false rfl rfl e126 ?_; (conv => arg 2; whnf); have e9 := sO 9 o9 hA hap hsz; clear hA hd o4 o9 o13 o14 o17 o18 o19 o20 o21 o22 o23 o24 o25 o26
     refine op_runs (v := .agg (ntA z h (.slice (some ⟨gr, 0, none⟩) l.length cr))) (w' := W) (exec_load rfl (by simpa [Act.eval] using e9) (run_loadAt_agg W (⟨g9, 0, none⟩) 36 (ntA z h (.slice (some ⟨gr, 0, none⟩) l.length cr)).toList _ (Blk.agg (hb9.kp hW (by simp))) Tryd.underlying36 rfl (by rw [Array.length_toList, ntA_size hh]; exact Tryd.infoNote))) ?_
     exact hK _ _ kR rfl
   · intro vs A' W hA hW hd K hK; have e126 := sV 126 (hd 33 (by kernel_rfl)) hA hap hsz; refine wpOp_go _ rfl 33 126 false rfl rfl e126 ?_; (conv => arg 2; whnf); have e127 := sV 127 (hd 34 (by kernel_rfl)) hA hap hsz; clear hA hd o4 o9 o13 o14 o17 o18 o19 o20 o21 o22 o23 o24 o25 o26; go_step
     refine (HC1 _ hW).mono ?_
     rintro e w' ⟨rfl, k⟩
     exact hK _ _ k rfl
   · intro vs A' W hA hW hd K hK; have e126 := sV 126 (hd 33 (by kernel_rfl)) hA hap hsz; refine wpOp_go _ rfl 33 126 false rfl rfl e126 ?_; (conv => arg 2; whnf); have e128 := sV 128 (hd 35 (by kernel_rfl)) hA hap hsz; clear hA hd o4 o9 o13 o14 o17 o18 o19 o20 o21 o22 o23 o24 o25 o26; go_step
     refine (lnum_any C W).mono ?_
     rintro e w' ⟨rfl, rfl⟩
     exact hK _ _ kR rfl
   · intro vs A' W hA hW hd K hK; have e126 := sV 126 (hd 33 (by kernel_rfl)) hA hap hsz; refine wpOp_go _ rfl 33 126 false rfl rfl e126 ?_; (conv => arg 2; whnf); have e4 := sO 4 o4 hA hap hsz; clear hA hd o4 o9 o13 o14 o17 o18 o19 o20 o21 o22 o23 o24 o25 o26
     refine op_runs (v := .agg (ntA z h (.slice A l.length c))) (w' := W) (exec_load rfl (by simpa [Act.eval] using e4) (run_loadAt_agg W (⟨g4, 0, none⟩) 36 (ntA z h (.slice A l.length c)).toList _ (Blk.agg (hb4.kp hW (by simp))) Tryd.underlying36 rfl (by rw [Array.length_toList, ntA_size hh]; exact Tryd.infoNote))) ?_
     exact hK _ _ kR rfl
   · intro vs A' W hA hW hd K hK; have e126 := sV 126 (hd 33 (by kernel_rfl)) hA hap hsz; refine wpOp_go _ rfl 33 126 false rfl rfl e126 ?_; (conv => arg 2; whnf); have e130 := sV 130 (hd 37 (by kernel_rfl)) hA hap hsz; clear hA hd o4 o9 o13 o14 o17 o18 o19 o20 o21 o22 o23 o24 o25 o26; go_step
     refine (HC2 _ hW).mono ?_
     rintro e w' ⟨rfl, k⟩
     exact hK _ _ k rfl
   · intro vs A' W hA hW hd K hK; have e126 := sV 126 (hd 33 (by kernel_rfl)) hA hap hsz; refine wpOp_go _ rfl 33 126 false rfl rfl e126 ?_; (conv => arg 2; whnf); have e129 := sV 129 (hd 36 (by kernel_rfl)) hA hap hsz; have e131 := sV 131 (hd 38 (by kernel_rfl)) hA hap hsz; clear hA hd o4 o9 o13 o14 o17 o18 o19 o20 o21 o22 o23 o24 o25 o26; go_step
     exact hK _ _ kR (by first | rfl | exact (show Value.bool (C != C) = Value.bool false from by rw [bne_self_eq_false]))
   · intro vs A' W hA hW hd K hK; refine wpOp_free _ rfl rfl ?_; (conv => arg 2; whnf); have e126 := sV 126 (hd 33 (by kernel_rfl)) hA hap hsz; have e132 := sV 132 (hd 39 (by kernel_rfl)) hA hap hsz; clear hA hd o4 o9 o13 o14 o17 o18 o19 o20 o21 o22 o23 o24 o25 o26; go_step; exact hK _ _ kR rfl
 · intro vs W hW hp
   rw [putAll_eq]
   exact hend _ W sQ hW (sW (hp 40 sB))
theorem snt_r16 (w0 : World) (Z : Int) (H : List UInt8) (hH : H.length = 32) (v : Value) (n : Nat) (hn : n ≤ 1000000) (xs : List Value) (g13 : Nat) (hb : Blk w g13 36 (ntA Z H v)) (L : List Res) (S : Held w0 w (rowR 81 33 v n xs :: L)) (hsz : a.tmps.size = 207) (o13 : Sl a 13 (.pointer (some ⟨g13, 0, none⟩)))
 (hend : ∀ a' W, Same a a' [134, 135] → (Held w0 W L) → Q .normal a' W) : (Code.region 16 (opsOf 16 Tryd.f5).toArray false).wp Tryd.prog Q a w := by
 refine wp_region_lit ?_
 (conv => arg 4; whnf)
 unfold Sl at o13
 have HS := Lib.hid (sspoil_any w0 L Z H hH v n hn xs w S)
 have HB := Lib.hid hb
 have hz2 : Hid ((ntA Z H v).size = 34) := Lib.hid (ntA_size hH)
 clear hb S
 generalize ntA Z H v = cn at *
 go_wp2_with (refine wpList_load_blk rfl 36 (.tmp 13) rfl g13 (by simp [Act.eval, Act.put, hsz, o13]) 36 _ HB.out _ Tryd.underlying36 rfl (by rw [hz2.out]; exact Tryd.infoNote) ?_)
 refine HS.out.mono ?_
 rintro e w1 ⟨rfl, S1⟩
 have S1 := Lib.hid S1
 go_wp2_with fail
 try simp only [Act.put]
 exact hend _ _ sS (S1.out)
theorem snt_r17 (w0 : World) (z : Int) (h : List UInt8) (hh : h.length = 32) (l : List SigD) (gr cr g9 : Nat) (hb9 : Blk w0 g9 36 (ntA z h (.slice (some ⟨gr, 0, none⟩) l.length cr))) (Aq : Option Addr) (n cq : Nat) (xs : List (List UInt8)) (HR : ∀ V, Kp [] w0 V → Calls Tryd.prog 27 #[.agg (ntA z h (.slice (some ⟨gr, 0, none⟩) l.length cr)), .slice Aq n cq] V fun e w' => ∃ v, e = .returned v ∧ Held V w' [rowR 9 1 v xs.length (xs.map strV)]) (L : List Res) (hsz : a.tmps.size = 207) (o9 : Sl a 9 (.pointer (some ⟨g9, 0, none⟩))) (o11 : Sl a 11 (.slice Aq n cq))
 (S0 : Held w0 w (L))
 (hend : ∀ (a' : Act) (vs : Nat → Value) (gs : Nat → Unit) (W : World), Same a a' [136, 137, 138, 139, 140, 141, 27, 28] → Sl a' 27 (vs 2) → Sl a' 28 (vs 5) → Held w0 W (rowR 9 1 (vs 2) xs.length (xs.map strV) :: rowR 9 1 (vs 5) xs.length (xs.map strV) :: L) → Q .normal a' W) : (Code.region 17 (opsOf 17 Tryd.f5).toArray true).wp Tryd.prog Q a w := by
 have hap : apartB (opsOf 17 Tryd.f5) = true := by kernel_rfl
 refine wp_region_sep (Γ := Unit) (l := (opsOf 17 Tryd.f5)) 1 [0, 1, 2, 3, 4, 5, 6, 7, 8]
  (fun i vs gs => match i with | 0 => vs 0 = .agg (ntA z h (.slice (some ⟨gr, 0, none⟩) l.length cr)) | 1 => vs 1 = .slice Aq n cq | 3 => vs 3 = .agg (ntA z h (.slice (some ⟨gr, 0, none⟩) l.length cr)) | 4 => vs 4 = .slice Aq n cq | 6 => vs 6 = vs 2 | 7 => vs 7 = vs 5 | _ => True)
  (fun i vs gs => match i with | 2 => [rowR 9 1 (vs 2) xs.length (xs.map strV)] | 5 => [rowR 9 1 (vs 5) xs.length (xs.map strV)] | 8 => L | _ => [])
  (fun i => match i with  | _ => []) (fun i => match i with  | _ => []) S0 (by kernel_rfl) hap (by kernel_rfl) (by kernel_rfl) (fun i => match i with | 0 => [0] | 1 => [1] | 2 => [2] | 3 => [3] | 4 => [4] | 5 => [5] | 6 => [2, 6] | 7 => [5, 7] | _ => []) (by kernel_rfl) ?_ (by kernel_rfl) ?_ ?_ ?_
 · intro s vs vs' gs gs' h
   iterate 9 (rcases s with _ | s; · (first | exact ⟨rfl, id⟩ | (simp only [List.mem_cons, List.not_mem_nil, or_false, forall_eq_or_imp, forall_eq] at h; simp [h])))
   exact ⟨rfl, id⟩
 · simp only [List.range, List.range.loop, List.flatMap_cons, List.flatMap_nil, List.append_nil]
   exact List.Perm.refl _
 · clear S0 hend
   refine ⟨?_, ?_, ?_, ?_, ?_, ?_, ?_, ?_, trivial⟩
   · intro vs gs A' W LF hA S hR hd hu K hK; replace hK := hK default; have e9 := sO 9 o9 hA hap hsz; clear hA o9 o11
     refine op_runs (v := .agg (ntA z h (.slice (some ⟨gr, 0, none⟩) l.length cr))) (w' := W) (exec_load rfl (by simpa [Act.eval] using e9) (run_loadAt_agg W (⟨g9, 0, none⟩) 36 (ntA z h (.slice (some ⟨gr, 0, none⟩) l.length cr)).toList _ (Blk.agg (hb9.kp S.k (by simp))) Tryd.underlying36 rfl (by rw [Array.length_toList, ntA_size hh]; exact Tryd.infoNote))) ?_
     exact hK _ _ S rfl
   · intro vs gs A' W LF hA S hR hd hu K hK; replace hK := hK default; have e11 := sO 11 o11 hA hap hsz; clear hA o9 o11; go_step; exact hK _ _ S rfl
   · intro vs gs A' W LF hA S hR hd hu K hK; replace hK := hK default; have e136 := sV 136 (hd 0 (by kernel_rfl)) hA hap hsz; have e137 := sV 137 (hd 1 (by kernel_rfl)) hA hap hsz; clear hA o9 o11; go_step
     refine (HR _ S.k).mono ?_
     rintro e w' ⟨v, rfl, H⟩
     exact hK v w' ((S.join H).perm (List.perm_append_singleton _ _)) trivial
   · intro vs gs A' W LF hA S hR hd hu K hK; replace hK := hK default; have e9 := sO 9 o9 hA hap hsz; clear hA o9 o11
     refine op_runs (v := .agg (ntA z h (.slice (some ⟨gr, 0, none⟩) l.length cr))) (w' := W) (exec_load rfl (by simpa [Act.eval] using e9) (run_loadAt_agg W (⟨g9, 0, none⟩) 36 (ntA z h (.slice (some ⟨gr, 0, none⟩) l.length cr)).toList _ (Blk.agg (hb9.kp S.k (by simp))) Tryd.underlying36 rfl (by rw [Array.length_toList, ntA_size hh]; exact Tryd.infoNote))) ?_
     exact hK _ _ S rfl
   · intro vs gs A' W LF hA S hR hd hu K hK; replace hK := hK default; have e11 := sO 11 o11 hA hap hsz; clear hA o9 o11; go_step; exact hK _ _ S rfl
   · intro vs gs A' W LF hA S hR hd hu K hK; replace hK := hK default; have e139 := sV 139 (hd 3 (by kernel_rfl)) hA hap hsz; have e140 := sV 140 (hd 4 (by kernel_rfl)) hA hap hsz; clear hA o9 o11; go_step
     refine (HR _ S.k).mono ?_
     rintro e w' ⟨v, rfl, H⟩
     exact hK v w' ((S.join H).perm (List.perm_append_singleton _ _)) trivial
   · intro vs gs A' W LF hA S hR hd hu K hK; replace hK := hK default
     have e138 := sU 138 2 hA hap hsz
     clear hA o9 o11; go_step; exact hK _ _ S rfl
   · intro vs gs A' W LF hA S hR hd hu K hK; replace hK := hK default
     have e141 := sU 141 5 hA hap hsz
     clear hA o9 o11; go_step; exact hK _ _ S rfl
 · intro vs gs W S hp
   have S : Held w0 W (rowR 9 1 (vs 2) xs.length (xs.map strV) :: rowR 9 1 (vs 5) xs.length (xs.map strV) :: L) := by simpa only [List.flatMap_cons, List.flatMap_nil, List.append_nil, List.nil_append, List.cons_append, List.append_assoc] using S
   rw [putAll_eq]
   exact hend _ vs gs W sQ (sW (hp 6 sB)) (sW (hp 7 sB)) S
theorem snt_r18 (z : Int) (h : List UInt8) (hh : h.length = 32) (A : Option Addr) (c : Nat) (l : List SigD) (gr cr g4 g9 : Nat) (hb4 : Blk w.drew g4 36 (ntA z h (.slice A l.length c))) (hb9 : Blk w.drew g9 36 (ntA z h (.slice (some ⟨gr, 0, none⟩) l.length cr))) (Aq B2 : Option Addr) (n cq n2 e2 : Nat) (xs : List (List UInt8)) (hxl : xs.length ≤ 9223372036854775806) (A5 : Option Addr) (c5 : Nat) (hr5 : Rd w.drew 1 (.slice A5 xs.length c5) xs.length (xs.map strV)) (HRR : ∀ V, Kp [] w.drew V → Calls Tryd.prog 29 #[.agg (ntA z h (.slice A l.length c)), .slice B2 n2 e2] V fun e w' => ∃ v, e = .returned v ∧ Held V w' [rowR 9 1 v xs.length (xs.map strV)]) (most : Int) (be : Bool) (HE1 : ∀ V, Kp [] w.drew V → Calls Tryd.prog 30 #[.agg (ntA z h (.slice (some ⟨gr, 0, none⟩) l.length cr)), .int .i64 most, .slice Aq n cq] V fun e w' => e = .returned (.bool be) ∧ Kp [] V w') (HE2 : ∀ V, Kp [] w.drew V → Calls Tryd.prog 31 #[.agg (ntA z h (.slice A l.length c)), .int .i64 most, .slice B2 n2 e2] V fun e w' => e = .returned (.bool be) ∧ Kp [] V w') (hsz : a.tmps.size = 207) (o2 : Sl a 2 (.slice B2 n2 e2)) (o3 : Sl a 3 (.int .i64 (most : Int))) (o4 : Sl a 4 (.pointer (some ⟨g4, 0, none⟩))) (o9 : Sl a 9 (.pointer (some ⟨g9, 0, none⟩))) (o11 : Sl a 11 (.slice Aq n cq)) (o27 : Sl a 27 (.slice A5 xs.length c5))
 (hend : ∀ a' W, Same a a' [142, 143, 144, 145, 146, 147, 148, 149, 150, 151, 152, 153, 154, 155, 156, 157, 158] → Kp [] w.drew W → Sl a' 158 (.bool false) → Q .normal a' W) : (Code.region 18 (opsOf 18 Tryd.f5).toArray true).wp Tryd.prog Q a w := by
 have hap : apartB (opsOf 18 Tryd.f5) = true := by kernel_rfl
 refine wp_region_invG (l := (opsOf 18 Tryd.f5)) (fun i v W => match i with | 0 => v = .slice A5 xs.length c5 | 1 => v = .agg (ntA z h (.slice A l.length c)) | 2 => v = .slice B2 n2 e2 | 3 => ∃ A c, v = .slice A xs.length c ∧ Rd W 1 (.slice A xs.length c) xs.length (xs.map strV) | 4 => v = .bool true | 5 => v = .bool false | 6 => v = .bool false | 7 => v = .agg (ntA z h (.slice (some ⟨gr, 0, none⟩) l.length cr)) | 8 => v = .int .i64 (most : Int) | 9 => v = .slice Aq n cq | 10 => v = .bool be | 11 => v = .agg (ntA z h (.slice A l.length c)) | 12 => v = .int .i64 (most : Int) | 13 => v = .slice B2 n2 e2 | 14 => v = .bool be | 15 => v = .bool false | 16 => v = .bool false | _ => True) (by kernel_rfl) hap (by kernel_rfl) ?_ ?_ ?_
 · intro i v W W' h k
   rcases i with _ | i
   · exact h
   rcases i with _ | i
   · exact h
   rcases i with _ | i
   · exact h
   rcases i with _ | i
   · obtain ⟨A, c, h1, h2⟩ := h; exact ⟨A, c, h1, rd_old h2 k⟩
   rcases i with _ | i
   · exact h
   rcases i with _ | i
   · exact h
   rcases i with _ | i
   · exact h
   rcases i with _ | i
   · exact h
   rcases i with _ | i
   · exact h
   rcases i with _ | i
   · exact h
   rcases i with _ | i
   · exact h
   rcases i with _ | i
   · exact h
   rcases i with _ | i
   · exact h
   rcases i with _ | i
   · exact h
   rcases i with _ | i
   · exact h
   rcases i with _ | i
   · exact h
   rcases i with _ | i
   · exact h
   exact h
 · refine ⟨?_, ?_, ?_, ?_, ?_, ?_, ?_, ?_, ?_, ?_, ?_, ?_, ?_, ?_, ?_, ?_, ?_, trivial⟩
   · intro vs A' W hA hW hd K hK; refine wpOp_free _ rfl rfl ?_; (conv => arg 2; whnf); have e27 := sO 27 o27 hA hap hsz; clear hA hd o2 o3 o4 o9 o11 o27; go_step; exact hK _ _ kR rfl
   · intro vs A' W hA hW hd K hK; refine wpOp_free _ rfl rfl ?_; (conv => arg 2; whnf); have e4 := sO 4 o4 hA hap hsz; clear hA hd o2 o3 o4 o9 o11 o27
     refine op_runs (v := .agg (ntA z h (.slice A l.length c))) (w' := W) (exec_load rfl (by simpa [Act.eval] using e4) (run_loadAt_agg W (⟨g4, 0, none⟩) 36 (ntA z h (.slice A l.length c)).toList _ (Blk.agg (hb4.kp hW (by simp))) Tryd.underlying36 rfl (by rw [Array.length_toList, ntA_size hh]; exact Tryd.infoNote))) ?_
     exact hK _ _ kR rfl
   · intro vs A' W hA hW hd K hK; refine wpOp_free _ rfl rfl ?_; (conv => arg 2; whnf); have e2 := sO 2 o2 hA hap hsz; clear hA hd o2 o3 o4 o9 o11 o27; go_step; exact hK _ _ kR rfl
   · intro vs A' W hA hW hd K hK; refine wpOp_free _ rfl rfl ?_; (conv => arg 2; whnf); have e143 := sV 143 (hd 1 (by kernel_rfl)) hA hap hsz; have e144 := sV 144 (hd 2 (by kernel_rfl)) hA hap hsz; clear hA hd o2 o3 o4 o9 o11 o27; go_step
     refine (HRR _ hW).mono ?_
     rintro e w' ⟨u, rfl, H⟩
     obtain ⟨A9, c9, hu, -, -⟩ := ow_form (show Ow w' 9 1 u xs.length (xs.map strV) from H.at_ (l1 := []))
     exact hK _ _ H.k ⟨A9, c9, hu, by have := Rd.of_own (show Ow w' 9 1 u xs.length (xs.map strV) from H.at_ (l1 := [])); rwa [hu] at this⟩
   · intro vs A' W hA hW hd K hK; refine wpOp_free _ rfl rfl ?_; (conv => arg 2; whnf); have e142 := sV 142 (hd 0 (by kernel_rfl)) hA hap hsz; have f3 : ∃ A c, (vs 3) = .slice A xs.length c ∧ Rd W 1 (.slice A xs.length c) xs.length (xs.map strV) := hd 3 (by kernel_rfl)
     have e145 := sU 145 3 hA hap hsz
     clear hA hd o2 o3 o4 o9 o11 o27
     obtain ⟨A8, c8, hv8, hr8⟩ := f3
     rw [hv8] at e145
     go_step
     refine (samestr_true A5 A8 c5 c8 xs hxl W (rd_old hr5 hW) hr8).mono ?_
     rintro e w' ⟨rfl, k⟩
     exact hK _ _ k rfl
   · intro vs A' W hA hW hd K hK; refine wpOp_free _ rfl rfl ?_; (conv => arg 2; whnf); have e146 := sV 146 (hd 4 (by kernel_rfl)) hA hap hsz; clear hA hd o2 o3 o4 o9 o11 o27; go_step; exact hK _ _ kR rfl
   · intro vs A' W hA hW hd K hK; refine wpOp_free _ rfl rfl ?_; (conv => arg 2; whnf); have e147 := sV 147 (hd 5 (by kernel_rfl)) hA hap hsz; clear hA hd o2 o3 o4 o9 o11 o27; go_step; exact hK _ _ kR rfl
   · intro vs A' W hA hW hd K hK; have e148 := sV 148 (hd 6 (by kernel_rfl)) hA hap hsz; refine wpOp_go _ rfl 6 148 false rfl rfl e148 ?_; (conv => arg 2; whnf); have e9 := sO 9 o9 hA hap hsz; clear hA hd o2 o3 o4 o9 o11 o27
     refine op_runs (v := .agg (ntA z h (.slice (some ⟨gr, 0, none⟩) l.length cr))) (w' := W) (exec_load rfl (by simpa [Act.eval] using e9) (run_loadAt_agg W (⟨g9, 0, none⟩) 36 (ntA z h (.slice (some ⟨gr, 0, none⟩) l.length cr)).toList _ (Blk.agg (hb9.kp hW (by simp))) Tryd.underlying36 rfl (by rw [Array.length_toList, ntA_size hh]; exact Tryd.infoNote))) ?_
     exact hK _ _ kR rfl
   · intro vs A' W hA hW hd K hK; have e148 := sV 148 (hd 6 (by kernel_rfl)) hA hap hsz; refine wpOp_go _ rfl 6 148 false rfl rfl e148 ?_; (conv => arg 2; whnf); have e3 := sO 3 o3 hA hap hsz; clear hA hd o2 o3 o4 o9 o11 o27; go_step; exact hK _ _ kR rfl
   · intro vs A' W hA hW hd K hK; have e148 := sV 148 (hd 6 (by kernel_rfl)) hA hap hsz; refine wpOp_go _ rfl 6 148 false rfl rfl e148 ?_; (conv => arg 2; whnf); have e11 := sO 11 o11 hA hap hsz; clear hA hd o2 o3 o4 o9 o11 o27; go_step; exact hK _ _ kR rfl
   · intro vs A' W hA hW hd K hK; have e148 := sV 148 (hd 6 (by kernel_rfl)) hA hap hsz; refine wpOp_go _ rfl 6 148 false rfl rfl e148 ?_; (conv => arg 2; whnf); have e149 := sV 149 (hd 7 (by kernel_rfl)) hA hap hsz; have e150 := sV 150 (hd 8 (by kernel_rfl)) hA hap hsz; have e151 := sV 151 (hd 9 (by kernel_rfl)) hA hap hsz; clear hA hd o2 o3 o4 o9 o11 o27; go_step
     refine (HE1 _ hW).mono ?_
     rintro e w' ⟨rfl, k⟩
     exact hK _ _ k rfl
   · intro vs A' W hA hW hd K hK; have e148 := sV 148 (hd 6 (by kernel_rfl)) hA hap hsz; refine wpOp_go _ rfl 6 148 false rfl rfl e148 ?_; (conv => arg 2; whnf); have e4 := sO 4 o4 hA hap hsz; clear hA hd o2 o3 o4 o9 o11 o27
     refine op_runs (v := .agg (ntA z h (.slice A l.length c))) (w' := W) (exec_load rfl (by simpa [Act.eval] using e4) (run_loadAt_agg W (⟨g4, 0, none⟩) 36 (ntA z h (.slice A l.length c)).toList _ (Blk.agg (hb4.kp hW (by simp))) Tryd.underlying36 rfl (by rw [Array.length_toList, ntA_size hh]; exact Tryd.infoNote))) ?_
     exact hK _ _ kR rfl
   · intro vs A' W hA hW hd K hK; have e148 := sV 148 (hd 6 (by kernel_rfl)) hA hap hsz; refine wpOp_go _ rfl 6 148 false rfl rfl e148 ?_; (conv => arg 2; whnf); have e3 := sO 3 o3 hA hap hsz; clear hA hd o2 o3 o4 o9 o11 o27; go_step; exact hK _ _ kR rfl
   · intro vs A' W hA hW hd K hK; have e148 := sV 148 (hd 6 (by kernel_rfl)) hA hap hsz; refine wpOp_go _ rfl 6 148 false rfl rfl e148 ?_; (conv => arg 2; whnf); have e2 := sO 2 o2 hA hap hsz; clear hA hd o2 o3 o4 o9 o11 o27; go_step; exact hK _ _ kR rfl
   · intro vs A' W hA hW hd K hK; have e148 := sV 148 (hd 6 (by kernel_rfl)) hA hap hsz; refine wpOp_go _ rfl 6 148 false rfl rfl e148 ?_; (conv => arg 2; whnf); have e153 := sV 153 (hd 11 (by kernel_rfl)) hA hap hsz; have e154 := sV 154 (hd 12 (by kernel_rfl)) hA hap hsz; have e155 := sV 155 (hd 13 (by kernel_rfl)) hA hap hsz; clear hA hd o2 o3 o4 o9 o11 o27; go_step
     refine (HE2 _ hW).mono ?_
     rintro e w' ⟨rfl, k⟩
     exact hK _ _ k rfl
   · intro vs A' W hA hW hd K hK; have e148 := sV 148 (hd 6 (by kernel_rfl)) hA hap hsz; refine wpOp_go _ rfl 6 148 false rfl rfl e148 ?_; (conv => arg 2; whnf); have e152 := sV 152 (hd 10 (by kernel_rfl)) hA hap hsz; have e156 := sV 156 (hd 14 (by kernel_rfl)) hA hap hsz; clear hA hd o2 o3 o4 o9 o11 o27; go_step
     exact hK _ _ kR (by first | rfl | (refine congrArg Value.bool ?_; simp; done) | (cases be <;> rfl))
   · intro vs A' W hA hW hd K hK; refine wpOp_free _ rfl rfl ?_; (conv => arg 2; whnf); have e148 := sV 148 (hd 6 (by kernel_rfl)) hA hap hsz; have e157 := sV 157 (hd 15 (by kernel_rfl)) hA hap hsz; clear hA hd o2 o3 o4 o9 o11 o27; go_step; exact hK _ _ kR rfl
 · intro vs W hW hp
   rw [putAll_eq]
   exact hend _ W sQ hW (sW (hp 16 sB))
theorem snt_r20  (hsz : a.tmps.size = 207) 
 (hend : ∀ a', Same a a' [29] → Sl a' 29 (.int .i64 ((0 : Nat) : Int)) → Q .normal a' (w)) : (Code.region 20 (opsOf 20 Tryd.f5).toArray false).wp Tryd.prog Q a w := by
 refine wp_region_lit ?_
 (conv => arg 4; whnf)
 go_wp2_with fail
 try simp only [Act.put]
 exact hend _ sS sP
theorem snt_r24  (hsz : a.tmps.size = 207) 
 (hend : ∀ a', Same a a' [30] → Sl a' 30 (.int .i64 ((0 : Nat) : Int)) → Q .normal a' (w)) : (Code.region 24 (opsOf 24 Tryd.f5).toArray false).wp Tryd.prog Q a w := by
 refine wp_region_lit ?_
 (conv => arg 4; whnf)
 go_wp2_with fail
 try simp only [Act.put]
 exact hend _ sS sP
theorem snt_r22 (k : Nat) (hk : k < 9223372036854775807) (hsz : a.tmps.size = 207) (o29 : Sl a 29 (.int .i64 ((k : Nat) : Int)))
 (hend : ∀ a', Same a a' [163, 164, 29] → Sl a' 29 (.int .i64 ((k + 1 : Nat) : Int)) → Q .normal a' (w)) : (Code.region 22 (opsOf 22 Tryd.f5).toArray false).wp Tryd.prog Q a w := by
 refine wp_region_lit ?_
 (conv => arg 4; whnf)
 unfold Sl at o29
 have hw : wrap64 ((k : Int) + 1) = (k : Int) + 1 := by unfold wrap64; omega
 go_wp2_with fail
 try simp only [Act.put]
 exact hend _ sS sP
theorem snt_r26 (k : Nat) (hk : k < 9223372036854775807) (hsz : a.tmps.size = 207) (o30 : Sl a 30 (.int .i64 ((k : Nat) : Int)))
 (hend : ∀ a', Same a a' [172, 173, 30] → Sl a' 30 (.int .i64 ((k + 1 : Nat) : Int)) → Q .normal a' (w)) : (Code.region 26 (opsOf 26 Tryd.f5).toArray false).wp Tryd.prog Q a w := by
 refine wp_region_lit ?_
 (conv => arg 4; whnf)
 unfold Sl at o30
 have hw : wrap64 ((k : Int) + 1) = (k : Int) + 1 := by unfold wrap64; omega
 go_wp2_with fail
 try simp only [Act.put]
 exact hend _ sS sP
theorem snt_r21 (A : Option Addr) (k n c : Nat) (hsz : a.tmps.size = 207) (o27 : Sl a 27 (.slice A n c)) (o29 : Sl a 29 (.int .i64 ((k : Nat) : Int)))
 (hend : ∀ a', Same a a' [159, 160, 161, 162] → Sl a' 162 (.bool (decide (k < n))) → Q .normal a' (w)) : (Code.region 21 (opsOf 21 Tryd.f5).toArray false).wp Tryd.prog Q a w := by
 refine wp_region_lit ?_
 (conv => arg 4; whnf)
 unfold Sl at o27 o29
 go_wp2_with fail
 try simp only [Act.put]
 exact hend _ sS sP
theorem snt_r25 (A : Option Addr) (k n c : Nat) (hsz : a.tmps.size = 207) (o2 : Sl a 2 (.slice A n c)) (o30 : Sl a 30 (.int .i64 ((k : Nat) : Int)))
 (hend : ∀ a', Same a a' [168, 169, 170, 171] → Sl a' 171 (.bool (decide (k < n))) → Q .normal a' (w)) : (Code.region 25 (opsOf 25 Tryd.f5).toArray false).wp Tryd.prog Q a w := by
 refine wp_region_lit ?_
 (conv => arg 4; whnf)
 unfold Sl at o2 o30
 go_wp2_with fail
 try simp only [Act.put]
 exact hend _ sS sP
theorem snt_r23 (w0 : World) (g n c k : Nat) (hk : k < n) (hn : n ≤ c) (cur : Array Value) (hcs : cur.size = c * 1) (L : List Res) (S : Held w0 w (blkR g 9 cur :: L)) (hsz : a.tmps.size = 207) (o27 : Sl a 27 (.slice (some ⟨g, 0, none⟩) n c)) (o29 : Sl a 29 (.int .i64 ((k : Nat) : Int)))
 (hend : ∀ a' W, Same a a' [165, 166, 167] → (∃ cur' : Array Value, cur'.size = c * 1 ∧ Held w0 W (blkR g 9 cur' :: L)) → Q .normal a' W) : (Code.region 23 (opsOf 23 Tryd.f5).toArray false).wp Tryd.prog Q a w := by
 refine wp_region_lit ?_
 (conv => arg 4; whnf)
 unfold Sl at o27 o29
 have S1 := Lib.hid (S.set (l1 := []) k (.string ⟨#[115, 112, 111, 105, 108, 116]⟩))
 have h0 : 0 ≤ (k : Int) := by omega
 have h1 : (k : Int) < (n : Int) := by omega
 obtain ⟨old, hold⟩ : ∃ old, cur[k]? = some old := ⟨_, Array.getElem?_eq_getElem (by omega)⟩
 have ck := (S.at_ (l1 := [])).cell k
 rw [hold] at ck
 have fk := (show Blk w g _ _ from S.at_ (l1 := [])).frozen k
 have hcs2 := Lib.hid hcs
 clear hcs hold S
 go_wp2_with fail
 try simp only [Act.put]
 exact hend _ _ sS (⟨_, by rw [Array.size_setIfInBounds]; exact hcs2.out, S1.out⟩)
theorem snt_r27 (ad be : Addr) (k n c e : Nat) (hk : k < n) (nm : ByteArray) (gt m ct : Nat) (Ak : Option Addr) (ck : Nat) (hc1 : ∀ V, Kp [] w.drew V → ∀ j u, (#[.string nm, .slice (some ⟨gt, 0, none⟩) m ct]).toList[j]? = some u → V.cell? ((ad.add (k * 2)).add j) = some u) (hc2 : ∀ V, Kp [] w.drew V → ∀ j u, (#[.string nm, .slice Ak m ck]).toList[j]? = some u → V.cell? ((be.add (k * 2)).add j) = some u) (HL : ∀ V, Kp [] w.drew V → Calls Tryd.prog 32 #[.agg #[.string nm, .slice (some ⟨gt, 0, none⟩) m ct], .agg #[.string nm, .slice Ak m ck]] V fun e w' => e = .returned (.bool true) ∧ Kp [] V w') (hsz : a.tmps.size = 207) (o2 : Sl a 2 (.slice (some be) n e)) (o11 : Sl a 11 (.slice (some ad) n c)) (o30 : Sl a 30 (.int .i64 ((k : Nat) : Int)))
 (hend : ∀ a' W, Same a a' [174, 175, 176, 177, 178, 179, 180, 181, 182, 183] → Kp [] w.drew W → Sl a' 183 (.bool false) → Q .normal a' W) : (Code.region 27 (opsOf 27 Tryd.f5).toArray true).wp Tryd.prog Q a w := by
 have hap : apartB (opsOf 27 Tryd.f5) = true := by kernel_rfl
 refine wp_region_inv (l := (opsOf 27 Tryd.f5)) (fun i v W => match i with | 0 => v = .slice (some ad) n c | 1 => v = .int .i64 ((k : Nat) : Int) | 2 => v = .pointer (some (ad.add (k * 2))) | 3 => v = .agg #[.string nm, .slice (some ⟨gt, 0, none⟩) m ct] | 4 => v = .slice (some be) n e | 5 => v = .int .i64 ((k : Nat) : Int) | 6 => v = .pointer (some (be.add (k * 2))) | 7 => v = .agg #[.string nm, .slice Ak m ck] | 8 => v = .bool true | 9 => v = .bool false | _ => True) (by kernel_rfl) hap (by kernel_rfl) ?_ ?_ ?_
 · intro i v W W' h _
   iterate 10 (rcases i with _ | i; · exact h)
   exact h
 · refine ⟨?_, ?_, ?_, ?_, ?_, ?_, ?_, ?_, ?_, ?_, trivial⟩
   · intro vs A' W hA hW hd K hK; have e11 := sO 11 o11 hA hap hsz; clear hA hd o2 o11 o30; go_step; exact hK _ _ kR rfl
   · intro vs A' W hA hW hd K hK; have e30 := sO 30 o30 hA hap hsz; clear hA hd o2 o11 o30; go_step; exact hK _ _ kR rfl
   · intro vs A' W hA hW hd K hK; have e174 := sV 174 (hd 0 (by kernel_rfl)) hA hap hsz; have e175 := sV 175 (hd 1 (by kernel_rfl)) hA hap hsz; clear hA hd o2 o11 o30
     have h0 : 0 ≤ (k : Int) := by omega
     have h1 : (k : Int) < (n : Int) := by omega
     go_step; exact hK _ _ kR rfl
   · intro vs A' W hA hW hd K hK; have e176 := sV 176 (hd 2 (by kernel_rfl)) hA hap hsz; clear hA hd o2 o11 o30
     refine op_runs (v := .agg #[.string nm, .slice (some ⟨gt, 0, none⟩) m ct]) (w' := W) (exec_load rfl (by simpa [Act.eval] using e176) (run_loadAt_agg W (ad.add (k * 2)) 42 (#[.string nm, .slice (some ⟨gt, 0, none⟩) m ct]).toList _ (hc1 _ hW) Tryd.underlying42 rfl (by exact Tryd.infoKeyP))) ?_
     exact hK _ _ kR rfl
   · intro vs A' W hA hW hd K hK; have e2 := sO 2 o2 hA hap hsz; clear hA hd o2 o11 o30; go_step; exact hK _ _ kR rfl
   · intro vs A' W hA hW hd K hK; have e30 := sO 30 o30 hA hap hsz; clear hA hd o2 o11 o30; go_step; exact hK _ _ kR rfl
   · intro vs A' W hA hW hd K hK; have e178 := sV 178 (hd 4 (by kernel_rfl)) hA hap hsz; have e179 := sV 179 (hd 5 (by kernel_rfl)) hA hap hsz; clear hA hd o2 o11 o30
     have h0 : 0 ≤ (k : Int) := by omega
     have h1 : (k : Int) < (n : Int) := by omega
     go_step; exact hK _ _ kR rfl
   · intro vs A' W hA hW hd K hK; have e180 := sV 180 (hd 6 (by kernel_rfl)) hA hap hsz; clear hA hd o2 o11 o30
     refine op_runs (v := .agg #[.string nm, .slice Ak m ck]) (w' := W) (exec_load rfl (by simpa [Act.eval] using e180) (run_loadAt_agg W (be.add (k * 2)) 42 (#[.string nm, .slice Ak m ck]).toList _ (hc2 _ hW) Tryd.underlying42 rfl (by exact Tryd.infoKeyP))) ?_
     exact hK _ _ kR rfl
   · intro vs A' W hA hW hd K hK; have e177 := sV 177 (hd 3 (by kernel_rfl)) hA hap hsz; have e181 := sV 181 (hd 7 (by kernel_rfl)) hA hap hsz; clear hA hd o2 o11 o30; go_step
     refine (HL _ hW).mono ?_
     rintro e w' ⟨rfl, k⟩
     exact hK _ _ k rfl
   · intro vs A' W hA hW hd K hK; have e182 := sV 182 (hd 8 (by kernel_rfl)) hA hap hsz; clear hA hd o2 o11 o30; go_step; exact hK _ _ kR rfl
 · intro vs W hW hp
   rw [putAll_eq]
   exact hend _ W sQ hW (sW (hp 9 sB))
theorem snt_r29 (LDw : LD w) (Z : Int) (H : List UInt8) (hH : H.length = 32) (X : List SigD) (hX : SgOk X) (hXl : X.length ≤ 9223372036854775806) (A2 : Option Addr) (c2 g15 : Nat) (hb15 : Blk w g15 36 (ntA Z H (.slice A2 X.length c2))) (hr2 : Rd w 33 (.slice A2 X.length c2) X.length (sgsC X)) (A3 : Option Addr) (c3 g17 : Nat) (hb17 : Blk w g17 36 (ntA Z H (.slice A3 X.length c3))) (hr3 : Rd w 33 (.slice A3 X.length c3) X.length (sgsC X)) (z : Int) (h : List UInt8) (hh : h.length = 32) (A : Option Addr) (c : Nat) (l : List SigD) (gr cr g4 g9 : Nat) (hb4 : Blk w g4 36 (ntA z h (.slice A l.length c))) (hb9 : Blk w g9 36 (ntA z h (.slice (some ⟨gr, 0, none⟩) l.length cr))) (nm : ByteArray) (Ak : Option Addr) (ck : Nat) (sec : List UInt8) (gt ct g5 g10 : Nat) (hb5 : Blk w g5 42 #[.string nm, .slice Ak sec.length ck]) (hb10 : Blk w g10 42 #[.string nm, .slice (some ⟨gt, 0, none⟩) sec.length ct]) (B2 : Option Addr) (n2 e2 : Nat) (xs : List (List UInt8)) (hxl : xs.length ≤ 9223372036854775806) (A6 : Option Addr) (c6 : Nat) (hr6 : Rd w 1 (.slice A6 xs.length c6) xs.length (xs.map strV)) (HRR : ∀ V, Kp [] w V → Calls Tryd.prog 29 #[.agg (ntA z h (.slice A l.length c)), .slice B2 n2 e2] V fun e w' => ∃ v, e = .returned v ∧ Held V w' [rowR 9 1 v xs.length (xs.map strV)]) (HL1 : ∀ V, Kp [] w V → Calls Tryd.prog 33 #[.agg (ntA z h (.slice (some ⟨gr, 0, none⟩) l.length cr)), .agg (ntA z h (.slice A l.length c))] V fun e w' => e = .returned (.bool true) ∧ Kp [] V w') (HL2 : ∀ V, Kp [] w V → Calls Tryd.prog 32 #[.agg #[.string nm, .slice (some ⟨gt, 0, none⟩) sec.length ct], .agg #[.string nm, .slice Ak sec.length ck]] V fun e w' => e = .returned (.bool true) ∧ Kp [] V w') (hsz : a.tmps.size = 207) (o2 : Sl a 2 (.slice B2 n2 e2)) (o4 : Sl a 4 (.pointer (some ⟨g4, 0, none⟩))) (o5 : Sl a 5 (.pointer (some ⟨g5, 0, none⟩))) (o9 : Sl a 9 (.pointer (some ⟨g9, 0, none⟩))) (o10 : Sl a 10 (.pointer (some ⟨g10, 0, none⟩))) (o15 : Sl a 15 (.pointer (some ⟨g15, 0, none⟩))) (o17 : Sl a 17 (.pointer (some ⟨g17, 0, none⟩))) (o28 : Sl a 28 (.slice A6 xs.length c6))
 (hend : ∀ a' W, Same a a' [184, 185, 186, 187, 188, 189, 190, 191, 192, 193, 194, 195, 196, 197, 198, 199, 200, 201, 202, 203, 204, 205, 206, 8] → Kp [] w W → Sl a' 8 (.bool true) → Q .normal a' W) : (Code.region 29 (opsOf 29 Tryd.f5).toArray false).wp Tryd.prog Q a w := by
 have hap : apartB (opsOf 29 Tryd.f5) = true := by kernel_rfl
 refine wp_region_invS (l := (opsOf 29 Tryd.f5)) (fun i v W => match i with | 0 => v = .agg (ntA Z H (.slice A2 X.length c2)) | 1 => v = .agg (ntA Z H (.slice A3 X.length c3)) | 2 => v = .bool true | 3 => v = .bool true | 4 => v = .slice A6 xs.length c6 | 5 => v = .agg (ntA z h (.slice A l.length c)) | 6 => v = .slice B2 n2 e2 | 7 => ∃ A c, v = .slice A xs.length c ∧ Rd W 1 (.slice A xs.length c) xs.length (xs.map strV) | 8 => v = .bool true | 9 => v = .bool true | 10 => v = .bool true | 11 => v = .agg (ntA z h (.slice (some ⟨gr, 0, none⟩) l.length cr)) | 12 => v = .agg (ntA z h (.slice A l.length c)) | 13 => v = .bool true | 14 => v = .bool true | 15 => v = .bool true | 16 => v = .agg #[.string nm, .slice (some ⟨gt, 0, none⟩) sec.length ct] | 17 => v = .agg #[.string nm, .slice Ak sec.length ck] | 18 => v = .bool true | 19 => v = .bool true | 20 => v = .bool true | 21 => v = .bool true | 22 => v = .bool true | 23 => v = .bool true | _ => True) hap ?_ ?_ ?_
 · intro i v W W' h k
   rcases i with _ | i
   · exact h
   rcases i with _ | i
   · exact h
   rcases i with _ | i
   · exact h
   rcases i with _ | i
   · exact h
   rcases i with _ | i
   · exact h
   rcases i with _ | i
   · exact h
   rcases i with _ | i
   · exact h
   rcases i with _ | i
   · obtain ⟨A, c, h1, h2⟩ := h; exact ⟨A, c, h1, rd_old h2 k⟩
   rcases i with _ | i
   · exact h
   rcases i with _ | i
   · exact h
   rcases i with _ | i
   · exact h
   rcases i with _ | i
   · exact h
   rcases i with _ | i
   · exact h
   rcases i with _ | i
   · exact h
   rcases i with _ | i
   · exact h
   rcases i with _ | i
   · exact h
   rcases i with _ | i
   · exact h
   rcases i with _ | i
   · exact h
   rcases i with _ | i
   · exact h
   rcases i with _ | i
   · exact h
   rcases i with _ | i
   · exact h
   rcases i with _ | i
   · exact h
   rcases i with _ | i
   · exact h
   rcases i with _ | i
   · exact h
   exact h
 · refine ⟨?_, ?_, ?_, ?_, ?_, ?_, ?_, ?_, ?_, ?_, ?_, ?_, ?_, ?_, ?_, ?_, ?_, ?_, ?_, ?_, ?_, ?_, ?_, ?_, trivial⟩
   · intro vs A' W hA hW hd hu K hK; refine wpOp_free _ rfl rfl ?_; (conv => arg 2; whnf); have e15 := sO 15 o15 hA hap hsz; clear hA hd hu o2 o4 o5 o9 o10 o15 o17 o28
     refine op_runs (v := .agg (ntA Z H (.slice A2 X.length c2))) (w' := W) (exec_load rfl (by simpa [Act.eval] using e15) (run_loadAt_agg W (⟨g15, 0, none⟩) 36 (ntA Z H (.slice A2 X.length c2)).toList _ (Blk.agg (hb15.kp hW (by simp))) Tryd.underlying36 rfl (by rw [Array.length_toList, ntA_size hH]; exact Tryd.infoNote))) ?_
     exact hK _ _ kR rfl
   · intro vs A' W hA hW hd hu K hK; refine wpOp_free _ rfl rfl ?_; (conv => arg 2; whnf); have e17 := sO 17 o17 hA hap hsz; clear hA hd hu o2 o4 o5 o9 o10 o15 o17 o28
     refine op_runs (v := .agg (ntA Z H (.slice A3 X.length c3))) (w' := W) (exec_load rfl (by simpa [Act.eval] using e17) (run_loadAt_agg W (⟨g17, 0, none⟩) 36 (ntA Z H (.slice A3 X.length c3)).toList _ (Blk.agg (hb17.kp hW (by simp))) Tryd.underlying36 rfl (by rw [Array.length_toList, ntA_size hH]; exact Tryd.infoNote))) ?_
     exact hK _ _ kR rfl
   · intro vs A' W hA hW hd hu K hK; refine wpOp_free _ rfl rfl ?_; (conv => arg 2; whnf); have e184 := sV 184 (hd 0 (by kernel_rfl)) hA hap hsz; have e185 := sV 185 (hd 1 (by kernel_rfl)) hA hap hsz; clear hA hd hu o2 o4 o5 o9 o10 o15 o17 o28; go_step
     refine (ssame_any Z Z H H hH hH A2 A3 c2 c3 X X hX hX (by omega) W (rd_old hr2 hW) (rd_old hr3 hW)).mono ?_
     rintro e w' ⟨rfl, k⟩
     exact hK _ _ k (show Value.bool (sameN Z H X Z H X) = Value.bool true from by rw [sameN_self])
   · intro vs A' W hA hW hd hu K hK; refine wpOp_free _ rfl rfl ?_; (conv => arg 2; whnf); have e186 := sV 186 (hd 2 (by kernel_rfl)) hA hap hsz; clear hA hd hu o2 o4 o5 o9 o10 o15 o17 o28; go_step; exact hK _ _ kR rfl
   · intro vs A' W hA hW hd hu K hK; have e187 := sV 187 (hd 3 (by kernel_rfl)) hA hap hsz; refine wpOp_go _ rfl 3 187 true rfl rfl e187 ?_; (conv => arg 2; whnf); have e28 := sO 28 o28 hA hap hsz; clear hA hd hu o2 o4 o5 o9 o10 o15 o17 o28; go_step; exact hK _ _ kR rfl
   · intro vs A' W hA hW hd hu K hK; have e187 := sV 187 (hd 3 (by kernel_rfl)) hA hap hsz; refine wpOp_go _ rfl 3 187 true rfl rfl e187 ?_; (conv => arg 2; whnf); have e4 := sO 4 o4 hA hap hsz; clear hA hd hu o2 o4 o5 o9 o10 o15 o17 o28
     refine op_runs (v := .agg (ntA z h (.slice A l.length c))) (w' := W) (exec_load rfl (by simpa [Act.eval] using e4) (run_loadAt_agg W (⟨g4, 0, none⟩) 36 (ntA z h (.slice A l.length c)).toList _ (Blk.agg (hb4.kp hW (by simp))) Tryd.underlying36 rfl (by rw [Array.length_toList, ntA_size hh]; exact Tryd.infoNote))) ?_
     exact hK _ _ kR rfl
   · intro vs A' W hA hW hd hu K hK; have e187 := sV 187 (hd 3 (by kernel_rfl)) hA hap hsz; refine wpOp_go _ rfl 3 187 true rfl rfl e187 ?_; (conv => arg 2; whnf); have e2 := sO 2 o2 hA hap hsz; clear hA hd hu o2 o4 o5 o9 o10 o15 o17 o28; go_step; exact hK _ _ kR rfl
   · intro vs A' W hA hW hd hu K hK; have e187 := sV 187 (hd 3 (by kernel_rfl)) hA hap hsz; refine wpOp_go _ rfl 3 187 true rfl rfl e187 ?_; (conv => arg 2; whnf); have e189 := sV 189 (hd 5 (by kernel_rfl)) hA hap hsz; have e190 := sV 190 (hd 6 (by kernel_rfl)) hA hap hsz; clear hA hd hu o2 o4 o5 o9 o10 o15 o17 o28; go_step
     refine (HRR _ hW).mono ?_
     rintro e w' ⟨u, rfl, H⟩
     obtain ⟨A9, c9, hu, -, -⟩ := ow_form (show Ow w' 9 1 u xs.length (xs.map strV) from H.at_ (l1 := []))
     exact hK _ _ H.k ⟨A9, c9, hu, by have := Rd.of_own (show Ow w' 9 1 u xs.length (xs.map strV) from H.at_ (l1 := [])); rwa [hu] at this⟩
   · intro vs A' W hA hW hd hu K hK; have e187 := sV 187 (hd 3 (by kernel_rfl)) hA hap hsz; refine wpOp_go _ rfl 3 187 true rfl rfl e187 ?_; (conv => arg 2; whnf); have e188 := sV 188 (hd 4 (by kernel_rfl)) hA hap hsz; have f7 : ∃ A c, (vs 7) = .slice A xs.length c ∧ Rd W 1 (.slice A xs.length c) xs.length (xs.map strV) := hd 7 (by kernel_rfl)
     have e191 := sU 191 7 hA hap hsz
     clear hA hd hu o2 o4 o5 o9 o10 o15 o17 o28
     obtain ⟨A8, c8, hv8, hr8⟩ := f7
     rw [hv8] at e191
     go_step
     refine (samestr_true A6 A8 c6 c8 xs hxl W (rd_old hr6 hW) hr8).mono ?_
     rintro e w' ⟨rfl, k⟩
     exact hK _ _ k rfl
   · intro vs A' W hA hW hd hu K hK; refine wpOp_free _ rfl rfl ?_; (conv => arg 2; whnf); have e187 := sV 187 (hd 3 (by kernel_rfl)) hA hap hsz; have e192 := sV 192 (hd 8 (by kernel_rfl)) hA hap hsz; clear hA hd hu o2 o4 o5 o9 o10 o15 o17 o28; go_step; exact hK _ _ kR rfl
   · intro vs A' W hA hW hd hu K hK; refine wpOp_free _ rfl rfl ?_; (conv => arg 2; whnf); have e193 := sV 193 (hd 9 (by kernel_rfl)) hA hap hsz; clear hA hd hu o2 o4 o5 o9 o10 o15 o17 o28; go_step; exact hK _ _ kR rfl
   · intro vs A' W hA hW hd hu K hK; have e194 := sV 194 (hd 10 (by kernel_rfl)) hA hap hsz; refine wpOp_go _ rfl 10 194 true rfl rfl e194 ?_; (conv => arg 2; whnf); have e9 := sO 9 o9 hA hap hsz; clear hA hd hu o2 o4 o5 o9 o10 o15 o17 o28
     refine op_runs (v := .agg (ntA z h (.slice (some ⟨gr, 0, none⟩) l.length cr))) (w' := W) (exec_load rfl (by simpa [Act.eval] using e9) (run_loadAt_agg W (⟨g9, 0, none⟩) 36 (ntA z h (.slice (some ⟨gr, 0, none⟩) l.length cr)).toList _ (Blk.agg (hb9.kp hW (by simp))) Tryd.underlying36 rfl (by rw [Array.length_toList, ntA_size hh]; exact Tryd.infoNote))) ?_
     exact hK _ _ kR rfl
   · intro vs A' W hA hW hd hu K hK; have e194 := sV 194 (hd 10 (by kernel_rfl)) hA hap hsz; refine wpOp_go _ rfl 10 194 true rfl rfl e194 ?_; (conv => arg 2; whnf); have e4 := sO 4 o4 hA hap hsz; clear hA hd hu o2 o4 o5 o9 o10 o15 o17 o28
     refine op_runs (v := .agg (ntA z h (.slice A l.length c))) (w' := W) (exec_load rfl (by simpa [Act.eval] using e4) (run_loadAt_agg W (⟨g4, 0, none⟩) 36 (ntA z h (.slice A l.length c)).toList _ (Blk.agg (hb4.kp hW (by simp))) Tryd.underlying36 rfl (by rw [Array.length_toList, ntA_size hh]; exact Tryd.infoNote))) ?_
     exact hK _ _ kR rfl
   · intro vs A' W hA hW hd hu K hK; have e194 := sV 194 (hd 10 (by kernel_rfl)) hA hap hsz; refine wpOp_go _ rfl 10 194 true rfl rfl e194 ?_; (conv => arg 2; whnf); have e195 := sV 195 (hd 11 (by kernel_rfl)) hA hap hsz; have e196 := sV 196 (hd 12 (by kernel_rfl)) hA hap hsz; clear hA hd hu o2 o4 o5 o9 o10 o15 o17 o28; go_step
     refine (HL1 _ hW).mono ?_
     rintro e w' ⟨rfl, k⟩
     exact hK _ _ k rfl
   · intro vs A' W hA hW hd hu K hK; refine wpOp_free _ rfl rfl ?_; (conv => arg 2; whnf); have e194 := sV 194 (hd 10 (by kernel_rfl)) hA hap hsz; have e197 := sV 197 (hd 13 (by kernel_rfl)) hA hap hsz; clear hA hd hu o2 o4 o5 o9 o10 o15 o17 o28; go_step; exact hK _ _ kR rfl
   · intro vs A' W hA hW hd hu K hK; refine wpOp_free _ rfl rfl ?_; (conv => arg 2; whnf); have e198 := sV 198 (hd 14 (by kernel_rfl)) hA hap hsz; clear hA hd hu o2 o4 o5 o9 o10 o15 o17 o28; go_step; exact hK _ _ kR rfl
   · intro vs A' W hA hW hd hu K hK; have e199 := sV 199 (hd 15 (by kernel_rfl)) hA hap hsz; refine wpOp_go _ rfl 15 199 true rfl rfl e199 ?_; (conv => arg 2; whnf); have e10 := sO 10 o10 hA hap hsz; clear hA hd hu o2 o4 o5 o9 o10 o15 o17 o28
     refine op_runs (v := .agg #[.string nm, .slice (some ⟨gt, 0, none⟩) sec.length ct]) (w' := W) (exec_load rfl (by simpa [Act.eval] using e10) (run_loadAt_agg W (⟨g10, 0, none⟩) 42 (#[.string nm, .slice (some ⟨gt, 0, none⟩) sec.length ct]).toList _ (Blk.agg (hb10.kp hW (by simp))) Tryd.underlying42 rfl (by exact Tryd.infoKeyP))) ?_
     exact hK _ _ kR rfl
   · intro vs A' W hA hW hd hu K hK; have e199 := sV 199 (hd 15 (by kernel_rfl)) hA hap hsz; refine wpOp_go _ rfl 15 199 true rfl rfl e199 ?_; (conv => arg 2; whnf); have e5 := sO 5 o5 hA hap hsz; clear hA hd hu o2 o4 o5 o9 o10 o15 o17 o28
     refine op_runs (v := .agg #[.string nm, .slice Ak sec.length ck]) (w' := W) (exec_load rfl (by simpa [Act.eval] using e5) (run_loadAt_agg W (⟨g5, 0, none⟩) 42 (#[.string nm, .slice Ak sec.length ck]).toList _ (Blk.agg (hb5.kp hW (by simp))) Tryd.underlying42 rfl (by exact Tryd.infoKeyP))) ?_
     exact hK _ _ kR rfl
   · intro vs A' W hA hW hd hu K hK; have e199 := sV 199 (hd 15 (by kernel_rfl)) hA hap hsz; refine wpOp_go _ rfl 15 199 true rfl rfl e199 ?_; (conv => arg 2; whnf); have e200 := sV 200 (hd 16 (by kernel_rfl)) hA hap hsz; have e201 := sV 201 (hd 17 (by kernel_rfl)) hA hap hsz; clear hA hd hu o2 o4 o5 o9 o10 o15 o17 o28; go_step
     refine (HL2 _ hW).mono ?_
     rintro e w' ⟨rfl, k⟩
     exact hK _ _ k rfl
   · intro vs A' W hA hW hd hu K hK; refine wpOp_free _ rfl rfl ?_; (conv => arg 2; whnf); have e199 := sV 199 (hd 15 (by kernel_rfl)) hA hap hsz; have e202 := sV 202 (hd 18 (by kernel_rfl)) hA hap hsz; clear hA hd hu o2 o4 o5 o9 o10 o15 o17 o28; go_step; exact hK _ _ kR rfl
   · intro vs A' W hA hW hd hu K hK; refine wpOp_free _ rfl rfl ?_; (conv => arg 2; whnf); have e203 := sV 203 (hd 19 (by kernel_rfl)) hA hap hsz; clear hA hd hu o2 o4 o5 o9 o10 o15 o17 o28; go_step; exact hK _ _ kR rfl
   · intro vs A' W hA hW hd hu K hK; have e204 := sV 204 (hd 20 (by kernel_rfl)) hA hap hsz; refine wpOp_go _ rfl 20 204 true rfl rfl e204 ?_; (conv => arg 2; whnf); clear hA hd hu o2 o4 o5 o9 o10 o15 o17 o28; go_step
     refine (sknown_any W (LDw.kp hW)).mono ?_
     rintro e w' ⟨rfl, k⟩
     exact hK _ _ k rfl
   · intro vs A' W hA hW hd hu K hK; refine wpOp_free _ rfl rfl ?_; (conv => arg 2; whnf); have e204 := sV 204 (hd 20 (by kernel_rfl)) hA hap hsz; have e205 := sV 205 (hd 21 (by kernel_rfl)) hA hap hsz; clear hA hd hu o2 o4 o5 o9 o10 o15 o17 o28; go_step; exact hK _ _ kR rfl
   · intro vs A' W hA hW hd hu K hK; refine wpOp_free _ rfl rfl ?_; (conv => arg 2; whnf); have e206 := sV 206 (hd 22 (by kernel_rfl)) hA hap hsz; clear hA hd hu o2 o4 o5 o9 o10 o15 o17 o28; go_step; exact hK _ _ kR rfl
 · intro vs W hW hp
   rw [putAll_eq]
   exact hend _ W sQ hW (sW (hp 23 sB))
end
/- What SignNotes holds: the notes signed, in one form; the keys that it lent. -/
section
open Go.RowKit
def sN (z : Int) (h : List UInt8) (l : List SigD) (nm sec : List UInt8) : Int × List UInt8 × List SigD :=
 if signE z l nm sec = 0 then (z, h, insN l (nm, sumF z h nm sec)) else (0, List.replicate 32 0, [])
theorem sN_ok {z : Int} {h : List UInt8} {l : List SigD} {nm sec : List UInt8} (hh : h.length = 32) (hl : SgOk l) (hn : nm.length ≤ 9223372036854775807) : (sN z h l nm sec).2.1.length = 32 ∧ SgOk (sN z h l nm sec).2.2 ∧ (sN z h l nm sec).2.2.length ≤ 65 := by
 unfold sN
 by_cases e : signE z l nm sec = 0
 · rw [if_pos e]
   refine ⟨hh, insN_ok hl (sumF_length ..) hn, ?_⟩
   show (insN l (nm, sumF z h nm sec)).length ≤ 65
   rw [insN_length]
   cases h1 : mayN z l
   · unfold signE at e; rw [h1] at e; simp at e
   · have := (mayN_64 h1).1; omega
 · rw [if_neg e]
   exact ⟨by simp, fun s hs => (by cases hs), by simp⟩
theorem signU {z : Int} {h : List UInt8} {l : List SigD} {nm sec : List UInt8} {w w' : World} {e : Ending}
 (P : ∃ v, e = .returned (.tuple #[.agg (if signE z l nm sec = 0 then ntA z h v else zeroN), .int .i64 (signE z l nm sec)]) ∧ (signE z l nm sec = 0 → Held w w' [rowR 81 33 v (l.length + 1) (sgsC (insN l (nm, sumF z h nm sec)))]) ∧ Kp [] w w') :
 ∃ v, e = .returned (.tuple #[.agg (ntA (sN z h l nm sec).1 (sN z h l nm sec).2.1 v), .int .i64 (signE z l nm sec)]) ∧ Held w w' [rowR 81 33 v (sN z h l nm sec).2.2.length (sgsC (sN z h l nm sec).2.2)] := by
 obtain ⟨v, he, hp, k⟩ := P
 unfold sN
 by_cases e0 : signE z l nm sec = 0
 · rw [if_pos e0] at he ⊢
   refine ⟨v, he, ?_⟩
   show Held w w' [rowR 81 33 v (insN l (nm, sumF z h nm sec)).length (sgsC (insN l (nm, sumF z h nm sec)))]
   rw [insN_length]
   exact hp e0
 · rw [if_neg e0] at he ⊢
   refine ⟨.slice none 0 0, he, ?_⟩
   exact (Held.of_kp k).new (rowR 81 33 (.slice none 0 0) 0 []) kR (show Ow w' 81 33 (.slice none 0 0) 0 [] from ⟨rfl, .inl ⟨rfl, rfl⟩⟩) (fun b hb => by simp [rowR, Value.ownBlock] at hb)
def nN (z : Int) (h : List UInt8) : Int × List UInt8 := if 0 ≤ z then (z, h) else (0, List.replicate 32 0)
theorem newA_is (z : Int) (h : List UInt8) : newA z h = ntA (nN z h).1 (nN z h).2 (.slice none 0 0) := by
 unfold newA nN
 by_cases e : 0 ≤ z
 · rw [if_pos e, if_pos e]
 · rw [if_neg e, if_neg e]; rfl
theorem nN_len {z : Int} {h : List UInt8} (hh : h.length = 32) : (nN z h).2.length = 32 := by
 unfold nN
 by_cases e : 0 ≤ z
 · rw [if_pos e]; exact hh
 · rw [if_neg e]; simp
def kcell (x : KeyD × Nat × Nat) : List Value := [strV x.1.1, .slice (some ⟨x.2.1, 0, none⟩) x.1.2.length x.2.2]
def krow (x : KeyD × Nat × Nat) : Res := rowR 5 1 (.slice (some ⟨x.2.1, 0, none⟩) (x.1.2.length + 1) x.2.2) (x.1.2.length + 1) (bv (x.1.2 ++ [165]))
theorem kcell_at : ∀ {kl : List (KeyD × Nat × Nat)} {i : Nat} {x : KeyD × Nat × Nat}, kl[i]? = some x → ∀ j, j < 2 → (kl.flatMap kcell)[i * 2 + j]? = (kcell x)[j]?
 | [], _, _, h, _, _ => by simp at h
 | y :: kl, 0, x, h, j, hj => by
  cases h
  rw [List.flatMap_cons, Nat.zero_mul, Nat.zero_add, List.getElem?_append_left (by simpa [kcell] using hj)]
 | y :: kl, i + 1, x, h, j, hj => by
  rw [List.flatMap_cons, List.getElem?_append_right (by simp [kcell]; omega), show (i + 1) * 2 + j - (kcell y).length = i * 2 + j from by simp [kcell]; omega]
  exact kcell_at (by simpa using h) j hj
theorem krow_rd {w W : World} {kl : List (KeyD × Nat × Nat)} {R : Res} {L : List Res} (S : Held w W (R :: (kl.reverse.map krow ++ L))) {i : Nat} {x : KeyD × Nat × Nat} (hx : kl[i]? = some x) : Rd W 1 (.slice (some ⟨x.2.1, 0, none⟩) (x.1.2.length + 1) x.2.2) (x.1.2.length + 1) (bv (x.1.2 ++ [165])) :=
 Rd.of_own (show Ow W 5 1 _ _ _ from S.ok (krow x) (List.mem_cons_of_mem _ (List.mem_append_left _ (List.mem_map.2 ⟨x, List.mem_reverse.2 (List.mem_of_getElem? hx), rfl⟩))))
theorem kept_kys {w W : World} {kl : List (KeyD × Nat × Nat)} {u : Value} {L : List Res} (S : Held w W (rowR 42 2 u kl.length (kl.flatMap kcell) :: (kl.reverse.map krow ++ L))) : KysF W u (kl.flatMap kcell) (kl.map (·.1)) := by
 refine ⟨by rw [List.length_map]; exact Rd.of_own (show Ow W 42 2 _ _ _ from S.at_ (l1 := [])), fun i hi => ?_⟩
 rw [List.length_map] at hi
 obtain ⟨x, hx⟩ : ∃ x, kl[i]? = some x := ⟨_, List.getElem?_eq_getElem hi⟩
 have e : (kl.map (·.1))[i]'(by rw [List.length_map]; exact hi) = x.1 := by
  rw [List.getElem_map, (List.getElem?_eq_some_iff.1 hx).2]
 rw [e]
 have h0 := kcell_at hx 0 (by decide)
 have h1 := kcell_at hx 1 (by decide)
 rw [Nat.add_zero] at h0
 exact ⟨_, _, h0, h1, (cut_mark (krow_rd S hx)).1⟩
end
/- SignNotes: its first loop. -/
section
open Go.RowKit
def dsNt : List Nat := [35, 36, 37, 38, 41, 42, 43, 44, 45, 46, 47, 48, 11, 39, 40, 12]
theorem snt_l0 {Q : Exit → Act → World → Prop} {a : Act} {w0 w : World} (Aq : Option Addr) (cq : Nat) (ks : List KeyD) (us : List Value) (hkv : KysF w0 (.slice Aq ks.length cq) us ks) (hkl : (ks.length + 1) * 40 ≤ 140737488355328) (hsc : ∀ k, k ∈ ks → k.2.length + 1 ≤ 140737488355328)
 (hsz : a.tmps.size = 207) (o2 : Sl a 2 (.slice Aq ks.length cq)) (o11 : Sl a 11 (.slice none 0 0)) (o12 : Sl a 12 (.int .i64 ((0 : Nat) : Int))) (L : List Res) (S : Held w0 w L)
 (hend : ∀ (a' : Act) (W : World) (kl : List (KeyD × Nat × Nat)) (u : Value), Same a a' dsNt → kl.map (·.1) = ks → Sl a' 11 u → Held w0 W (rowR 42 2 u kl.length (kl.flatMap kcell) :: (kl.reverse.map krow ++ L)) → Q .normal a' W) :
 (Code.block 0 (blockOf 0 Tryd.f5)).wp Tryd.prog Q a w := by
 refine wp_block ?_
 (conv => arg 2; whnf)
 refine wp_loop (fun a' w' => ∃ (kl : List (KeyD × Nat × Nat)) (u : Value), kl.length ≤ ks.length ∧ kl.map (·.1) = ks.take kl.length ∧ Same a a' dsNt ∧ Sl a' 12 (.int .i64 ((kl.length : Nat) : Int)) ∧ Sl a' 11 u ∧ Held w0 w' (rowR 42 2 u kl.length (kl.flatMap kcell) :: (kl.reverse.map krow ++ L))) (fun a' _ => ks.length - (intOf (a'.eval (.tmp 12))).toNat)
  ⟨[], _, Nat.zero_le _, by rw [List.length_nil, List.take_zero]; rfl, Same.refl _ _, o12, o11, S.rownew (e := 42) (s := 2) (World.ownsRow_nil _ _ _ _) (Kp.refl [] w) (by simp [Value.ownBlock])⟩ ?_
 clear o11 o12 S
 rintro a1 w1 ⟨kl, u, hk, hm, T, o12, o11, S⟩
 have hz1 := T.size.trans hsz
 have o2 := T.keep 2 _ (by decide +kernel) o2
 have e12 := o12.eval (by rw [hz1]; decide)
 refine wp_seq (wp_seq (snt_r4 Aq kl.length ks.length cq hz1 o2 o12 (fun a2 hs2 o38 => ?_)))
 have hz2 := hs2.size.trans hz1; have o2 := hs2.k o2; have o11 := hs2.k o11; have o12 := hs2.k o12
 have T := T.trans hs2
 by_cases hlt : kl.length < ks.length
 · refine wp_cond_true ((o38.eval (by rw [hz2]; decide)).trans (by rw [decide_eq_true hlt])) (wp_skip ?_)
   simp only [Exit.then]
   obtain ⟨ad, hA⟩ := kys_addr hkv (by omega)
   have hkv2 := hkv
   rw [hA] at hkv2 o2
   obtain ⟨kk, hkk⟩ : ∃ kk, ks[kl.length]? = some kk := ⟨_, List.getElem?_eq_getElem hlt⟩
   obtain ⟨As, cs, hkc, hks'⟩ := hkv2.at2 hkk
   refine wp_seq (wp_block ?_)
   refine snt_r6 w0 ad kl.length ks.length cq hlt ⟨kk.1.toArray⟩ As kk.2.length cs (hkc w1 S.k) (bv (kk.2 ++ [165])) (slentk_any ⟨kk.1.toArray⟩ As cs kk.2 (hsc kk (List.mem_of_getElem? hkk)) w1 (rd_old hks' S.k)) u kl.length (by omega) _ _ S hz2 o2 o11 o12 (fun a3 w3 hs3 h3 => ?_)
   have hz3 := hs3.size.trans hz2; have o2 := hs3.k o2; have o12 := hs3.k o12; have o38 := hs3.k o38
   have T := T.trans hs3
   obtain ⟨v2, gr, cr, o11, S⟩ := h3
   simp only [Exit.inBlock, Exit.then]
   refine snt_r5 kl.length (by omega) hz3 o12 (fun a4 hs4 o12 => ?_)
   have hz4 := hs4.size.trans hz3; have o2 := hs4.k o2; have o38 := hs4.k o38
   have T := T.trans hs4
   have S : Held w0 w3 (rowR 42 2 v2 (kl ++ [(kk, gr, cr)]).length ((kl ++ [(kk, gr, cr)]).flatMap kcell) :: ((kl ++ [(kk, gr, cr)]).reverse.map krow ++ L)) := by
    rw [List.length_append, List.flatMap_append, List.reverse_append]
    exact S
   have o11 := hs4.k o11
   refine ⟨⟨kl ++ [(kk, gr, cr)], v2, by rw [List.length_append]; exact hlt, ?_, T.more (by decide +kernel), by rw [List.length_append]; exact o12, o11, S⟩, ?_⟩
   · rw [List.map_append, hm, List.length_append, List.length_singleton, List.take_add_one, hkk]
     rfl
   · rw [e12, o12.eval (by rw [hz4]; decide)]
     simp only [intOf]; omega
 · refine wp_cond_false ((o38.eval (by rw [hz2]; decide)).trans (by rw [decide_eq_false hlt])) (wp_exit ?_)
   simp only [Exit.then, Exit.inBlock]
   exact hend _ _ kl u (T.more (by decide +kernel)) (by rw [hm, List.take_of_length_le (by omega)]) o11 S
end
end Go.Proofs.YtapboamjpilckaaDoor
