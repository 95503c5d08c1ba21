/- Several texts in one: RshC, SigE, SigF, SigG, SigH, SigI, SigJ, SigN, SigO, SigP, SigQ, SigR. -/
import Derived.BigQuiet
import Derived.Lib.AppendZeros
import Derived.Lib.Overlaps
import Derived.Test.YtapboamjpilckaaDoorP4
set_option maxRecDepth 100000
set_option maxHeartbeats 8000000
namespace Go.Proofs.YtapboamjpilckaaDoor
/- The reference's End, Sum. -/
section
variable {Q : Exit → Act → World → Prop} {a : Act} {w : World}
open Go.RowKit
theorem ren_r0 (w0 : World) (st : List Nat) (n : Nat) (v : Value) (L : List Res) (S : Held w0 w L) (hsz : a.tmps.size = 35) (o0 : Sl a 0 (.agg (undA st n v)))
 (hend : ∀ a' W, Same a a' [1, 2] → (∃ g1 g2, Sl a' 1 (.pointer (some ⟨g1, 0, none⟩)) ∧ Sl a' 2 (.pointer (some ⟨g2, 0, none⟩)) ∧ Held w0 W (blkR g2 25 (hashA (List.replicate 32 0)) :: blkR g1 113 (undA st n v) :: L)) → Q .normal a' W) : (Code.region 0 (opsOf 0 Tryd.f68).toArray false).wp Tryd.prog Q a w := by
 refine wp_region_lit ?_
 (conv => arg 4; whnf)
 unfold Sl at o0
 have S0 := Lib.hid ((S.newBlk 113 (undA st n v)).newBlk 25 (hashA (List.replicate 32 0)))
 simp only [World.size_alloc] at S0
 generalize hca : undA st n v = ca at *
 go_wp2
 try simp only [Act.put]
 exact hend _ _ sS (⟨w.heap.size, w.heap.size + 1, sP0, sP0, S0.out⟩)
theorem ren_r1 (g n : Nat) (cs : Array Value) (hc : cs[8]? = some (.int .i64 (n : Int))) (hb : Blk w g 113 cs) (hn : n < 1152921504606846976) (hsz : a.tmps.size = 35) (o1 : Sl a 1 (.pointer (some ⟨g, 0, none⟩)))
 (hend : ∀ a', Same a a' [6, 7, 8, 9, 3] → Sl a' 3 (.int .u64 ((8 * n : Nat) : Int)) → Q .normal a' (w)) : (Code.region 1 (opsOf 1 Tryd.f68).toArray false).wp Tryd.prog Q a w := by
 refine wp_region_lit ?_
 (conv => arg 4; whnf)
 unfold Sl at o1
 have c1 : w.cell? ⟨g, 8, none⟩ = some (.int .i64 (n : Int)) := by rw [hb.cell]; exact hc
 have hw := Lib.hid (show ((n : Int) * 8) % 18446744073709551616 = ((8 * n : Nat) : Int) from by omega)
 have hn := Lib.hid hn
 clear hb hc
 go_wp2
 first | rw [hw.out] | skip
 try simp only [Act.put]
 exact hend _ sS sP
theorem ren_r2 (w0 : World) (L : List Res) (S : Held w0 w L) (hsz : a.tmps.size = 35) 
 (hend : ∀ a' W, Same a a' [10, 4] → (∃ A c, Sl a' 4 (.slice A 1 c) ∧ Held w0 W (rowR 5 1 (.slice A 1 c) 1 (bv [128]) :: L)) → Q .normal a' W) : (Code.region 2 (opsOf 2 Tryd.f68).toArray false).wp Tryd.prog Q a w := by
 refine wp_region_lit ?_
 (conv => arg 4; whnf)
 have S1 := Lib.hid (S.rownew (ow_new w 5 1 1 #[.int .u8 128] rfl (by decide)) ((Kp.refl [] w).alloc _) (fun g hg => Nat.le_of_eq (Option.some.inj hg)))
 go_wp2
 try simp only [Act.put]
 exact hend _ _ sS (⟨_, _, sP0, S1.out⟩)
theorem ren_r3 (g m p cm cp : Nat) (Am Ap : Option Addr) (cs : Array Value) (hc : cs[9]? = some (.slice Am m cm)) (hb : Blk w g 113 cs) (hm : m < 1000) (hp : p < 1000) (hsz : a.tmps.size = 35) (o1 : Sl a 1 (.pointer (some ⟨g, 0, none⟩))) (o4 : Sl a 4 (.slice Ap p cp))
 (hend : ∀ a', Same a a' [11, 12, 13, 14, 15, 16, 17, 18, 19] → Sl a' 19 (.bool ((((m + p + 8) % 64 : Nat) : Int) != 0)) → Q .normal a' (w)) : (Code.region 3 (opsOf 3 Tryd.f68).toArray false).wp Tryd.prog Q a w := by
 refine wp_region_lit ?_
 (conv => arg 4; whnf)
 unfold Sl at o1 o4
 have c1 : w.cell? ⟨g, 9, none⟩ = some (.slice Am m cm) := by rw [hb.cell]; exact hc
 have hw1 : wrap64 ((m : Int) + (p : Int)) = (m : Int) + (p : Int) := by unfold wrap64; omega
 have hw2 : wrap64 ((m : Int) + (p : Int) + 8) = ((m + p + 8 : Nat) : Int) := by unfold wrap64; omega
 have ht : Int.tmod ((m + p + 8 : Nat) : Int) 64 = (((m + p + 8) % 64 : Nat) : Int) := rfl
 obtain ⟨q, hq⟩ : ∃ q, (m + p + 8) % 64 = q := ⟨_, rfl⟩
 rw [hq] at ht hend
 obtain ⟨s, hs⟩ : ∃ s, m + p + 8 = s := ⟨_, rfl⟩
 rw [hs] at ht hw2
 clear hb hc hq hs hm hp
 go_wp2_with fail
 try simp only [Act.put]
 exact hend _ sS sP
theorem ren_r4 (w0 : World) (A : Option Addr) (c : Nat) (xs : List UInt8) (hx : xs.length ≤ 1000) (L : List Res) (S : Held w0 w (rowR 5 1 (.slice A xs.length c) xs.length (bv xs) :: L)) (hsz : a.tmps.size = 35) (o4 : Sl a 4 (.slice A xs.length c))
 (hend : ∀ a' W, Same a a' [20, 21, 22, 4] → (∃ A c, Sl a' 4 (.slice A (xs ++ [0]).length c) ∧ Held w0 W (rowR 5 1 (.slice A (xs ++ [0]).length c) (xs ++ [0]).length (bv (xs ++ [0])) :: L)) → Q .normal a' W) : (Code.region 4 (opsOf 4 Tryd.f68).toArray false).wp Tryd.prog Q a w := by
 refine wp_region_lit ?_
 (conv => arg 4; whnf)
 unfold Sl at o4
 have S1 := Lib.hid (S.alloc (.cells #[.int .u8 0] 5))
 have HR := Lib.hid (rd_lit w 5 #[.int .u8 0] [0] rfl (by simp))
 have Hx := Lib.hid hx
 clear S hx
 obtain ⟨nx, hnx⟩ : ∃ nx, xs.length = nx := ⟨_, rfl⟩
 have Hnx := Lib.hid hnx
 rw [hnx] at o4
 clear hnx
 go_wp2_with (at_builtin; refine app_held [] rfl (.tmp 20) (.tmp 21) rfl (.slice A nx c) xs (by simp [Act.eval, hsz]) (by rw [← Hnx.out]; exact S1.out) (.slice (some ⟨w.heap.size, 0, none⟩) 1 1) [0] (by simp [Act.eval, hsz]) HR.out (by have := Hx.out; simp; omega) ?_; intro v2 w2 S2; have S2 := Lib.hid S2; obtain ⟨A2, c2, hv2, _, _⟩ := ow_form (S2.out.at_ (l1 := [])); subst hv2)
 try simp only [Act.put]
 exact hend _ _ sS (⟨A2, c2, sP0, S2.out⟩)
theorem ren_r5 (w0 : World) (g1 n N cx cr : Nat) (Ax Ar : Option Addr) (st : List Nat) (xs r : List UInt8) (v : Value) (hv : v = .slice Ar r.length cr) (hs : st.length = 8) (hst : Ws st) (hx : xs.length ≤ 1000) (hr1 : r.length ≤ 1000) (hn : n < 1152921504606846976) (L : List Res) (r0 : Res) (hr0 : r0 ∈ L) (HB : ∀ V, r0.ok V → Rd V 1 v r.length (bv r)) (hsz : a.tmps.size = 35) (o1 : Sl a 1 (.pointer (some ⟨g1, 0, none⟩))) (o3 : Sl a 3 (.int .u64 (N : Int))) (o4 : Sl a 4 (.slice Ax xs.length cx))
 (S0 : Held w0 w (rowR 5 1 (.slice Ax xs.length cx) xs.length (bv xs) :: blkR g1 113 (undA st n v) :: L))
 (hend : ∀ (a' : Act) (vs : Nat → Value) (gs : Nat → (Option Addr × Nat × Value)) (W : World), Same a a' [23, 24, 25, 26, 27, 28] → Held w0 W (rowR 5 1 (vs 3) 8 (bv (be 8 N)) :: rowR 5 1 (vs 4) (xs ++ be 8 N).length (bv (xs ++ be 8 N)) :: rowR 5 1 (gs 5).2.2 (r ++ (xs ++ be 8 N)).length (bv (r ++ (xs ++ be 8 N))) :: blkR g1 113 (undA (fB st (r ++ (xs ++ be 8 N)) ((r ++ (xs ++ be 8 N)).length / 64)) (n + (xs ++ be 8 N).length) (.slice (gs 5).1 ((r ++ (xs ++ be 8 N)).length % 64) (gs 5).2.1)) :: L) → Q .normal a' W) : (Code.region 5 (opsOf 5 Tryd.f68).toArray true).wp Tryd.prog Q a w := by
 have hap : apartB (opsOf 5 Tryd.f68) = true := by kernel_rfl
 refine wp_region_sep (Γ := (Option Addr × Nat × Value)) (l := (opsOf 5 Tryd.f68)) 3 [0, 1, 2, 3, 4, 5, 6, 9]
  (fun i vs gs => match i with | 0 => vs 0 = .agg (undA st n v) | 1 => vs 1 = .slice Ax xs.length cx | 2 => vs 2 = .int .u64 (N : Int) | 3 => ∃ A c, vs 3 = .slice A 8 c | 4 => ∃ A c, vs 4 = .slice A (xs ++ be 8 N).length c | 5 => vs 5 = .agg (undA (fB st (r ++ (xs ++ be 8 N)) ((r ++ (xs ++ be 8 N)).length / 64)) (n + (xs ++ be 8 N).length) (.slice (gs 5).1 ((r ++ (xs ++ be 8 N)).length % 64) (gs 5).2.1)) | _ => True)
  (fun i vs gs => match i with | 3 => [rowR 5 1 (vs 3) 8 (bv (be 8 N))] | 4 => [rowR 5 1 (vs 4) (xs ++ be 8 N).length (bv (xs ++ be 8 N))] | 5 => [rowR 5 1 (gs 5).2.2 (r ++ (xs ++ be 8 N)).length (bv (r ++ (xs ++ be 8 N)))] | 6 => [blkR g1 113 (undA (fB st (r ++ (xs ++ be 8 N)) ((r ++ (xs ++ be 8 N)).length / 64)) (n + (xs ++ be 8 N).length) (.slice (gs 5).1 ((r ++ (xs ++ be 8 N)).length % 64) (gs 5).2.1))] | 7 => [rowR 5 1 (.slice Ax xs.length cx) xs.length (bv xs)] | 8 => [blkR g1 113 (undA st n v)] | 9 => L | _ => [])
  (fun i => match i with | 4 => [7] | 6 => [8] | _ => []) (fun i => match i with | 0 => [8] | 4 => [3] | 5 => [4, 9] | _ => []) S0 (by kernel_rfl) hap (by kernel_rfl) (by kernel_rfl) (fun i => match i with | 0 => [0] | 1 => [1] | 2 => [2] | 3 => [3] | 4 => [4] | 5 => [5] | 6 => [5] | _ => []) (by kernel_rfl) ?_ (by kernel_rfl) ?_ ?_ ?_
 · intro s vs vs' gs gs' h
   iterate 10 (rcases s with _ | s; · (first | exact ⟨rfl, id⟩ | (simp only [List.mem_cons, List.not_mem_nil, or_false, forall_eq] at h; simp [h])))
   exact ⟨rfl, id⟩
 · simp only [List.range, List.range.loop, List.flatMap_cons, List.flatMap_nil, List.append_nil]
   exact List.Perm.refl _
 · clear S0 hend
   refine ⟨?_, ?_, ?_, ?_, ?_, ?_, ?_, trivial⟩
   · intro vs gs A' W LF hA S hR hd hu K hK; replace hK := hK default; have e1 := sO 1 o1 hA hap hsz; clear hA o1 o3 o4
     refine op_runs (v := .agg (undA st n v)) (w' := W) (exec_load rfl (by simpa [Act.eval] using e1) (run_loadAt_agg W ⟨g1, 0, none⟩ 113 (undA st n v).toList _ (Blk.agg (show Blk W g1 113 (undA st n v) from S.ok (blkR g1 113 (undA st n v)) (hR 8 (List.mem_singleton.2 rfl) _ (List.mem_singleton.2 rfl)))) Tryd.underlying113 rfl (by rw [Array.length_toList, undA_size hs]; exact Tryd.infoUnder))) ?_
     exact hK _ _ S rfl
   · intro vs gs A' W LF hA S hR hd hu K hK; replace hK := hK default; have e4 := sO 4 o4 hA hap hsz; clear hA o1 o3 o4; go_step; exact hK _ _ S rfl
   · intro vs gs A' W LF hA S hR hd hu K hK; replace hK := hK default; have e3 := sO 3 o3 hA hap hsz; clear hA o1 o3 o4; go_step; exact hK _ _ S rfl
   · intro vs gs A' W LF hA S hR hd hu K hK; replace hK := hK default; have e25 := sV 25 (hd 2 (by kernel_rfl)) hA hap hsz; clear hA o1 o3 o4; go_step
     refine (reight_any w0 LF N _ S).mono ?_
     rintro e w' ⟨u, rfl, S2⟩
     obtain ⟨A1, c1, hu, _, _⟩ := ow_form (S2.at_ (l1 := []))
     exact hK _ _ S2 ⟨A1, c1, hu⟩
   · intro vs gs A' W LF hA S hR hd hu K hK; replace hK := hK default; have e24 := sV 24 (hd 1 (by kernel_rfl)) hA hap hsz; have f3 : ∃ A c, vs 3 = .slice A 8 c := hd 3 (by kernel_rfl)
     have e26 := sU 26 3 hA hap hsz
     clear hA o1 o3 o4
     have h3 := rd_of_row (e := 5) S (List.mem_cons_of_mem _ (hR 3 (List.mem_singleton.2 rfl) _ (List.mem_singleton.2 rfl)))
     refine op_app (.tmp 24) (.tmp 26) 22 5 rfl Tryd.infoU8 Tryd.underlying22 rfl (by decide) (.slice Ax xs.length cx) xs.length (bv xs) (by simpa [Act.eval] using e24) S (vs 3) 8 (bv (be 8 N)) (by simpa [Act.eval] using e26) h3 (bv_one _) (by unfold maxLen; omega) (by omega) (fun v' w' S' => ?_)
     rw [← bv_append, show xs.length + 8 = (xs ++ be 8 N).length from by simp] at S'
     obtain ⟨A1, c1, hu, _, _⟩ := ow_form (S'.at_ (l1 := []))
     exact hK v' w' S' ⟨A1, c1, hu⟩
   · intro vs gs A' W LF hA S hR hd hu K hK; have e23 := sV 23 (hd 0 (by kernel_rfl)) hA hap hsz; have f4 : ∃ A c, vs 4 = .slice A (xs ++ be 8 N).length c := hd 4 (by kernel_rfl)
     have e27 := sU 27 4 hA hap hsz
     clear hA o1 o3 o4
     obtain ⟨A1, c1, hq⟩ := f4
     rw [hq] at e27
     have h4 : rowR 5 1 (vs 4) (xs ++ be 8 N).length (bv (xs ++ be 8 N)) ∈ LF := hR 4 (List.mem_cons_self ..) _ (List.mem_singleton.2 rfl)
     have h9 : r0 ∈ LF := hR 9 (List.mem_cons_of_mem _ (List.mem_singleton.2 rfl)) r0 hr0
     rw [hq] at h4
     have HT := rtake_any w0 LF st n hs hst Ar A1 cr c1 r (xs ++ be 8 N) (by simp; omega) (by simp; omega) W S (fun V L' SV => by have := HB V (SV.ok r0 (List.mem_append_right _ h9)); rw [hv] at this; exact this) (fun V L' SV => Rd.of_own (SV.ok _ (List.mem_append_right _ h4)))
     rw [← hv] at HT
     generalize hca : undA st n v = ca at *
     generalize hln : (xs ++ be 8 N).length = ln at *
     go_step
     refine HT.mono ?_
     rintro e w' ⟨A2, c2, u, rfl, S2, H2⟩
     subst hln
     exact hK (A2, c2, u) _ _ S2 rfl
   · intro vs gs A' W LF hA S hR hd hu K hK; have e1 := sO 1 o1 hA hap hsz; have e28 := sV 28 (hd 5 (by kernel_rfl)) hA hap hsz; clear hA o1 o3 o4
     have S1 : Held w0 W (blkR g1 113 (undA st n v) :: LF) := S
     have hsz2 : (undA (fB st (r ++ (xs ++ be 8 N)) ((r ++ (xs ++ be 8 N)).length / 64)) (n + (xs ++ be 8 N).length) (.slice (gs 5).1 ((r ++ (xs ++ be 8 N)).length % 64) (gs 5).2.1)).size = 10 := undA_size (fB_length hs _ _)
     refine op_store_part (.tmp 1) (.tmp 28) 113 rfl g1 0 (by simpa [Act.eval] using e1) (undA (fB st (r ++ (xs ++ be 8 N)) ((r ++ (xs ++ be 8 N)).length / 64)) (n + (xs ++ be 8 N).length) (.slice (gs 5).1 ((r ++ (xs ++ be 8 N)).length % 64) (gs 5).2.1)) (by simpa [Act.eval] using e28) 113 _ (S1.at_ (l1 := [])) (by rw [hsz2]; exact Tryd.infoUnder) (by rw [hsz2, undA_size hs]; exact Nat.le_refl _) (undA_one rfl) (fun w' hbk k => hK default undef _ ?_ trivial)
     rw [set_all _ _ (by rw [hsz2, undA_size hs])] at hbk
     exact Held.setBlk (l1 := []) S1 hbk k
 · intro vs gs W S hp
   have S : Held w0 W (rowR 5 1 (vs 3) 8 (bv (be 8 N)) :: rowR 5 1 (vs 4) (xs ++ be 8 N).length (bv (xs ++ be 8 N)) :: rowR 5 1 (gs 5).2.2 (r ++ (xs ++ be 8 N)).length (bv (r ++ (xs ++ be 8 N))) :: blkR g1 113 (undA (fB st (r ++ (xs ++ be 8 N)) ((r ++ (xs ++ be 8 N)).length / 64)) (n + (xs ++ be 8 N).length) (.slice (gs 5).1 ((r ++ (xs ++ be 8 N)).length % 64) (gs 5).2.1)) :: L) := by simpa only [List.flatMap_cons, List.flatMap_nil, List.append_nil, List.nil_append, List.cons_append, List.append_assoc] using S
   rw [putAll_eq]
   exact hend _ vs gs W sQ  S
theorem ren_r6 (w0 : World) (L : List Res) (S : Held w0 w L) (hsz : a.tmps.size = 35) 
 (hend : ∀ a' W, Same a a' [5] → (∃ g, Sl a' 5 (.pointer (some ⟨g, 0, none⟩)) ∧ Held w0 W (blkR g 25 (hashA (List.replicate 32 0)) :: L)) → Q .normal a' W) : (Code.region 6 (opsOf 6 Tryd.f68).toArray false).wp Tryd.prog Q a w := by
 refine wp_region_lit ?_
 (conv => arg 4; whnf)
 have S0 := Lib.hid (S.newBlk 25 (hashA (List.replicate 32 0)))
 go_wp2
 try simp only [Act.put]
 exact hend _ _ sS (⟨w.heap.size, sP0, S0.out⟩)
theorem ren_r7 (w0 : World) (g1 g5 n : Nat) (st : List Nat) (v : Value) (hs : st.length = 8) (L : List Res) (hsz : a.tmps.size = 35) (o1 : Sl a 1 (.pointer (some ⟨g1, 0, none⟩))) (o5 : Sl a 5 (.pointer (some ⟨g5, 0, none⟩)))
 (S0 : Held w0 w (blkR g5 25 (hashA (List.replicate 32 0)) :: blkR g1 113 (undA st n v) :: L))
 (hend : ∀ (a' : Act) (vs : Nat → Value) (gs : Nat → Unit) (W : World), Same a a' [29, 30, 31, 32, 33] → Held w0 W (rowR 5 1 (vs 3) 32 (bv (st.flatMap (be 4))) :: blkR g5 25 (hashA (st.flatMap (be 4))) :: blkR g1 113 (undA st n v) :: L) → Q .normal a' W) : (Code.region 7 (opsOf 7 Tryd.f68).toArray true).wp Tryd.prog Q a w := by
 have hap : apartB (opsOf 7 Tryd.f68) = true := by kernel_rfl
 refine wp_region_sep (Γ := Unit) (l := (opsOf 7 Tryd.f68)) 3 [0, 1, 2, 3, 4, 6, 7]
  (fun i vs gs => match i with | 0 => vs 0 = .slice (some ⟨g5, 0, none⟩) 32 32 | 1 => vs 1 = .pointer (some ⟨g1, 0, none⟩) | 2 => vs 2 = .agg (u32A st) | 3 => ∃ A c, vs 3 = .slice A 32 c | _ => True)
  (fun i vs gs => match i with | 3 => [rowR 5 1 (vs 3) 32 (bv (st.flatMap (be 4)))] | 4 => [blkR g5 25 (hashA (st.flatMap (be 4)))] | 5 => [blkR g5 25 (hashA (List.replicate 32 0))] | 6 => [blkR g1 113 (undA st n v)] | 7 => L | _ => [])
  (fun i => match i with | 4 => [5] | _ => []) (fun i => match i with | 2 => [6] | 4 => [3] | _ => []) S0 (by kernel_rfl) hap (by kernel_rfl) (by kernel_rfl) (fun i => match i with | 0 => [0] | 1 => [1] | 2 => [2] | 3 => [3] | _ => []) (by kernel_rfl) ?_ (by kernel_rfl) ?_ ?_ ?_
 · intro s vs vs' gs gs' h
   iterate 8 (rcases s with _ | s; · (first | exact ⟨rfl, id⟩ | (simp only [List.mem_cons, List.not_mem_nil, or_false, forall_eq] at h; simp [h])))
   exact ⟨rfl, id⟩
 · simp only [List.range, List.range.loop, List.flatMap_cons, List.flatMap_nil, List.append_nil]
   exact List.Perm.refl _
 · clear S0 hend
   refine ⟨?_, ?_, ?_, ?_, ?_, trivial⟩
   · intro vs gs A' W LF hA S hR hd hu K hK; replace hK := hK default; have e5 := sO 5 o5 hA hap hsz; clear hA o1 o5; go_step; exact hK _ _ S rfl
   · intro vs gs A' W LF hA S hR hd hu K hK; replace hK := hK default; have e1 := sO 1 o1 hA hap hsz; clear hA o1 o5; go_step; exact hK _ _ S rfl
   · intro vs gs A' W LF hA S hR hd hu K hK; replace hK := hK default; have e30 := sV 30 (hd 1 (by kernel_rfl)) hA hap hsz; clear hA o1 o5
     refine op_runs (v := .agg (u32A st)) (w' := W) (exec_load rfl (by simpa [Act.eval] using e30) (run_loadAt_agg W ⟨g1, 0, none⟩ 111 (u32A st).toList _ (und_stateAt (show Blk W g1 113 (undA st n v) from S.ok (blkR g1 113 (undA st n v)) (hR 6 (List.mem_singleton.2 rfl) _ (List.mem_singleton.2 rfl))) hs) Tryd.underlying111 rfl (by rw [Array.length_toList, u32A_size, hs]; exact Tryd.info8w))) ?_
     exact hK _ _ S rfl
   · intro vs gs A' W LF hA S hR hd hu K hK; replace hK := hK default; have e31 := sV 31 (hd 2 (by kernel_rfl)) hA hap hsz; clear hA o1 o5
     generalize hca : u32A st = ca at *
     go_step
     rw [← hca]
     refine (rwords_any w0 LF st hs _ S).mono ?_
     rintro e w' ⟨u, rfl, S2⟩
     obtain ⟨A1, c1, hu, _, _⟩ := ow_form (S2.at_ (l1 := []))
     exact hK _ _ S2 ⟨A1, c1, hu⟩
   · intro vs gs A' W LF hA S hR hd hu K hK; replace hK := hK default; have e29 := sV 29 (hd 0 (by kernel_rfl)) hA hap hsz; have f3 : ∃ A c, vs 3 = .slice A 32 c := hd 3 (by kernel_rfl)
     have e32 := sU 32 3 hA hap hsz
     clear hA o1 o5
     have S1 : Held w0 W (blkR g5 25 (hashA (List.replicate 32 0)) :: LF) := S
     have h3 := rd_of_row (e := 5) S1 (List.mem_cons_of_mem _ (hR 3 (List.mem_singleton.2 rfl) _ (List.mem_singleton.2 rfl)))
     have hfl : (st.flatMap (be 4)).length = 32 := by rw [flat4, hs]
     refine op_copy_blk (.tmp 29) (.tmp 32) 22 22 rfl 5 Tryd.underlying22 (by kernel_rfl) g5 0 32 32 (by simpa [Act.eval] using e29) _ (by simpa [Act.eval] using e32) 32 (bv (st.flatMap (be 4))) h3 25 _ (S1.at_ (l1 := [])) (by rw [hashA_size]; exact Nat.le_refl _) (bv_one _) 32 rfl (fun w' hbk k => hK _ _ ?_ trivial)
     rw [List.take_of_length_le (by rw [bv_length]; omega), show (splice (hashA (List.replicate 32 0)).toList 0 (bv (st.flatMap (be 4)))).toArray = hashA (st.flatMap (be 4)) from by unfold splice; rw [List.take_zero, List.nil_append, List.drop_of_length_le (by rw [bv_length, hfl]; exact Nat.le_refl _), List.append_nil]; rfl] at hbk
     exact Held.setBlk (l1 := []) S1 hbk k
 · intro vs gs W S hp
   have S : Held w0 W (rowR 5 1 (vs 3) 32 (bv (st.flatMap (be 4))) :: blkR g5 25 (hashA (st.flatMap (be 4))) :: blkR g1 113 (undA st n v) :: L) := by simpa only [List.flatMap_cons, List.flatMap_nil, List.append_nil, List.nil_append, List.cons_append, List.append_assoc] using S
   rw [putAll_eq]
   exact hend _ vs gs W sQ  S
theorem ren_r8 (w0 : World) (g5 g2 : Nat) (cs c2 : List UInt8) (hl : cs.length = 32) (h2 : c2.length = 32) (L1 L2 L3 : List Res) (S : Held w0 w (L1 ++ blkR g5 25 (hashA cs) :: (L2 ++ blkR g2 25 (hashA c2) :: L3))) (hsz : a.tmps.size = 35) (o2 : Sl a 2 (.pointer (some ⟨g2, 0, none⟩))) (o5 : Sl a 5 (.pointer (some ⟨g5, 0, none⟩)))
 (hend : ∀ a' W, Same a a' [34] → (Held w0 W ((L1 ++ blkR g5 25 (hashA cs) :: L2) ++ blkR g2 25 (hashA cs) :: L3)) → Q .normal a' W) : (Code.region 8 (opsOf 8 Tryd.f68).toArray false).wp Tryd.prog Q a w := by
 refine wp_region_lit ?_
 (conv => arg 4; whnf)
 unfold Sl at o2 o5
 have S := Lib.hid S
 have HL := Lib.hid hl
 have H2 := Lib.hid h2
 clear hl h2
 have S' : Hid (Held w0 w ((L1 ++ blkR g5 25 (hashA cs) :: L2) ++ blkR g2 25 (hashA c2) :: L3)) := Lib.hid (by have := S.out; simpa [List.append_assoc] using this)
 go_wp2_with (first
  | (refine wpList_load_blk rfl 25 (.tmp 5) rfl g5 (by simp [Act.eval, Act.put, hsz, o5]) 25 _ S.out.at_ _ Tryd.underlying25 rfl (by rw [hashA_size, HL.out]; exact Tryd.infoHashP) ?_)
  | (refine wpList_store_blk rfl 25 (.tmp 2) (.tmp 34) rfl g2 (by simp [Act.eval, Act.put, hsz, o2]) (hashA cs) (by simp [Act.eval, Act.put, hsz]) 25 _ S'.out.at_ (by rw [hashA_size, HL.out]; exact Tryd.infoHashP) (by rw [hashA_size, hashA_size, HL.out, H2.out]) (hashA_one cs) ?_; intro w7 b7 k7; have S7 := Lib.hid (Held.setBlk S'.out b7 k7); clear b7 k7))
 try simp only [Act.put]
 exact hend _ _ sS (S7.out)
def dsEn : List Nat := [4, 11, 12, 13, 14, 15, 16, 17, 18, 19, 20, 21, 22]
def padB (j : Nat) : List UInt8 := 128 :: List.replicate j 0
theorem padB_length (j : Nat) : (padB j).length = 1 + j := by unfold padB; simp; omega
theorem padB_next (j : Nat) : padB j ++ [0] = padB (j + 1) := by unfold padB; rw [List.cons_append, ← List.replicate_succ']
theorem padR (m r j : Nat) (hr : r = m % 64) : ((r + (1 + j) + 8) % 64 = 0) ↔ ((m + 1 + j) % 64 = 56) := by omega
theorem rend_any (w0 : World) (L : List Res) (m : List UInt8) (hm : m.length < 1152921504606846976) (A : Option Addr) (c : Nat) (r0 : Res) (hr0 : r0 ∈ L) (w : World) (S : Held w0 w L)
 (HB : ∀ V, r0.ok V → Rd V 1 (.slice A (m.length % 64) c) (m.length % 64) (bv (m.drop (64 * (m.length / 64))))) :
 Calls Tryd.prog 68 #[.agg (undA (shaN m (m.length / 64)) m.length (.slice A (m.length % 64) c))] w fun e w' => e = .returned (.agg (hashA (shaF m))) ∧ Held w0 w' L := by
 have hs := shaN_length m (m.length / 64)
 have hst := shaN_lt m (m.length / 64)
 obtain ⟨rr, hrr⟩ : ∃ rr, m.drop (64 * (m.length / 64)) = rr := ⟨_, rfl⟩
 have hrl : rr.length = m.length % 64 := by rw [← hrr, List.length_drop]; omega
 have hr64 : rr.length < 64 := by omega
 rw [hrr, ← hrl] at HB
 rw [← hrl]
 refine calls_fr Tryd.func68 rfl 35 rfl (fun a0 hsz hdf hAr => ?_)
 have hz0 : a0.tmps.size = 35 := hsz
 have D := hdf
 have o0 := hAr 0 _ rfl
 refine wp_seq (ren_r0 w0 _ _ _ _ S hz0 o0 (fun a1 w1 hs1 h => ?_))
 have hz1 := hs1.size.trans hz0; have D := hs1.defers.trans D
 obtain ⟨g1, g2, o1, o2, S⟩ := h
 have S := S.perm (List.Perm.swap _ _ _)
 refine wp_seq (ren_r1 g1 _ _ (undA_len hs) (S.at_ (l1 := [])) hm hz1 o1 (fun a2 hs2 o3 => ?_))
 have hz2 := hs2.size.trans hz1; have o1 := hs2.k o1; have o2 := hs2.k o2; have D := hs2.defers.trans D
 refine wp_seq (ren_r2 w0 _ S hz2 (fun a3 w3 hs3 h => ?_))
 have hz3 := hs3.size.trans hz2; have o1 := hs3.k o1; have o2 := hs3.k o2; have o3 := hs3.k o3; have D := hs3.defers.trans D
 obtain ⟨Ap, cp, o4, S⟩ := h
 refine wp_seq (wp_block ?_)
 (conv => arg 2; whnf)
 refine wp_loop (fun a' w' => ∃ (j : Nat) (Ap : Option Addr) (cp : Nat), j ≤ padZ m.length ∧ Same a3 a' dsEn ∧ Sl a' 4 (.slice Ap (padB j).length cp) ∧ Held w0 w' (rowR 5 1 (.slice Ap (padB j).length cp) (padB j).length (bv (padB j)) :: blkR g1 113 (undA (shaN m (m.length / 64)) m.length (.slice A rr.length c)) :: blkR g2 25 (hashA (List.replicate 32 0)) :: L)) (fun a' _ => 65 - lenV (a'.eval (.tmp 4))) ⟨0, Ap, cp, by omega, Same.refl _ _, o4, S⟩ ?_
 clear o4 S
 rintro a1 w1 ⟨j, Ap, cp, hj, T, o4, S⟩
 have hz1 := T.size.trans hz3
 have o1 := T.keep 1 _ (by decide) o1
 have o2 := T.keep 2 _ (by decide) o2
 have o3 := T.keep 3 _ (by decide) o3
 have eCtr := o4.eval (by rw [hz1]; decide)
 have hpl := padB_length j
 have hpz := (padZ_spec m.length).2
 have hiff := padR m.length rr.length j hrl
 refine wp_seq (wp_seq (ren_r3 g1 rr.length _ c cp A Ap _ (undA_rest hs) (S.at_ (l1 := [_])) (by omega) (by rw [hpl]; omega) hz1 o1 o4 (fun a2 hs2 o19 => ?_)))
 have hz2 := hs2.size.trans hz1; have o1 := hs2.k o1; have o2 := hs2.k o2; have o3 := hs2.k o3; have o4 := hs2.k o4
 have T := T.trans hs2
 rw [hpl] at o19
 by_cases hlt : (rr.length + (1 + j) + 8) % 64 = 0
 · refine wp_cond_false ((o19.eval (by rw [hz2]; decide)).trans (by rw [hlt]; rfl)) (wp_exit ?_)
   obtain rfl := padZ_end _ _ (hiff.1 hlt) hj
   have D2 := T.defers.trans D
   refine wp_seq (ren_r5 w0 g1 m.length (8 * m.length) cp c Ap A _ (padB (padZ m.length)) rr (.slice A rr.length c) rfl hs hst (by rw [hpl]; omega) (by omega) hm (blkR g2 25 (hashA (List.replicate 32 0)) :: L) r0 (List.mem_cons_of_mem _ hr0) HB hz2 o1 o3 o4 S (fun a3 vs5 gs5 w5 hs3 S => ?_))
   have hz3 := hs3.size.trans hz2; have o1 := hs3.k o1; have o2 := hs3.k o2
   have D2 := hs3.defers.trans D2
   have hal : m ++ (padB (padZ m.length) ++ be 8 (8 * m.length)) = pad m := by unfold pad padB; rfl
   have hpm := pad_mod m
   have hpl2 : (pad m).length = 64 * (m.length / 64) + (rr ++ (padB (padZ m.length) ++ be 8 (8 * m.length))).length := by
    rw [← hal]
    simp only [List.length_append]
    omega
   have hst2 : fB (shaN m (m.length / 64)) (rr ++ (padB (padZ m.length) ++ be 8 (8 * m.length))) ((rr ++ (padB (padZ m.length) ++ be 8 (8 * m.length))).length / 64) = shaN (pad m) ((pad m).length / 64) := by
    rw [← hrr, fB_go (by omega), hal, hrr]
    congr 1
    omega
   rw [hst2] at S
   have hs2 := shaN_length (pad m) ((pad m).length / 64)
   refine wp_seq (ren_r6 w0 _ S hz3 (fun a4 w6 hs4 h => ?_))
   have hz4 := hs4.size.trans hz3; have o1 := hs4.k o1; have o2 := hs4.k o2
   have D2 := hs4.defers.trans D2
   obtain ⟨g5, o5, S⟩ := h
   have S := S.perm (List.Perm.cons _ (List.perm_middle (l₁ := [_, _, _])))
   refine wp_seq (ren_r7 w0 g1 g5 _ _ _ hs2 _ hz4 o1 o5 S (fun a5 vs7 gs7 w7 hs5 S => ?_))
   have hz5 := hs5.size.trans hz4; have o1 := hs5.k o1; have o2 := hs5.k o2; have o5 := hs5.k o5
   have D2 := hs5.defers.trans D2
   have ef : (shaN (pad m) ((pad m).length / 64)).flatMap (be 4) = shaF m := rfl
   rw [ef] at S
   refine wp_seq (ren_r8 w0 g5 g2 _ _ (shaF_length m) rfl [_] [_, _, _, _] _ S hz5 o2 o5 (fun a6 w8 hs6 S => ?_))
   have hz6 := hs6.size.trans hz5; have o1 := hs6.k o1; have o2 := hs6.k o2; have o5 := hs6.k o5
   have D2 := hs6.defers.trans D2
   refine wp_ret (bodyPost_ret (results_cell1 (by rfl) (o2.eval (by rw [hz6]; decide)) (S.at_ (l1 := [_, _, _, _, _, _])) Tryd.underlying25 rfl (by rw [hashA_size, shaF_length]; exact Tryd.infoHashP)) D2 ⟨rfl, ?_⟩)
   exact S.drop.drop.drop.drop.drop.drop.drop
 · refine wp_cond_true ((o19.eval (by rw [hz2]; decide)).trans (by rw [bne_iff_ne.2 (by omega)])) (wp_skip ?_)
   have hjl := padZ_le _ _ (fun h => hlt (hiff.2 h)) hj
   refine wp_block ?_
   refine ren_r4 w0 Ap cp _ (by rw [hpl]; omega) _ S hz2 o4 (fun a3 w4 hs3 h => ?_)
   have hz3 := hs3.size.trans hz2; have o1 := hs3.k o1; have o2 := hs3.k o2; have o3 := hs3.k o3
   have T := T.trans hs3
   obtain ⟨A2, c2, o4, S⟩ := h
   rw [padB_next] at o4 S
   refine ⟨⟨j + 1, A2, c2, hjl, T.more (by decide +kernel), o4, S⟩, ?_⟩
   show 65 - lenV _ < 65 - lenV _
   rw [eCtr, o4.eval (by rw [hz3]; decide)]
   show 65 - (padB (j + 1)).length < 65 - (padB j).length
   rw [padB_length, padB_length]
   omega
theorem rsha_any (w0 : World) (L : List Res) (A : Option Addr) (c : Nat) (m : List UInt8) (hm : m.length ≤ 140737488355328) (w : World) (S : Held w0 w L) (HX : ∀ V L', Held w0 V (L' ++ L) → Rd V 1 (.slice A m.length c) m.length (bv m)) :
 Calls Tryd.prog 42 #[.slice A m.length c] w fun e w' => e = .returned (.agg (hashA (shaF m))) ∧ Held w0 w' L := by
 have HX := Lib.hid HX
 have S0 := Lib.hid (S.newBlk 25 (hashA (List.replicate 32 0)))
 clear S
 have HT : Hid (∀ V, Held w0 V (blkR w.heap.size 25 (hashA (List.replicate 32 0)) :: L) → Calls Tryd.prog 67 #[.agg (undA hF 0 (.slice none 0 0)), .slice A m.length c] V (TkPost w0 (blkR w.heap.size 25 (hashA (List.replicate 32 0)) :: L) hF 0 m m.length)) := Lib.hid (fun V SV => rtake_any w0 _ hF 0 rfl hF_lt none A 0 c [] m (by simpa using hm) (by omega) V SV (fun V' L' _ => Rd.nil _ _) (fun V' L' SV' => HX.out V' (L' ++ [_]) (by rw [List.append_assoc]; exact SV')))
 generalize hg2 : w.heap.size = g2 at *
 obtain ⟨ch, hch⟩ : ∃ ch, Hid (undA hF 0 (.slice none 0 0) = ch) := ⟨_, Lib.hid rfl⟩
 have HN := Lib.hid rnew_any
 rw [hch.out] at HT HN
 have hO := Lib.hid (hashA_one (shaF m))
 have hsz1 : Hid ((hashA (shaF m)).size = 32) := Lib.hid (by rw [hashA_size, shaF_length])
 have HE : Hid (∀ V A c v, Held w0 V (rowR 5 1 v m.length (bv m) :: blkR g2 25 (hashA (List.replicate 32 0)) :: L) → (∀ V, (rowR 5 1 v m.length (bv m)).ok V → Rd V 1 (.slice A (m.length % 64) c) (m.length % 64) (bv (m.drop (64 * (m.length / 64))))) →
  Calls Tryd.prog 68 #[.agg (undA (fB hF m (m.length / 64)) (0 + m.length) (.slice A (m.length % 64) c))] V fun e w' => e = .returned (.agg (hashA (shaF m))) ∧ Held w0 w' (rowR 5 1 v m.length (bv m) :: blkR g2 25 (hashA (List.replicate 32 0)) :: L)) := Lib.hid (fun V A c v SV HB => by
  rw [fB_hF, Nat.zero_add]
  exact rend_any w0 _ m (by omega) A c _ (List.mem_cons_self ..) V SV HB)
 obtain ⟨cq, hcq⟩ : ∃ cq, Hid (hashA (shaF m) = cq) := ⟨_, Lib.hid rfl⟩
 rw [hcq.out] at HE hO hsz1 ⊢
 generalize hln : m.length = ml at *
 go_enter Tryd.func42, Tryd.ntmps42
 go_wp2_with fail
 refine (HN.out _).mono ?_
 rintro e w2 ⟨rfl, k2⟩
 have S2 := Lib.hid (S0.out.kp k2)
 clear k2
 go_wp2_with fail
 refine (HT.out _ S2.out).mono ?_
 rintro e w3 ⟨A3, c3, v3, rfl, S3, H3⟩
 rw [hln] at S3 H3
 have HE3 := Lib.hid (HE.out w3 A3 c3 v3 S3 H3)
 clear S3 H3
 obtain ⟨cu, hcu⟩ : ∃ cu, undA (fB hF m (ml / 64)) (0 + ml) (.slice A3 (ml % 64) c3) = cu := ⟨_, rfl⟩
 rw [hln, hcu]
 rw [hcu] at HE3
 clear hcu
 go_wp2_with fail
 refine HE3.out.mono ?_
 rintro e w4 ⟨rfl, S4⟩
 have S4 := Lib.hid S4
 go_wp2_with (refine wpList_store_blk rfl 25 (.tmp 2) (.tmp 6) rfl g2 (by simp [Act.eval, Act.put]) cq (by simp [Act.eval, Act.put]) 25 _ (S4.out.at_ (l1 := [_])) (by rw [hsz1.out]; exact Tryd.infoHashP) (by rw [hsz1.out]; rfl) hO.out ?_; intro w5 b5 k5; have S5 := Lib.hid (Held.setBlk (l1 := [_]) S4.out b5 k5); clear b5 k5)
 refine bodyPost_ret (results_cell1 (by rfl) rfl (S5.out.at_ (l1 := [_])) Tryd.underlying25 rfl (by rw [hsz1.out]; exact Tryd.infoHashP)) rfl ?_
 exact ⟨rfl, S5.out.drop.drop⟩
end
/- The reference's Mac. -/
section
variable {Q : Exit → Act → World → Prop} {a : Act} {w : World}
open Go.RowKit
theorem rmc_r0 (w0 : World) (L : List Res) (S : Held w0 w L) (hsz : a.tmps.size = 54) 
 (hend : ∀ a' W, Same a a' [4] → (∃ g, Sl a' 4 (.pointer (some ⟨g, 0, none⟩)) ∧ Held w0 W (blkR g 25 (hashA (List.replicate 32 0)) :: L)) → Q .normal a' W) : (Code.region 0 (opsOf 0 Tryd.f11).toArray false).wp Tryd.prog Q a w := by
 refine wp_region_lit ?_
 (conv => arg 4; whnf)
 have S0 := Lib.hid (S.newBlk 25 (hashA (List.replicate 32 0)))
 go_wp2
 try simp only [Act.put]
 exact hend _ _ sS (⟨w.heap.size, sP0, S0.out⟩)
theorem rmc_r1 (w0 : World) (A : Option Addr) (c : Nat) (s : List UInt8) (hl : s.length ≤ 140737488355328) (L : List Res) (hr : Rd w 1 (.slice A s.length c) s.length (bv s)) (S : Held w0 w L) (hsz : a.tmps.size = 54) (o0 : Sl a 0 (.slice A s.length c))
 (hend : ∀ a' W, Same a a' [11, 12, 5] → (∃ A c, Sl a' 5 (.slice A s.length c) ∧ Held w0 W (rowR 5 1 (.slice A (s).length c) (s).length (bv (s)) :: L)) → Q .normal a' W) : (Code.region 1 (opsOf 1 Tryd.f11).toArray false).wp Tryd.prog Q a w := by
 refine wp_region_lit ?_
 (conv => arg 4; whnf)
 unfold Sl at o0
 have S := Lib.hid S
 have hr := Lib.hid hr
 have hl := Lib.hid hl
 obtain ⟨ns, hns⟩ : ∃ ns, s.length = ns := ⟨_, rfl⟩
 have Hns := Lib.hid hns
 rw [hns] at o0
 clear hns
 go_wp2_with (at_builtin; refine app_new rfl (.const (.slice none 0 0)) (.tmp 11) rfl rfl S.out (.slice A ns c) s (by simp [Act.eval, hsz]) (by rw [← Hns.out]; exact hr.out) hl.out ?_; intro v1 w1 S1; have S1 := Lib.hid S1; obtain ⟨A1, c1, hv1, _, _⟩ := ow_form (S1.out.at_ (l1 := [])); subst hv1)
 try simp only [Act.put]
 exact hend _ _ sS (⟨A1, c1, sP0, S1.out⟩)
theorem rmc_r2 (A : Option Addr) (n c : Nat) (hsz : a.tmps.size = 54) (o5 : Sl a 5 (.slice A n c))
 (hend : ∀ a', Same a a' [13, 14, 15] → Sl a' 15 (.bool (decide (64 < n))) → Q .normal a' (w)) : (Code.region 2 (opsOf 2 Tryd.f11).toArray false).wp Tryd.prog Q a w := by
 refine wp_region_lit ?_
 (conv => arg 4; whnf)
 unfold Sl at o5
 go_wp2_with fail
 try simp only [Act.put]
 exact hend _ sS sP
theorem rmc_r5 (A : Option Addr) (n c : Nat) (hsz : a.tmps.size = 54) (o5 : Sl a 5 (.slice A n c))
 (hend : ∀ a', Same a a' [20, 21, 22] → Sl a' 22 (.bool (decide (n < 64))) → Q .normal a' (w)) : (Code.region 5 (opsOf 5 Tryd.f11).toArray false).wp Tryd.prog Q a w := by
 refine wp_region_lit ?_
 (conv => arg 4; whnf)
 unfold Sl at o5
 go_wp2_with fail
 try simp only [Act.put]
 exact hend _ sS sP
theorem rmc_r3 (w0 : World) (A : Option Addr) (c : Nat) (s : List UInt8) (hl : s.length ≤ 140737488355328) (L : List Res) (S : Held w0 w (rowR 5 1 (.slice A (s).length c) (s).length (bv (s)) :: L)) (hsz : a.tmps.size = 54) (o5 : Sl a 5 (.slice A s.length c))
 (hend : ∀ a' W, Same a a' [16, 17, 6] → (∃ g, Sl a' 6 (.pointer (some ⟨g, 0, none⟩)) ∧ Held w0 W (blkR g 25 (hashA (shaF s)) :: rowR 5 1 (.slice A (s).length c) (s).length (bv (s)) :: L)) → Q .normal a' W) : (Code.region 3 (opsOf 3 Tryd.f11).toArray false).wp Tryd.prog Q a w := by
 refine wp_region_lit ?_
 (conv => arg 4; whnf)
 unfold Sl at o5
 have HR := Lib.hid (rsha_any w0 _ A c s hl w S (fun V L' SV => Rd.of_own SV.at_))
 have hO := Lib.hid (hashA_one (shaF (s)))
 have hsz1 : Hid ((hashA (shaF (s))).size = 32) := Lib.hid (by rw [hashA_size, shaF_length])
 obtain ⟨ch, hch⟩ : ∃ ch, Hid (hashA (shaF (s)) = ch) := ⟨_, Lib.hid rfl⟩
 rw [hch.out] at HR hO hsz1
 obtain ⟨ns, hns⟩ : ∃ ns, s.length = ns := ⟨_, rfl⟩
 have Hns := Lib.hid hns
 rw [hns] at o5 HR
 clear hns; clear S hl
 go_wp2_with fail
 refine HR.out.mono ?_
 rintro e w4 ⟨rfl, S4⟩
 have S4 := Lib.hid (S4.newBlk 25 (hashA (List.replicate 32 0)))
 rw [← Hns.out] at S4
 go_wp2_with (refine wpList_store_blk rfl 25 (.tmp 6) (.tmp 17) rfl w4.heap.size (by simp [Act.eval, Act.put, hsz]) ch (by simp [Act.eval, Act.put, hsz]) 25 _ (S4.out.at_ (l1 := [])) (by rw [hsz1.out]; exact Tryd.infoHashP) (by rw [hsz1.out]; rfl) hO.out ?_; intro w5 b5 k5; have S5 := Lib.hid (Held.setBlk (l1 := []) S4.out b5 k5); clear b5 k5)
 rw [← hch.out] at S5
 try simp only [Act.put]
 exact hend _ _ sS (⟨_, sP0, S5.out⟩)
theorem rmc_r4 (w0 : World) (g6 : Nat) (h : List UInt8) (hh : h.length = 32) (L : List Res) (S : Held w0 w (blkR g6 25 (hashA h) :: L)) (hsz : a.tmps.size = 54) (o6 : Sl a 6 (.pointer (some ⟨g6, 0, none⟩)))
 (hend : ∀ a' W, Same a a' [18, 19, 5] → (∃ A c, Sl a' 5 (.slice A h.length c) ∧ Held w0 W (rowR 5 1 (.slice A (h).length c) (h).length (bv (h)) :: blkR g6 25 (hashA h) :: L)) → Q .normal a' W) : (Code.region 4 (opsOf 4 Tryd.f11).toArray false).wp Tryd.prog Q a w := by
 refine wp_region_lit ?_
 (conv => arg 4; whnf)
 unfold Sl at o6
 have hr := Lib.hid (Rd.of_hash (S.at_ (l1 := [])) hh)
 have S := Lib.hid S
 have hh := Lib.hid hh
 go_wp2_with (at_builtin; refine app_new rfl (.const (.slice none 0 0)) (.tmp 18) rfl rfl S.out (.slice (some ⟨g6, 0, none⟩) 32 32) h (by simp [Act.eval, hsz]) (by rw [hh.out]; exact hr.out) (by rw [hh.out]; decide) ?_; intro v1 w1 S1; have S1 := Lib.hid S1; obtain ⟨A1, c1, hv1, _, _⟩ := ow_form (S1.out.at_ (l1 := [])); subst hv1)
 try simp only [Act.put]
 exact hend _ _ sS (⟨A1, c1, (by unfold Sl; simp [hsz]; exact hh.out.symm), S1.out⟩)
theorem rmc_r6 (w0 : World) (A : Option Addr) (c : Nat) (xs : List UInt8) (hx : xs.length ≤ 1000) (L : List Res) (S : Held w0 w (rowR 5 1 (.slice A (xs).length c) (xs).length (bv (xs)) :: L)) (hsz : a.tmps.size = 54) (o5 : Sl a 5 (.slice A xs.length c))
 (hend : ∀ a' W, Same a a' [23, 24, 25, 5] → (∃ A c, Sl a' 5 (.slice A (xs ++ [0]).length c) ∧ Held w0 W (rowR 5 1 (.slice A (xs ++ [0]).length c) (xs ++ [0]).length (bv (xs ++ [0])) :: L)) → Q .normal a' W) : (Code.region 6 (opsOf 6 Tryd.f11).toArray false).wp Tryd.prog Q a w := by
 refine wp_region_lit ?_
 (conv => arg 4; whnf)
 unfold Sl at o5
 have S1 := Lib.hid (S.alloc (.cells #[.int .u8 0] 5))
 have HR := Lib.hid (rd_lit w 5 #[.int .u8 0] [0] rfl (by simp))
 have Hx := Lib.hid hx
 clear S hx
 obtain ⟨nx, hnx⟩ : ∃ nx, xs.length = nx := ⟨_, rfl⟩
 have Hnx := Lib.hid hnx
 rw [hnx] at o5
 clear hnx
 go_wp2_with (at_builtin; refine app_held [] rfl (.tmp 23) (.tmp 24) rfl (.slice A nx c) xs (by simp [Act.eval, hsz]) (by rw [← Hnx.out]; exact S1.out) (.slice (some ⟨w.heap.size, 0, none⟩) 1 1) [0] (by simp [Act.eval, hsz]) HR.out (by have := Hx.out; simp; omega) ?_; intro v2 w2 S2; have S2 := Lib.hid S2; obtain ⟨A2, c2, hv2, _, _⟩ := ow_form (S2.out.at_ (l1 := [])); subst hv2)
 try simp only [Act.put]
 exact hend _ _ sS (⟨A2, c2, sP0, S2.out⟩)
theorem rmc_r7  (hsz : a.tmps.size = 54) 
 (hend : ∀ a', Same a a' [7, 8] → Sl a' 7 (.slice none 0 0) → Sl a' 8 (.slice none 0 0) → Q .normal a' (w)) : (Code.region 7 (opsOf 7 Tryd.f11).toArray false).wp Tryd.prog Q a w := by
 refine wp_region_lit ?_
 (conv => arg 4; whnf)
 go_wp2_with fail
 try simp only [Act.put]
 exact hend _ sS sP sP
theorem rmc_r8  (hsz : a.tmps.size = 54) 
 (hend : ∀ a', Same a a' [9] → Sl a' 9 (.int .i64 ((0 : Nat) : Int)) → Q .normal a' (w)) : (Code.region 8 (opsOf 8 Tryd.f11).toArray false).wp Tryd.prog Q a w := by
 refine wp_region_lit ?_
 (conv => arg 4; whnf)
 go_wp2_with fail
 try simp only [Act.put]
 exact hend _ sS sP
theorem rmc_r9 (k : Nat) (hsz : a.tmps.size = 54) (o9 : Sl a 9 (.int .i64 (k : Int)))
 (hend : ∀ a', Same a a' [26, 27] → Sl a' 27 (.bool (decide ((k : Int) < 64))) → Q .normal a' (w)) : (Code.region 9 (opsOf 9 Tryd.f11).toArray false).wp Tryd.prog Q a w := by
 refine wp_region_lit ?_
 (conv => arg 4; whnf)
 unfold Sl at o9
 go_wp2_with fail
 try simp only [Act.put]
 exact hend _ sS sP
theorem rmc_r10 (k : Nat) (hk : k < 64) (hsz : a.tmps.size = 54) (o9 : Sl a 9 (.int .i64 (k : Int)))
 (hend : ∀ a', Same a a' [28, 29, 9] → Sl a' 9 (.int .i64 ((k + 1 : Nat) : Int)) → Q .normal a' (w)) : (Code.region 10 (opsOf 10 Tryd.f11).toArray false).wp Tryd.prog Q a w := by
 refine wp_region_lit ?_
 (conv => arg 4; whnf)
 unfold Sl at o9
 go_wp2_with fail
 try simp only [Act.put]
 exact hend _ sS sP
theorem rmc_r11 (w0 : World) (k c ck : Nat) (A : Option Addr) (adk : Addr) (xs : List UInt8) (b : UInt8) (hk : k < 64) (hx : xs.length ≤ 1000) (hc : w.cell? (adk.add k) = some (.int .u8 (b.toNat : Int))) (LL : List Res) (S : Held w0 w (rowR 5 1 (.slice A (xs).length c) (xs).length (bv (xs)) :: LL)) (hsz : a.tmps.size = 54) (o5 : Sl a 5 (.slice (some adk) 64 ck)) (o7 : Sl a 7 (.slice A xs.length c)) (o9 : Sl a 9 (.int .i64 (k : Int)))
 (hend : ∀ a' W, Same a a' [30, 31, 32, 33, 34, 35, 36, 37, 7] → (∃ A2 c2, Sl a' 7 (.slice A2 (xs ++ [b ^^^ 54]).length c2) ∧ Held w0 W (rowR 5 1 (.slice A2 (xs ++ [b ^^^ 54]).length c2) (xs ++ [b ^^^ 54]).length (bv (xs ++ [b ^^^ 54])) :: LL)) → Q .normal a' W) : (Code.region 11 (opsOf 11 Tryd.f11).toArray false).wp Tryd.prog Q a w := by
 refine wp_region_lit ?_
 (conv => arg 4; whnf)
 unfold Sl at o5 o7 o9
 have hxb := xor_byte b 54
 rw [show ((54 : UInt8).toNat : Int) = 54 from rfl] at hxb
 have S1 := Lib.hid (S.alloc (.cells #[.int .u8 ((b ^^^ 54).toNat : Int)] 5))
 have HR := Lib.hid (rd_lit w 5 #[.int .u8 ((b ^^^ 54).toNat : Int)] [b ^^^ 54] rfl (by simp))
 have Hx := Lib.hid hx
 clear S hx
 generalize b ^^^ 54 = y at *
 obtain ⟨nx, hnx⟩ : ∃ nx, xs.length = nx := ⟨_, rfl⟩
 have Hnx := Lib.hid hnx
 rw [hnx] at o7
 clear hnx
 go_wp2_with (at_builtin; refine app_held [] rfl (.tmp 30) (.tmp 36) rfl (.slice A nx c) xs (by simp [Act.eval, hsz]) (by rw [← Hnx.out]; exact S1.out) (.slice (some ⟨w.heap.size, 0, none⟩) 1 1) [y] (by simp [Act.eval, hsz]) HR.out (by have := Hx.out; simp; omega) ?_; intro v2 w2 S2; have S2 := Lib.hid S2; obtain ⟨A2, c2, hv2, _, _⟩ := ow_form (S2.out.at_ (l1 := [])); subst hv2)
 try simp only [Act.put]
 exact hend _ _ sS (⟨A2, c2, sP0, S2.out⟩)
theorem rmc_r12 (w0 : World) (k c ck : Nat) (A : Option Addr) (adk : Addr) (xs : List UInt8) (b : UInt8) (hk : k < 64) (hx : xs.length ≤ 1000) (hc : w.cell? (adk.add k) = some (.int .u8 (b.toNat : Int))) (r0 : Res) (LL : List Res) (S : Held w0 w (r0 :: rowR 5 1 (.slice A (xs).length c) (xs).length (bv (xs)) :: LL)) (hsz : a.tmps.size = 54) (o5 : Sl a 5 (.slice (some adk) 64 ck)) (o8 : Sl a 8 (.slice A xs.length c)) (o9 : Sl a 9 (.int .i64 (k : Int)))
 (hend : ∀ a' W, Same a a' [38, 39, 40, 41, 42, 43, 44, 45, 8] → (∃ A2 c2, Sl a' 8 (.slice A2 (xs ++ [b ^^^ 92]).length c2) ∧ Held w0 W (r0 :: rowR 5 1 (.slice A2 (xs ++ [b ^^^ 92]).length c2) (xs ++ [b ^^^ 92]).length (bv (xs ++ [b ^^^ 92])) :: LL)) → Q .normal a' W) : (Code.region 12 (opsOf 12 Tryd.f11).toArray false).wp Tryd.prog Q a w := by
 refine wp_region_lit ?_
 (conv => arg 4; whnf)
 unfold Sl at o5 o8 o9
 have hxb := xor_byte b 92
 rw [show ((92 : UInt8).toNat : Int) = 92 from rfl] at hxb
 have S1 := Lib.hid (S.alloc (.cells #[.int .u8 ((b ^^^ 92).toNat : Int)] 5))
 have HR := Lib.hid (rd_lit w 5 #[.int .u8 ((b ^^^ 92).toNat : Int)] [b ^^^ 92] rfl (by simp))
 have Hx := Lib.hid hx
 clear S hx
 generalize b ^^^ 92 = y at *
 obtain ⟨nx, hnx⟩ : ∃ nx, xs.length = nx := ⟨_, rfl⟩
 have Hnx := Lib.hid hnx
 rw [hnx] at o8
 clear hnx
 go_wp2_with (at_builtin; refine app_held [_] rfl (.tmp 38) (.tmp 44) rfl (.slice A nx c) xs (by simp [Act.eval, hsz]) (by rw [← Hnx.out]; exact S1.out) (.slice (some ⟨w.heap.size, 0, none⟩) 1 1) [y] (by simp [Act.eval, hsz]) HR.out (by have := Hx.out; simp; omega) ?_; intro v2 w2 S2; have S2 := Lib.hid S2; obtain ⟨A2, c2, hv2, _, _⟩ := ow_form (S2.out.at_ (l1 := [_])); subst hv2)
 try simp only [Act.put]
 exact hend _ _ sS (⟨A2, c2, sP0, S2.out⟩)
theorem rmc_r13 (w0 : World) (A Ax : Option Addr) (c cx : Nat) (s x : List UInt8) (hl : s.length + x.length ≤ 140737488355328) (L : List Res) (S : Held w0 w (rowR 5 1 (.slice A (s).length c) (s).length (bv (s)) :: L)) (hx : Rd w 1 (.slice Ax x.length cx) x.length (bv x)) (hsz : a.tmps.size = 54) (o1 : Sl a 1 (.slice Ax x.length cx)) (o7 : Sl a 7 (.slice A s.length c))
 (hend : ∀ a' W, Same a a' [46, 47, 48, 49, 10] → (∃ g A c, Sl a' 10 (.pointer (some ⟨g, 0, none⟩)) ∧ Held w0 W (blkR g 25 (hashA (shaF (s ++ x))) :: rowR 5 1 (.slice A (s ++ x).length c) (s ++ x).length (bv (s ++ x)) :: L)) → Q .normal a' W) : (Code.region 13 (opsOf 13 Tryd.f11).toArray false).wp Tryd.prog Q a w := by
 refine wp_region_lit ?_
 (conv => arg 4; whnf)
 unfold Sl at o1 o7
 have HR : Hid (∀ V A c, Held w0 V (rowR 5 1 (.slice A (s ++ x).length c) (s ++ x).length (bv (s ++ x)) :: L) → Calls Tryd.prog 42 #[.slice A (s ++ x).length c] V fun e w' => e = .returned (.agg (hashA (shaF (s ++ x)))) ∧ Held w0 w' (rowR 5 1 (.slice A (s ++ x).length c) (s ++ x).length (bv (s ++ x)) :: L)) := Lib.hid (fun V A c SV => rsha_any w0 _ A c (s ++ x) (by rw [List.length_append]; exact hl) V SV (fun V' L' SV' => Rd.of_own SV'.at_))
 have hO := Lib.hid (hashA_one (shaF (s ++ x)))
 have hsz1 : Hid ((hashA (shaF (s ++ x))).size = 32) := Lib.hid (by rw [hashA_size, shaF_length])
 obtain ⟨ch, hch⟩ : ∃ ch, Hid (hashA (shaF (s ++ x)) = ch) := ⟨_, Lib.hid rfl⟩
 rw [hch.out] at HR hO hsz1
 have S := Lib.hid S
 have Hx := Lib.hid hx
 have Hl := Lib.hid hl
 clear hl hx
 obtain ⟨ns, hns⟩ : ∃ ns, s.length = ns := ⟨_, rfl⟩
 have Hns := Lib.hid hns
 rw [hns] at o7
 clear hns
 obtain ⟨nx, hnx⟩ : ∃ nx, x.length = nx := ⟨_, rfl⟩
 have Hnx := Lib.hid hnx
 rw [hnx] at o1
 clear hnx
 go_wp2_with (at_builtin; refine app_held [] rfl (.tmp 46) (.tmp 47) rfl (.slice A ns c) s (by simp [Act.eval, hsz]) (by rw [← Hns.out]; exact S.out) (.slice Ax nx cx) x (by simp [Act.eval, hsz]) (by rw [← Hnx.out]; exact Hx.out) Hl.out ?_; intro v2 w2 S2; obtain ⟨A2, c2, hv2, _, _⟩ := ow_form (S2.at_ (l1 := [])); subst hv2; have HR2 := Lib.hid (HR.out w2 A2 c2 S2); clear S2; obtain ⟨nz, hnz⟩ : ∃ nz, (s ++ x).length = nz := ⟨_, rfl⟩; rw [hnz] at HR2 ⊢; have Hnz := Lib.hid hnz; clear hnz)
 refine HR2.out.mono ?_
 rintro e w4 ⟨rfl, S4⟩
 have S4 := Lib.hid (S4.newBlk 25 (hashA (List.replicate 32 0)))
 rw [← Hnz.out] at S4
 go_wp2_with (refine wpList_store_blk rfl 25 (.tmp 10) (.tmp 49) rfl w4.heap.size (by simp [Act.eval, Act.put, hsz]) ch (by simp [Act.eval, Act.put, hsz]) 25 _ (S4.out.at_ (l1 := [])) (by rw [hsz1.out]; exact Tryd.infoHashP) (by rw [hsz1.out]; rfl) hO.out ?_; intro w5 b5 k5; have S5 := Lib.hid (Held.setBlk (l1 := []) S4.out b5 k5); clear b5 k5)
 rw [← hch.out] at S5
 try simp only [Act.put]
 exact hend _ _ sS (⟨_, A2, c2, sP0, S5.out⟩)
theorem rmc_r14 (w0 : World) (A : Option Addr) (c g10 g4 : Nat) (s h : List UInt8) (hs : s.length = 64) (hh : h.length = 32) (L1 L : List Res) (S : Held w0 w (rowR 5 1 (.slice A (s).length c) (s).length (bv (s)) :: blkR g10 25 (hashA h) :: (L1 ++ blkR g4 25 (hashA (List.replicate 32 0)) :: L))) (hsz : a.tmps.size = 54) (o4 : Sl a 4 (.pointer (some ⟨g4, 0, none⟩))) (o8 : Sl a 8 (.slice A s.length c)) (o10 : Sl a 10 (.pointer (some ⟨g10, 0, none⟩)))
 (hend : ∀ a' W, Same a a' [50, 51, 52, 53] → (∃ A c, Held w0 W (rowR 5 1 (.slice A (s ++ h).length c) (s ++ h).length (bv (s ++ h)) :: blkR g10 25 (hashA h) :: (L1 ++ blkR g4 25 (hashA (shaF (s ++ h))) :: L))) → Q .normal a' W) : (Code.region 14 (opsOf 14 Tryd.f11).toArray false).wp Tryd.prog Q a w := by
 refine wp_region_lit ?_
 (conv => arg 4; whnf)
 unfold Sl at o4 o8 o10
 have HR : Hid (∀ V A c, Held w0 V (rowR 5 1 (.slice A (s ++ h).length c) (s ++ h).length (bv (s ++ h)) :: blkR g10 25 (hashA h) :: (L1 ++ blkR g4 25 (hashA (List.replicate 32 0)) :: L)) → Calls Tryd.prog 42 #[.slice A (s ++ h).length c] V fun e w' => e = .returned (.agg (hashA (shaF (s ++ h)))) ∧ Held w0 w' (rowR 5 1 (.slice A (s ++ h).length c) (s ++ h).length (bv (s ++ h)) :: blkR g10 25 (hashA h) :: (L1 ++ blkR g4 25 (hashA (List.replicate 32 0)) :: L))) := Lib.hid (fun V A c SV => rsha_any w0 _ A c (s ++ h) (by rw [List.length_append]; omega) V SV (fun V' L' SV' => Rd.of_own SV'.at_))
 have hr := Lib.hid (Rd.of_hash (S.at_ (l1 := [_])) hh)
 have hO := Lib.hid (hashA_one (shaF (s ++ h)))
 have hsz1 : Hid ((hashA (shaF (s ++ h))).size = 32) := Lib.hid (by rw [hashA_size, shaF_length])
 obtain ⟨ch, hch⟩ : ∃ ch, Hid (hashA (shaF (s ++ h)) = ch) := ⟨_, Lib.hid rfl⟩
 rw [hch.out] at HR hO hsz1
 have S := Lib.hid S
 have Hh := Lib.hid hh
 have Hs := Lib.hid hs
 clear hh hs
 obtain ⟨ns, hns⟩ : ∃ ns, s.length = ns := ⟨_, rfl⟩
 have Hns := Lib.hid hns
 rw [hns] at o8
 clear hns
 go_wp2_with (at_builtin; refine app_held [] rfl (.tmp 50) (.tmp 51) rfl (.slice A ns c) s (by simp [Act.eval, hsz]) (by rw [← Hns.out]; exact S.out) (.slice (some ⟨g10, 0, none⟩) 32 32) h (by simp [Act.eval, hsz]) (by rw [Hh.out]; exact hr.out) (by rw [Hs.out, Hh.out]; decide) ?_; intro v2 w2 S2; obtain ⟨A2, c2, hv2, _, _⟩ := ow_form (S2.at_ (l1 := [])); subst hv2; have HR2 := Lib.hid (HR.out w2 A2 c2 S2); clear S2; obtain ⟨nz, hnz⟩ : ∃ nz, (s ++ h).length = nz := ⟨_, rfl⟩; rw [hnz] at HR2 ⊢; have Hnz := Lib.hid hnz; clear hnz)
 refine HR2.out.mono ?_
 rintro e w4 ⟨rfl, S4⟩
 have S4 := Lib.hid S4
 rw [← Hnz.out] at S4
 go_wp2_with (refine wpList_store_blk rfl 25 (.tmp 4) (.tmp 53) rfl g4 (by simp [Act.eval, Act.put, hsz, o4]) ch (by simp [Act.eval, Act.put, hsz]) 25 _ (S4.out.at_ (l1 := _ :: _ :: L1)) (by rw [hsz1.out]; exact Tryd.infoHashP) (by rw [hsz1.out]; rfl) hO.out ?_; intro w5 b5 k5; have S5 := Lib.hid (Held.setBlk (l1 := _ :: _ :: L1) S4.out b5 k5); clear b5 k5)
 rw [← hch.out] at S5
 try simp only [Act.put]
 exact hend _ _ sS (⟨A2, c2, S5.out⟩)
def dsMc0 : List Nat := [5, 20, 21, 22, 23, 24, 25]
def dsMc1 : List Nat := [7, 8, 9, 26, 27, 28, 29, 30, 31, 32, 33, 34, 35, 36, 37, 38, 39, 40, 41, 42, 43, 44, 45]
theorem rmc_l0 {Q : Exit → Act → World → Prop} {a : Act} {w0 w : World} (kk : List UInt8) (hkl : kk.length ≤ 64) (A : Option Addr) (c : Nat) (L : List Res) (hsz : a.tmps.size = 54) (o5 : Sl a 5 (.slice A kk.length c)) (S : Held w0 w (rowR 5 1 (.slice A kk.length c) kk.length (bv kk) :: L))
 (hend : ∀ (a' : Act) (W : World) (A : Option Addr) (c : Nat), Same a a' dsMc0 → Sl a' 5 (.slice A 64 c) → Held w0 W (rowR 5 1 (.slice A 64 c) 64 (bv (kk ++ List.replicate (64 - kk.length) 0)) :: L) → Q .normal a' W) :
 (Code.block 0 (blockOf 0 Tryd.f11)).wp Tryd.prog Q a w := by
 refine wp_block ?_
 (conv => arg 2; whnf)
 refine wp_loop (fun a' w' => ∃ (j : Nat) (A : Option Addr) (c : Nat), kk.length + j ≤ 64 ∧ Same a a' dsMc0 ∧ Sl a' 5 (.slice A (kk ++ List.replicate j 0).length c) ∧ Held w0 w' (rowR 5 1 (.slice A (kk ++ List.replicate j 0).length c) (kk ++ List.replicate j 0).length (bv (kk ++ List.replicate j 0)) :: L)) (fun a' _ => 64 - lenV (a'.eval (.tmp 5))) ⟨0, A, c, by omega, Same.refl _ _, by rw [List.replicate_zero, List.append_nil]; exact o5, by rw [List.replicate_zero, List.append_nil]; exact S⟩ ?_
 clear o5 S
 rintro a1 w1 ⟨j, A, c, hj, T, o5, S⟩
 have hz1 := T.size.trans hsz
 have eCtr := o5.eval (by rw [hz1]; decide)
 have hl : (kk ++ List.replicate j 0).length = kk.length + j := by simp
 refine wp_seq (wp_seq (rmc_r5 A _ c hz1 o5 (fun a2 hs2 o22 => ?_)))
 have hz2 := hs2.size.trans hz1; have o5 := hs2.k o5
 have T := T.trans hs2
 rw [hl] at o22
 by_cases hlt : kk.length + j < 64
 · refine wp_cond_true ((o22.eval (by rw [hz2]; decide)).trans (by rw [decide_eq_true hlt])) (wp_skip ?_)
   refine wp_block ?_
   refine rmc_r6 w0 A c _ (by rw [hl]; omega) _ S hz2 o5 (fun a3 w2 hs3 h => ?_)
   have hz3 := hs3.size.trans hz2; have o22 := hs3.k o22
   have T := T.trans hs3
   obtain ⟨A2, c2, o5, S⟩ := h
   have e : kk ++ List.replicate j 0 ++ [0] = kk ++ List.replicate (j + 1) 0 := by rw [List.append_assoc, ← List.replicate_succ']
   rw [e] at o5 S
   refine ⟨⟨j + 1, A2, c2, by omega, T.more (by decide +kernel), o5, S⟩, ?_⟩
   show 64 - lenV _ < 64 - lenV _
   rw [eCtr, o5.eval (by rw [hz3]; decide)]
   show 64 - (kk ++ List.replicate (j + 1) 0).length < 64 - (kk ++ List.replicate j 0).length
   rw [hl, List.length_append, List.length_replicate]
   omega
 · refine wp_cond_false ((o22.eval (by rw [hz2]; decide)).trans (by rw [decide_eq_false hlt])) (wp_exit ?_)
   obtain rfl : j = 64 - kk.length := by omega
   have h64 : (kk ++ List.replicate (64 - kk.length) 0).length = 64 := by rw [hl]; omega
   rw [h64] at o5 S
   exact hend _ _ A c (T.more (by decide +kernel)) o5 S
theorem rmc_l1 {Q : Exit → Act → World → Prop} {a : Act} {w0 w : World} (kk : List UInt8) (hkl : kk.length = 64) (Ak : Option Addr) (ck : Nat) (L : List Res) (hsz : a.tmps.size = 54) (o5 : Sl a 5 (.slice Ak 64 ck)) (o7 : Sl a 7 (.slice none 0 0)) (o8 : Sl a 8 (.slice none 0 0)) (o9 : Sl a 9 (.int .i64 ((0 : Nat) : Int))) (S : Held w0 w (rowR 5 1 (.slice Ak 64 ck) 64 (bv kk) :: L))
 (hend : ∀ (a' : Act) (W : World) (A7 A8 : Option Addr) (c7 c8 : Nat), Same a a' dsMc1 → Sl a' 7 (.slice A7 (turned kk 54).length c7) → Sl a' 8 (.slice A8 (turned kk 92).length c8) → Held w0 W (rowR 5 1 (.slice A7 (turned kk 54).length c7) (turned kk 54).length (bv (turned kk 54)) :: rowR 5 1 (.slice A8 (turned kk 92).length c8) (turned kk 92).length (bv (turned kk 92)) :: rowR 5 1 (.slice Ak 64 ck) 64 (bv kk) :: L) → Q .normal a' W) :
 (Code.block 2 (blockOf 2 Tryd.f11)).wp Tryd.prog Q a w := by
 refine wp_block ?_
 (conv => arg 2; whnf)
 refine wp_loop (fun a' w' => ∃ (k : Nat) (A7 A8 : Option Addr) (c7 c8 : Nat), k ≤ 64 ∧ Same a a' dsMc1 ∧ Sl a' 9 (.int .i64 (k : Int)) ∧ Sl a' 7 (.slice A7 (turned (kk.take k) 54).length c7) ∧ Sl a' 8 (.slice A8 (turned (kk.take k) 92).length c8) ∧ Held w0 w' (rowR 5 1 (.slice A7 (turned (kk.take k) 54).length c7) (turned (kk.take k) 54).length (bv (turned (kk.take k) 54)) :: rowR 5 1 (.slice A8 (turned (kk.take k) 92).length c8) (turned (kk.take k) 92).length (bv (turned (kk.take k) 92)) :: rowR 5 1 (.slice Ak 64 ck) 64 (bv kk) :: L)) (fun a' _ => 64 - (intOf (a'.eval (.tmp 9))).toNat)
  ⟨0, none, none, 0, 0, by omega, Same.refl _ _, o9, o7, o8, (S.rownew (World.ownsRow_nil _ _ _ _) (Kp.refl [] _) (by simp [Value.ownBlock])).rownew (World.ownsRow_nil _ _ _ _) (Kp.refl [] _) (by simp [Value.ownBlock])⟩ ?_
 clear o7 o8 o9 S
 rintro a1 w1 ⟨k, A7, A8, c7, c8, hk, T, o9, o7, o8, S⟩
 have hz1 := T.size.trans hsz
 have o5 := T.keep 5 _ (by decide) o5
 have eCtr := o9.eval (by rw [hz1]; decide)
 have ht : ∀ t, (turned (kk.take k) t).length ≤ 1000 := fun t => by unfold turned; rw [List.length_map, List.length_take]; omega
 refine wp_seq (wp_seq (rmc_r9 k hz1 o9 (fun a2 hs2 o27 => ?_)))
 have hz2 := hs2.size.trans hz1; have o5 := hs2.k o5; have o7 := hs2.k o7; have o8 := hs2.k o8; have o9 := hs2.k o9
 have T := T.trans hs2
 by_cases hlt : k < 64
 · refine wp_cond_true ((o27.eval (by rw [hz2]; decide)).trans (by rw [decide_eq_true (by omega)])) (wp_skip ?_)
   have hR := Rd.of_own (S.at_ (l1 := [_, _]))
   obtain ⟨-, A', c', he, -, -, hA, hc⟩ := id hR
   cases he
   obtain ⟨adk, rfl⟩ : ∃ adk, Ak = some adk := by
    rcases Ak with _ | adk
    · have := hA rfl; omega
    · exact ⟨adk, rfl⟩
   have hkk : k < kk.length := by omega
   have hcell : ∀ V, Kp [] w1 V → True := fun _ _ => trivial
   have hc1 : w1.cell? (adk.add k) = some (.int .u8 (kk[k].toNat : Int)) := hc adk rfl k _ (by rw [bv_get, List.getElem?_eq_getElem hkk]; rfl)
   have htn : ∀ t, turned (kk.take k) t ++ [kk[k] ^^^ t] = turned (kk.take (k + 1)) t := fun t => by unfold turned; rw [List.take_add_one, List.getElem?_eq_getElem hkk]; simp only [Option.toList_some, List.map_append, List.map_cons, List.map_nil]
   refine wp_seq (wp_block ?_)
   refine wp_seq (rmc_r11 w0 k c7 ck A7 adk _ kk[k] hlt (ht _) hc1 _ S hz2 o5 o7 o9 (fun a3 w2 hs3 h => ?_))
   have hz3 := hs3.size.trans hz2; have o5 := hs3.k o5; have o8 := hs3.k o8; have o9 := hs3.k o9; have o27 := hs3.k o27
   have T := T.trans hs3
   obtain ⟨A7, c7, o7, S⟩ := h
   rw [htn] at o7 S
   have hc2 : w2.cell? (adk.add k) = some (.int .u8 (kk[k].toNat : Int)) := by
    obtain ⟨-, A', c', he, -, -, -, hc⟩ := Rd.of_own (S.at_ (l1 := [_, _]))
    cases he
    exact hc adk rfl k _ (by rw [bv_get, List.getElem?_eq_getElem hkk]; rfl)
   refine rmc_r12 w0 k c8 ck A8 adk _ kk[k] hlt (ht _) hc2 _ _ S hz3 o5 o8 o9 (fun a4 w3 hs4 h => ?_)
   have hz4 := hs4.size.trans hz3; have o5 := hs4.k o5; have o9 := hs4.k o9; have o27 := hs4.k o27; have o7 := hs4.k o7
   have T := T.trans hs4
   obtain ⟨A8, c8, o8, S⟩ := h
   rw [htn] at o8 S
   refine rmc_r10 k hlt hz4 o9 (fun a5 hs5 o9 => ?_)
   have hz5 := hs5.size.trans hz4; have o5 := hs5.k o5; have o27 := hs5.k o27; have o7 := hs5.k o7; have o8 := hs5.k o8
   have T := T.trans hs5
   refine ⟨⟨k + 1, A7, A8, c7, c8, by omega, T.more (by decide +kernel), o9, o7, o8, S⟩, ?_⟩
   show 64 - (intOf _).toNat < 64 - (intOf _).toNat
   rw [eCtr, o9.eval (by rw [hz5]; decide)]
   simp [intOf]; omega
 · obtain rfl : k = 64 := by omega
   refine wp_cond_false ((o27.eval (by rw [hz2]; decide)).trans (by rw [decide_eq_false (by omega)])) (wp_exit ?_)
   rw [List.take_of_length_le (by omega)] at o7 o8 S
   exact hend _ _ A7 A8 c7 c8 (T.more (by decide +kernel)) o7 o8 S
theorem rmac_any (w0 : World) (L : List Res) (A : Option Addr) (c : Nat) (sec : List UInt8) (hs : sec.length ≤ 140737488355328) (Ax : Option Addr) (cx : Nat) (x : List UInt8) (hx : 64 + x.length ≤ 140737488355328) (w : World) (S : Held w0 w L)
 (HS : ∀ V L', Held w0 V (L' ++ L) → Rd V 1 (.slice A sec.length c) sec.length (bv sec)) (HX : ∀ V L', Held w0 V (L' ++ L) → Rd V 1 (.slice Ax x.length cx) x.length (bv x)) :
 Calls Tryd.prog 11 #[.slice A sec.length c, .slice Ax x.length cx] w fun e w' => e = .returned (.agg (hashA (macF sec x))) ∧ Held w0 w' L := by
 refine calls_fr Tryd.func11 rfl 54 rfl (fun a0 hsz hdf hAr => ?_)
 have hz0 : a0.tmps.size = 54 := hsz
 have D := hdf
 have o0 := hAr 0 _ rfl
 have o1 := hAr 1 _ rfl
 refine wp_seq (rmc_r0 w0 _ S hz0 (fun a1 w1 hs1 h => ?_))
 have hz1 := hs1.size.trans hz0; have o0 := hs1.k o0; have o1 := hs1.k o1; have D := hs1.defers.trans D
 obtain ⟨g4, o4, S⟩ := h
 refine wp_seq (rmc_r1 w0 A c sec hs _ (HS _ [_] S) S hz1 o0 (fun a2 w2 hs2 h => ?_))
 have hz2 := hs2.size.trans hz1; have o1 := hs2.k o1; have o4 := hs2.k o4; have D := hs2.defers.trans D
 obtain ⟨A5, c5, o5, S⟩ := h
 have tail : ∀ (a3 : Act) (w3 : World) (kk : List UInt8) (A5 : Option Addr) (c5 : Nat) (L1 : List Res), kk.length ≤ 64 → kk ++ List.replicate (64 - kk.length) 0 = key64 sec → a3.tmps.size = 54 → a3.defers = [] → Sl a3 1 (.slice Ax x.length cx) → Sl a3 4 (.pointer (some ⟨g4, 0, none⟩)) → Sl a3 5 (.slice A5 kk.length c5) → Held w0 w3 (rowR 5 1 (.slice A5 kk.length c5) kk.length (bv kk) :: (L1 ++ blkR g4 25 (hashA (List.replicate 32 0)) :: L)) →
  (tailOf 2 Tryd.f11).wp Tryd.prog (bodyPost Tryd.prog Tryd.f11 fun e w' => e = .returned (.agg (hashA (macF sec x))) ∧ Held w0 w' L) a3 w3 := by
  intro a3 w3 kk A5 c5 L1 hkl hkk hz3 D o1 o4 o5 S
  refine wp_seq (rmc_l0 kk hkl A5 c5 _ hz3 o5 S (fun a4 w4 A6 c6 hs4 o5 S => ?_))
  have hz4 := hs4.size.trans hz3; have o1 := hs4.k o1; have o4 := hs4.k o4; have D := hs4.defers.trans D
  rw [hkk] at S
  refine wp_seq (rmc_r7 hz4 (fun a5 hs5 o7 o8 => ?_))
  have hz5 := hs5.size.trans hz4; have o1 := hs5.k o1; have o4 := hs5.k o4; have o5 := hs5.k o5; have D := hs5.defers.trans D
  refine wp_seq (wp_seq (rmc_r8 hz5 (fun a6 hs6 o9 => ?_)))
  have hz6 := hs6.size.trans hz5; have o1 := hs6.k o1; have o4 := hs6.k o4; have o5 := hs6.k o5; have o7 := hs6.k o7; have o8 := hs6.k o8; have D := hs6.defers.trans D
  refine rmc_l1 (key64 sec) (key64_length sec) A6 c6 _ hz6 o5 o7 o8 o9 S (fun a7 w7 A7 A8 c7 c8 hs7 o7 o8 S => ?_)
  have hz7 := hs7.size.trans hz6; have o1 := hs7.k o1; have o4 := hs7.k o4; have o5 := hs7.k o5; have D := hs7.defers.trans D
  have hr := HX w7 ([_, _, _] ++ L1 ++ [_]) (by
   have := S
   simpa [List.append_assoc] using this)
  have h54 : (turned (key64 sec) 54).length = 64 := by unfold turned; rw [List.length_map, key64_length]
  have h92 : (turned (key64 sec) 92).length = 64 := by unfold turned; rw [List.length_map, key64_length]
  refine wp_seq (rmc_r13 w0 A7 Ax c7 cx _ x (by rw [h54]; exact hx) _ S hr hz7 o1 o7 (fun a8 w8 hs8 h => ?_))
  have hz8 := hs8.size.trans hz7; have o1 := hs8.k o1; have o4 := hs8.k o4; have o5 := hs8.k o5; have o7 := hs8.k o7; have o8 := hs8.k o8; have D := hs8.defers.trans D
  obtain ⟨g10, A13, c13, o10, S⟩ := h
  have S := S.perm ((List.Perm.cons _ (List.Perm.swap _ _ _)).trans (List.Perm.swap _ _ _))
  refine wp_seq (rmc_r14 w0 A8 c8 g10 g4 _ _ h92 (shaF_length _) (_ :: _ :: L1) L S hz8 o4 o8 o10 (fun a9 w9 hs9 h => ?_))
  have hz9 := hs9.size.trans hz8; have o1 := hs9.k o1; have o4 := hs9.k o4; have o5 := hs9.k o5; have o7 := hs9.k o7; have o8 := hs9.k o8; have o10 := hs9.k o10; have D := hs9.defers.trans D
  obtain ⟨A14, c14, S⟩ := h
  refine wp_ret (bodyPost_ret (results_cell1 (by rfl) (o4.eval (by rw [hz9]; decide)) (S.at_ (l1 := _ :: _ :: _ :: _ :: L1)) Tryd.underlying25 rfl (by rw [hashA_size, shaF_length]; exact Tryd.infoHashP)) D ⟨rfl, ?_⟩)
  exact S.drop.drop.sub ((List.sublist_cons_self _ _).trans (List.sublist_append_right _ _))
 refine wp_seq (wp_seq (rmc_r2 A5 sec.length c5 hz2 o5 (fun a3 hs3 o15 => ?_)))
 have hz3 := hs3.size.trans hz2; have o1 := hs3.k o1; have o4 := hs3.k o4; have o5 := hs3.k o5; have D := hs3.defers.trans D
 by_cases hlt : 64 < sec.length
 · refine wp_cond_true ((o15.eval (by rw [hz3]; decide)).trans (by rw [decide_eq_true hlt])) ?_
   refine wp_seq (rmc_r3 w0 A5 c5 sec hs _ S hz3 o5 (fun a4 w3 hs4 h => ?_))
   have hz4 := hs4.size.trans hz3; have o1 := hs4.k o1; have o4 := hs4.k o4; have o15 := hs4.k o15; have D := hs4.defers.trans D
   obtain ⟨g6, o6, S⟩ := h
   refine rmc_r4 w0 g6 _ (shaF_length sec) _ S hz4 o6 (fun a5 w4 hs5 h => ?_)
   have hz5 := hs5.size.trans hz4; have o1 := hs5.k o1; have o4 := hs5.k o4; have o15 := hs5.k o15; have o6 := hs5.k o6; have D := hs5.defers.trans D
   obtain ⟨A6, c6, o5, S⟩ := h
   exact tail _ _ (shaF sec) A6 c6 [_, _] (by rw [shaF_length]; omega) (by unfold key64; rw [if_pos hlt]) hz5 D o1 o4 o5 S
 · refine wp_cond_false ((o15.eval (by rw [hz3]; decide)).trans (by rw [decide_eq_false hlt])) (wp_skip ?_)
   exact tail _ _ sec A5 c5 [] (by omega) (by unfold key64; rw [if_neg hlt]) hz3 D o1 o4 o5 S
end
/- Names and keys of both packages. -/
section
open Go.RowKit
def okB (c : UInt8) : Bool := decide (33 ≤ c.toNat) && decide (c.toNat ≤ 126)
theorem nmOk_eq (l : List UInt8) : nmOk l = (decide (0 < l.length) && decide (l.length ≤ 64) && l.all okB) := rfl
theorem all_take_succ {l : List UInt8} {k : Nat} (h : k < l.length) : (l.take (k + 1)).all okB = ((l.take k).all okB && okB l[k]) := by
 rw [List.take_add_one, List.getElem?_eq_getElem h, Option.toList_some, List.all_append, List.all_cons, List.all_nil, Bool.and_true]
theorem all_of_take {l : List UInt8} {k : Nat} (h : k < l.length) (hb : okB l[k] = false) : l.all okB = false := by
 rw [List.all_eq_false]
 exact ⟨l[k], List.getElem_mem h, by simp [hb]⟩
theorem nonempty_strS {s : ByteArray} (h : 0 < s.size) : s.toList.isEmpty = false := by
 rw [Lib.toList_data]
 cases hl : s.data.toList with
 | nil => have : s.data.toList.length = s.size := rfl; rw [hl] at this; simp at this; omega
 | cons _ _ => rfl
theorem signer_any (s : ByteArray) (hs : s.size ≤ 9223372036854775807) (w : World) : Calls Tryd.prog 54 #[.string s] w fun e w' => e = .returned (.bool (nmOk s.data.toList)) ∧ w = w' := by
 have hsz : s.data.toList.length = s.size := rfl
 go_enter Tryd.func54, Tryd.ntmps54
 go_wp2
 go_loopw [3, 6] (fun _ i wr => ∃ k : Nat, k ≤ s.size ∧ i = .int .i64 (k : Int) ∧ Hid ((s.data.toList.take k).all okB = true) ∧ w = wr) (fun _ i _ => s.size - (intOf i).toNat)
 case atStart => exact ⟨0, by omega, rfl, Lib.hid rfl, rfl⟩
 case round =>
  obtain ⟨k, hk, rfl, HA, rfl⟩ := hrel
  by_cases hlt : k < s.size
  · have hx := run_str_indexP s k hlt w
    have hkl : k < s.data.toList.length := hlt
    have hok : okB s[k] = (decide (33 ≤ s[k].toNat) && decide (s[k].toNat ≤ 126)) := rfl
    have hts := Lib.hid (all_take_succ hkl)
    have htf := Lib.hid (all_of_take hkl)
    have he : s.data.toList[k] = s[k] := rfl
    rw [he] at hts htf
    have hc := s[k].toNat_lt
    generalize hcc : s[k] = c at *
    by_cases h1 : c.toNat < 33
    · have Hb : Hid (nmOk s.data.toList = false) := Lib.hid (by rw [nmOk_eq, htf.out (by rw [hok]; simp; omega), Bool.and_false])
      clear hts htf hok he hcc
      go_wp2
      go_ret
      exact ⟨by rw [Hb.out]; rfl, rfl⟩
    · by_cases h2 : 126 < c.toNat
      · have Hb : Hid (nmOk s.data.toList = false) := Lib.hid (by rw [nmOk_eq, htf.out (by rw [hok]; simp; omega), Bool.and_false])
        clear hts htf hok he hcc
        go_wp2
        go_ret
        exact ⟨by rw [Hb.out]; rfl, rfl⟩
      · have Hb : Hid ((s.data.toList.take (k + 1)).all okB = true) := Lib.hid (by rw [hts.out, HA.out, hok]; simp; omega)
        clear hts htf hok he hcc
        go_wp2
        go_roundw
        case rel => exact ⟨k + 1, by omega, by go_num, Hb, trivial⟩
        case measure => simp [intOf]; omega
  · obtain rfl : k = s.size := by omega
    have hall : Hid (nmOk s.data.toList = (decide (0 < s.size) && decide (s.size ≤ 64))) := Lib.hid (by
     rw [nmOk_eq, show s.data.toList.all okB = true from by have := HA.out; rwa [List.take_of_length_le (by omega)] at this, Bool.and_true]; rfl)
    by_cases h0 : s.size = 0
    · have hse : s = { data := #[] } := by
       have : s.data.size = 0 := h0
       cases s with | mk d => simp at this; simp [this]
      subst hse
      go_wp2
      go_ret
      exact ⟨by rw [hall.out]; rfl, rfl⟩
    · have hem : s.toList.isEmpty = false := nonempty_strS (by omega)
      have hd : Hid ((decide (0 < s.size) && decide (s.size ≤ 64)) = decide ((s.size : Int) ≤ 64)) := Lib.hid (by rw [decide_eq_true (show 0 < s.size by omega), Bool.true_and]; congr 1; exact propext ⟨fun h => by omega, fun h => by omega⟩)
      go_wp2
      go_ret
      exact ⟨by rw [hall.out, hd.out]; rfl, rfl⟩
theorem rname_any (s : ByteArray) (hs : s.size ≤ 9223372036854775807) (w : World) : Calls Tryd.prog 73 #[.string s] w fun e w' => e = .returned (.bool (nmOk s.data.toList)) ∧ w = w' := by
 have hsz : s.data.toList.length = s.size := rfl
 by_cases h0 : s.size < 1
 · have Hb : Hid (nmOk s.data.toList = false) := Lib.hid (by rw [nmOk_eq, hsz, decide_eq_false (by omega), Bool.false_and, Bool.false_and])
   have hz : (s.size : Int) < 1 := by omega
   go_enter Tryd.func73, Tryd.ntmps73
   go_wp2
   go_ret
   exact ⟨by rw [Hb.out]; rfl, rfl⟩
 · by_cases h64 : 64 < s.size
   · have Hb : Hid (nmOk s.data.toList = false) := Lib.hid (by rw [nmOk_eq, hsz, decide_eq_false (show ¬ s.size ≤ 64 by omega), Bool.and_false, Bool.false_and])
     have hz : ¬ (s.size : Int) < 1 := by omega
     have hz2 : (64 : Int) < (s.size : Int) := by omega
     clear hsz
     go_enter Tryd.func73, Tryd.ntmps73
     go_wp2
     all_goals
      go_ret
      exact ⟨by rw [Hb.out]; rfl, rfl⟩
   · have hz : ¬ (s.size : Int) < 1 := by omega
     have hz2 : ¬ (64 : Int) < (s.size : Int) := by omega
     have hb0 : nmOk s.data.toList = s.data.toList.all okB := by rw [nmOk_eq, hsz, decide_eq_true (show 0 < s.size by omega), decide_eq_true (show s.size ≤ 64 by omega)]; rfl
     have hb := Lib.hid hb0
     clear hb0
     go_enter Tryd.func73, Tryd.ntmps73
     go_wp2
     go_loopw [3] (fun i wr => ∃ k : Nat, k ≤ s.size ∧ i = .int .i64 (k : Int) ∧ Hid ((s.data.toList.take k).all okB = true) ∧ w = wr) (fun i _ => s.size - (intOf i).toNat)
     case atStart => exact ⟨0, by omega, rfl, Lib.hid rfl, rfl⟩
     case round =>
      obtain ⟨k, hk, rfl, HA, rfl⟩ := hrel
      by_cases hlt : k < s.size
      · have hx := run_str_indexP s k hlt w
        have hkl : k < s.data.toList.length := hlt
        have hok : okB s[k] = (decide (33 ≤ s[k].toNat) && decide (s[k].toNat ≤ 126)) := rfl
        have hts := Lib.hid (all_take_succ hkl)
        have htf := Lib.hid (all_of_take hkl)
        have he : s.data.toList[k] = s[k] := rfl
        rw [he] at hts htf
        have hc := s[k].toNat_lt
        generalize hcc : s[k] = c at *
        by_cases h1 : c.toNat < 33
        · have Hb : Hid (nmOk s.data.toList = false) := Lib.hid (by rw [hb.out, htf.out (by rw [hok]; simp; omega)])
          clear hts htf hok he hcc
          go_wp2
          go_ret
          exact ⟨by rw [Hb.out]; rfl, rfl⟩
        · by_cases h2 : 126 < c.toNat
          · have Hb : Hid (nmOk s.data.toList = false) := Lib.hid (by rw [hb.out, htf.out (by rw [hok]; simp; omega)])
            clear hts htf hok he hcc
            go_wp2
            go_ret
            exact ⟨by rw [Hb.out]; rfl, rfl⟩
          · have Hb : Hid ((s.data.toList.take (k + 1)).all okB = true) := Lib.hid (by rw [hts.out, HA.out, hok]; simp; omega)
            clear hts htf hok he hcc
            go_wp2
            go_roundw
            case rel => exact ⟨k + 1, by omega, by go_num, Hb, trivial⟩
            case measure => simp [intOf]; omega
      · obtain rfl : k = s.size := by omega
        have hall : Hid (nmOk s.data.toList = true) := Lib.hid (by
         rw [hb.out]; have := HA.out; rwa [List.take_of_length_le (by omega)] at this)
        go_wp2
        go_ret
        exact ⟨by rw [hall.out]; rfl, rfl⟩
theorem smay_any (s : ByteArray) (hs : s.size ≤ 9223372036854775807) (A : Option Addr) (n c : Nat) (w : World) : Calls Tryd.prog 48 #[.agg #[.string s, .slice A n c]] w fun e w' => e = .returned (.bool (nmOk s.data.toList && decide (0 < n) && decide (n ≤ 256))) ∧ Kp [] w w' := by
 have S0 := Lib.hid ((Held.start w).newBlk 42 #[.string s, .slice A n c])
 obtain ⟨c0, c1, -⟩ := Blk.c2 (S0.out.at_ (l1 := []))
 have HS := Lib.hid (fun V => signer_any s hs V)
 generalize nmOk s.data.toList = b at *
 go_enter Tryd.func48, Tryd.ntmps48
 go_wp2_with fail
 refine (HS.out _).mono ?_
 rintro e w' ⟨rfl, rfl⟩
 cases b
 · go_wp2
   go_ret
   exact ⟨rfl, S0.out.k⟩
 · by_cases h0 : 0 < n
   · have hz : (0 : Int) < (n : Int) := by omega
     go_wp2
     go_ret
     refine ⟨?_, S0.out.k⟩
     simp [h0]
     omega
   · obtain rfl : n = 0 := by omega
     go_wp2
     go_ret
     exact ⟨rfl, S0.out.k⟩
theorem rkey_any (s : ByteArray) (hs : s.size ≤ 9223372036854775807) (A : Option Addr) (n c : Nat) (w : World) : Calls Tryd.prog 50 #[.agg #[.string s, .slice A n c]] w fun e w' => e = .returned (.bool (nmOk s.data.toList && decide (0 < n) && decide (n ≤ 256))) ∧ Kp [] w w' := by
 have S0 := Lib.hid ((Held.start w).newBlk 42 #[.string s, .slice A n c])
 obtain ⟨c0, c1, -⟩ := Blk.c2 (S0.out.at_ (l1 := []))
 have HS := Lib.hid (fun V => rname_any s hs V)
 generalize nmOk s.data.toList = b at *
 go_enter Tryd.func50, Tryd.ntmps50
 go_wp2_with fail
 refine (HS.out _).mono ?_
 rintro e w' ⟨rfl, rfl⟩
 cases b
 · go_wp2
   go_ret
   exact ⟨rfl, S0.out.k⟩
 · by_cases h0 : 0 < n
   · have hz : (1 : Int) ≤ (n : Int) := by omega
     go_wp2
     go_ret
     refine ⟨?_, S0.out.k⟩
     simp [h0]
     omega
   · obtain rfl : n = 0 := by omega
     go_wp2
     go_ret
     exact ⟨rfl, S0.out.k⟩
end
/- Signatures in memory; the order of names. -/
section
open Go.RowKit
theorem less_cmp : ∀ a b : List UInt8, Op.bytesLess a b = decide (cmpB a b < 0)
 | [], [] => rfl
 | [], _ :: _ => rfl
 | _ :: _, [] => rfl
 | x :: a, y :: b => by
  rw [cmpB_cons]
  unfold Op.bytesLess
  have ih := less_cmp a b
  by_cases h1 : x.toNat < y.toNat
  · rw [if_pos h1]
    simp [UInt8.lt_iff_toNat_lt, h1]
  · rw [if_neg h1]
    by_cases h2 : y.toNat < x.toNat
    · rw [if_pos h2]
      have : ¬ x = y := fun e => by subst e; omega
      simp [UInt8.lt_iff_toNat_lt, h1, this]
    · rw [if_neg h2]
      have : x = y := UInt8.toNat_inj.1 (by omega)
      subst this
      simp [ih]
theorem cmp_beq (a b : List UInt8) : (a == b) = decide (cmpB a b = 0) := by
 rw [Bool.eq_iff_iff, beq_iff_eq, decide_eq_true_iff]
 exact ⟨fun h => by subst h; exact cmpB_self a, cmpB_zero⟩
theorem leq_cmp (a b : List UInt8) : (Op.bytesLess a b || a == b) = decide (cmpB a b ≤ 0) := by
 rw [less_cmp, cmp_beq, Bool.eq_iff_iff, Bool.or_eq_true, decide_eq_true_iff, decide_eq_true_iff, decide_eq_true_iff]
 omega
def strV (s : List UInt8) : Value := .string ⟨s.toArray⟩
theorem str_list (s : List UInt8) : (ByteArray.mk s.toArray).toList = s := by rw [Lib.toList_data]
theorem str_size (s : List UInt8) : (ByteArray.mk s.toArray).size = s.length := by show s.toArray.size = _; simp
def sgL (s : SigD) : List Value := strV s.1 :: bv s.2
def sgA (s : SigD) : Array Value := (sgL s).toArray
def sgsC (l : List SigD) : List Value := l.flatMap sgL
def SgOk (l : List SigD) : Prop := ∀ s, s ∈ l → s.2.length = 32 ∧ s.1.length ≤ 9223372036854775807
theorem sgL_length {s : SigD} (h : s.2.length = 32) : (sgL s).length = 33 := by simp [sgL, bv_length, h]
theorem sgA_size {s : SigD} (h : s.2.length = 32) : (sgA s).size = 33 := by simp only [sgA, List.size_toArray]; exact sgL_length h
theorem sgA_one (s : SigD) : ∀ u, u ∈ (sgA s).toList → u.oneCell' = true := by
 intro u hu
 simp only [sgA, List.toList_toArray, sgL, List.mem_cons] at hu
 rcases hu with rfl | hu
 · rfl
 · exact bv_one _ u hu
theorem sgsC_length : ∀ {l : List SigD}, SgOk l → (sgsC l).length = l.length * 33
 | [], _ => rfl
 | s :: l, h => by
  show (sgL s ++ sgsC l).length = _
  rw [List.length_append, sgL_length (h s (by simp)).1, sgsC_length (fun x hx => h x (by simp [hx])), List.length_cons]; omega
theorem sgsC_at : ∀ {l : List SigD} {k : Nat} {s : SigD}, SgOk l → l[k]? = some s → ∀ j u, (sgL s)[j]? = some u → (sgsC l)[k * 33 + j]? = some u
 | [], _, _, _, h => by simp at h
 | s :: l, 0, _, hok, h => fun j u hu => by
  obtain rfl : s = _ := by simpa using h
  show (sgL s ++ sgsC l)[0 * 33 + j]? = _
  rw [Nat.zero_mul, Nat.zero_add, List.getElem?_append_left (List.getElem?_eq_some_iff.1 hu).1]
  exact hu
 | s :: l, k + 1, x, hok, h => fun j u hu => by
  show (sgL s ++ sgsC l)[(k + 1) * 33 + j]? = _
  have h1 := sgL_length (hok s (by simp)).1
  rw [List.getElem?_append_right (by omega), h1, show (k + 1) * 33 + j - 33 = k * 33 + j from by omega]
  exact sgsC_at (fun y hy => hok y (by simp [hy])) (by simpa using h) j u hu
theorem sgs_at {W : World} {ad : Addr} {c n : Nat} {l : List SigD} (h : Rd W 33 (.slice (some ad) n c) n (sgsC l)) (hok : SgOk l) {k : Nat} {s : SigD} (hk : l[k]? = some s) : ∀ j u, (sgL s)[j]? = some u → W.cell? ((ad.add (k * 33)).add j) = some u := by
 intro j u hu
 obtain ⟨-, A', c', he, -, -, -, hc⟩ := h
 cases he
 rw [add_of_add]
 exact hc ad rfl _ u (sgsC_at hok hk j u hu)
def ntL (z : Int) (h : List UInt8) (v : Value) : List Value := .int .i64 z :: (bv h ++ [v])
def ntA (z : Int) (h : List UInt8) (v : Value) : Array Value := (ntL z h v).toArray
section
variable {z : Int} {h : List UInt8} {v : Value}
theorem ntA_size (hh : h.length = 32) : (ntA z h v).size = 34 := by simp [ntA, ntL, bv_length, hh]
theorem ntA_one (hv : v.oneCell' = true) : ∀ u, u ∈ (ntA z h v).toList → u.oneCell' = true := by
 intro u hu
 simp only [ntA, List.toList_toArray, ntL, List.mem_cons, List.mem_append, List.not_mem_nil, or_false] at hu
 rcases hu with rfl | hu | rfl
 · rfl
 · exact bv_one _ u hu
 · exact hv
theorem ntA_sigs (hh : h.length = 32) : (ntA z h v)[33]? = some v := by
 simp only [ntA, List.getElem?_toArray, ntL, List.getElem?_cons_succ]
 rw [List.getElem?_append_right (by rw [bv_length]; omega), bv_length, hh]; rfl
theorem ntA_setSigs (hh : h.length = 32) (u : Value) : (ntA z h v).setIfInBounds 33 u = ntA z h u := by
 unfold ntA ntL
 rw [List.setIfInBounds_toArray, List.set_cons_succ, List.set_append_right _ _ (by rw [bv_length]; omega), bv_length, hh]; rfl
theorem nt_pointAt {w : World} {g : Nat} {t : TypeId} (b : Blk w g t (ntA z h v)) : ∀ j u, (ptA z h).toList[j]? = some u → w.cell? ((⟨g, 0, none⟩ : Addr).add j) = some u := by
 intro j u hu
 refine b.agg j u ?_
 simp only [ntA, List.toList_toArray, ntL]
 have e : Value.int .i64 z :: (bv h ++ [v]) = (ptA z h).toList ++ [v] := rfl
 rw [e, List.getElem?_append_left (List.getElem?_eq_some_iff.1 hu).1]
 exact hu
end
theorem Tryd.infoNote : (Tryd.prog.info? 36).map (·.size) = some 34 := by kernel_rfl
theorem Tryd.infoSig : (Tryd.prog.info? 81).map (·.size) = some 33 := by kernel_rfl
theorem Tryd.infoSigZ : (Tryd.prog.info? 81).map (fun i => (i.zero, i.size, i.bytes)) = some (some (.agg (sgA ([], List.replicate 32 0))), 33, 48) := by kernel_rfl
end
/- Check of both packages. -/
section
open Go.RowKit
def lastN (l : List SigD) (k : Nat) : List UInt8 := match k with
 | 0 => []
 | k + 1 => (l.getD k ([], [])).1
theorem rising_drop {l : List SigD} {k : Nat} {s : SigD} (h : l[k]? = some s) : rising (lastN l k) (l.drop k) = (nmOk s.1 && decide (0 < cmpB s.1 (lastN l k)) && rising s.1 (l.drop (k + 1))) := by
 have hk := (List.getElem?_eq_some_iff.1 h).1
 have hs := (List.getElem?_eq_some_iff.1 h).2
 rw [List.drop_eq_getElem_cons hk, hs]
 rfl
theorem lastN_succ {l : List SigD} {k : Nat} {s : SigD} (h : l[k]? = some s) : lastN l (k + 1) = s.1 := by
 show (l.getD k ([], [])).1 = _
 rw [List.getD_eq_getElem?_getD, h]
 rfl
theorem str_of (s : List UInt8) : ∃ b : ByteArray, Hid (strV s = .string b) ∧ Hid (b.toList = s) ∧ b.size = s.length ∧ Hid (b.data.toList = s) := ⟨⟨s.toArray⟩, Lib.hid rfl, Lib.hid (str_list s), str_size s, Lib.hid rfl⟩
def chkN (z : Int) (l : List SigD) : Int := if mayN z l then 0 else 2
theorem scheck_any (z : Int) (hz : -9223372036854775808 ≤ z ∧ z ≤ 9223372036854775807) (h : List UInt8) (hh : h.length = 32) (l : List SigD) (hok : SgOk l) (hll : l.length ≤ 9223372036854775807) (A : Option Addr) (c : Nat) (w : World) (LDw : LD w) (hv : Rd w 33 (.slice A l.length c) l.length (sgsC l)) :
 Calls Tryd.prog 24 #[.agg (ntA z h (.slice A l.length c))] w fun e w' => e = .returned (.int .i64 (chkN z l)) ∧ Kp [] w w' := by
 have S0 := Lib.hid ((Held.start w).newBlk 36 (ntA z h (.slice A l.length c)))
 have hpA := Lib.hid (nt_pointAt (S0.out.at_ (l1 := [])))
 have c33 : (w.alloc (.cells (ntA z h (.slice A l.length c)) 36)).cell? ⟨w.heap.size, 33, none⟩ = some (.slice A l.length c) := by rw [(S0.out.at_ (l1 := [])).cell]; exact ntA_sigs hh
 have HP := Lib.hid (ptA_size (s := z) hh)
 have HT := Lib.hid (fun V (hk : Kp [] w V) => ptext_any z hz h hh V (LDw.kp hk))
 have HV := Lib.hid hv
 clear hv
 have hchk : ∀ b, mayN z l = b → chkN z l = if b then 0 else 2 := fun b hb => by unfold chkN; rw [hb]
 have Hchk := Lib.hid hchk
 clear hchk
 obtain ⟨ca, hca⟩ : ∃ ca, ntA z h (.slice A l.length c) = ca := ⟨_, rfl⟩
 rw [hca] at S0 hpA c33 ⊢
 obtain ⟨cp, hcp⟩ : ∃ cp, Hid (ptA z h = cp) := ⟨_, Lib.hid rfl⟩
 rw [hcp.out] at hpA HP HT
 clear hca
 unfold TextPost at HT
 obtain ⟨ts, hts⟩ : ∃ ts : ByteArray, (⟨(txt z h).toArray⟩ : ByteArray) = ts := ⟨_, rfl⟩
 rw [hts] at HT
 clear hts
 have hcg := fun V (hk : Kp [] (w.alloc (.cells ca 36)) V) => cell_kept c33 hk
 have Hcg := Lib.hid hcg
 clear hcg
 go_enter Tryd.func24, Tryd.ntmps24
 go_wp2_with (refine wpList_load_agg rfl 33 (.tmp 9) rfl ⟨w.heap.size, 0, none⟩ (by simp [Act.eval, Act.put]) cp.toList _ hpA.out Tryd.underlying33 rfl (by rw [Array.length_toList, HP.out]; exact Tryd.infoPointP) ?_)
 refine (HT.out _ S0.out.k).mono ?_
 rintro e w1 ⟨rfl, k1⟩
 have S1 := Lib.hid (S0.out.kp k1)
 have c33 := Hcg.out w1 k1
 clear k1 HT hpA
 by_cases hz0 : z < 0
 · have e : txE z = 2 := if_pos hz0
   rw [e]
   have Hm := Lib.hid (Hchk.out false (by unfold mayN; rw [decide_eq_false (by omega), Bool.false_and, Bool.false_and]))
   go_wp2
   go_ret
   exact ⟨by rw [Hm.out]; rfl, S1.out.k⟩
 · have e : txE z = 0 := if_neg hz0
   rw [e]
   clear e
   by_cases h64 : 64 < l.length
   · have h64' : (64 : Int) < (l.length : Int) := by omega
     have Hm := Lib.hid (Hchk.out false (by unfold mayN; rw [decide_eq_false (show ¬ l.length ≤ 64 by omega), Bool.and_false, Bool.false_and]))
     go_wp2
     go_ret
     exact ⟨by rw [Hm.out]; rfl, S1.out.k⟩
   · have h64' : ¬ (64 : Int) < (l.length : Int) := by omega
     have hma : mayN z l = rising [] l := by unfold mayN; rw [decide_eq_true (by omega), decide_eq_true (show l.length ≤ 64 by omega)]; rfl
     have Hma := Lib.hid hma
     clear hma
     go_wp2
     go_loopw [5, 7, 25] (fun last _ i wr => ∃ k : Nat, k ≤ l.length ∧ i = .int .i64 (k : Int) ∧ last = strV (lastN l k) ∧ Hid (rising [] l = rising (lastN l k) (l.drop k)) ∧ Kp [] w wr) (fun _ _ i _ => l.length - (intOf i).toNat)
     case atStart => exact ⟨0, by omega, rfl, rfl, Lib.hid rfl, S1.out.k⟩
     case round =>
      clear c33
      obtain ⟨k, hk, rfl, rfl, HA, K⟩ := hrel
      have K := Lib.hid K
      by_cases hlt : k < l.length
      · obtain ⟨s, hs⟩ : ∃ s, l[k]? = some s := ⟨_, List.getElem?_eq_getElem hlt⟩
        have hsk := hok s (List.mem_of_getElem? hs)
        obtain ⟨ad, rfl⟩ : ∃ ad, A = some ad := by
         obtain ⟨-, A', c', he, -, -, hA, -⟩ := HV.out
         cases he
         rcases A with _ | ad
         · have := hA rfl; omega
         · exact ⟨ad, rfl⟩
        have hat := Lib.hid (sgs_at (rd_old HV.out K.out) hok hs)
        have hrd := Lib.hid (rising_drop hs)
        have hln := Lib.hid (lastN_succ hs)
        have hsz := Lib.hid (sgA_size hsk.1)
        have hone := Lib.hid (sgA_one s)
        have hlist : (sgA s).toList = sgL s := rfl
        obtain ⟨ns, hns, hnl, hnz, hnd⟩ := str_of s.1
        obtain ⟨ls, hls, hll2, -, -⟩ := str_of (lastN l k)
        have HS := Lib.hid (fun V => signer_any ns (by rw [hnz]; exact hsk.2) V)
        rw [hnd.out] at HS
        have hle : Hid ((Op.bytesLess ns.toList ls.toList || ns.toList == ls.toList) = decide (cmpB s.1 (lastN l k) ≤ 0)) := Lib.hid (by rw [hnl.out, hll2.out]; exact leq_cmp _ _)
        obtain ⟨cs, hcs⟩ : ∃ cs, Hid (sgA s = cs) := ⟨_, Lib.hid rfl⟩
        have hc0 : Hid (cs[0]? = some (.string ns)) := Lib.hid (by rw [← hcs.out, ← hns.out]; rfl)
        rw [← hlist] at hat
        rw [hcs.out] at hat hsz hone
        rw [hls.out]
        clear hnz hsk hlist hs
        have S3 := Lib.hid ((Held.start wr).newBlk 81 (sgA ([], List.replicate 32 0)))
        generalize hlk : lastN l k = lk at *
        go_wp2_with (first
         | (refine wpList_load_agg rfl 81 (.tmp 27) rfl (ad.add (k * 33)) (by simp [Act.eval, Act.put]) cs.toList _ hat.out Tryd.underlying81 rfl (by rw [Array.length_toList, hsz.out]; exact Tryd.infoSig) ?_)
         | (refine wpList_store_blk rfl 81 (.tmp 7) (.tmp 28) rfl wr.heap.size (by simp [Act.eval, Act.put]) cs (by simp [Act.eval, Act.put]) 81 _ (S3.out.at_ (l1 := [])) (by rw [hsz.out]; exact Tryd.infoSig) (by rw [hsz.out]; rfl) hone.out ?_; intro w5 b5 k5; have S5 := Lib.hid (Held.setBlk (l1 := []) S3.out b5 k5); have c5 : w5.cell? ⟨wr.heap.size, 0, none⟩ = some (.string ns) := (by rw [b5.cell]; exact hc0.out); clear b5 k5))
        refine (HS.out _).mono ?_
        rintro e w6 ⟨rfl, rfl⟩
        have K5 := Lib.hid (K.out.trans S5.out.k (by simp))
        by_cases hnm : nmOk s.1 = true
        · rw [hnm]
          by_cases hcm : cmpB s.1 lk ≤ 0
          · have hle := hle.out
            rw [decide_eq_true hcm] at hle
            have Hm := Lib.hid (Hchk.out false (by rw [Hma.out, HA.out, hrd.out, decide_eq_false (by omega), Bool.and_false, Bool.false_and]))
            clear hcm hnm
            go_wp2
            go_ret
            exact ⟨by rw [Hm.out]; rfl, K5.out⟩
          · have hle := hle.out
            rw [decide_eq_false hcm] at hle
            have Hr : Hid (rising [] l = rising (lastN l (k + 1)) (l.drop (k + 1))) := Lib.hid (by rw [HA.out, hrd.out, hnm, decide_eq_true (show 0 < cmpB s.1 lk by omega), hln.out]; rfl)
            clear hcm hnm
            go_wp2
            go_roundw
            case rel => exact ⟨k + 1, by omega, by go_num, by rw [hln.out, hns.out], Hr, K5.out⟩
            case measure => simp [intOf]; omega
        · have hnm' : nmOk s.1 = false := by simpa using hnm
          rw [hnm']
          have Hm := Lib.hid (Hchk.out false (by rw [Hma.out, HA.out, hrd.out, hnm', Bool.false_and, Bool.false_and]))
          clear hnm hnm'
          go_wp2
          go_ret
          exact ⟨by rw [Hm.out]; rfl, K5.out⟩
      · obtain rfl : k = l.length := by omega
        have Hm := Lib.hid (Hchk.out true (by rw [Hma.out, HA.out, List.drop_length]; rfl))
        go_wp2
        go_ret
        exact ⟨by rw [Hm.out]; rfl, K.out⟩
end
/- May, Check of the reference. -/
section
open Go.RowKit
theorem geq_cmp (a b : List UInt8) : (!Op.bytesLess a b) = decide (0 ≤ cmpB a b) := by
 rw [less_cmp, Bool.eq_iff_iff, Bool.not_eq_true', decide_eq_false_iff_not, decide_eq_true_iff]
 omega
theorem cmp_nil {s : List UInt8} (h : nmOk s = true) : 0 < cmpB s [] := by
 cases s with
 | nil => cases h
 | cons x s => simp [cmpB, Lib.compareBytes]
theorem addr0 (ad : Addr) : ad.add 0 = ad := by unfold Addr.add; simp
theorem rmay_any (z : Int) (hz : -9223372036854775808 ≤ z ∧ z ≤ 9223372036854775807) (h : List UInt8) (hh : h.length = 32) (l : List SigD) (hok : SgOk l) (hll : l.length ≤ 9223372036854775807) (A : Option Addr) (c : Nat) (w : World) (hv : Rd w 33 (.slice A l.length c) l.length (sgsC l)) :
 Calls Tryd.prog 49 #[.agg (ntA z h (.slice A l.length c))] w fun e w' => e = .returned (.bool (mayN z l)) ∧ Kp [] w w' := by
 have S0 := Lib.hid ((Held.start w).newBlk 36 (ntA z h (.slice A l.length c)))
 have c33 : (w.alloc (.cells (ntA z h (.slice A l.length c)) 36)).cell? ⟨w.heap.size, 33, none⟩ = some (.slice A l.length c) := by rw [(S0.out.at_ (l1 := [])).cell]; exact ntA_sigs hh
 have c0 : (w.alloc (.cells (ntA z h (.slice A l.length c)) 36)).cell? ⟨w.heap.size, 0, none⟩ = some (.int .i64 z) := by rw [(S0.out.at_ (l1 := [])).cell]; rfl
 have HV := Lib.hid hv
 clear hv
 obtain ⟨ca, hca⟩ : ∃ ca, ntA z h (.slice A l.length c) = ca := ⟨_, rfl⟩
 rw [hca] at S0 c33 c0 ⊢
 clear hca
 have hcg := fun V (hk : Kp [] (w.alloc (.cells ca 36)) V) => cell_kept c33 hk
 have Hcg := Lib.hid hcg
 clear hcg
 by_cases hz0 : z < 0
 · have Hm : Hid (mayN z l = false) := Lib.hid (by unfold mayN; rw [decide_eq_false (by omega), Bool.false_and, Bool.false_and])
   go_enter Tryd.func49, Tryd.ntmps49
   go_wp2
   go_ret
   exact ⟨by rw [Hm.out]; rfl, S0.out.k⟩
 · by_cases h64 : 64 < l.length
   · have h64' : (64 : Int) < (l.length : Int) := by omega
     have Hm : Hid (mayN z l = false) := Lib.hid (by unfold mayN; rw [decide_eq_false (show ¬ l.length ≤ 64 by omega), Bool.and_false, Bool.false_and])
     go_enter Tryd.func49, Tryd.ntmps49
     go_wp2
     all_goals
      go_ret
      exact ⟨by rw [Hm.out]; rfl, S0.out.k⟩
   · have h64' : ¬ (64 : Int) < (l.length : Int) := by omega
     have hma : mayN z l = rising [] l := by unfold mayN; rw [decide_eq_true (by omega), decide_eq_true (show l.length ≤ 64 by omega)]; rfl
     have Hma := Lib.hid hma
     clear hma
     go_enter Tryd.func49, Tryd.ntmps49
     go_wp2
     go_loopw [3] (fun i wr => ∃ k : Nat, k ≤ l.length ∧ i = .int .i64 (k : Int) ∧ Hid (rising [] l = rising (lastN l k) (l.drop k)) ∧ Kp [] (w.alloc (.cells ca 36)) wr) (fun i _ => l.length - (intOf i).toNat)
     case atStart => exact ⟨0, by omega, rfl, Lib.hid rfl, Kp.refl _ _⟩
     case round =>
      clear c33 c0
      obtain ⟨k, hk, rfl, HA, K⟩ := hrel
      have c33 := Hcg.out wr K
      have K := Lib.hid K
      have K0 := Lib.hid (S0.out.k.trans K.out (by simp))
      by_cases hlt : k < l.length
      · obtain ⟨s, hs⟩ : ∃ s, l[k]? = some s := ⟨_, List.getElem?_eq_getElem hlt⟩
        have hsk := hok s (List.mem_of_getElem? hs)
        obtain ⟨ad, rfl⟩ : ∃ ad, A = some ad := by
         obtain ⟨-, A', c', he, -, -, hA, -⟩ := HV.out
         cases he
         rcases A with _ | ad
         · have := hA rfl; omega
         · exact ⟨ad, rfl⟩
        have hrd := Lib.hid (rising_drop hs)
        have hln := Lib.hid (lastN_succ hs)
        obtain ⟨ns, hns, hnl, hnz, hnd⟩ := str_of s.1
        have HS := Lib.hid (fun V => rname_any ns (by rw [hnz]; exact hsk.2) V)
        rw [hnd.out] at HS
        have hat := fun V (kk : Kp [] wr V) => by
         have := sgs_at (rd_old HV.out (K0.out.trans kk (by simp))) hok hs 0 (strV s.1) rfl
         rwa [addr0, hns.out] at this
        have q1 := hat wr.drew ((Kp.refl [] _).drew)
        have q0 := hat wr (Kp.refl [] _)
        by_cases hnm : nmOk s.1 = true
        · rcases k with _ | j
          · have q0 := hat wr (Kp.refl [] _)
            simp only [Nat.zero_mul, addr0] at q0
            have Hr : Hid (rising [] l = rising (lastN l (0 + 1)) (l.drop (0 + 1))) := Lib.hid (by rw [HA.out, hrd.out, hnm, decide_eq_true (show 0 < cmpB s.1 (lastN l 0) from cmp_nil hnm), hln.out]; rfl)
            rw [hnm] at HS
            clear hnm hat q1
            go_wp2
            go_quiet ((go_at_call 73; exact Calls.quiet_of_same ((HS.out _).mono (fun e w' h => ⟨h.1, h.2.symm⟩))))
            go_wp2
            go_roundw
            case rel => exact ⟨1, by omega, rfl, Hr, K.out.drewN _⟩
            case measure => simp [intOf]; omega
          · obtain ⟨p, hp⟩ : ∃ p, l[j]? = some p := ⟨_, List.getElem?_eq_getElem (by omega)⟩
            have hlj := Lib.hid (lastN_succ hp)
            obtain ⟨ps, hps, hpl, -, -⟩ := str_of p.1
            have q2 := sgs_at (rd_old HV.out K0.out) hok hp 0 (strV p.1) rfl
            rw [addr0, hps.out] at q2
            have hj1 : wrap64 (((j + 1 : Nat) : Int) - 1) = (j : Int) := by unfold wrap64; omega
            have hj2 : (j : Int) < (l.length : Int) := by omega
            have hge : Hid ((!Op.bytesLess ps.toList ns.toList) = decide (0 ≤ cmpB p.1 s.1)) := Lib.hid (by rw [hpl.out, hnl.out]; exact geq_cmp _ _)
            have hsym := cmpB_neg p.1 s.1
            rw [hlj.out] at hrd
            rw [hnm] at HS
            by_cases hcm : 0 < cmpB s.1 p.1
            · have hge := hge.out
              rw [decide_eq_false (by omega)] at hge
              have Hr : Hid (rising [] l = rising (lastN l (j + 1 + 1)) (l.drop (j + 1 + 1))) := Lib.hid (by rw [HA.out, hlj.out, hrd.out, hnm, decide_eq_true hcm, hln.out]; rfl)
              clear hnm hat q1 hcm hsym
              go_wp2
              go_quiet ((go_at_call 73; exact Calls.quiet_of_same ((HS.out _).mono (fun e w' h => ⟨h.1, h.2.symm⟩))))
              go_wp2
              go_roundw
              case rel => exact ⟨j + 1 + 1, by omega, by go_num, Hr, K.out.drewN _⟩
              case measure => simp [intOf]; omega
            · have hge := hge.out
              rw [decide_eq_true (by omega)] at hge
              have Hm := Lib.hid (show mayN z l = false from by rw [Hma.out, HA.out, hlj.out, hrd.out, decide_eq_false hcm, Bool.and_false, Bool.false_and])
              clear hnm hat q1 hcm hsym
              go_wp2
              go_quiet ((go_at_call 73; exact Calls.quiet_of_same ((HS.out _).mono (fun e w' h => ⟨h.1, h.2.symm⟩))))
              go_wp2
              go_ret
              exact ⟨by rw [Hm.out]; rfl, K0.out.drewN _⟩
        · have hnm' : nmOk s.1 = false := by simpa using hnm
          rw [hnm'] at HS
          have Hm := Lib.hid (show mayN z l = false from by rw [Hma.out, HA.out, hrd.out, hnm', Bool.false_and, Bool.false_and])
          clear hnm hnm' hat q1
          go_wp2
          go_quiet ((go_at_call 73; exact Calls.quiet_of_same ((HS.out _).mono (fun e w' h => ⟨h.1, h.2.symm⟩))))
          go_wp2
          go_ret
          exact ⟨by rw [Hm.out]; rfl, K0.out.drewN _⟩
      · obtain rfl : k = l.length := by omega
        have Hm := Lib.hid (show mayN z l = true from by rw [Hma.out, HA.out, List.drop_length]; rfl)
        go_wp2
        go_ret
        exact ⟨by rw [Hm.out]; rfl, K0.out⟩
end
/- Check of the reference; New of both; Equal. -/
section
open Go.RowKit
def zeroN : Array Value := ntA 0 (List.replicate 32 0) (.slice none 0 0)
theorem Tryd.builtN_is (ps : List (Nat × Value)) : Tryd.prog.built 36 ps = Instr.fill (#[(0, 33), (33, 1)][·]?) zeroN ps := by
 unfold Program.built
 kernel_rfl
theorem Tryd.built_note (z : Int) (hh : List UInt8) (hl : hh.length = 32) : Tryd.prog.built 36 [(0, .agg (ptA z hh))] = some (ntA z hh (.slice none 0 0)) := by
 rw [Tryd.builtN_is]
 have hs : (ptA z hh).size = 33 := ptA_size hl
 have hs0 : zeroN.size = 34 := rfl
 have h : ((ptA z hh).zipIdx.foldl (fun cs (x : Value × Nat) => cs.setIfInBounds (0 + x.2) x.1) zeroN) = ntA z hh (.slice none 0 0) := by
  have h1 := foldl_place 0 (ptA z hh).toList 0 zeroN
  rw [show (ptA z hh).zipIdx.foldl (fun cs (x : Value × Nat) => cs.setIfInBounds (0 + x.2) x.1) zeroN = ((ptA z hh).toList.zipIdx 0).foldl (fun cs (x : Value × Nat) => cs.setIfInBounds (0 + x.2) x.1) zeroN from by rw [← Array.foldl_toList, Array.toList_zipIdx], h1]
  rw [hs0, List.take_of_length_le (l := (ptA z hh).toList) (by rw [Array.length_toList, hs]; decide), Array.length_toList, hs]
  rfl
 unfold Instr.fill
 show (if (decide ((ptA z hh).size ≠ 33) || decide (0 + (ptA z hh).size > zeroN.size)) = true then none else Instr.fill (#[(0, 33), (33, 1)][·]?) ((ptA z hh).zipIdx.foldl (fun cs (x : Value × Nat) => cs.setIfInBounds (0 + x.2) x.1) zeroN) []) = _
 rw [hs, hs0, h]
 rfl
theorem Tryd.built_noteZ : Tryd.prog.built 36 [] = some zeroN := by rw [Tryd.builtN_is]; rfl
theorem rscheck_any (z : Int) (hz : -9223372036854775808 ≤ z ∧ z ≤ 9223372036854775807) (h : List UInt8) (hh : h.length = 32) (l : List SigD) (hok : SgOk l) (hll : l.length ≤ 9223372036854775807) (A : Option Addr) (c : Nat) (w : World) (hv : Rd w 33 (.slice A l.length c) l.length (sgsC l)) :
 Calls Tryd.prog 25 #[.agg (ntA z h (.slice A l.length c))] w fun e w' => e = .returned (.int .i64 (chkN z l)) ∧ Kp [] w w' := by
 have S0 := Lib.hid ((Held.start w).newBlk 36 (ntA z h (.slice A l.length c)))
 have HR := Lib.hid (fun V (k : Kp [] w V) => rmay_any z hz h hh l hok hll A c V (rd_old hv k))
 have hz1 := Lib.hid (ntA_size (z := z) (v := .slice A l.length c) hh)
 have hck : Hid (chkN z l = if mayN z l then 0 else 2) := Lib.hid rfl
 clear hv
 obtain ⟨ca, hca⟩ : ∃ ca, ntA z h (.slice A l.length c) = ca := ⟨_, rfl⟩
 rw [hca] at S0 hz1 HR ⊢
 clear hca
 generalize mayN z l = b at *
 go_enter Tryd.func25, Tryd.ntmps25
 go_wp2_with (refine wpList_load_blk rfl 36 (.tmp 1) rfl w.heap.size (by simp [Act.eval, Act.put]) 36 _ (S0.out.at_ (l1 := [])) _ Tryd.underlying36 rfl (by rw [hz1.out]; exact Tryd.infoNote) ?_)
 refine (HR.out _ S0.out.k).mono ?_
 rintro e w1 ⟨rfl, k1⟩
 have K := Lib.hid (S0.out.k.trans k1 (by simp))
 clear k1
 cases b
 · go_wp2
   go_ret
   exact ⟨by rw [hck.out]; rfl, K.out⟩
 · go_wp2
   go_ret
   exact ⟨by rw [hck.out]; rfl, K.out⟩
theorem rd_nil_any (s : Nat) (V : World) : Rd V s (.slice none 0 0) 0 [] := ⟨by simp, none, 0, rfl, Nat.le_refl _, Nat.zero_le _, fun _ => ⟨rfl, rfl⟩, fun ad h => by cases h⟩
theorem Held.newBlkN {w0 w : World} {L : List Res} (h : Held w0 w L) (t : TypeId) (cs : Array Value) {g : Nat} (hg : w.heap.size = g) : Held w0 (w.alloc (.cells cs t)) (blkR g t cs :: L) := hg ▸ h.newBlk t cs
theorem Blk.newN (w : World) (t : TypeId) (cs : Array Value) {g : Nat} (hg : w.heap.size = g) : Blk (w.alloc (.cells cs t)) g t cs := hg ▸ Blk.new w t cs
def newA (z : Int) (h : List UInt8) : Array Value := if 0 ≤ z then ntA z h (.slice none 0 0) else zeroN
theorem mayN_nil (z : Int) : mayN z [] = decide (0 ≤ z) := by
 unfold mayN rising
 simp
theorem sgnew_any (z : Int) (hz : -9223372036854775808 ≤ z ∧ z ≤ 9223372036854775807) (h : List UInt8) (hh : h.length = 32) (w : World) (LDw : LD w) :
 Calls Tryd.prog 14 #[.agg (ptA z h)] w fun e w' => e = .returned (.tuple #[.agg (newA z h), .int .i64 (chkN z [])]) ∧ Kp [] w w' := by
 have S0 := Lib.hid (((Held.start w).newBlk 33 (ptA z h)).newBlkN 36 zeroN (g := w.heap.size + 1) (by simp))
 have HB := Lib.hid (Tryd.built_note z h hh)
 have HB0 := Lib.hid Tryd.built_noteZ
 have hp1 := Lib.hid (ptA_size (s := z) hh)
 have hz1 := Lib.hid (ntA_size (z := z) (v := .slice none 0 0) hh)
 have hzz : Hid (zeroN.size = 34) := Lib.hid rfl
 have hO := Lib.hid (ntA_one (z := z) (h := h) (v := .slice none 0 0) rfl)
 have hOz : Hid (∀ u, u ∈ zeroN.toList → u.oneCell' = true) := Lib.hid (ntA_one (v := .slice none 0 0) rfl)
 have HC := Lib.hid (fun V (k : Kp [] w V) => scheck_any z hz h hh [] (fun s hs => by cases hs) (by simp) none 0 V (LDw.kp k) (rd_nil_any 33 V))
 have hck : Hid (chkN z [] = if 0 ≤ z then 0 else 2) := Lib.hid (by unfold chkN; rw [mayN_nil]; by_cases h0 : 0 ≤ z <;> simp [h0])
 have hnA : Hid (newA z h = if 0 ≤ z then ntA z h (.slice none 0 0) else zeroN) := Lib.hid rfl
 obtain ⟨cn, hcn⟩ : ∃ cn, ntA z h (.slice none 0 0) = cn := ⟨_, rfl⟩
 obtain ⟨cp, hcp⟩ : ∃ cp, ptA z h = cp := ⟨_, rfl⟩
 rw [List.length_nil] at HC
 rw [hcn] at HB hz1 hO HC hnA
 rw [hcp] at HB hp1 S0 ⊢
 clear hcn hcp
 generalize newA z h = cr at *
 generalize chkN z [] = ck at *
 go_enter Tryd.func14, Tryd.ntmps14
 go_wp2_with (first
  | (refine wpList_load_blk rfl 33 (.tmp 1) rfl w.heap.size (by simp [Act.eval, Act.put]) 33 _ (S0.out.at_ (l1 := [_])) _ Tryd.underlying33 rfl (by rw [hp1.out]; exact Tryd.infoPointP) ?_)
  | (refine wpList_buildC rfl 36 _ rfl [(0, .agg cp)] (by simp [Act.eval, Act.put]) _ HB.out ?_)
  | (refine wpList_store_blk rfl 36 (.tmp 4) (.tmp 7) rfl (w.heap.size + 1 + 1) (by simp [Act.eval, Act.put]) cn (by simp [Act.eval, Act.put]) 36 zeroN (Blk.newN _ 36 _ (by simp)) (by rw [hz1.out]; exact Tryd.infoNote) (by rw [hz1.out]; rfl) hO.out ?_; intro w5 b5 k5; have S5 := Lib.hid (Held.setBlk (l1 := []) (S0.out.newBlkN 36 zeroN (g := w.heap.size + 1 + 1) (by simp)) b5 k5); clear b5 k5)
  | (refine wpList_load_blk rfl 36 (.tmp 4) rfl (w.heap.size + 1 + 1) (by simp [Act.eval, Act.put]) 36 _ (S5.out.at_ (l1 := [])) _ Tryd.underlying36 rfl (by rw [hz1.out]; exact Tryd.infoNote) ?_))
 refine (HC.out _ S5.out.k).mono ?_
 rintro e w6 ⟨rfl, k6⟩
 have S6 := Lib.hid (S5.out.kp k6)
 clear k6 S5 S0
 by_cases h0 : 0 ≤ z
 · rw [if_pos h0] at hck hnA
   rw [hck.out]
   clear h0
   go_wp2_with (first
    | (refine wpList_load_blk rfl 36 (.tmp 4) rfl (w.heap.size + 1 + 1) (by simp [Act.eval, Act.put]) 36 _ (S6.out.at_ (l1 := [])) _ Tryd.underlying36 rfl (by rw [hz1.out]; exact Tryd.infoNote) ?_)
    | (refine wpList_store_blk rfl 36 (.tmp 2) (.tmp 14) rfl (w.heap.size + 1) (by simp [Act.eval, Act.put]) cn (by simp [Act.eval, Act.put]) 36 _ (S6.out.at_ (l1 := [_])) (by rw [hz1.out]; exact Tryd.infoNote) (by rw [hz1.out]; rfl) hO.out ?_; intro w7 b7 k7; have S7 := Lib.hid (Held.setBlk (l1 := [_]) S6.out b7 k7); clear b7 k7))
   refine bodyPost_ret (results_cell_tmp (by rfl) rfl (S7.out.at_ (l1 := [_])) Tryd.underlying36 rfl (by rw [hz1.out]; exact Tryd.infoNote)) rfl ?_
   exact ⟨by rw [hck.out, hnA.out]; rfl, S7.out.k⟩
 · rw [if_neg h0] at hck hnA
   rw [hck.out]
   clear h0
   obtain ⟨cz, hcz⟩ : ∃ cz, Hid (zeroN = cz) := ⟨_, Lib.hid rfl⟩
   rw [hcz.out] at HB0 hzz hOz hnA
   go_wp2_with (first
    | (refine wpList_buildC rfl 36 _ rfl [] (by simp [Act.eval, Act.put]) _ HB0.out ?_)
    | (refine wpList_store_blk rfl 36 (.tmp 2) (.tmp 12) rfl (w.heap.size + 1) (by simp [Act.eval, Act.put]) cz (by simp [Act.eval, Act.put]) 36 _ (S6.out.at_ (l1 := [_])) (by rw [hzz.out]; exact Tryd.infoNote) (by rw [hzz.out]; rfl) hOz.out ?_; intro w7 b7 k7; have S7 := Lib.hid (Held.setBlk (l1 := [_]) S6.out b7 k7); clear b7 k7))
   refine bodyPost_ret (results_cell_tmp (by rfl) rfl (S7.out.at_ (l1 := [_])) Tryd.underlying36 rfl (by rw [hzz.out]; exact Tryd.infoNote)) rfl ?_
   exact ⟨by rw [hck.out, hnA.out]; rfl, S7.out.k⟩
theorem rgnew_any (z : Int) (hz : -9223372036854775808 ≤ z ∧ z ≤ 9223372036854775807) (h : List UInt8) (hh : h.length = 32) (w : World) :
 Calls Tryd.prog 21 #[.agg (ptA z h)] w fun e w' => e = .returned (.tuple #[.agg (newA z h), .int .i64 (chkN z [])]) ∧ Kp [] w w' := by
 have S0 := Lib.hid (((Held.start w).newBlk 33 (ptA z h)).newBlkN 36 zeroN (g := w.heap.size + 1) (by simp))
 have HB := Lib.hid (Tryd.built_note z h hh)
 have HB0 := Lib.hid Tryd.built_noteZ
 have hp1 := Lib.hid (ptA_size (s := z) hh)
 have hz1 := Lib.hid (ntA_size (z := z) (v := .slice none 0 0) hh)
 have hzz : Hid (zeroN.size = 34) := Lib.hid rfl
 have hO := Lib.hid (ntA_one (z := z) (h := h) (v := .slice none 0 0) rfl)
 have hOz : Hid (∀ u, u ∈ zeroN.toList → u.oneCell' = true) := Lib.hid (ntA_one (v := .slice none 0 0) rfl)
 have HC := Lib.hid (fun V => rmay_any z hz h hh [] (fun s hs => by cases hs) (by simp) none 0 V (rd_nil_any 33 V))
 have hck : Hid (chkN z [] = if 0 ≤ z then 0 else 2) := Lib.hid (by unfold chkN; rw [mayN_nil]; by_cases h0 : 0 ≤ z <;> simp [h0])
 have hnA : Hid (newA z h = if 0 ≤ z then ntA z h (.slice none 0 0) else zeroN) := Lib.hid rfl
 obtain ⟨cn, hcn⟩ : ∃ cn, ntA z h (.slice none 0 0) = cn := ⟨_, rfl⟩
 obtain ⟨cp, hcp⟩ : ∃ cp, ptA z h = cp := ⟨_, rfl⟩
 rw [List.length_nil] at HC
 rw [hcn] at HB hz1 hO HC hnA
 rw [hcp] at HB hp1 S0 ⊢
 clear hcn hcp
 generalize newA z h = cr at *
 have hmn : mayN z [] = decide (0 ≤ z) := mayN_nil z
 rw [hmn] at HC
 clear hmn
 generalize chkN z [] = ck at *
 go_enter Tryd.func21, Tryd.ntmps21
 go_wp2_with (first
  | (refine wpList_load_blk rfl 33 (.tmp 1) rfl w.heap.size (by simp [Act.eval, Act.put]) 33 _ (S0.out.at_ (l1 := [_])) _ Tryd.underlying33 rfl (by rw [hp1.out]; exact Tryd.infoPointP) ?_)
  | (refine wpList_buildC rfl 36 _ rfl [(0, .agg cp)] (by simp [Act.eval, Act.put]) _ HB.out ?_)
  | (refine wpList_store_blk rfl 36 (.tmp 4) (.tmp 6) rfl (w.heap.size + 1 + 1) (by simp [Act.eval, Act.put]) cn (by simp [Act.eval, Act.put]) 36 zeroN (Blk.newN _ 36 _ (by simp)) (by rw [hz1.out]; exact Tryd.infoNote) (by rw [hz1.out]; rfl) hO.out ?_; intro w5 b5 k5; have S5 := Lib.hid (Held.setBlk (l1 := []) (S0.out.newBlkN 36 zeroN (g := w.heap.size + 1 + 1) (by simp)) b5 k5); clear b5 k5)
  | (refine wpList_load_blk rfl 36 (.tmp 4) rfl (w.heap.size + 1 + 1) (by simp [Act.eval, Act.put]) 36 _ (S5.out.at_ (l1 := [])) _ Tryd.underlying36 rfl (by rw [hz1.out]; exact Tryd.infoNote) ?_))
 refine (HC.out _).mono ?_
 rintro e w6 ⟨rfl, k6⟩
 have S6 := Lib.hid (S5.out.kp k6)
 clear k6 S5 S0
 by_cases h0 : 0 ≤ z
 · rw [if_pos h0] at hck hnA
   rw [decide_eq_true h0]
   clear h0
   go_wp2_with (first
    | (refine wpList_load_blk rfl 36 (.tmp 4) rfl (w.heap.size + 1 + 1) (by simp [Act.eval, Act.put]) 36 _ (S6.out.at_ (l1 := [])) _ Tryd.underlying36 rfl (by rw [hz1.out]; exact Tryd.infoNote) ?_)
    | (refine wpList_store_blk rfl 36 (.tmp 2) (.tmp 11) rfl (w.heap.size + 1) (by simp [Act.eval, Act.put]) cn (by simp [Act.eval, Act.put]) 36 _ (S6.out.at_ (l1 := [_])) (by rw [hz1.out]; exact Tryd.infoNote) (by rw [hz1.out]; rfl) hO.out ?_; intro w7 b7 k7; have S7 := Lib.hid (Held.setBlk (l1 := [_]) S6.out b7 k7); clear b7 k7))
   refine bodyPost_ret (results_cell_tmp (by rfl) rfl (S7.out.at_ (l1 := [_])) Tryd.underlying36 rfl (by rw [hz1.out]; exact Tryd.infoNote)) rfl ?_
   exact ⟨by rw [hck.out, hnA.out]; rfl, S7.out.k⟩
 · rw [if_neg h0] at hck hnA
   rw [decide_eq_false h0]
   clear h0
   obtain ⟨cz, hcz⟩ : ∃ cz, Hid (zeroN = cz) := ⟨_, Lib.hid rfl⟩
   rw [hcz.out] at HB0 hzz hOz hnA
   go_wp2_with (first
    | (refine wpList_buildC rfl 36 _ rfl [] (by simp [Act.eval, Act.put]) _ HB0.out ?_)
    | (refine wpList_store_blk rfl 36 (.tmp 2) (.tmp 10) rfl (w.heap.size + 1) (by simp [Act.eval, Act.put]) cz (by simp [Act.eval, Act.put]) 36 _ (S6.out.at_ (l1 := [_])) (by rw [hzz.out]; exact Tryd.infoNote) (by rw [hzz.out]; rfl) hOz.out ?_; intro w7 b7 k7; have S7 := Lib.hid (Held.setBlk (l1 := [_]) S6.out b7 k7); clear b7 k7))
   refine bodyPost_ret (results_cell_tmp (by rfl) rfl (S7.out.at_ (l1 := [_])) Tryd.underlying36 rfl (by rw [hzz.out]; exact Tryd.infoNote)) rfl ?_
   exact ⟨by rw [hck.out, hnA.out]; rfl, S7.out.k⟩
end
/- Equal; the order of names; where a name stands. -/
section
open Go.RowKit
theorem sgeq_any (a b : List UInt8) (ha : a.length = 32) (hb : b.length = 32) (w : World) : Calls Tryd.prog 12 #[.agg (hashA a), .agg (hashA b)] w fun e w' => e = .returned (.bool (a == b)) ∧ Kp [] w w' := by
 have S0 := Lib.hid (((Held.start w).newBlk 25 (hashA a)).newBlkN 25 (hashA b) (g := w.heap.size + 1) (by simp))
 have hE := fun V => hash_eq_top V a b ha hb
 have h1 : Hid ((hashA a).size = 32) := Lib.hid (by rw [hashA_size, ha])
 have h2 : Hid ((hashA b).size = 32) := Lib.hid (by rw [hashA_size, hb])
 generalize hashA a = ca at *
 generalize hashA b = cb at *
 generalize (a == b) = r at *
 clear ha hb
 go_enter Tryd.func12, Tryd.ntmps12
 go_wp2_with (first
  | (refine wpList_load_blk rfl 25 (.tmp 2) rfl w.heap.size (by simp [Act.eval, Act.put]) 25 _ (S0.out.at_ (l1 := [_])) _ Tryd.underlying25 rfl (by rw [h1.out]; exact Tryd.infoHashP) ?_)
  | (refine wpList_load_blk rfl 25 (.tmp 3) rfl (w.heap.size + 1) (by simp [Act.eval, Act.put]) 25 _ (S0.out.at_ (l1 := [])) _ Tryd.underlying25 rfl (by rw [h2.out]; exact Tryd.infoHashP) ?_))
 go_ret
 exact ⟨rfl, S0.out.k⟩
theorem snan_any (s : ByteArray) (w : World) : Calls Tryd.prog 89 #[.string s] w fun e w' => e = .returned (.bool false) ∧ w = w' := by
 go_enter Tryd.func89, Tryd.ntmps89
 go_wp2
 go_ret
 exact ⟨rfl, rfl⟩
theorem strcmp_any (a b : ByteArray) (w : World) : Calls Tryd.prog 69 #[.string a, .string b] w fun e w' => e = .returned (.int .i64 (cmpB a.toList b.toList)) ∧ w = w' := by
 have h1 : Op.bytesLess a.toList b.toList = decide (cmpB a.toList b.toList < 0) := less_cmp _ _
 have h2 : (a.toList == b.toList) = decide (cmpB a.toList b.toList = 0) := cmp_beq _ _
 have hr := cmpB_range a.toList b.toList
 by_cases h : cmpB a.toList b.toList < 0
 · rw [decide_eq_true h] at h1
   have Hc : Hid (cmpB a.toList b.toList = -1) := Lib.hid (by omega)
   generalize cmpB a.toList b.toList = c at *
   clear hr h
   go_enter Tryd.func69, Tryd.ntmps69
   go_wp2_with (go_at_call 89; (with_reducible refine (snan_any _ _).mono ?_); rintro e w' ⟨rfl, rfl⟩)
   go_ret
   exact ⟨by rw [Hc.out]; rfl, rfl⟩
 · rw [decide_eq_false h] at h1
   by_cases h3 : cmpB a.toList b.toList = 0
   · rw [decide_eq_true h3] at h2
     have Hc : Hid (cmpB a.toList b.toList = 0) := Lib.hid (by omega)
     generalize cmpB a.toList b.toList = c at *
     clear hr h h3
     go_enter Tryd.func69, Tryd.ntmps69
     go_wp2_with (go_at_call 89; (with_reducible refine (snan_any _ _).mono ?_); rintro e w' ⟨rfl, rfl⟩)
     go_ret
     exact ⟨by rw [Hc.out]; rfl, rfl⟩
   · rw [decide_eq_false h3] at h2
     have Hc : Hid (cmpB a.toList b.toList = 1) := Lib.hid (by omega)
     generalize cmpB a.toList b.toList = c at *
     clear hr h h3
     go_enter Tryd.func69, Tryd.ntmps69
     go_wp2_with (go_at_call 89; (with_reducible refine (snan_any _ _).mono ?_); rintro e w' ⟨rfl, rfl⟩)
     go_ret
     exact ⟨by rw [Hc.out]; rfl, rfl⟩
theorem byname_any (s t : SigD) (w : World) : Calls Tryd.prog 44 #[.agg (sgA s), .agg (sgA t)] w fun e w' => e = .returned (.int .i64 (cmpB s.1 t.1)) ∧ Kp [] w w' := by
 have S0 := Lib.hid (((Held.start w).newBlk 81 (sgA s)).newBlkN 81 (sgA t) (g := w.heap.size + 1) (by simp))
 obtain ⟨ns, hns, hnl, -, -⟩ := str_of s.1
 obtain ⟨nt, hnt, htl, -, -⟩ := str_of t.1
 have c1 : ((w.alloc (.cells (sgA s) 81)).alloc (.cells (sgA t) 81)).cell? ⟨w.heap.size, 0, none⟩ = some (.string ns) := by rw [(S0.out.at_ (l1 := [_])).cell, ← hns.out]; rfl
 have c2 : ((w.alloc (.cells (sgA s) 81)).alloc (.cells (sgA t) 81)).cell? ⟨w.heap.size + 1, 0, none⟩ = some (.string nt) := by rw [(S0.out.at_ (l1 := [])).cell, ← hnt.out]; rfl
 have HC := fun V => strcmp_any ns nt V
 rw [hnl.out, htl.out] at HC
 have HC := Lib.hid HC
 generalize sgA s = cs at *
 generalize sgA t = ct at *
 go_enter Tryd.func44, Tryd.ntmps44
 go_wp2_with fail
 refine (HC.out _).mono ?_
 rintro e w1 ⟨rfl, rfl⟩
 go_wp2
 go_ret
 exact ⟨rfl, S0.out.k⟩
end
/- slices.BinarySearchFunc over signatures, by name. -/
section
variable {Q : Exit → Act → World → Prop} {a : Act} {w : World}
open Go.RowKit
theorem bsf_r0 (w0 : World) (s : SigD) (L : List Res) (S : Held w0 w L) (hsz : a.tmps.size = 49) (o1 : Sl a 1 (.agg (sgA s)))
 (hend : ∀ a' W, Same a a' [4, 6, 7] → (∃ g, Sl a' 4 (.pointer (some ⟨g, 0, none⟩)) ∧ Held w0 W (blkR g 81 (sgA s) :: L)) → Q .normal a' W) : (Code.region 0 (opsOf 0 Tryd.f43).toArray false).wp Tryd.prog Q a w := by
 refine wp_region_lit ?_
 (conv => arg 4; whnf)
 unfold Sl at o1
 have S0 := Lib.hid (S.newBlk 81 (sgA s))
 generalize sgA s = cs at *
 go_wp2
 try simp only [Act.put]
 exact hend _ _ sS (⟨w.heap.size, sP0, S0.out⟩)
theorem bsf_r1 (A : Option Addr) (n c : Nat) (hsz : a.tmps.size = 49) (o0 : Sl a 0 (.slice A n c))
 (hend : ∀ a', Same a a' [12, 13, 8] → Sl a' 8 (.int .i64 ((n : Nat) : Int)) → Q .normal a' (w)) : (Code.region 1 (opsOf 1 Tryd.f43).toArray false).wp Tryd.prog Q a w := by
 refine wp_region_lit ?_
 (conv => arg 4; whnf)
 unfold Sl at o0
 go_wp2
 try simp only [Act.put]
 exact hend _ sS sP
theorem bsf_r2 (n : Nat) (hsz : a.tmps.size = 49) (o8 : Sl a 8 (.int .i64 ((n : Nat) : Int)))
 (hend : ∀ a', Same a a' [14, 9, 10] → Sl a' 9 (.int .i64 ((0 : Nat) : Int)) → Sl a' 10 (.int .i64 ((n : Nat) : Int)) → Q .normal a' (w)) : (Code.region 2 (opsOf 2 Tryd.f43).toArray false).wp Tryd.prog Q a w := by
 refine wp_region_lit ?_
 (conv => arg 4; whnf)
 unfold Sl at o8
 go_wp2
 try simp only [Act.put]
 exact hend _ sS sP sP
theorem bsf_r3 (i j : Nat) (hsz : a.tmps.size = 49) (o9 : Sl a 9 (.int .i64 ((i : Nat) : Int))) (o10 : Sl a 10 (.int .i64 ((j : Nat) : Int)))
 (hend : ∀ a', Same a a' [15, 16, 17] → Sl a' 17 (.bool (decide (i < j))) → Q .normal a' (w)) : (Code.region 3 (opsOf 3 Tryd.f43).toArray false).wp Tryd.prog Q a w := by
 refine wp_region_lit ?_
 (conv => arg 4; whnf)
 unfold Sl at o9 o10
 go_wp2
 try simp only [Act.put]
 exact hend _ sS sP
theorem bsf_r4 (i j : Nat) (hij : i + j < 9223372036854775808) (hsz : a.tmps.size = 49) (o9 : Sl a 9 (.int .i64 ((i : Nat) : Int))) (o10 : Sl a 10 (.int .i64 ((j : Nat) : Int)))
 (hend : ∀ a', Same a a' [18, 19, 20, 21, 22, 23, 11] → Sl a' 11 (.int .i64 (((i + j) / 2 : Nat) : Int)) → Q .normal a' (w)) : (Code.region 4 (opsOf 4 Tryd.f43).toArray false).wp Tryd.prog Q a w := by
 refine wp_region_lit ?_
 (conv => arg 4; whnf)
 unfold Sl at o9 o10
 have h1 : wrap64 ((i : Int) + (j : Int)) = ((i + j : Nat) : Int) := by unfold wrap64; omega
 have h2 := hij
 go_wp2
 try simp only [Act.put]
 exact hend _ sS sP
theorem bsf_r5 (A : Addr) (n c k : Nat) (hk : k < n) (x s : SigD) (hx : x.2.length = 32) (hs : s.2.length = 32) (g : Nat) (hb : Blk w g 81 (sgA s)) (hr : ∀ V, Kp [] w V → ∀ j u, (sgL x)[j]? = some u → V.cell? ((A.add (k * 33)).add j) = some u) (hsz : a.tmps.size = 49) (o0 : Sl a 0 (.slice (some A) n c)) (o2 : Sl a 2 (.func (.func 44) #[] #[])) (o4 : Sl a 4 (.pointer (some ⟨g, 0, none⟩))) (o11 : Sl a 11 (.int .i64 ((k : Nat) : Int)))
 (hend : ∀ a' W, Same a a' [24, 25, 26, 27, 28, 29, 30, 31] → Kp [] w.drew W → Sl a' 31 (.bool (decide (cmpB x.1 s.1 < 0))) → Q .normal a' W) : (Code.region 5 (opsOf 5 Tryd.f43).toArray true).wp Tryd.prog Q a w := by
 have hap : apartB (opsOf 5 Tryd.f43) = true := by kernel_rfl
 refine wp_region_inv (l := (opsOf 5 Tryd.f43)) (fun i v W => match i with | 0 => v = .func (.func 44) #[] #[] | 1 => v = .slice (some A) n c | 2 => v = .int .i64 ((k : Nat) : Int) | 3 => v = .pointer (some (A.add (k * 33))) | 4 => v = .agg (sgA x) | 5 => v = .agg (sgA s) | 6 => v = .int .i64 (cmpB x.1 s.1) | 7 => v = .bool (decide (cmpB x.1 s.1 < 0)) | _ => True) (by kernel_rfl) hap (by kernel_rfl) ?_ ?_ ?_
 · intro i v W W' h _
   iterate 8 (rcases i with _ | i; · exact h)
   exact h
 · refine ⟨?_, ?_, ?_, ?_, ?_, ?_, ?_, ?_, trivial⟩
   · intro vs A' W hA hW hd K hK; have e2 := sO 2 o2 hA hap hsz; clear hA hd o0 o2 o4 o11; go_step; exact hK _ _ kR rfl
   · intro vs A' W hA hW hd K hK; have e0 := sO 0 o0 hA hap hsz; clear hA hd o0 o2 o4 o11; go_step; exact hK _ _ kR rfl
   · intro vs A' W hA hW hd K hK; have e11 := sO 11 o11 hA hap hsz; clear hA hd o0 o2 o4 o11; go_step; exact hK _ _ kR rfl
   · intro vs A' W hA hW hd K hK; have e25 := sV 25 (hd 1 (by kernel_rfl)) hA hap hsz; have e26 := sV 26 (hd 2 (by kernel_rfl)) hA hap hsz; clear hA hd o0 o2 o4 o11
     have h0 : 0 ≤ (k : Int) := by omega
     have h1 : (k : Int) < (n : Int) := by omega
     go_step; exact hK _ _ kR rfl
   · intro vs A' W hA hW hd K hK; have e27 := sV 27 (hd 3 (by kernel_rfl)) hA hap hsz; clear hA hd o0 o2 o4 o11
     refine op_runs (v := .agg (sgA x)) (w' := W) (exec_load rfl (by simpa [Act.eval] using e27) (run_loadAt_agg W (A.add (k * 33)) 81 (sgA x).toList _ (hr _ ((Kp.refl [] w).drew.trans hW (by simp))) Tryd.underlying81 rfl (by rw [Array.length_toList, sgA_size (hx)]; exact Tryd.infoSig))) ?_
     exact hK _ _ kR rfl
   · intro vs A' W hA hW hd K hK; have e4 := sO 4 o4 hA hap hsz; clear hA hd o0 o2 o4 o11
     refine op_runs (v := .agg (sgA s)) (w' := W) (exec_load rfl (by simpa [Act.eval] using e4) (run_loadAt_agg W (⟨g, 0, none⟩) 81 (sgA s).toList _ (Blk.agg (hb.kp ((Kp.refl [] w).drew.trans hW (by simp)) (by simp))) Tryd.underlying81 rfl (by rw [Array.length_toList, sgA_size (hs)]; exact Tryd.infoSig))) ?_
     exact hK _ _ kR rfl
   · intro vs A' W hA hW hd K hK; have e24 := sV 24 (hd 0 (by kernel_rfl)) hA hap hsz; have e28 := sV 28 (hd 4 (by kernel_rfl)) hA hap hsz; have e29 := sV 29 (hd 5 (by kernel_rfl)) hA hap hsz; clear hA hd o0 o2 o4 o11; go_step
     refine (byname_any x s W).mono ?_
     rintro e w' ⟨rfl, k⟩
     exact hK _ _ k rfl
   · intro vs A' W hA hW hd K hK; have e30 := sV 30 (hd 6 (by kernel_rfl)) hA hap hsz; clear hA hd o0 o2 o4 o11; go_step; exact hK _ _ kR rfl
 · intro vs W hW hp
   rw [putAll_eq]
   exact hend _ W sQ hW (sW (hp 7 sB))
theorem bsf_r6 (h : Nat) (hh : h < 9223372036854775807) (hsz : a.tmps.size = 49) (o11 : Sl a 11 (.int .i64 ((h : Nat) : Int)))
 (hend : ∀ a', Same a a' [32, 33, 9] → Sl a' 9 (.int .i64 ((h + 1 : Nat) : Int)) → Q .normal a' (w)) : (Code.region 6 (opsOf 6 Tryd.f43).toArray false).wp Tryd.prog Q a w := by
 refine wp_region_lit ?_
 (conv => arg 4; whnf)
 unfold Sl at o11
 have h1 : wrap64 ((h : Int) + 1) = ((h + 1 : Nat) : Int) := by unfold wrap64; omega
 go_wp2
 try simp only [Act.put]
 exact hend _ sS sP
theorem bsf_r7 (h : Nat) (hsz : a.tmps.size = 49) (o11 : Sl a 11 (.int .i64 ((h : Nat) : Int)))
 (hend : ∀ a', Same a a' [34, 10] → Sl a' 10 (.int .i64 ((h : Nat) : Int)) → Q .normal a' (w)) : (Code.region 7 (opsOf 7 Tryd.f43).toArray false).wp Tryd.prog Q a w := by
 refine wp_region_lit ?_
 (conv => arg 4; whnf)
 unfold Sl at o11
 go_wp2
 try simp only [Act.put]
 exact hend _ sS sP
theorem bsf_r8 (A : Addr) (n c k : Nat) (hk : k < n) (x s : SigD) (hx : x.2.length = 32) (hs : s.2.length = 32) (g : Nat) (hb : Blk w g 81 (sgA s)) (hr : ∀ V, Kp [] w V → ∀ j u, (sgL x)[j]? = some u → V.cell? ((A.add (k * 33)).add j) = some u) (hsz : a.tmps.size = 49) (o0 : Sl a 0 (.slice (some A) n c)) (o2 : Sl a 2 (.func (.func 44) #[] #[])) (o4 : Sl a 4 (.pointer (some ⟨g, 0, none⟩))) (o8 : Sl a 8 (.int .i64 ((n : Nat) : Int))) (o9 : Sl a 9 (.int .i64 ((k : Nat) : Int)))
 (hend : ∀ a' W, Same a a' [35, 36, 37, 38, 39, 40, 41, 42, 43, 44, 45, 46, 47, 48, 6, 7] → Kp [] w.drew W → Sl a' 6 (.int .i64 ((k : Nat) : Int)) → Sl a' 7 (.bool (decide (cmpB x.1 s.1 = 0))) → Q .normal a' W) : (Code.region 8 (opsOf 8 Tryd.f43).toArray true).wp Tryd.prog Q a w := by
 have hap : apartB (opsOf 8 Tryd.f43) = true := by kernel_rfl
 refine wp_region_invG (l := (opsOf 8 Tryd.f43)) (fun i v W => match i with | 0 => v = .int .i64 ((k : Nat) : Int) | 1 => v = .int .i64 ((k : Nat) : Int) | 2 => v = .int .i64 ((n : Nat) : Int) | 3 => v = .bool true | 4 => v = .bool true | 5 => v = .func (.func 44) #[] #[] | 6 => v = .slice (some A) n c | 7 => v = .int .i64 ((k : Nat) : Int) | 8 => v = .pointer (some (A.add (k * 33))) | 9 => v = .agg (sgA x) | 10 => v = .agg (sgA s) | 11 => v = .int .i64 (cmpB x.1 s.1) | 12 => v = .bool (decide (cmpB x.1 s.1 = 0)) | 13 => v = .bool (decide (cmpB x.1 s.1 = 0)) | 14 => v = .int .i64 ((k : Nat) : Int) | 15 => v = .bool (decide (cmpB x.1 s.1 = 0)) | _ => True) (by kernel_rfl) hap (by kernel_rfl) ?_ ?_ ?_
 · intro i v W W' h _
   iterate 16 (rcases i with _ | i; · exact h)
   exact h
 · refine ⟨?_, ?_, ?_, ?_, ?_, ?_, ?_, ?_, ?_, ?_, ?_, ?_, ?_, ?_, ?_, ?_, trivial⟩
   · intro vs A' W hA hW hd K hK; refine wpOp_free _ rfl rfl ?_; (conv => arg 2; whnf); have e9 := sO 9 o9 hA hap hsz; clear hA hd o0 o2 o4 o8 o9; go_step; exact hK _ _ kR rfl
   · intro vs A' W hA hW hd K hK; refine wpOp_free _ rfl rfl ?_; (conv => arg 2; whnf); have e9 := sO 9 o9 hA hap hsz; clear hA hd o0 o2 o4 o8 o9; go_step; exact hK _ _ kR rfl
   · intro vs A' W hA hW hd K hK; refine wpOp_free _ rfl rfl ?_; (conv => arg 2; whnf); have e8 := sO 8 o8 hA hap hsz; clear hA hd o0 o2 o4 o8 o9; go_step; exact hK _ _ kR rfl
   · intro vs A' W hA hW hd K hK; refine wpOp_free _ rfl rfl ?_; (conv => arg 2; whnf); have e36 := sV 36 (hd 1 (by kernel_rfl)) hA hap hsz; have e37 := sV 37 (hd 2 (by kernel_rfl)) hA hap hsz; clear hA hd o0 o2 o4 o8 o9
     have h0 : (k : Int) < (n : Int) := by omega
     go_step; exact hK _ _ kR rfl
   · intro vs A' W hA hW hd K hK; refine wpOp_free _ rfl rfl ?_; (conv => arg 2; whnf); have e38 := sV 38 (hd 3 (by kernel_rfl)) hA hap hsz; clear hA hd o0 o2 o4 o8 o9; go_step; exact hK _ _ kR rfl
   · intro vs A' W hA hW hd K hK; have e39 := sV 39 (hd 4 (by kernel_rfl)) hA hap hsz; refine wpOp_go _ rfl 4 39 true rfl rfl e39 ?_; (conv => arg 2; whnf); have e2 := sO 2 o2 hA hap hsz; clear hA hd o0 o2 o4 o8 o9; go_step; exact hK _ _ kR rfl
   · intro vs A' W hA hW hd K hK; have e39 := sV 39 (hd 4 (by kernel_rfl)) hA hap hsz; refine wpOp_go _ rfl 4 39 true rfl rfl e39 ?_; (conv => arg 2; whnf); have e0 := sO 0 o0 hA hap hsz; clear hA hd o0 o2 o4 o8 o9; go_step; exact hK _ _ kR rfl
   · intro vs A' W hA hW hd K hK; have e39 := sV 39 (hd 4 (by kernel_rfl)) hA hap hsz; refine wpOp_go _ rfl 4 39 true rfl rfl e39 ?_; (conv => arg 2; whnf); have e9 := sO 9 o9 hA hap hsz; clear hA hd o0 o2 o4 o8 o9; go_step; exact hK _ _ kR rfl
   · intro vs A' W hA hW hd K hK; have e39 := sV 39 (hd 4 (by kernel_rfl)) hA hap hsz; refine wpOp_go _ rfl 4 39 true rfl rfl e39 ?_; (conv => arg 2; whnf); have e41 := sV 41 (hd 6 (by kernel_rfl)) hA hap hsz; have e42 := sV 42 (hd 7 (by kernel_rfl)) hA hap hsz; clear hA hd o0 o2 o4 o8 o9
     have h0 : 0 ≤ (k : Int) := by omega
     have h1 : (k : Int) < (n : Int) := by omega
     go_step; exact hK _ _ kR rfl
   · intro vs A' W hA hW hd K hK; have e39 := sV 39 (hd 4 (by kernel_rfl)) hA hap hsz; refine wpOp_go _ rfl 4 39 true rfl rfl e39 ?_; (conv => arg 2; whnf); have e43 := sV 43 (hd 8 (by kernel_rfl)) hA hap hsz; clear hA hd o0 o2 o4 o8 o9
     refine op_runs (v := .agg (sgA x)) (w' := W) (exec_load rfl (by simpa [Act.eval] using e43) (run_loadAt_agg W (A.add (k * 33)) 81 (sgA x).toList _ (hr _ ((Kp.refl [] w).drew.trans hW (by simp))) Tryd.underlying81 rfl (by rw [Array.length_toList, sgA_size (hx)]; exact Tryd.infoSig))) ?_
     exact hK _ _ kR rfl
   · intro vs A' W hA hW hd K hK; have e39 := sV 39 (hd 4 (by kernel_rfl)) hA hap hsz; refine wpOp_go _ rfl 4 39 true rfl rfl e39 ?_; (conv => arg 2; whnf); have e4 := sO 4 o4 hA hap hsz; clear hA hd o0 o2 o4 o8 o9
     refine op_runs (v := .agg (sgA s)) (w' := W) (exec_load rfl (by simpa [Act.eval] using e4) (run_loadAt_agg W (⟨g, 0, none⟩) 81 (sgA s).toList _ (Blk.agg (hb.kp ((Kp.refl [] w).drew.trans hW (by simp)) (by simp))) Tryd.underlying81 rfl (by rw [Array.length_toList, sgA_size (hs)]; exact Tryd.infoSig))) ?_
     exact hK _ _ kR rfl
   · intro vs A' W hA hW hd K hK; have e39 := sV 39 (hd 4 (by kernel_rfl)) hA hap hsz; refine wpOp_go _ rfl 4 39 true rfl rfl e39 ?_; (conv => arg 2; whnf); have e40 := sV 40 (hd 5 (by kernel_rfl)) hA hap hsz; have e44 := sV 44 (hd 9 (by kernel_rfl)) hA hap hsz; have e45 := sV 45 (hd 10 (by kernel_rfl)) hA hap hsz; clear hA hd o0 o2 o4 o8 o9; go_step
     refine (byname_any x s W).mono ?_
     rintro e w' ⟨rfl, k⟩
     exact hK _ _ k rfl
   · intro vs A' W hA hW hd K hK; have e39 := sV 39 (hd 4 (by kernel_rfl)) hA hap hsz; refine wpOp_go _ rfl 4 39 true rfl rfl e39 ?_; (conv => arg 2; whnf); have e46 := sV 46 (hd 11 (by kernel_rfl)) hA hap hsz; clear hA hd o0 o2 o4 o8 o9; go_step; exact hK _ _ kR rfl
   · intro vs A' W hA hW hd K hK; refine wpOp_free _ rfl rfl ?_; (conv => arg 2; whnf); have e39 := sV 39 (hd 4 (by kernel_rfl)) hA hap hsz; have e47 := sV 47 (hd 12 (by kernel_rfl)) hA hap hsz; clear hA hd o0 o2 o4 o8 o9; go_step; exact hK _ _ kR rfl
   · intro vs A' W hA hW hd K hK; refine wpOp_free _ rfl rfl ?_; (conv => arg 2; whnf); have e35 := sV 35 (hd 0 (by kernel_rfl)) hA hap hsz; clear hA hd o0 o2 o4 o8 o9; go_step; exact hK _ _ kR rfl
   · intro vs A' W hA hW hd K hK; refine wpOp_free _ rfl rfl ?_; (conv => arg 2; whnf); have e48 := sV 48 (hd 13 (by kernel_rfl)) hA hap hsz; clear hA hd o0 o2 o4 o8 o9; go_step; exact hK _ _ kR rfl
 · intro vs W hW hp
   rw [putAll_eq]
   exact hend _ W sQ hW (sW (hp 14 sB)) (sW (hp 15 sB))
theorem bsf_r8N (k n : Nat) (hk : ¬ k < n) (hsz : a.tmps.size = 49) (o8 : Sl a 8 (.int .i64 ((n : Nat) : Int))) (o9 : Sl a 9 (.int .i64 ((k : Nat) : Int)))
 (hend : ∀ a' W, Same a a' [35, 36, 37, 38, 39, 40, 41, 42, 43, 44, 45, 46, 47, 48, 6, 7] → Kp [] w.drew W → Sl a' 6 (.int .i64 ((k : Nat) : Int)) → Sl a' 7 (.bool false) → Q .normal a' W) : (Code.region 8 (opsOf 8 Tryd.f43).toArray true).wp Tryd.prog Q a w := by
 have hap : apartB (opsOf 8 Tryd.f43) = true := by kernel_rfl
 refine wp_region_invG (l := (opsOf 8 Tryd.f43)) (fun i v W => match i with | 0 => v = .int .i64 ((k : Nat) : Int) | 1 => v = .int .i64 ((k : Nat) : Int) | 2 => v = .int .i64 ((n : Nat) : Int) | 3 => v = .bool false | 4 => v = .bool false | 13 => v = .bool false | 14 => v = .int .i64 ((k : Nat) : Int) | 15 => v = .bool false | _ => True) (by kernel_rfl) hap (by kernel_rfl) ?_ ?_ ?_
 · intro i v W W' h _
   iterate 16 (rcases i with _ | i; · exact h)
   exact h
 · refine ⟨?_, ?_, ?_, ?_, ?_, ?_, ?_, ?_, ?_, ?_, ?_, ?_, ?_, ?_, ?_, ?_, trivial⟩
   · intro vs A' W hA hW hd K hK; refine wpOp_free _ rfl rfl ?_; (conv => arg 2; whnf); have e9 := sO 9 o9 hA hap hsz; clear hA hd o8 o9; go_step; exact hK _ _ kR rfl
   · intro vs A' W hA hW hd K hK; refine wpOp_free _ rfl rfl ?_; (conv => arg 2; whnf); have e9 := sO 9 o9 hA hap hsz; clear hA hd o8 o9; go_step; exact hK _ _ kR rfl
   · intro vs A' W hA hW hd K hK; refine wpOp_free _ rfl rfl ?_; (conv => arg 2; whnf); have e8 := sO 8 o8 hA hap hsz; clear hA hd o8 o9; go_step; exact hK _ _ kR rfl
   · intro vs A' W hA hW hd K hK; refine wpOp_free _ rfl rfl ?_; (conv => arg 2; whnf); have e36 := sV 36 (hd 1 (by kernel_rfl)) hA hap hsz; have e37 := sV 37 (hd 2 (by kernel_rfl)) hA hap hsz; clear hA hd o8 o9
     have h0 : ¬ (k : Int) < (n : Int) := by omega
     go_step; exact hK _ _ kR rfl
   · intro vs A' W hA hW hd K hK; refine wpOp_free _ rfl rfl ?_; (conv => arg 2; whnf); have e38 := sV 38 (hd 3 (by kernel_rfl)) hA hap hsz; clear hA hd o8 o9; go_step; exact hK _ _ kR rfl
   · intro vs A' W hA hW hd K hK; have e39 := sV 39 (hd 4 (by kernel_rfl)) hA hap hsz; refine wpOp_skip _ rfl 4 39 true rfl rfl e39 ?_; exact hK _ _ kR trivial
   · intro vs A' W hA hW hd K hK; have e39 := sV 39 (hd 4 (by kernel_rfl)) hA hap hsz; refine wpOp_skip _ rfl 4 39 true rfl rfl e39 ?_; exact hK _ _ kR trivial
   · intro vs A' W hA hW hd K hK; have e39 := sV 39 (hd 4 (by kernel_rfl)) hA hap hsz; refine wpOp_skip _ rfl 4 39 true rfl rfl e39 ?_; exact hK _ _ kR trivial
   · intro vs A' W hA hW hd K hK; have e39 := sV 39 (hd 4 (by kernel_rfl)) hA hap hsz; refine wpOp_skip _ rfl 4 39 true rfl rfl e39 ?_; exact hK _ _ kR trivial
   · intro vs A' W hA hW hd K hK; have e39 := sV 39 (hd 4 (by kernel_rfl)) hA hap hsz; refine wpOp_skip _ rfl 4 39 true rfl rfl e39 ?_; exact hK _ _ kR trivial
   · intro vs A' W hA hW hd K hK; have e39 := sV 39 (hd 4 (by kernel_rfl)) hA hap hsz; refine wpOp_skip _ rfl 4 39 true rfl rfl e39 ?_; exact hK _ _ kR trivial
   · intro vs A' W hA hW hd K hK; have e39 := sV 39 (hd 4 (by kernel_rfl)) hA hap hsz; refine wpOp_skip _ rfl 4 39 true rfl rfl e39 ?_; exact hK _ _ kR trivial
   · intro vs A' W hA hW hd K hK; have e39 := sV 39 (hd 4 (by kernel_rfl)) hA hap hsz; refine wpOp_skip _ rfl 4 39 true rfl rfl e39 ?_; exact hK _ _ kR trivial
   · intro vs A' W hA hW hd K hK; refine wpOp_free _ rfl rfl ?_; (conv => arg 2; whnf); have e39 := sV 39 (hd 4 (by kernel_rfl)) hA hap hsz
     have e47 := sU 47 12 hA hap hsz
     clear hA hd o8 o9; go_step; exact hK _ _ kR rfl
   · intro vs A' W hA hW hd K hK; refine wpOp_free _ rfl rfl ?_; (conv => arg 2; whnf); have e35 := sV 35 (hd 0 (by kernel_rfl)) hA hap hsz; clear hA hd o8 o9; go_step; exact hK _ _ kR rfl
   · intro vs A' W hA hW hd K hK; refine wpOp_free _ rfl rfl ?_; (conv => arg 2; whnf); have e48 := sV 48 (hd 13 (by kernel_rfl)) hA hap hsz; clear hA hd o8 o9; go_step; exact hK _ _ kR rfl
 · intro vs W hW hp
   rw [putAll_eq]
   exact hend _ W sQ hW (sW (hp 14 sB)) (sW (hp 15 sB))
end
/- slices.BinarySearchFunc over signatures, by name: whole. -/
section
open Go.RowKit
theorem cmpB_lt_trans : ∀ {a b c : List UInt8}, cmpB a b < 0 → cmpB b c < 0 → cmpB a c < 0
 | [], [], _, h, _ => by simp [cmpB_self] at h
 | [], _ :: _, [], _, h => by simp [cmpB, Lib.compareBytes] at h
 | [], _ :: _, _ :: _, _, _ => by simp [cmpB, Lib.compareBytes]
 | _ :: _, [], _, h, _ => by simp [cmpB, Lib.compareBytes] at h
 | _ :: _, _ :: _, [], _, h => by simp [cmpB, Lib.compareBytes] at h
 | x :: a, y :: b, z :: c, h1, h2 => by
  rw [cmpB_cons] at h1 h2 ⊢
  by_cases h3 : x.toNat < y.toNat
  · by_cases h4 : y.toNat < z.toNat
    · rw [if_pos (by omega)]; decide
    · rw [if_neg h4] at h2
      by_cases h5 : z.toNat < y.toNat
      · rw [if_pos h5] at h2; omega
      · rw [if_pos (by omega)]; decide
  · rw [if_neg h3] at h1
    by_cases h4 : y.toNat < x.toNat
    · rw [if_pos h4] at h1; omega
    · rw [if_neg h4] at h1
      by_cases h5 : y.toNat < z.toNat
      · rw [if_pos (by omega)]; decide
      · rw [if_neg h5] at h2
        by_cases h6 : z.toNat < y.toNat
        · rw [if_pos h6] at h2; omega
        · rw [if_neg h6] at h2
          rw [if_neg (by omega), if_neg (by omega)]
          exact cmpB_lt_trans h1 h2
def posN (nm : List UInt8) (l : List SigD) : Nat := (l.takeWhile fun s => decide (cmpB s.1 nm < 0)).length
def hasN (nm : List UInt8) (l : List SigD) : Bool := match l[posN nm l]? with
 | some x => decide (cmpB x.1 nm = 0)
 | none => false
def Mono (nm : List UInt8) (l : List SigD) : Prop := ∀ i j (hj : j < l.length) (hi : i ≤ j), cmpB l[j].1 nm < 0 → cmpB (l[i]'(Nat.lt_of_le_of_lt hi hj)).1 nm < 0
theorem posN_eq (nm : List UInt8) : ∀ (l : List SigD) (k : Nat) (hk : k ≤ l.length), (∀ i (hi : i < k), cmpB (l[i]'(by omega)).1 nm < 0) → (∀ h : k < l.length, ¬ cmpB l[k].1 nm < 0) → posN nm l = k
 | [], k, hk, _, _ => by simp only [List.length_nil] at hk; show 0 = k; omega
 | s :: l, 0, _, _, h => by
  have := h (by simp)
  unfold posN
  rw [List.takeWhile_cons, if_neg (by simpa using this)]; rfl
 | s :: l, k + 1, hk, h1, h2 => by
  have h0 := h1 0 (by omega)
  have ih := posN_eq nm l k (by simpa using hk) (fun i hi => by have := h1 (i + 1) (by omega); simpa using this) (fun h => by have := h2 (by simpa using h); simpa using this)
  unfold posN at ih ⊢
  rw [List.takeWhile_cons, if_pos (by simpa using h0), List.length_cons, ih]
theorem rising_all : ∀ {l : List SigD} {a : List UInt8}, rising a l = true → ∀ x, x ∈ l → cmpB a x.1 < 0
 | [], _, _, x, hx => by cases hx
 | s :: l, a, h, x, hx => by
  unfold rising at h
  simp only [Bool.and_eq_true, decide_eq_true_eq] at h
  have hs : cmpB a s.1 < 0 := by rw [cmpB_neg s.1 a]; omega
  rcases List.mem_cons.1 hx with rfl | hx
  · exact hs
  · exact cmpB_lt_trans hs (rising_all h.2 x hx)
theorem rising_mono (nm : List UInt8) : ∀ {l : List SigD} {a : List UInt8}, rising a l = true → Mono nm l
 | [], _, _ => fun i j hj => by simp at hj
 | s :: l, a, h => by
  unfold rising at h
  simp only [Bool.and_eq_true, decide_eq_true_eq] at h
  intro i j hj hi hlt
  rcases j with _ | j
  · obtain rfl : i = 0 := by omega
    exact hlt
  · rcases i with _ | i
    · exact cmpB_lt_trans (rising_all h.2 _ (List.getElem_mem (by simpa using hj))) hlt
    · exact rising_mono nm h.2 i j (by simpa using hj) (by omega) hlt
theorem sgs_addr {W : World} {A : Option Addr} {c n : Nat} {l : List SigD} (h : Rd W 33 (.slice A n c) n (sgsC l)) (hn : 0 < n) : ∃ ad, A = some ad := by
 obtain ⟨-, A', c', he, -, -, hA, -⟩ := h
 cases he
 rcases A with _ | ad
 · have := hA rfl; omega
 · exact ⟨ad, rfl⟩
theorem results_t2 {P : Program} {fn : Func} {w : World} {tmps : Array Value} {u u2 : Nat} {x y : Value} (h : fn.results = #[.tmp u, .tmp u2]) (hx : tmps.getD u undef = x) (hy : tmps.getD u2 undef = y) : (results fn tmps).run P w = .ok (.tuple #[x, y]) w := by
 simp only [Array.getD_eq_getD_getElem?] at hx hy
 simp [results, h, hx, hy]
def dsBs : List Nat := [9, 10, 11, 15, 16, 17, 18, 19, 20, 21, 22, 23, 24, 25, 26, 27, 28, 29, 30, 31, 32, 33, 34]
theorem bsf_l {Q : Exit → Act → World → Prop} {a : Act} {w : World} (A : Option Addr) (c : Nat) (l : List SigD) (s : SigD) (hok : SgOk l) (hs : s.2.length = 32) (hll : l.length < 4611686018427387904) (hm : Mono s.1 l) (g : Nat) (hsz : a.tmps.size = 49) (o0 : Sl a 0 (.slice A l.length c)) (o2 : Sl a 2 (.func (.func 44) #[] #[])) (o4 : Sl a 4 (.pointer (some ⟨g, 0, none⟩)))
 (o9 : Sl a 9 (.int .i64 ((0 : Nat) : Int))) (o10 : Sl a 10 (.int .i64 ((l.length : Nat) : Int))) (hb : Blk w g 81 (sgA s)) (hv : Rd w 33 (.slice A l.length c) l.length (sgsC l))
 (hend : ∀ a' W, Same a a' dsBs → Sl a' 9 (.int .i64 ((posN s.1 l : Nat) : Int)) → Kp [] w W → Q .normal a' W) :
 (Code.block 0 (blockOf 0 Tryd.f43)).wp Tryd.prog Q a w := by
 refine wp_block ?_
 (conv => arg 2; whnf)
 refine wp_loop (fun a' w' => ∃ i j : Nat, i ≤ j ∧ ∃ (hj : j ≤ l.length), Same a a' dsBs ∧ Sl a' 9 (.int .i64 (i : Int)) ∧ Sl a' 10 (.int .i64 (j : Int)) ∧ (∀ k (hk : k < i) (h : k < l.length), cmpB l[k].1 s.1 < 0) ∧ (∀ (h : j < l.length), ¬ cmpB l[j].1 s.1 < 0) ∧ Kp [] w w') (fun a' _ => (intOf (a'.eval (.tmp 10))).toNat - (intOf (a'.eval (.tmp 9))).toNat) ⟨0, l.length, Nat.zero_le _, Nat.le_refl _, Same.refl _ _, o9, o10, fun k hk => by omega, fun h => by omega, Kp.refl _ _⟩ ?_
 clear o9 o10
 rintro a1 w1 ⟨i, j, hij, hj, T, o9, o10, h1, h2, K⟩
 have hz1 := T.size.trans hsz
 have o0 := T.keep 0 _ (by decide) o0
 have o2 := T.keep 2 _ (by decide) o2
 have o4 := T.keep 4 _ (by decide) o4
 have e9 := o9.eval (by rw [hz1]; decide)
 have e10 := o10.eval (by rw [hz1]; decide)
 refine wp_seq (wp_seq (bsf_r3 i j hz1 o9 o10 (fun a2 hs2 o17 => ?_)))
 have hz2 := hs2.size.trans hz1; have o0 := hs2.k o0; have o2 := hs2.k o2; have o4 := hs2.k o4; have o9 := hs2.k o9; have o10 := hs2.k o10
 have T := T.trans hs2
 by_cases hlt : i < j
 · refine wp_cond_true ((o17.eval (by rw [hz2]; decide)).trans (by rw [decide_eq_true hlt])) (wp_skip ?_)
   refine wp_block ?_
   refine wp_seq (bsf_r4 i j (by omega) hz2 o9 o10 (fun a3 hs3 o11 => ?_))
   have hz3 := hs3.size.trans hz2; have o0 := hs3.k o0; have o2 := hs3.k o2; have o4 := hs3.k o4; have o9 := hs3.k o9; have o10 := hs3.k o10
   have T := T.trans hs3
   obtain ⟨h, hh⟩ : ∃ h, (i + j) / 2 = h := ⟨_, rfl⟩
   rw [hh] at o11
   have hhi : i ≤ h := by omega
   have hhj : h < j := by omega
   have hv1 := rd_old hv K
   obtain ⟨ad, rfl⟩ := sgs_addr hv1 (by omega)
   have hx : l[h]? = some l[h] := List.getElem?_eq_getElem (by omega)
   have hxk := hok _ (List.mem_of_getElem? hx)
   refine wp_seq (bsf_r5 ad l.length c h (by omega) l[h] s hxk.1 hs g (hb.kp K (by simp)) (fun V k => sgs_at (rd_old hv1 k) hok hx) hz3 o0 o2 o4 o11 (fun a4 w4 hs4 k4 o31 => ?_))
   have hz4 := hs4.size.trans hz3; have o9 := hs4.k o9; have o10 := hs4.k o10; have o11 := hs4.k o11
   have T := T.trans hs4
   have K := K.trans ((Kp.refl [] w1).drew.trans k4 (by simp)) (by simp)
   by_cases hc : cmpB l[h].1 s.1 < 0
   · refine wp_cond_true ((o31.eval (by rw [hz4]; decide)).trans (by rw [decide_eq_true hc])) ?_
     refine bsf_r6 h (by omega) hz4 o11 (fun a5 hs5 o9' => ?_)
     have hz5 := hs5.size.trans hz4; have o10 := hs5.k o10
     have T := T.trans hs5
     refine ⟨⟨h + 1, j, by omega, hj, T.more (by decide +kernel), o9', o10, fun k hk _ => hm k h (by omega) (by omega) hc, h2, K⟩, ?_⟩
     show (intOf _).toNat - (intOf _).toNat < (intOf _).toNat - (intOf _).toNat
     rw [e9, e10, o9'.eval (by rw [hz5]; decide), o10.eval (by rw [hz5]; decide)]
     simp only [intOf]; omega
   · refine wp_cond_false ((o31.eval (by rw [hz4]; decide)).trans (by rw [decide_eq_false hc])) ?_
     refine bsf_r7 h hz4 o11 (fun a5 hs5 o10' => ?_)
     have hz5 := hs5.size.trans hz4; have o9 := hs5.k o9
     have T := T.trans hs5
     refine ⟨⟨i, h, by omega, by omega, T.more (by decide +kernel), o9, o10', h1, fun _ => hc, K⟩, ?_⟩
     show (intOf _).toNat - (intOf _).toNat < (intOf _).toNat - (intOf _).toNat
     rw [e9, e10, o9.eval (by rw [hz5]; decide), o10'.eval (by rw [hz5]; decide)]
     simp only [intOf]; omega
 · refine wp_cond_false ((o17.eval (by rw [hz2]; decide)).trans (by rw [decide_eq_false hlt])) (wp_exit ?_)
   obtain rfl : i = j := by omega
   rw [← posN_eq s.1 l i hj (fun k hk => h1 k hk (by omega)) h2] at o9
   exact hend _ _ (T.more (by decide +kernel)) o9 K
theorem bsf_any (A : Option Addr) (c : Nat) (l : List SigD) (s : SigD) (hok : SgOk l) (hs : s.2.length = 32) (hll : l.length < 4611686018427387904) (hm : Mono s.1 l) (w : World) (hv : Rd w 33 (.slice A l.length c) l.length (sgsC l)) :
 Calls Tryd.prog 43 #[.slice A l.length c, .agg (sgA s), .func (.func 44) #[] #[]] w fun e w' => e = .returned (.tuple #[.int .i64 ((posN s.1 l : Nat) : Int), .bool (hasN s.1 l)]) ∧ Kp [] w w' := by
 refine calls_fr Tryd.func43 rfl 49 rfl (fun a0 hsz hdf hAr => ?_)
 have hz0 : a0.tmps.size = 49 := hsz
 have D := hdf
 have o0 := hAr 0 _ rfl
 have o1 := hAr 1 _ rfl
 have o2 := hAr 2 _ rfl
 refine wp_seq (bsf_r0 w s [] (Held.start w) hz0 o1 (fun a1 w1 hs1 h => ?_))
 obtain ⟨g, o4, S⟩ := h
 have hz1 := hs1.size.trans hz0; have o0 := hs1.k o0; have o2 := hs1.k o2; have D := hs1.defers.trans D
 refine wp_seq (bsf_r1 A l.length c hz1 o0 (fun a2 hs2 o8 => ?_))
 have hz2 := hs2.size.trans hz1; have o0 := hs2.k o0; have o2 := hs2.k o2; have o4 := hs2.k o4; have D := hs2.defers.trans D
 refine wp_seq (bsf_r2 l.length hz2 o8 (fun a3 hs3 o9 o10 => ?_))
 have hz3 := hs3.size.trans hz2; have o0 := hs3.k o0; have o2 := hs3.k o2; have o4 := hs3.k o4; have o8 := hs3.k o8; have D := hs3.defers.trans D
 have hb := S.at_ (l1 := [])
 have hv1 := rd_old hv S.k
 refine wp_seq (bsf_l A c l s hok hs hll hm g hz3 o0 o2 o4 o9 o10 hb hv1 (fun a4 w4 hs4 o9 k4 => ?_))
 have hz4 := hs4.size.trans hz3; have o0 := hs4.k o0; have o2 := hs4.k o2; have o4 := hs4.k o4; have o8 := hs4.k o8; have D := hs4.defers.trans D
 have S := S.kp k4
 have hv4 := rd_old hv1 k4
 by_cases hp : posN s.1 l < l.length
 · obtain ⟨ad, rfl⟩ := sgs_addr hv4 (by omega)
   have hx : l[posN s.1 l]? = some l[posN s.1 l] := List.getElem?_eq_getElem hp
   have hxk := hok _ (List.mem_of_getElem? hx)
   have hh : hasN s.1 l = decide (cmpB l[posN s.1 l].1 s.1 = 0) := by unfold hasN; rw [hx]
   refine wp_seq (bsf_r8 ad l.length c _ hp l[posN s.1 l] s hxk.1 hs g (S.at_ (l1 := [])) (fun V k => sgs_at (rd_old hv4 k) hok hx) hz4 o0 o2 o4 o8 o9 (fun a5 w5 hs5 k5 o6 o7 => ?_))
   have hz5 := hs5.size.trans hz4; have D := hs5.defers.trans D
   rw [← hh] at o7
   refine wp_ret (bodyPost_ret (results_t2 (by rfl) (o6.eval (by rw [hz5]; decide)) (o7.eval (by rw [hz5]; decide))) D ⟨rfl, ?_⟩)
   exact S.k.trans ((Kp.refl [] w4).drew.trans k5 (by simp)) (by simp)
 · have hh : hasN s.1 l = false := by unfold hasN; rw [List.getElem?_eq_none (by omega)]
   refine wp_seq (bsf_r8N _ _ hp hz4 o8 o9 (fun a5 w5 hs5 k5 o6 o7 => ?_))
   have hz5 := hs5.size.trans hz4; have D := hs5.defers.trans D
   rw [← hh] at o7
   refine wp_ret (bodyPost_ret (results_t2 (by rfl) (o6.eval (by rw [hz5]; decide)) (o7.eval (by rw [hz5]; decide))) D ⟨rfl, ?_⟩)
   exact S.k.trans ((Kp.refl [] w4).drew.trans k5 (by simp)) (by simp)
end
/- slices.Clone over signatures. -/
section
open Go.RowKit
theorem sgsC_one : ∀ (l : List SigD), ∀ u, u ∈ sgsC l → u.oneCell' = true
 | [], u, h => by cases h
 | s :: l, u, h => by
  rcases List.mem_append.1 (show u ∈ sgL s ++ sgsC l from h) with h | h
  · exact sgA_one s u (by simpa [sgA] using h)
  · exact sgsC_one l u h
theorem sgsC_append (a b : List SigD) : sgsC (a ++ b) = sgsC a ++ sgsC b := by unfold sgsC; rw [List.flatMap_append]
theorem ow_empty {w : World} {g : Nat} (e : TypeId) (s : Nat) (hg : g = w.heap.size) : Ow (w.alloc (.cells #[] e)) e s (.slice (some ⟨g, 0, none⟩) 0 0) 0 [] := by
 subst hg
 exact ow_new w e s 0 #[] (by simp) (by decide)
theorem eq_nil_sigs (w : World) (a : Option Addr) (n c : Nat) : (binOp .eql 34 (.slice a n c) (.slice none 0 0)).run Tryd.prog w = .ok (.bool a.isNone) w :=
 Lib.run_eql_slice_nil (P := Tryd.prog) w 34 81 a n c 0 0 Tryd.underlying34
theorem sclone_any (w0 : World) (L : List Res) (A : Option Addr) (c : Nat) (l : List SigD) (hok : SgOk l) (hll : l.length ≤ 1000000) (w : World) (S : Held w0 w L) (HV : ∀ V, Held w0 V L → Rd V 33 (.slice A l.length c) l.length (sgsC l)) :
 Calls Tryd.prog 46 #[.slice A l.length c] w fun e w' => ∃ v, e = .returned v ∧ Held w0 w' (rowR 81 33 v l.length (sgsC l) :: L) := by
 have HV := Lib.hid HV
 have S := Lib.hid S
 have HO := Lib.hid (sgsC_one l)
 rcases A with _ | ad
 · have h0 : l.length = 0 ∧ c = 0 := by
    obtain ⟨-, A', c', he, -, -, hA, -⟩ := HV.out w S.out
    cases he
    exact hA rfl
   obtain rfl : l = [] := List.eq_nil_of_length_eq_zero h0.1
   obtain rfl := h0.2
   clear h0
   have hq := fun V => eq_nil_sigs V none 0 0
   simp only [Option.isNone_none] at hq
   go_enter Tryd.func46, Tryd.ntmps46
   go_wp2
   go_ret
   exact ⟨_, rfl, S.out.rownew (World.ownsRow_nil _ _ _ _) (Kp.refl [] w) (by simp [Value.ownBlock])⟩
 · have hq := fun V n => eq_nil_sigs V (some ad) n c
   simp only [Option.isNone_some] at hq
   have S1 := Lib.hid (S.out.rownew (ow_empty 81 33 (g := w.heap.size) rfl) ((Kp.refl [] w).alloc _) (by simp [Value.ownBlock]))
   obtain ⟨i0, hi, hz, hsize, hby⟩ := info_parts Tryd.infoSigZ
   have Hz := Lib.hid hz
   clear hz
   have hle : Hid (l.length ≤ maxLen ∧ l.length * 48 ≤ 140737488355328) := Lib.hid ⟨by unfold maxLen; omega, by omega⟩
   generalize hcs : sgsC l = cs at *
   generalize l.length = n at *
   go_enter Tryd.func46, Tryd.ntmps46
   go_wp2_with (at_builtin; refine wpList_app _ rfl (.tmp 5) (.tmp 6) 34 rfl 81 i0 _ 33 48 Tryd.underlying34 hi Hz.out hsize hby rfl (by decide) _ 0 [] (by simp [Act.eval, Act.put]) (S1.out.at_ (l1 := [])) _ n cs (by simp [Act.eval, Act.put]) (HV.out _ S1.out.drop) HO.out (by rw [Nat.zero_add]; exact hle.out.1) (by rw [Nat.zero_add]; exact hle.out.2) ?_; intro v' w' o2 g2 b2; have S2 := Lib.hid (Held.grow (l1 := []) S1.out o2 g2 b2); clear o2 g2 b2)
   rw [Nat.zero_add, List.nil_append] at S2
   go_ret
   exact ⟨_, rfl, S2.out⟩
end
/- copy and append of elements of several cells; rows as blocks. -/
section
open Go.RowKit
theorem run_copy_rowS {P : Program} (size : Nat) (w : World) (dT sT ty elem : TypeId) (g o dLen dCap : Nat) (a : Addr) (sLen sCap : Nat) (cur : Array Value) (t : TypeId) (cs : List Value)
 (hu : P.underlying dT = some (.slice elem)) (hs : (P.info? elem).map (·.size) = some size)
 (hg : w.heap[g]? = some (.cells cur t (0, 0))) (hn : cs.length = Nat.min sLen dLen * size)
 (hsrc : ∀ j v, cs[j]? = some v → w.cell? (a.add j) = some v) (hfit : o + cs.length ≤ cur.size) (h1 : ∀ v ∈ cs, v.oneCell' = true) :
 (Builtin.copy_ #[dT, sT] ty #[.slice (some ⟨g, o, none⟩) dLen dCap, .slice (some a) sLen sCap]).run P w =
  .ok (goInt (Nat.min sLen dLen : Nat)) (w.setRow g (cur.toList.take o ++ cs ++ cur.toList.drop (o + cs.length)).toArray) := by
 have hl := run_loadCells_list (P := P) w a cs hsrc
 have hst := run_storeCells_at P g o t cs 0 cur w hg (by simpa using hfit) h1
 cases hq : P.info? elem with
 | none => simp [hq] at hs
 | some i =>
  have hi : i.size = size := by simpa [hq] using hs
  simp [Builtin.copy_, run_underlying hu, Builtin.lenOf, Builtin.firstCells, sizeOf, typeInfo, hq, hi, ← hn, hl, hst]
section
variable {P : Program} {w : World} {o : Oper} {a : Act} {Q : Exit → Act → World → Prop} (size : Nat) (d s : Operand) (dT sT : TypeId)
theorem op_copy_blkS {K : Act → World → Prop} (ho : o.op = .call { callee := .builtin .copy, args := #[d, s], argTypes := #[dT, sT] }) (elem : TypeId) (hu : P.underlying dT = some (.slice elem)) (hsz : (P.info? elem).map (·.size) = some size)
 (g off dLen dCap : Nat) (hd : a.eval d = .slice (some ⟨g, off, none⟩) dLen dCap) (ad : Addr) (n c : Nat) (hs : a.eval s = .slice (some ad) n c) (xs : List Value) (m : Nat) (hm : Nat.min n dLen = m) (hl : xs.length = m * size) (hc : ∀ j u, xs[j]? = some u → w.cell? (ad.add j) = some u)
 (t : TypeId) (cur : Array Value) (hb : Blk w g t cur) (hfit : off + m * size ≤ cur.size) (h1 : ∀ v ∈ xs, v.oneCell' = true)
 (h : ∀ w', Blk w' g t (splice cur.toList off xs).toArray → Kp [g] w w' → K (a.put o.dst (goInt (m : Int))) w') : o.wp P a w K Q := by
 subst hm
 have hrun := run_copy_rowS (P := P) size w dT sT o.type elem g off dLen dCap ad n c cur t xs hu hsz hb hl hc (by omega) h1
 have hblk := setRow_blk (cs := (cur.toList.take off ++ xs ++ cur.toList.drop (off + xs.length)).toArray) hb
 refine op_runs (v := goInt ((Nat.min n dLen : Nat) : Int)) (w' := w.setRow g (cur.toList.take off ++ xs ++ cur.toList.drop (off + xs.length)).toArray) ?_ ?_
 rotate_left
 · exact h _ (by unfold splice; rw [← List.append_assoc]; exact hblk.1) hblk.2
 · simp [execOp, ho, resolve, invoke, builtin, hd, hs, hrun, Result.andThen]
theorem wpList_copy_blkS {ops : Array Oper} {rest : List Oper} (hgd : o.guard = none) (ho : o.op = .call { callee := .builtin .copy, args := #[d, s], argTypes := #[dT, sT] }) (elem : TypeId) (hu : P.underlying dT = some (.slice elem)) (hsz : (P.info? elem).map (·.size) = some size)
 (g off dLen dCap : Nat) (hd : a.eval d = .slice (some ⟨g, off, none⟩) dLen dCap) (ad : Addr) (n c : Nat) (hs : a.eval s = .slice (some ad) n c) (xs : List Value) (m : Nat) (hm : Nat.min n dLen = m) (hl : xs.length = m * size) (hc : ∀ j u, xs[j]? = some u → w.cell? (ad.add j) = some u)
 (t : TypeId) (cur : Array Value) (hb : Blk w g t cur) (hfit : off + m * size ≤ cur.size) (h1 : ∀ v ∈ xs, v.oneCell' = true)
 (h : ∀ w', Blk w' g t (splice cur.toList off xs).toArray → Kp [g] w w' → wpList P ops Q rest (a.put o.dst (goInt (m : Int))) w') : wpList P ops Q (o :: rest) a w :=
 wpList_plain hgd fun K hK => op_copy_blkS size d s dT sT ho elem hu hsz g off dLen dCap hd ad n c hs xs m hm hl hc t cur hb hfit h1 (fun w' h2 h3 => hK _ _ (h w' h2 h3))
end
theorem run_append_zerosG {P : Program} (w : World) (t tn ty e : TypeId) (i : TypeInfo) (z : Value) (ht : P.underlying t = some (.slice e)) (htn : P.underlying tn = some (.int .i64)) (hi : P.info? e = some i) (hz : i.zero = some z)
 (ad : Addr) (k c m : Nat) (olds : List Value) (hol : olds.length = k * i.size) (ho : ∀ j u, olds[j]? = some u → w.cell? (ad.add j) = some u) (h0 : 0 < m) (hs : 0 < i.size) (hc : c < k + m) (hm : k + m ≤ 1000000) (hby : i.bytes ≤ 100) :
 (Builtin.append_ #[t, tn] ty #[.slice (some ad) k c, .int .i64 m]).run P w =
  .ok (.slice (some ⟨w.heap.size, 0, none⟩) (k + m) (grownCap w (k + m) c e)) (w.drew.alloc (.cells (olds.toArray ++ Builtin.zeroCells z.cells m ++ Builtin.zeroCells z.cells (grownCap w (k + m) c e - (k + m))) e)) := by
 have hn : m ≠ 0 := by omega
 have hw : IntKind.i64.wrap (m : Int) = m := by rw [IntKind.wrap_i64]; omega
 have hneed : ¬ (k + m ≤ c) := by omega
 have h63' : ¬ (9223372036854775807 < ((k : Int) + (m : Int))) := by omega
 have hb1 : (k + m) * i.bytes ≤ 1000000 * 100 := Nat.mul_le_mul hm hby
 have hb2 : m * i.bytes ≤ 1000000 * 100 := Nat.mul_le_mul (by omega) hby
 have h48' : ¬ (281474976710656 < Builtin.nextslicecap (k + m) c * i.bytes) := by have := growslice_fits (bytes := i.bytes) hc (by omega); omega
 have h48i : ¬ (281474976710656 < (m : Int) * (i.bytes : Int)) := by
  rw [← Int.natCast_mul]
  omega
 have hneg : ¬ ((m : Int) < 0) := by omega
 have hns : ¬ (m * i.size = 0) := Nat.mul_ne_zero hn (by omega)
 have hfc := run_firstCells_some (P := P) (w := w.drew) i.size k ad k c olds hol ho
 simp [Builtin.append_, run_underlying ht, run_underlying htn, sizeOf, typeInfo, zeroValue, hi, hz, asInt, asIntOf, hw, hneg, hns, hneed, h63', h48', h48i, Question.forced, hfc, newRow, grownCap]
theorem Held.row_blk {w0 w : World} {L : List Res} {e : TypeId} {s n g c : Nat} {xs : List Value} (h : Held w0 w (rowR e s (.slice (some ⟨g, 0, none⟩) n c) n xs :: L)) :
 ∃ cur : Array Value, Held w0 w (blkR g e cur :: L) ∧ cur.size = c * s ∧ cur.toList.take (n * s) = xs ∧ n ≤ c ∧ c ≤ maxLen := by
 have h1 : Ow w e s (.slice (some ⟨g, 0, none⟩) n c) n xs := h.at_ (l1 := [])
 rcases h1.2 with ⟨hv, -⟩ | ⟨g', cap, cur, he, -, hg, h2, h3, h4, h5⟩
 · cases hv
 · cases he
   exact ⟨cur, h.turn (blkR g e cur) kR hg (fun b hb => .inl (by simpa [rowR, blkR, Value.ownBlock] using hb)), h4, h5, h2, h3⟩
theorem Held.blk_row {w0 w : World} {L : List Res} {e : TypeId} {s n g c : Nat} {cur : Array Value} {xs : List Value} (h : Held w0 w (blkR g e cur :: L)) (hs : cur.size = c * s) (hx : cur.toList.take (n * s) = xs) (hn : n ≤ c) (hc : c ≤ maxLen) :
 Held w0 w (rowR e s (.slice (some ⟨g, 0, none⟩) n c) n xs :: L) :=
 h.turn (rowR e s (.slice (some ⟨g, 0, none⟩) n c) n xs) kR ⟨by
  rw [← hx, List.length_take, Array.length_toList, hs]
  exact Nat.min_eq_left (Nat.mul_le_mul_right s hn), .inr ⟨g, c, cur, rfl, Nat.zero_le _, h.at_ (l1 := []), hn, hc, hs, hx⟩⟩ (fun b hb => .inl (by simpa [rowR, blkR, Value.ownBlock] using hb))
end
end Go.Proofs.YtapboamjpilckaaDoor
