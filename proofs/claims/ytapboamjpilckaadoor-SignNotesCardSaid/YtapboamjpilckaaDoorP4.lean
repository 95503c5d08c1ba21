/- Several texts in one: SigC, SigD, RshA, ShaG, ShaH, RshB. -/
import Derived.Test.YtapboamjpilckaaDoorP3
set_option maxRecDepth 100000
set_option maxHeartbeats 8000000
namespace Go.Proofs.YtapboamjpilckaaDoor
/- sha.Sum of one text; sign.Mac. -/
section
variable {Q : Exit → Act → World → Prop} {a : Act} {w : World}
open Go.RowKit
theorem Rd.of_hash {w : World} {g : Nat} {t : TypeId} {h : List UInt8} (hb : Blk w g t (hashA h)) {n : Nat} (hn : h.length = n) (hm : h.length ≤ 1000 := by omega) : Rd w 1 (.slice (some ⟨g, 0, none⟩) n n) n (bv h) := by
 subst hn
 have := bytes_rd hb 0 (Nat.zero_le _) hm
 simpa using this
theorem txf_one {w : World} {g n : Nat} {t : TypeId} {u : Value} {h : List UInt8} (hb : Blk w g t #[u]) (hr : Rd w 1 u n (bv h)) : TxF w (.slice (some ⟨g, 0, none⟩) 1 1) [u] [h] := by
 have hn : n = h.length := by
  have := hr.1
  rw [bv_length] at this
  omega
 subst hn
 refine ⟨⟨rfl, _, _, rfl, Nat.le_refl _, by unfold maxLen; omega, (fun h => by cases h), fun ad had j v hv => ?_⟩, fun i hi => ?_⟩
 · cases had
   rcases j with _ | j
   · cases hv
     exact hb.cell 0
   · cases hv
 · obtain rfl : i = 0 := by simpa using hi
   exact ⟨u, rfl, hr⟩
theorem ssumv_any (w0 : World) (L : List Res) (ad : Addr) (u : Value) (s : List UInt8) (hs0 : s.length < 1152921504606846976) (w : World) (S : Held w0 w L) (HX : ∀ V, Held w0 V L → V.cell? ad = some u ∧ Rd V 1 u s.length (bv s)) :
 Calls Tryd.prog 40 #[.slice (some ad) 1 1] w fun e w' => e = .returned (.agg (hashA (shaF s))) ∧ Held w0 w' L := by
 obtain ⟨A, c, rfl⟩ := rd_form (HX w S).2
 have HX := Lib.hid HX
 have hs := Lib.hid hs0
 clear hs0
 have S0 := Lib.hid (S.newBlk 25 (hashA (List.replicate 32 0)))
 clear S
 go_enter Tryd.func40, Tryd.ntmps40
 go_wp2_with fail
 refine (snew_any w0 _ _ S0.out).mono ?_
 rintro e w2 ⟨g, rfl, S2⟩
 have S2 := Lib.hid S2
 generalize w.heap.size = g2 at *
 clear S0
 go_wp2_with fail
 go_loopw [5, 9] (fun _ i wr => ∃ (k : Nat) (st : List Nat) (blk : List UInt8), k ≤ 1 ∧ i = .int .i64 (k : Int) ∧ Hid (Und (if k = 0 then [] else s) st blk) ∧ Held w0 wr (blkR g 134 (shaC st blk (if k = 0 then [] else s).length) :: blkR g2 25 (hashA (List.replicate 32 0)) :: L)) (fun _ i _ => 1 - (intOf i).toNat)
 case atStart => exact ⟨0, hF, List.replicate 64 0, by omega, rfl, Lib.hid Und.new, S2.out⟩
 case round =>
  clear S2
  obtain ⟨k, st, blk, hk, rfl, HU, S⟩ := hrel
  have S := Lib.hid S
  rcases (by omega : k = 0 ∨ k = 1) with rfl | rfl
  · have hc := (HX.out wr S.out.drop.drop).1
    have HR := Lib.hid (take_any w0 g [] s st blk HU.out (by have := hs.out; simp; omega) _ _ wr (fun V cs SV => (HX.out V SV.drop.drop).2) S.out)
    generalize s.length = sl at *
    clear hk
    go_wp2_with fail
    refine HR.out.mono ?_
    rintro e w4 ⟨rfl, st2, blk2, U4, S4⟩
    rw [List.nil_append] at U4 S4
    have U4 := Lib.hid U4
    have S4 := Lib.hid S4
    go_wp2
    go_roundw
    case rel => exact ⟨1, st2, blk2, by omega, rfl, U4, S4.out⟩
    case measure => simp [intOf]
  · have HR := Lib.hid (ssum_any w0 g s st blk HU.out hs.out _ wr S.out)
    have hO := Lib.hid (hashA_one (shaF s))
    have hsz1 : Hid ((hashA (shaF s)).size = 32) := Lib.hid (by rw [hashA_size, shaF_length])
    obtain ⟨ch, hch⟩ : ∃ ch, Hid (hashA (shaF s) = ch) := ⟨_, Lib.hid rfl⟩
    rw [hch.out] at HR hO hsz1
    go_wp2_with fail
    refine HR.out.mono ?_
    rintro e w4 ⟨rfl, S4⟩
    have S4 := Lib.hid S4
    go_wp2_with (refine wpList_store_blk rfl 25 (.tmp 2) (.tmp 18) rfl g2 (by simp [Act.eval]) ch (by simp [Act.eval]) 25 _ (S4.out.at_ (l1 := [_])) (by rw [hsz1.out]; exact Tryd.infoHashP) (by rw [hsz1.out]; rfl) hO.out ?_; intro w5 b5 k5; have S5 := Lib.hid (Held.setBlk (l1 := [_]) S4.out b5 k5); clear b5 k5)
    refine bodyPost_ret (results_cell1 (by rfl) rfl (S5.out.at_ (l1 := [_])) Tryd.underlying25 rfl (by rw [hsz1.out]; exact Tryd.infoHashP)) rfl ?_
    exact ⟨by rw [hch.out], S5.out.drop.drop⟩
theorem op_copy_blk {P : Program} {w : World} {o : Oper} {a : Act} {K : Act → World → Prop} {Q : Exit → Act → World → Prop} (d s : Operand) (dT sT : TypeId)
 (ho : o.op = .call { callee := .builtin .copy, args := #[d, s], argTypes := #[dT, sT] }) (elem : TypeId) (hu : P.underlying dT = some (.slice elem)) (hsz : (P.info? elem).map (·.size) = some 1)
 (g off dLen dCap : Nat) (hd : a.eval d = .slice (some ⟨g, off, none⟩) dLen dCap) (y : Value) (hs : a.eval s = y) (n : Nat) (xs : List Value) (hr : Rd w 1 y n xs)
 (t : TypeId) (cur : Array Value) (hb : Blk w g t cur) (hfit : off + dLen ≤ cur.size) (h1 : ∀ v ∈ xs, v.oneCell' = true) (m : Nat) (hm : min n dLen = m)
 (h : ∀ w', Blk w' g t (splice cur.toList off (xs.take dLen)).toArray → Kp [g] w w' → K (a.put o.dst (goInt (m : Int))) w') : o.wp P a w K Q := by
 subst hm
 obtain ⟨hl, A, c, rfl, h2, h3, hA, hc⟩ := hr
 by_cases h0 : min n dLen = 0
 · have hrun := run_copy_none (P := P) w dT sT o.type elem (some ⟨g, off, none⟩) A dLen dCap n c hu hsz h0
   have e : xs.take dLen = [] := by
    apply List.eq_nil_of_length_eq_zero
    rw [List.length_take]; omega
   have := h w (by rw [e]; simpa [splice] using hb) kR
   rw [h0] at this
   refine op_runs (v := goInt 0) (w' := w) ?_ this
   simp [execOp, ho, resolve, invoke, builtin, hd, hs, hrun, Result.andThen]
 · rcases A with _ | ad
   · have := hA rfl; omega
   · have hcl : (xs.take dLen).length = min n dLen := by rw [List.length_take]; omega
     have hrun := run_copy_row (P := P) w dT sT o.type elem g off dLen dCap ad n c cur t (xs.take dLen) hu hsz hb (by rw [hcl]) (fun j v hv => hc ad rfl j v (by
      rw [List.getElem?_take] at hv
      split at hv
      · exact hv
      · cases hv)) (by rw [hcl]; omega) (fun v hv => h1 v (List.mem_of_mem_take hv))
     have hblk := setRow_blk (cs := (cur.toList.take off ++ (xs.take dLen) ++ cur.toList.drop (off + (xs.take dLen).length)).toArray) hb
     refine op_runs (v := goInt ((xs.take dLen).length : Int)) (w' := w.setRow g (cur.toList.take off ++ (xs.take dLen) ++ cur.toList.drop (off + (xs.take dLen).length)).toArray) ?_ ?_
     rotate_left
     · have := h _ (by
        unfold splice
        rw [← List.append_assoc]
        exact hblk.1) hblk.2
       rw [← hcl] at this
       exact this
     · simp [execOp, ho, resolve, invoke, builtin, hd, hs, hrun, Result.andThen]
theorem mac_r0 (w0 : World) (L : List Res) (S : Held w0 w L) (hsz : a.tmps.size = 27) 
 (hend : ∀ a' W, Same a a' [4] → (∃ g, Sl a' 4 (.pointer (some ⟨g, 0, none⟩)) ∧ Held w0 W (blkR g 25 (hashA (List.replicate 32 0)) :: L)) → Q .normal a' W) : (Code.region 0 (opsOf 0 Tryd.f9).toArray false).wp Tryd.prog Q a w := by
 refine wp_region_lit ?_
 (conv => arg 4; whnf)
 have S0 := Lib.hid (S.newBlk 25 (hashA (List.replicate 32 0)))
 go_wp2
 try simp only [Act.put]
 exact hend _ _ sS (⟨w.heap.size, sP0, S0.out⟩)
theorem mac_r1 (w0 : World) (L : List Res) (S : Held w0 w L) (hsz : a.tmps.size = 27) 
 (hend : ∀ a' W, Same a a' [5] → (∃ g, Sl a' 5 (.pointer (some ⟨g, 0, none⟩)) ∧ Held w0 W (blkR g 76 (hashA (List.replicate 64 0)) :: L)) → Q .normal a' W) : (Code.region 1 (opsOf 1 Tryd.f9).toArray false).wp Tryd.prog Q a w := by
 refine wp_region_lit ?_
 (conv => arg 4; whnf)
 have S0 := Lib.hid (S.newBlk 76 (hashA (List.replicate 64 0)))
 go_wp2
 try simp only [Act.put]
 exact hend _ _ sS (⟨w.heap.size, sP0, S0.out⟩)
theorem mac_r2 (A : Option Addr) (n c : Nat) (hsz : a.tmps.size = 27) (o0 : Sl a 0 (.slice A n c))
 (hend : ∀ a', Same a a' [8, 9, 10] → Sl a' 10 (.bool (decide (64 < n))) → Q .normal a' (w)) : (Code.region 2 (opsOf 2 Tryd.f9).toArray false).wp Tryd.prog Q a w := by
 refine wp_region_lit ?_
 (conv => arg 4; whnf)
 unfold Sl at o0
 go_wp2_with fail
 try simp only [Act.put]
 exact hend _ sS sP
theorem mac_r3 (w0 : World) (A : Option Addr) (c : Nat) (s : List UInt8) (hs : s.length < 1152921504606846976) (L : List Res) (HX : ∀ V, Held w0 V L → Rd V 1 (.slice A s.length c) s.length (bv s)) (S : Held w0 w L) (hsz : a.tmps.size = 27) (o0 : Sl a 0 (.slice A s.length c))
 (hend : ∀ a' W, Same a a' [11, 12, 13, 6] → (∃ g, Sl a' 6 (.pointer (some ⟨g, 0, none⟩)) ∧ Held w0 W (blkR g 25 (hashA (shaF s)) :: L)) → Q .normal a' W) : (Code.region 3 (opsOf 3 Tryd.f9).toArray false).wp Tryd.prog Q a w := by
 refine wp_region_lit ?_
 (conv => arg 4; whnf)
 unfold Sl at o0
 have S := Lib.hid S
 have S1 := Lib.hid (S.out.newBlk 22 #[.slice A s.length c])
 have HR := Lib.hid (ssumv_any w0 _ ⟨w.heap.size, 0, none⟩ (.slice A s.length c) s hs _ S1.out (fun V SV => ⟨(SV.at_ (l1 := [])).cell 0, HX V SV.drop⟩))
 clear HX hs
 obtain ⟨nl, hnl⟩ : ∃ nl, s.length = nl := ⟨_, rfl⟩
 rw [hnl] at o0 S1 HR
 have hO := Lib.hid (hashA_one (shaF s))
 have hsz1 : Hid ((hashA (shaF s)).size = 32) := Lib.hid (by rw [hashA_size, shaF_length])
 obtain ⟨ch, hch⟩ : ∃ ch, Hid (hashA (shaF s) = ch) := ⟨_, Lib.hid rfl⟩
 rw [hch.out] at HR hO hsz1
 clear hnl
 go_wp2_with fail
 refine HR.out.mono ?_
 rintro e w4 ⟨rfl, S4⟩
 have S4 := Lib.hid (S4.drop.newBlk 25 (hashA (List.replicate 32 0)))
 go_wp2_with (refine wpList_store_blk rfl 25 (.tmp 6) (.tmp 13) rfl w4.heap.size (by simp [Act.eval, Act.put, hsz]) ch (by simp [Act.eval, Act.put, hsz]) 25 _ (S4.out.at_ (l1 := [])) (by rw [hsz1.out]; exact Tryd.infoHashP) (by rw [hsz1.out]; rfl) hO.out ?_; intro w5 b5 k5; have S5 := Lib.hid (Held.setBlk (l1 := []) S4.out b5 k5); clear b5 k5)
 rw [← hch.out] at S5
 try simp only [Act.put]
 exact hend _ _ sS (⟨_, sP0, S5.out⟩)
theorem mac_r4 (w0 : World) (g5 g6 : Nat) (h : List UInt8) (hh : h.length = 32) (L : List Res) (hsz : a.tmps.size = 27) (o5 : Sl a 5 (.pointer (some ⟨g5, 0, none⟩))) (o6 : Sl a 6 (.pointer (some ⟨g6, 0, none⟩)))
 (S0 : Held w0 w (blkR g5 76 (hashA (List.replicate 64 0)) :: blkR g6 25 (hashA h) :: L))
 (hend : ∀ a' W, Same a a' [14, 15, 16] → Held w0 W (blkR g5 76 (splice (hashA (List.replicate 64 0)).toList 0 (bv h)).toArray :: blkR g6 25 (hashA h) :: L) → Q .normal a' W) : (Code.region 4 (opsOf 4 Tryd.f9).toArray true).wp Tryd.prog Q a w := by
 have hap : apartB (opsOf 4 Tryd.f9) = true := by kernel_rfl
 refine wp_region_sep (Γ := Unit) (l := (opsOf 4 Tryd.f9)) 3 [0, 1, 2, 4, 5]
  (fun i vs gs => match i with | 0 => vs 0 = .slice (some ⟨g5, 0, none⟩) 64 64 | 1 => vs 1 = .slice (some ⟨g6, 0, none⟩) 32 32 | _ => True)
  (fun i vs gs => match i with | 2 => [blkR g5 76 (splice (hashA (List.replicate 64 0)).toList 0 (bv h)).toArray] | 3 => [blkR g5 76 (hashA (List.replicate 64 0))] | 4 => [blkR g6 25 (hashA h)] | 5 => L | _ => [])
  (fun i => match i with | 2 => [3] | _ => []) (fun i => match i with | 2 => [4] | _ => []) S0 (by kernel_rfl) hap (by kernel_rfl) (by kernel_rfl) (fun i => match i with | 0 => [0] | 1 => [1] | _ => []) (by kernel_rfl) ?_ (by kernel_rfl) ?_ ?_ ?_
 · intro s vs vs' gs gs' h
   iterate 6 (rcases s with _ | s; · (first | exact ⟨rfl, id⟩ | (simp only [List.mem_cons, List.not_mem_nil, or_false, forall_eq] at h; simp [h])))
   exact ⟨rfl, id⟩
 · simp only [List.range, List.range.loop, List.flatMap_cons, List.flatMap_nil, List.append_nil]
   exact List.Perm.refl _
 · clear S0 hend
   refine ⟨?_, ?_, ?_, trivial⟩
   · intro vs gs A' W LF hA S hR hd hu K hK; replace hK := hK default; have e5 := sO 5 o5 hA hap hsz; clear hA o5 o6; go_step; exact hK _ _ S rfl
   · intro vs gs A' W LF hA S hR hd hu K hK; replace hK := hK default; have e6 := sO 6 o6 hA hap hsz; clear hA o5 o6; go_step; exact hK _ _ S rfl
   · intro vs gs A' W LF hA S hR hd hu K hK; replace hK := hK default; have e14 := sV 14 (hd 0 (by kernel_rfl)) hA hap hsz; have e15 := sV 15 (hd 1 (by kernel_rfl)) hA hap hsz; clear hA o5 o6
     have S1 : Held w0 W (blkR g5 76 (hashA (List.replicate 64 0)) :: LF) := S
     refine op_copy_blk (.tmp 14) (.tmp 15) 22 22 rfl 5 Tryd.underlying22 (by kernel_rfl) g5 0 64 64 (by simpa [Act.eval] using e14) _ (by simpa [Act.eval] using e15) 32 (bv h) (Rd.of_hash (S1.ok (blkR g6 25 (hashA h)) (List.mem_cons_of_mem _ (hR 4 (List.mem_singleton.2 rfl) _ (List.mem_singleton.2 rfl)))) hh) 76 _ (S1.at_ (l1 := [])) (by rw [hashA_size]; exact Nat.le_refl _) (bv_one h) 32 rfl (fun w' hbk k => hK _ _ ?_ trivial)
     rw [List.take_of_length_le (by rw [bv_length]; omega)] at hbk
     exact Held.setBlk (l1 := []) S1 hbk k
 · intro vs gs W S hp
   have S : Held w0 W (blkR g5 76 (splice (hashA (List.replicate 64 0)).toList 0 (bv h)).toArray :: blkR g6 25 (hashA h) :: L) := by simpa only [List.flatMap_cons, List.flatMap_nil, List.append_nil, List.nil_append, List.cons_append, List.append_assoc] using S
   rw [putAll_eq]
   exact hend _ W sQ  S
theorem mac_r5 (w0 : World) (g5 : Nat) (A : Option Addr) (c : Nat) (s : List UInt8) (L : List Res) (hr : Rd w 1 (.slice A s.length c) s.length (bv s)) (S : Held w0 w (blkR g5 76 (hashA (List.replicate 64 0)) :: L)) (hsz : a.tmps.size = 27) (o0 : Sl a 0 (.slice A s.length c)) (o5 : Sl a 5 (.pointer (some ⟨g5, 0, none⟩)))
 (hend : ∀ a' W, Same a a' [17, 18, 19] → (Held w0 W (blkR g5 76 (splice (hashA (List.replicate 64 0)).toList 0 ((bv s).take 64)).toArray :: L)) → Q .normal a' W) : (Code.region 5 (opsOf 5 Tryd.f9).toArray false).wp Tryd.prog Q a w := by
 refine wp_region_lit ?_
 (conv => arg 4; whnf)
 unfold Sl at o0 o5
 have S := Lib.hid S
 have Hr := Lib.hid hr
 clear hr
 obtain ⟨ll, hll⟩ : ∃ ll, s.length = ll := ⟨_, rfl⟩
 have HLL := Lib.hid hll
 rw [hll] at o0 Hr
 clear hll
 obtain ⟨mm, hmm⟩ : ∃ mm, min ll 64 = mm := ⟨_, rfl⟩
 have HM := Lib.hid hmm
 clear hmm
 go_wp2_with (refine wpList_copy_blk rfl (.tmp 17) (.tmp 18) 22 22 rfl 5 Tryd.underlying22 (by kernel_rfl) g5 0 64 64 (by simp [Act.eval, Act.put, hsz]) _ (by simp [Act.eval, Act.put, hsz]) ll (bv s) Hr.out 76 _ (S.out.at_ (l1 := [])) (by rw [hashA_size]; exact Nat.le_refl _) (bv_one s) mm HM.out ?_; intro w2 b2 k2; have S2 := Lib.hid (Held.setBlk (l1 := []) S.out b2 k2); clear b2 k2)
 try simp only [Act.put]
 exact hend _ _ sS (S2.out)
theorem mac_r6 (w0 : World) (g5 : Nat) (key : List UInt8) (hk : key.length = 64) (x : Value) (vs : List Value) (ls : List (List UInt8)) (A : Option Addr) (c : Nat) (hx : x = .slice A ls.length c) (hsum : 64 + ls.flatten.length < 1152921504606846976) (L : List Res) (HX : ∀ V, Held w0 V (blkR g5 76 (hashA key) :: L) → TxF V x vs ls) (S : Held w0 w (blkR g5 76 (hashA key) :: L)) (hsz : a.tmps.size = 27) (o1 : Sl a 1 (.slice A ls.length c)) (o5 : Sl a 5 (.pointer (some ⟨g5, 0, none⟩)))
 (hend : ∀ a' W, Same a a' [20, 21, 22, 7] → (∃ g, Sl a' 7 (.pointer (some ⟨g, 0, none⟩)) ∧ Held w0 W (blkR g 25 (hashA (shaF (turned key 54 ++ ls.flatten))) :: blkR g5 76 (hashA key) :: L)) → Q .normal a' W) : (Code.region 6 (opsOf 6 Tryd.f9).toArray false).wp Tryd.prog Q a w := by
 refine wp_region_lit ?_
 (conv => arg 4; whnf)
 unfold Sl at o1 o5
 have S := Lib.hid S
 have HR := Lib.hid (hashed_any w0 _ key hk 54 x vs ls hsum w S.out HX)
 rw [hx] at HR
 have Hk := Lib.hid hk
 clear HX hsum hx hk
 obtain ⟨nl, hnl⟩ : ∃ nl, ls.length = nl := ⟨_, rfl⟩
 rw [hnl] at o1 HR
 have hO := Lib.hid (hashA_one (shaF (turned key 54 ++ ls.flatten)))
 have hsz1 : Hid ((hashA (shaF (turned key 54 ++ ls.flatten))).size = 32) := Lib.hid (by rw [hashA_size, shaF_length])
 obtain ⟨ch, hch⟩ : ∃ ch, Hid (hashA (shaF (turned key 54 ++ ls.flatten)) = ch) := ⟨_, Lib.hid rfl⟩
 have hkz : Hid ((hashA key).size = 64) := Lib.hid (by rw [hashA_size, Hk.out])
 obtain ⟨ck, hck⟩ : ∃ ck, Hid (hashA key = ck) := ⟨_, Lib.hid rfl⟩
 rw [hch.out] at HR hO hsz1
 rw [hck.out] at HR S hkz
 clear hnl
 go_wp2_with (refine wpList_load_blk rfl 76 (.tmp 5) rfl g5 (by simp [Act.eval, Act.put, hsz, o5]) 76 _ (S.out.at_ (l1 := [])) _ Tryd.underlying76 rfl (by rw [hkz.out]; exact Tryd.info64u8s) ?_)
 refine HR.out.mono ?_
 rintro e w4 ⟨rfl, S4⟩
 have S4 := Lib.hid (S4.newBlk 25 (hashA (List.replicate 32 0)))
 go_wp2_with (refine wpList_store_blk rfl 25 (.tmp 7) (.tmp 22) rfl w4.heap.size (by simp [Act.eval, Act.put, hsz]) ch (by simp [Act.eval, Act.put, hsz]) 25 _ (S4.out.at_ (l1 := [])) (by rw [hsz1.out]; exact Tryd.infoHashP) (by rw [hsz1.out]; rfl) hO.out ?_; intro w5 b5 k5; have S5 := Lib.hid (Held.setBlk (l1 := []) S4.out b5 k5); clear b5 k5)
 rw [← hch.out, ← hck.out] at S5
 try simp only [Act.put]
 exact hend _ _ sS (⟨_, sP0, S5.out⟩)
theorem mac_r7 (w0 : World) (g5 g7 g4 : Nat) (key h : List UInt8) (hk : key.length = 64) (hh : h.length = 32) (L : List Res) (hsz : a.tmps.size = 27) (o4 : Sl a 4 (.pointer (some ⟨g4, 0, none⟩))) (o5 : Sl a 5 (.pointer (some ⟨g5, 0, none⟩))) (o7 : Sl a 7 (.pointer (some ⟨g7, 0, none⟩)))
 (S0 : Held w0 w (blkR g4 25 (hashA (List.replicate 32 0)) :: blkR g5 76 (hashA key) :: blkR g7 25 (hashA h) :: L))
 (hend : ∀ (a' : Act) (vs : Nat → Value) (gs : Nat → Nat) (W : World), Same a a' [23, 24, 25, 26] → Held w0 W (blkR (gs 2) 22 #[.slice (some ⟨g7, 0, none⟩) 32 32] :: blkR g4 25 (hashA (shaF (turned key 92 ++ h))) :: blkR g5 76 (hashA key) :: blkR g7 25 (hashA h) :: L) → Q .normal a' W) : (Code.region 7 (opsOf 7 Tryd.f9).toArray true).wp Tryd.prog Q a w := by
 have hap : apartB (opsOf 7 Tryd.f9) = true := by kernel_rfl
 refine wp_region_sep (Γ := Nat) (l := (opsOf 7 Tryd.f9)) 4 [0, 1, 2, 3, 4, 6, 7, 8]
  (fun i vs gs => match i with | 0 => vs 0 = .agg (hashA key) | 1 => vs 1 = .slice (some ⟨g7, 0, none⟩) 32 32 | 2 => vs 2 = .slice (some ⟨gs 2, 0, none⟩) 1 1 | 3 => vs 3 = .agg (hashA (shaF (turned key 92 ++ h))) | _ => True)
  (fun i vs gs => match i with | 2 => [blkR (gs 2) 22 #[.slice (some ⟨g7, 0, none⟩) 32 32]] | 4 => [blkR g4 25 (hashA (shaF (turned key 92 ++ h)))] | 5 => [blkR g4 25 (hashA (List.replicate 32 0))] | 6 => [blkR g5 76 (hashA key)] | 7 => [blkR g7 25 (hashA h)] | 8 => L | _ => [])
  (fun i => match i with | 4 => [5] | _ => []) (fun i => match i with | 0 => [6] | 3 => [2, 7] | _ => []) S0 (by kernel_rfl) hap (by kernel_rfl) (by kernel_rfl) (fun i => match i with | 0 => [0] | 1 => [1] | 2 => [2] | 3 => [3] | _ => []) (by kernel_rfl) ?_ (by kernel_rfl) ?_ ?_ ?_
 · intro s vs vs' gs gs' h
   iterate 9 (rcases s with _ | s; · (first | exact ⟨rfl, id⟩ | (simp only [List.mem_cons, List.not_mem_nil, or_false, forall_eq] at h; simp [h])))
   exact ⟨rfl, id⟩
 · simp only [List.range, List.range.loop, List.flatMap_cons, List.flatMap_nil, List.append_nil]
   exact List.Perm.refl _
 · clear S0 hend
   refine ⟨?_, ?_, ?_, ?_, ?_, trivial⟩
   · intro vs gs A' W LF hA S hR hd hu K hK; replace hK := hK default; have e5 := sO 5 o5 hA hap hsz; clear hA o4 o5 o7
     refine op_runs (v := .agg (hashA key)) (w' := W) (exec_load rfl (by simpa [Act.eval] using e5) (run_loadAt_agg W ⟨g5, 0, none⟩ 76 (hashA key).toList _ (Blk.agg (show Blk W g5 76 (hashA key) from S.ok (blkR g5 76 (hashA key)) (hR 6 (List.mem_singleton.2 rfl) _ (List.mem_singleton.2 rfl)))) Tryd.underlying76 rfl (by rw [Array.length_toList, hashA_size, hk]; exact Tryd.info64u8s))) ?_
     exact hK _ _ S rfl
   · intro vs gs A' W LF hA S hR hd hu K hK; replace hK := hK default; have e7 := sO 7 o7 hA hap hsz; clear hA o4 o5 o7; go_step; exact hK _ _ S rfl
   · intro vs gs A' W LF hA S hR hd hu K hK; have e24 := sV 24 (hd 1 (by kernel_rfl)) hA hap hsz; clear hA o4 o5 o7; go_step
     exact hK W.heap.size _ _ (S.newBlk _ _) rfl
   · intro vs gs A' W LF hA S hR hd hu K hK; replace hK := hK default; have e23 := sV 23 (hd 0 (by kernel_rfl)) hA hap hsz; have e25 := sV 25 (hd 2 (by kernel_rfl)) hA hap hsz; clear hA o4 o5 o7
     generalize hca : hashA key = ca at *
     go_step
     rw [← hca]
     have h2 : blkR (gs 2) 22 #[.slice (some ⟨g7, 0, none⟩) 32 32] ∈ LF := hR 2 (List.mem_cons_self ..) _ (List.mem_singleton.2 rfl)
     have h7 : blkR g7 25 (hashA h) ∈ LF := hR 7 (List.mem_cons_of_mem _ (List.mem_singleton.2 rfl)) _ (List.mem_singleton.2 rfl)
     refine (hashed_any w0 LF key hk 92 (.slice (some ⟨gs 2, 0, none⟩) 1 1) [.slice (some ⟨g7, 0, none⟩) 32 32] [h] (by simp [hh]) _ S (fun V SV => ?_)).mono ?_
     · exact txf_one (SV.ok _ h2) (Rd.of_hash (SV.ok _ h7) hh)
     rintro e w' ⟨rfl, Sq⟩
     rw [show [h].flatten = h from by simp]
     exact hK _ _ Sq rfl
   · intro vs gs A' W LF hA S hR hd hu K hK; replace hK := hK default; have e4 := sO 4 o4 hA hap hsz; have e26 := sV 26 (hd 3 (by kernel_rfl)) hA hap hsz; clear hA o4 o5 o7
     have S1 : Held w0 W (blkR g4 25 (hashA (List.replicate 32 0)) :: LF) := S
     refine op_store_part (.tmp 4) (.tmp 26) 25 rfl g4 0 (by simpa [Act.eval] using e4) (hashA (shaF (turned key 92 ++ h))) (by simpa [Act.eval] using e26) 25 _ (S1.at_ (l1 := [])) (by rw [hashA_size, shaF_length]; exact Tryd.infoHashP) (by rw [hashA_size, shaF_length]; exact Nat.le_refl _) (hashA_one _) (fun w' hbk k => hK undef _ ?_ trivial)
     rw [set_all _ _ (by rw [hashA_size, hashA_size, shaF_length]; rfl)] at hbk
     exact Held.setBlk (l1 := []) S1 hbk k
 · intro vs gs W S hp
   have S : Held w0 W (blkR (gs 2) 22 #[.slice (some ⟨g7, 0, none⟩) 32 32] :: blkR g4 25 (hashA (shaF (turned key 92 ++ h))) :: blkR g5 76 (hashA key) :: blkR g7 25 (hashA h) :: L) := by simpa only [List.flatMap_cons, List.flatMap_nil, List.append_nil, List.nil_append, List.cons_append, List.append_assoc] using S
   rw [putAll_eq]
   exact hend _ vs gs W sQ  S
end
/- sign.Mac, whole. -/
section
open Go.RowKit
theorem key_splice {h : List UInt8} (hl : h.length ≤ 64) : (splice (hashA (List.replicate 64 0)).toList 0 (bv h)).toArray = hashA (h ++ List.replicate (64 - h.length) 0) := by
 unfold splice hashA
 congr 1
 rw [List.take_zero, List.nil_append, Nat.zero_add, bv_length, bv_append]
 congr 1
 show (bv (List.replicate 64 0)).drop _ = _
 unfold bv
 rw [List.map_replicate, List.map_replicate, List.drop_replicate]
theorem mac_any (w0 : World) (L : List Res) (A : Option Addr) (c : Nat) (sec : List UInt8) (hs : sec.length < 1152921504606846976) (x : Value) (vs : List Value) (ls : List (List UInt8)) (hsum : 64 + ls.flatten.length < 1152921504606846976) (w : World) (S : Held w0 w L)
 (HS : ∀ V, Held w0 V L → Rd V 1 (.slice A sec.length c) sec.length (bv sec)) (HX : ∀ V, Held w0 V L → TxF V x vs ls) :
 Calls Tryd.prog 9 #[.slice A sec.length c, x] w fun e w' => e = .returned (.agg (hashA (macF sec ls.flatten))) ∧ Held w0 w' L := by
 obtain ⟨Ax, cx, hx, -, -⟩ := (show Txs w x ls from ⟨vs, HX w S⟩).open_
 refine calls_fr Tryd.func9 rfl 27 rfl (fun a0 hsz hdf hAr => ?_)
 have hz0 : a0.tmps.size = 27 := hsz
 have D := hdf
 have o0 := hAr 0 _ rfl
 have o1 : Sl a0 1 (.slice Ax ls.length cx) := by rw [← hx]; exact hAr 1 _ rfl
 refine wp_seq (mac_r0 w0 _ S hz0 (fun a1 w1 hs1 h => ?_))
 have hz1 := hs1.size.trans hz0; have o0 := hs1.k o0; have o1 := hs1.k o1; have D := hs1.defers.trans D
 obtain ⟨g4, o4, S⟩ := h
 refine wp_seq (mac_r1 w0 _ S hz1 (fun a2 w2 hs2 h => ?_))
 have hz2 := hs2.size.trans hz1; have o0 := hs2.k o0; have o1 := hs2.k o1; have o4 := hs2.k o4; have D := hs2.defers.trans D
 obtain ⟨g5, o5, S⟩ := h
 refine wp_seq (wp_seq (mac_r2 A sec.length c hz2 o0 (fun a3 hs3 o10 => ?_)))
 have hz3 := hs3.size.trans hz2; have o0 := hs3.k o0; have o1 := hs3.k o1; have o4 := hs3.k o4; have o5 := hs3.k o5; have D := hs3.defers.trans D
 have tail : ∀ (a3 : Act) (w3 : World), a3.tmps.size = 27 → a3.defers = [] → Sl a3 1 (.slice Ax ls.length cx) → Sl a3 4 (.pointer (some ⟨g4, 0, none⟩)) → Sl a3 5 (.pointer (some ⟨g5, 0, none⟩)) → Held w0 w3 (blkR g5 76 (hashA (key64 sec)) :: blkR g4 25 (hashA (List.replicate 32 0)) :: L) →
  (tailOf 2 Tryd.f9).wp Tryd.prog (bodyPost Tryd.prog Tryd.f9 fun e w' => e = .returned (.agg (hashA (macF sec ls.flatten))) ∧ Held w0 w' L) a3 w3 := by
  intro a3 w3 hz3 D o1 o4 o5 S
  refine wp_seq (mac_r6 w0 g5 _ (key64_length sec) x vs ls Ax cx hx hsum _ (fun V SV => HX V SV.drop.drop) S hz3 o1 o5 (fun a4 w4 hs4 h => ?_))
  have hz4 := hs4.size.trans hz3; have o1 := hs4.k o1; have o4 := hs4.k o4; have o5 := hs4.k o5; have D := hs4.defers.trans D
  obtain ⟨g7, o7, S⟩ := h
  have S := S.perm ((List.Perm.cons _ (List.Perm.swap _ _ _)).trans ((List.Perm.swap _ _ _).trans (List.Perm.cons _ (List.Perm.swap _ _ _))))
  refine wp_seq (mac_r7 w0 g5 g7 g4 _ _ (key64_length sec) (shaF_length _) _ hz4 o4 o5 o7 S (fun a5 vs5 gs5 w5 hs5 S => ?_))
  have hz5 := hs5.size.trans hz4; have o1 := hs5.k o1; have o4 := hs5.k o4; have o5 := hs5.k o5; have o7 := hs5.k o7; have D := hs5.defers.trans D
  refine wp_ret (bodyPost_ret (results_cell1 (by rfl) (o4.eval (by rw [hz5]; decide)) (S.at_ (l1 := [_])) Tryd.underlying25 rfl (by rw [hashA_size, shaF_length]; exact Tryd.infoHashP)) D ⟨rfl, ?_⟩)
  exact S.drop.drop.drop.drop
 by_cases hlt : 64 < sec.length
 · refine wp_cond_true ((o10.eval (by rw [hz3]; decide)).trans (by rw [decide_eq_true hlt])) ?_
   refine wp_seq (mac_r3 w0 A c sec hs _ (fun V SV => HS V SV.drop.drop) S hz3 o0 (fun a4 w4 hs4 h => ?_))
   have hz4 := hs4.size.trans hz3; have o0 := hs4.k o0; have o1 := hs4.k o1; have o4 := hs4.k o4; have o5 := hs4.k o5; have o10 := hs4.k o10; have D := hs4.defers.trans D
   obtain ⟨g6, o6, S⟩ := h
   have S := S.perm (List.Perm.swap _ _ _)
   refine mac_r4 w0 g5 g6 _ (shaF_length sec) _ hz4 o5 o6 S (fun a5 w5 hs5 S => ?_)
   have hz5 := hs5.size.trans hz4; have o0 := hs5.k o0; have o1 := hs5.k o1; have o4 := hs5.k o4; have o5 := hs5.k o5; have o10 := hs5.k o10; have o6 := hs5.k o6; have D := hs5.defers.trans D
   rw [key_splice (by rw [shaF_length]; omega)] at S
   have ek : shaF sec ++ List.replicate (64 - (shaF sec).length) 0 = key64 sec := by unfold key64; rw [if_pos hlt]
   rw [ek] at S
   exact tail _ _ hz5 D o1 o4 o5 (S.dropAt (l1 := [_]))
 · refine wp_cond_false ((o10.eval (by rw [hz3]; decide)).trans (by rw [decide_eq_false hlt])) ?_
   refine mac_r5 w0 g5 A c sec _ (HS _ S.drop.drop) S hz3 o0 o5 (fun a4 w4 hs4 S => ?_)
   have hz4 := hs4.size.trans hz3; have o0 := hs4.k o0; have o1 := hs4.k o1; have o4 := hs4.k o4; have o5 := hs4.k o5; have D := hs4.defers.trans D
   rw [List.take_of_length_le (by rw [bv_length]; omega), key_splice (by omega)] at S
   have ek : sec ++ List.replicate (64 - sec.length) 0 = key64 sec := by unfold key64; rw [if_neg hlt]
   rw [ek] at S
   exact tail _ _ hz4 D o1 o4 o5 S
end
/- The reference's New, eight, words. -/
section
variable {Q : Exit → Act → World → Prop} {a : Act} {w : World}
open Go.RowKit
theorem be4_bv (x : Nat) : (#[Value.int .u8 ((x / 16777216 % 256 : Nat) : Int), .int .u8 ((x / 65536 % 256 : Nat) : Int), .int .u8 ((x / 256 % 256 : Nat) : Int), .int .u8 ((x % 256 : Nat) : Int)] : Array Value).toList = bv (be 4 x) := by
 simp only [be_succ, be_zero, bv_cons, bv_nil, UInt8.toNat_ofNat']
 simp
def undL (st : List Nat) (n : Nat) (v : Value) : List Value := u32L st ++ [.int .i64 (n : Int), v]
def undA (st : List Nat) (n : Nat) (v : Value) : Array Value := (undL st n v).toArray
theorem Tryd.infoUnder : (Tryd.prog.info? 113).map (·.size) = some 10 := by kernel_rfl
section
variable {st : List Nat} {n : Nat} {v : Value}
theorem undA_size (hs : st.length = 8) : (undA st n v).size = 10 := by simp [undA, undL, u32L_length, hs]
theorem undA_len (hs : st.length = 8) : (undA st n v)[8]? = some (.int .i64 (n : Int)) := by
 simp only [undA, List.getElem?_toArray, undL]
 rw [List.getElem?_append_right (by rw [u32L_length]; omega), u32L_length, hs]; rfl
theorem undA_rest (hs : st.length = 8) : (undA st n v)[9]? = some v := by
 simp only [undA, List.getElem?_toArray, undL]
 rw [List.getElem?_append_right (by rw [u32L_length]; omega), u32L_length, hs]; rfl
theorem undA_setLen (hs : st.length = 8) (m : Nat) : (undA st n v).setIfInBounds 8 (.int .i64 (m : Int)) = undA st m v := by
 unfold undA undL
 rw [List.setIfInBounds_toArray, List.set_append_right _ _ (by rw [u32L_length]; omega), u32L_length, hs]; rfl
theorem undA_setRest (hs : st.length = 8) (u : Value) : (undA st n v).setIfInBounds 9 u = undA st n u := by
 unfold undA undL
 rw [List.setIfInBounds_toArray, List.set_append_right _ _ (by rw [u32L_length]; omega), u32L_length, hs]; rfl
theorem undA_state (hs : st.length = 8) (st' : List Nat) (hs' : st'.length = 8) : ((undA st n v).toList.take 0 ++ (u32A st').toList ++ (undA st n v).toList.drop (0 + (u32A st').size)).toArray = undA st' n v := by
 rw [u32A_size, hs']
 unfold undA undL
 rw [List.toList_toArray, List.take_zero, List.nil_append, Nat.zero_add, List.drop_left' (by rw [u32L_length, hs])]
 rfl
theorem und_stateAt {w : World} {g : Nat} {t : TypeId} (h : Blk w g t (undA st n v)) (hs : st.length = 8) : ∀ j u, (u32A st).toList[j]? = some u → w.cell? ((⟨g, 0, none⟩ : Addr).add j) = some u := by
 intro j u hu
 have hj : j < 8 := by
  have := (List.getElem?_eq_some_iff.1 hu).1
  simpa [u32A, u32L, hs] using this
 refine h.agg j u ?_
 simp only [undA, List.toList_toArray, undL]
 rw [List.getElem?_append_left (by rw [u32L_length]; omega)]
 exact hu
theorem undA_one (hv : v.oneCell' = true) : ∀ u, u ∈ (undA st n v).toList → u.oneCell' = true := by
 intro u hu
 simp only [undA, List.toList_toArray, undL, List.mem_append, List.mem_cons, List.not_mem_nil, or_false] at hu
 rcases hu with hu | rfl | rfl
 · exact u32L_one st u hu
 · rfl
 · exact hv
end
theorem rnew_any (w : World) : Calls Tryd.prog 66 #[] w fun e w' => e = .returned (.agg (undA hF 0 (.slice none 0 0))) ∧ Kp [] w w' := by
 have S0 := Lib.hid ((Held.start w).newBlk 113 (undA (List.replicate 8 0) 0 (.slice none 0 0)))
 have HB : Hid (Tryd.prog.built 113 [(0, .agg (u32A hF))] = some (undA hF 0 (.slice none 0 0))) := Lib.hid (by kernel_rfl)
 have hO := Lib.hid (undA_one (st := hF) (n := 0) (v := .slice none 0 0) rfl)
 have hZ : Hid ((undA hF 0 (.slice none 0 0)).size = 10) := Lib.hid (undA_size rfl)
 obtain ⟨ch, hch⟩ : ∃ ch, Hid (undA hF 0 (.slice none 0 0) = ch) := ⟨_, Lib.hid rfl⟩
 obtain ⟨ca, hca⟩ : ∃ ca, Hid (u32A hF = ca) := ⟨_, Lib.hid rfl⟩
 rw [hch.out] at HB hO hZ ⊢
 rw [hca.out] at HB
 have hf := Lib.hid (rfirst_any)
 rw [hca.out] at hf
 go_enter Tryd.func66, Tryd.ntmps66
 go_wp2_with fail
 refine (hf.out _).mono ?_
 rintro e w' ⟨rfl, k1⟩
 have S1 := Lib.hid (S0.out.kp k1)
 clear k1 S0
 go_wp2_with (first
  | (refine wpList_buildC rfl 113 _ rfl [(0, .agg ca)] (by simp [Act.eval, Act.put]) _ HB.out ?_)
  | (refine wpList_store_blk rfl 113 (.tmp 0) (.tmp 2) rfl w.heap.size (by simp [Act.eval, Act.put]) ch (by simp [Act.eval, Act.put]) 113 _ (S1.out.at_ (l1 := [])) (by rw [hZ.out]; exact Tryd.infoUnder) (by rw [hZ.out]; rfl) hO.out ?_; intro w5 b5 k5; have S5 := Lib.hid (Held.setBlk (l1 := []) S1.out b5 k5); clear b5 k5))
 refine bodyPost_ret (results_cell1 (by rfl) rfl (S5.out.at_ (l1 := [])) Tryd.underlying113 rfl (by rw [hZ.out]; exact Tryd.infoUnder)) rfl ?_
 exact ⟨rfl, S5.out.k⟩
theorem reight_any (w0 : World) (L : List Res) (N : Nat) (w : World) (S : Held w0 w L) : Calls Tryd.prog 87 #[.int .u64 (N : Int)] w fun e w' => ∃ v, e = .returned v ∧ Held w0 w' (rowR 5 1 v 8 (bv (be 8 N)) :: L) := by
 have S := Lib.hid S
 go_enter Tryd.func87, Tryd.ntmps87
 go_wp2
 go_loopw [3, 4] (fun v z wr => ∃ r : Nat, r ≤ 8 ∧ z = .int .i64 (56 - 8 * (r : Int)) ∧ Held w0 wr (rowR 5 1 v ((be 8 N).take r).length (bv ((be 8 N).take r)) :: L)) (fun _ z _ => (intOf z + 8).toNat)
 case atStart => exact ⟨0, by omega, rfl, S.out.rownew (World.ownsRow_nil _ _ _ _) (Kp.refl [] _) (by simp [Value.ownBlock])⟩
 case round =>
  clear S
  obtain ⟨r, hr, rfl, S⟩ := hrel
  obtain ⟨A, c, rfl, -, -⟩ := ow_form (S.at_ (l1 := []))
  have S := Lib.hid S
  by_cases hlt : r < 8
  · have e6 : (56 - 8 * (r : Int)) = (((56 - 8 * r : Nat)) : Int) := by omega
    have e7 : (56 - 8 * (r : Int)) - 8 = 56 - 8 * ((r + 1 : Nat) : Int) := by omega
    have hw : wrap64 (((56 - 8 * r : Nat) : Int) - 8) = 56 - 8 * ((r + 1 : Nat) : Int) := by unfold wrap64; omega
    have hbv : Hid (((N : Int) / 2 ^ (56 - 8 * r)) % 256 = ((UInt8.ofNat (N / 2 ^ (56 - 8 * r))).toNat : Int)) := Lib.hid (by rw [UInt8.toNat_ofNat', Int.natCast_emod, Int.natCast_ediv, Int.natCast_pow]; rfl)
    have hge : (0 : Int) ≤ ((56 - 8 * r : Nat) : Int) := by omega
    have Hn := Lib.hid (be8_take N r hlt)
    have hxl : ((be 8 N).take r).length ≤ 8 := by rw [List.length_take]; omega
    generalize UInt8.ofNat (N / 2 ^ (56 - 8 * r)) = b at *
    have hbv := hbv.out
    rw [e6]
    have e8 : 56 - 8 * ((r + 1 : Nat) : Int) = ((56 - 8 * r : Nat) : Int) - 8 := by omega
    rw [e8] at hw
    generalize hz : ((56 - 8 * r : Nat) : Int) - 8 = z2 at *
    have Hz : Hid (z2 = 56 - 8 * ((r + 1 : Nat) : Int)) := Lib.hid (by omega)
    clear e6 e7 e8 hz
    generalize hxs : (be 8 N).take r = xs at *
    have S1 := Lib.hid (S.out.alloc (.cells #[.int .u8 (b.toNat : Int)] 5))
    have HR := Lib.hid (rd_lit wr 5 #[.int .u8 (b.toNat : Int)] [b] rfl (by simp))
    have Hxs := Lib.hid hxs
    clear hxs S
    generalize hq : 56 - 8 * r = q at *
    have hmin : min q 64 = q := by omega
    have Hq := Lib.hid hq
    clear hq
    go_wp2_with (at_builtin; refine app_held [] rfl (.tmp 9) (.tmp 14) rfl (.slice A xs.length c) xs (by simp [Act.eval]) S1.out (.slice (some ⟨wr.heap.size, 0, none⟩) 1 1) [b] (by simp [Act.eval]) HR.out (by simp; omega) ?_; intro v2 w2 S2; have S2 := Lib.hid S2; obtain ⟨A2, c2, hv2, _, _⟩ := ow_form (S2.out.at_ (l1 := [])); subst hv2)
    go_roundw
    case rel =>
     refine ⟨r + 1, by omega, congrArg (Value.int .i64) (by have := Hq.out; omega), ?_⟩
     rw [Hn.out]
     have := S2.out
     rw [show (xs ++ [b]).length = xs.length + 1 from by simp] at this ⊢
     exact this
    case measure =>
     have := Hq.out
     simp [intOf]; omega
  · obtain rfl : r = 8 := by omega
    have e8 : (56 - 8 * ((8 : Nat) : Int)) = -8 := by omega
    rw [e8]
    go_wp2
    go_ret
    have e := S.out
    rw [List.take_of_length_le (by simp), be_length] at e
    exact ⟨_, rfl, by simpa using e⟩
def dsWd : List Nat := [3, 4, 5, 6, 7, 8, 9, 10, 11, 12, 13, 14, 15, 16, 17, 18, 19, 20, 21, 22, 23, 24, 25, 26, 27, 28, 29, 30]
theorem rwd_r0 (w0 : World) (st : List Nat) (L : List Res) (S : Held w0 w L) (hsz : a.tmps.size = 32) (o0 : Sl a 0 (.agg (u32A st)))
 (hend : ∀ a' W, Same a a' [1, 2] → (∃ g, Sl a' 1 (.pointer (some ⟨g, 0, none⟩)) ∧ Held w0 W (blkR g 111 (u32A st) :: L)) → Q .normal a' W) : (Code.region 0 (opsOf 0 Tryd.f88).toArray false).wp Tryd.prog Q a w := by
 refine wp_region_lit ?_
 (conv => arg 4; whnf)
 unfold Sl at o0
 have S0 := Lib.hid (S.newBlk 111 (u32A st))
 generalize hca : u32A st = ca at *
 go_wp2
 try simp only [Act.put]
 exact hend _ _ sS (⟨w.heap.size, sP0, S0.out⟩)
theorem rwd_r1  (hsz : a.tmps.size = 32) 
 (hend : ∀ a', Same a a' [3] → Sl a' 3 (.slice none 0 0) → Q .normal a' (w)) : (Code.region 1 (opsOf 1 Tryd.f88).toArray false).wp Tryd.prog Q a w := by
 refine wp_region_lit ?_
 (conv => arg 4; whnf)
 go_wp2_with fail
 try simp only [Act.put]
 exact hend _ sS sP
theorem rwd_r2  (hsz : a.tmps.size = 32) 
 (hend : ∀ a', Same a a' [4] → Sl a' 4 (.int .i64 ((0 : Nat) : Int)) → Q .normal a' (w)) : (Code.region 2 (opsOf 2 Tryd.f88).toArray false).wp Tryd.prog Q a w := by
 refine wp_region_lit ?_
 (conv => arg 4; whnf)
 go_wp2_with fail
 try simp only [Act.put]
 exact hend _ sS sP
theorem rwd_r3 (k : Nat) (hsz : a.tmps.size = 32) (o4 : Sl a 4 (.int .i64 (k : Int)))
 (hend : ∀ a', Same a a' [5, 6] → Sl a' 6 (.bool (decide ((k : Int) < 8))) → Q .normal a' (w)) : (Code.region 3 (opsOf 3 Tryd.f88).toArray false).wp Tryd.prog Q a w := by
 refine wp_region_lit ?_
 (conv => arg 4; whnf)
 unfold Sl at o4
 go_wp2_with fail
 try simp only [Act.put]
 exact hend _ sS sP
theorem rwd_r4 (k : Nat) (hk : k < 8) (hsz : a.tmps.size = 32) (o4 : Sl a 4 (.int .i64 (k : Int)))
 (hend : ∀ a', Same a a' [7, 8, 4] → Sl a' 4 (.int .i64 ((k + 1 : Nat) : Int)) → Q .normal a' (w)) : (Code.region 4 (opsOf 4 Tryd.f88).toArray false).wp Tryd.prog Q a w := by
 refine wp_region_lit ?_
 (conv => arg 4; whnf)
 unfold Sl at o4
 go_wp2_with fail
 try simp only [Act.put]
 exact hend _ sS sP
theorem rwd_r6 (A : Option Addr) (n c : Nat) (hsz : a.tmps.size = 32) (o3 : Sl a 3 (.slice A n c))
 (hend : ∀ a', Same a a' [31, 2] → Sl a' 2 (.slice A n c) → Q .normal a' (w)) : (Code.region 6 (opsOf 6 Tryd.f88).toArray false).wp Tryd.prog Q a w := by
 refine wp_region_lit ?_
 (conv => arg 4; whnf)
 unfold Sl at o3
 go_wp2_with fail
 try simp only [Act.put]
 exact hend _ sS sP
theorem rwd_r5 (w0 : World) (g1 k x n c : Nat) (A : Option Addr) (st : List Nat) (l : List UInt8) (hk : k < 8) (hx : st[k]? = some x) (hn : n + 4 ≤ 1000) (L : List Res) (hsz : a.tmps.size = 32) (o1 : Sl a 1 (.pointer (some ⟨g1, 0, none⟩))) (o3 : Sl a 3 (.slice A n c)) (o4 : Sl a 4 (.int .i64 (k : Int)))
 (S0 : Held w0 w (L ++ (rowR 5 1 (.slice A n c) n (bv l) :: blkR g1 111 (u32A st) :: [])))
 (hend : ∀ (a' : Act) (vs : Nat → Value) (gs : Nat → Unit) (W : World), Same a a' [9, 10, 11, 12, 13, 14, 15, 16, 17, 18, 19, 20, 21, 22, 23, 24, 25, 26, 27, 28, 29, 30, 3] → Sl a' 30 (vs 21) → (∃ A c, vs 21 = .slice A (n + 4) c) → Sl a' 3 (vs 21) → Held w0 W (rowR 5 1 (vs 20) 4 (bv (be 4 x)) :: rowR 5 1 (vs 21) (n + 4) (bv l ++ bv (be 4 x)) :: L ++ (blkR g1 111 (u32A st) :: [])) → Q .normal a' W) : (Code.region 5 (opsOf 5 Tryd.f88).toArray true).wp Tryd.prog Q a w := by
 have hap : apartB (opsOf 5 Tryd.f88) = true := by kernel_rfl
 refine wp_region_sep (Γ := Unit) (l := (opsOf 5 Tryd.f88)) 3 [0, 1, 2, 3, 4, 5, 6, 7, 8, 9, 10, 11, 12, 13, 14, 15, 16, 17, 18, 19, 20, 21, 22, 23, 25]
  (fun i vs gs => match i with | 0 => vs 0 = .slice A n c | 1 => vs 1 = .int .i64 (k : Int) | 2 => vs 2 = .pointer (some ⟨g1, k, none⟩) | 3 => vs 3 = .int .u32 ((x : Nat) : Int) | 4 => vs 4 = .int .u32 ((x / 16777216 : Nat) : Int) | 5 => vs 5 = .int .u8 ((x / 16777216 % 256 : Nat) : Int) | 6 => vs 6 = .int .i64 (k : Int) | 7 => vs 7 = .pointer (some ⟨g1, k, none⟩) | 8 => vs 8 = .int .u32 ((x : Nat) : Int) | 9 => vs 9 = .int .u32 ((x / 65536 : Nat) : Int) | 10 => vs 10 = .int .u8 ((x / 65536 % 256 : Nat) : Int) | 11 => vs 11 = .int .i64 (k : Int) | 12 => vs 12 = .pointer (some ⟨g1, k, none⟩) | 13 => vs 13 = .int .u32 ((x : Nat) : Int) | 14 => vs 14 = .int .u32 ((x / 256 : Nat) : Int) | 15 => vs 15 = .int .u8 ((x / 256 % 256 : Nat) : Int) | 16 => vs 16 = .int .i64 (k : Int) | 17 => vs 17 = .pointer (some ⟨g1, k, none⟩) | 18 => vs 18 = .int .u32 ((x : Nat) : Int) | 19 => vs 19 = .int .u8 ((x % 256 : Nat) : Int) | 21 => ∃ A c, vs 21 = .slice A (n + 4) c | 22 => vs 22 = vs 21 | _ => True)
  (fun i vs gs => match i with | 20 => [rowR 5 1 (vs 20) 4 (bv (be 4 x))] | 21 => [rowR 5 1 (vs 21) (n + 4) (bv l ++ bv (be 4 x))] | 23 => L | 24 => [rowR 5 1 (.slice A n c) n (bv l)] | 25 => [blkR g1 111 (u32A st)] | _ => [])
  (fun i => match i with | 21 => [24] | _ => []) (fun i => match i with | 3 => [25] | 8 => [25] | 13 => [25] | 18 => [25] | 21 => [20] | _ => []) S0 (by kernel_rfl) hap (by kernel_rfl) (by kernel_rfl) (fun i => match i with | 0 => [0] | 1 => [1] | 2 => [2] | 3 => [3] | 4 => [4] | 5 => [5] | 6 => [6] | 7 => [7] | 8 => [8] | 9 => [9] | 10 => [10] | 11 => [11] | 12 => [12] | 13 => [13] | 14 => [14] | 15 => [15] | 16 => [16] | 17 => [17] | 18 => [18] | 19 => [19] | 20 => [20] | 21 => [21] | 22 => [21, 22] | _ => []) (by kernel_rfl) ?_ (by kernel_rfl) ?_ ?_ ?_
 · intro s vs vs' gs gs' h
   iterate 26 (rcases s with _ | s; · (first | exact ⟨rfl, id⟩ | (simp only [List.mem_cons, List.not_mem_nil, or_false, forall_eq_or_imp, forall_eq] at h; simp [h])))
   exact ⟨rfl, id⟩
 · simp only [List.range, List.range.loop, List.flatMap_cons, List.flatMap_nil, List.append_nil]
   exact List.Perm.refl _
 · clear S0 hend
   refine ⟨?_, ?_, ?_, ?_, ?_, ?_, ?_, ?_, ?_, ?_, ?_, ?_, ?_, ?_, ?_, ?_, ?_, ?_, ?_, ?_, ?_, ?_, ?_, trivial⟩
   · intro vs gs A' W LF hA S hR hd hu K hK; replace hK := hK default
     have e3 := sU 3 22 hA hap hsz
     rw [show vs 22 = .slice A n c from (hu 22 _ rfl (by kernel_rfl)).trans (o3.eval (sH 3 hsz rfl))] at e3
     clear hA o1 o3 o4; go_step; exact hK _ _ S rfl
   · intro vs gs A' W LF hA S hR hd hu K hK; replace hK := hK default; have e4 := sO 4 o4 hA hap hsz; clear hA o1 o3 o4; go_step; exact hK _ _ S rfl
   · intro vs gs A' W LF hA S hR hd hu K hK; replace hK := hK default; have e1 := sO 1 o1 hA hap hsz; have e10 := sV 10 (hd 1 (by kernel_rfl)) hA hap hsz; clear hA o1 o3 o4
     have h0 : 0 ≤ (k : Int) := by omega
     have h1 : (k : Int) < 8 := by omega
     go_step; exact hK _ _ S rfl
   · intro vs gs A' W LF hA S hR hd hu K hK; replace hK := hK default; have e11 := sV 11 (hd 2 (by kernel_rfl)) hA hap hsz; clear hA o1 o3 o4
     have c0 := u32_cell (S.ok (blkR g1 111 (u32A st)) (hR 25 (List.mem_singleton.2 rfl) _ (List.mem_singleton.2 rfl))) k x hx
     go_step; exact hK _ _ S rfl
   · intro vs gs A' W LF hA S hR hd hu K hK; replace hK := hK default; have e12 := sV 12 (hd 3 (by kernel_rfl)) hA hap hsz; clear hA o1 o3 o4; go_step
     exact hK _ _ S (congrArg (Value.int .u32) (by first | omega | rfl))
   · intro vs gs A' W LF hA S hR hd hu K hK; replace hK := hK default; have e13 := sV 13 (hd 4 (by kernel_rfl)) hA hap hsz; clear hA o1 o3 o4; go_step
     exact hK _ _ S (congrArg (Value.int .u8) (by first | omega | rfl))
   · intro vs gs A' W LF hA S hR hd hu K hK; replace hK := hK default; have e4 := sO 4 o4 hA hap hsz; clear hA o1 o3 o4; go_step; exact hK _ _ S rfl
   · intro vs gs A' W LF hA S hR hd hu K hK; replace hK := hK default; have e1 := sO 1 o1 hA hap hsz; have e15 := sV 15 (hd 6 (by kernel_rfl)) hA hap hsz; clear hA o1 o3 o4
     have h0 : 0 ≤ (k : Int) := by omega
     have h1 : (k : Int) < 8 := by omega
     go_step; exact hK _ _ S rfl
   · intro vs gs A' W LF hA S hR hd hu K hK; replace hK := hK default; have e16 := sV 16 (hd 7 (by kernel_rfl)) hA hap hsz; clear hA o1 o3 o4
     have c0 := u32_cell (S.ok (blkR g1 111 (u32A st)) (hR 25 (List.mem_singleton.2 rfl) _ (List.mem_singleton.2 rfl))) k x hx
     go_step; exact hK _ _ S rfl
   · intro vs gs A' W LF hA S hR hd hu K hK; replace hK := hK default; have e17 := sV 17 (hd 8 (by kernel_rfl)) hA hap hsz; clear hA o1 o3 o4; go_step
     exact hK _ _ S (congrArg (Value.int .u32) (by first | omega | rfl))
   · intro vs gs A' W LF hA S hR hd hu K hK; replace hK := hK default; have e18 := sV 18 (hd 9 (by kernel_rfl)) hA hap hsz; clear hA o1 o3 o4; go_step
     exact hK _ _ S (congrArg (Value.int .u8) (by first | omega | rfl))
   · intro vs gs A' W LF hA S hR hd hu K hK; replace hK := hK default; have e4 := sO 4 o4 hA hap hsz; clear hA o1 o3 o4; go_step; exact hK _ _ S rfl
   · intro vs gs A' W LF hA S hR hd hu K hK; replace hK := hK default; have e1 := sO 1 o1 hA hap hsz; have e20 := sV 20 (hd 11 (by kernel_rfl)) hA hap hsz; clear hA o1 o3 o4
     have h0 : 0 ≤ (k : Int) := by omega
     have h1 : (k : Int) < 8 := by omega
     go_step; exact hK _ _ S rfl
   · intro vs gs A' W LF hA S hR hd hu K hK; replace hK := hK default; have e21 := sV 21 (hd 12 (by kernel_rfl)) hA hap hsz; clear hA o1 o3 o4
     have c0 := u32_cell (S.ok (blkR g1 111 (u32A st)) (hR 25 (List.mem_singleton.2 rfl) _ (List.mem_singleton.2 rfl))) k x hx
     go_step; exact hK _ _ S rfl
   · intro vs gs A' W LF hA S hR hd hu K hK; replace hK := hK default; have e22 := sV 22 (hd 13 (by kernel_rfl)) hA hap hsz; clear hA o1 o3 o4; go_step
     exact hK _ _ S (congrArg (Value.int .u32) (by first | omega | rfl))
   · intro vs gs A' W LF hA S hR hd hu K hK; replace hK := hK default; have e23 := sV 23 (hd 14 (by kernel_rfl)) hA hap hsz; clear hA o1 o3 o4; go_step
     exact hK _ _ S (congrArg (Value.int .u8) (by first | omega | rfl))
   · intro vs gs A' W LF hA S hR hd hu K hK; replace hK := hK default; have e4 := sO 4 o4 hA hap hsz; clear hA o1 o3 o4; go_step; exact hK _ _ S rfl
   · intro vs gs A' W LF hA S hR hd hu K hK; replace hK := hK default; have e1 := sO 1 o1 hA hap hsz; have e25 := sV 25 (hd 16 (by kernel_rfl)) hA hap hsz; clear hA o1 o3 o4
     have h0 : 0 ≤ (k : Int) := by omega
     have h1 : (k : Int) < 8 := by omega
     go_step; exact hK _ _ S rfl
   · intro vs gs A' W LF hA S hR hd hu K hK; replace hK := hK default; have e26 := sV 26 (hd 17 (by kernel_rfl)) hA hap hsz; clear hA o1 o3 o4
     have c0 := u32_cell (S.ok (blkR g1 111 (u32A st)) (hR 25 (List.mem_singleton.2 rfl) _ (List.mem_singleton.2 rfl))) k x hx
     go_step; exact hK _ _ S rfl
   · intro vs gs A' W LF hA S hR hd hu K hK; replace hK := hK default; have e27 := sV 27 (hd 18 (by kernel_rfl)) hA hap hsz; clear hA o1 o3 o4; go_step
     exact hK _ _ S (congrArg (Value.int .u8) (by first | omega | rfl))
   · intro vs gs A' W LF hA S hR hd hu K hK; replace hK := hK default; have e14 := sV 14 (hd 5 (by kernel_rfl)) hA hap hsz; have e19 := sV 19 (hd 10 (by kernel_rfl)) hA hap hsz; have e24 := sV 24 (hd 15 (by kernel_rfl)) hA hap hsz; have e28 := sV 28 (hd 19 (by kernel_rfl)) hA hap hsz; clear hA o1 o3 o4
     generalize hb0 : ((x / 16777216 % 256 : Nat) : Int) = b0 at e14
     generalize hb1 : ((x / 65536 % 256 : Nat) : Int) = b1 at e19
     generalize hb2 : ((x / 256 % 256 : Nat) : Int) = b2 at e24
     generalize hb3 : ((x % 256 : Nat) : Int) = b3 at e28
     go_step
     subst hb0 hb1 hb2 hb3
     have S2 := S.rownew (ow_new W 5 1 4 #[.int .u8 ((x / 16777216 % 256 : Nat) : Int), .int .u8 ((x / 65536 % 256 : Nat) : Int), .int .u8 ((x / 256 % 256 : Nat) : Int), .int .u8 ((x % 256 : Nat) : Int)] rfl (by decide)) ((Kp.refl [] W).alloc _) (fun g hg => Nat.le_of_eq (Option.some.inj hg))
     rw [be4_bv x] at S2
     exact hK _ _ S2 trivial
   · intro vs gs A' W LF hA S hR hd hu K hK; replace hK := hK default; have e9 := sV 9 (hd 0 (by kernel_rfl)) hA hap hsz
     have e29 := sU 29 20 hA hap hsz
     clear hA o1 o3 o4
     refine op_app (.tmp 9) (.tmp 29) 22 5 rfl Tryd.infoU8 Tryd.underlying22 rfl (by decide) (.slice A n c) n (bv l) (by simpa [Act.eval] using e9) S (vs 20) 4 (bv (be 4 x)) (by simpa [Act.eval] using e29) (rd_of_row (e := 5) S (List.mem_cons_of_mem _ (hR 20 (List.mem_singleton.2 rfl) _ (List.mem_singleton.2 rfl)))) (bv_one _) (by unfold maxLen; omega) (by omega) (fun v' w' S' => hK v' w' S' ?_)
     obtain ⟨A1, c1, hv, _, _⟩ := ow_form (S'.at_ (l1 := []))
     exact ⟨A1, c1, hv⟩
   · intro vs gs A' W LF hA S hR hd hu K hK; replace hK := hK default; have f21 : ∃ A c, vs 21 = .slice A (n + 4) c := hd 21 (by kernel_rfl)
     have e30 := sU 30 21 hA hap hsz
     clear hA o1 o3 o4
     obtain ⟨A1, c1, hv⟩ := f21
     rw [hv] at e30
     go_step
     rw [← hv]
     exact hK _ _ S rfl
 · intro vs gs W S hp
   have S : Held w0 W (rowR 5 1 (vs 20) 4 (bv (be 4 x)) :: rowR 5 1 (vs 21) (n + 4) (bv l ++ bv (be 4 x)) :: L ++ (blkR g1 111 (u32A st) :: [])) := by simpa only [List.flatMap_cons, List.flatMap_nil, List.append_nil, List.nil_append, List.cons_append, List.append_assoc] using S
   rw [putAll_eq]
   exact hend _ vs gs W sQ sX (hp 21 sB) (sW (hp 22 sB)) S
theorem rwords_any (w0 : World) (L : List Res) (st : List Nat) (hs : st.length = 8) (w : World) (S : Held w0 w L) : Calls Tryd.prog 88 #[.agg (u32A st)] w fun e w' => ∃ v, e = .returned v ∧ Held w0 w' (rowR 5 1 v 32 (bv (st.flatMap (be 4))) :: L) := by
 refine calls_fr Tryd.func88 rfl 32 rfl (fun a0 hsz hdf hAr => ?_)
 have hz0 : a0.tmps.size = 32 := hsz
 have D := hdf
 have o0 := hAr 0 _ rfl
 refine wp_seq (rwd_r0 w0 st _ S hz0 o0 (fun a1 w1 hs1 h => ?_))
 have hz1 := hs1.size.trans hz0; have D := hs1.defers.trans D
 obtain ⟨g1, o1, S⟩ := h
 refine wp_seq (rwd_r1 hz1 (fun a2 hs2 o3 => ?_))
 have hz2 := hs2.size.trans hz1; have o1 := hs2.k o1; have D := hs2.defers.trans D
 refine wp_seq (wp_seq (rwd_r2 hz2 (fun a3 hs3 o4 => ?_)))
 have hz3 := hs3.size.trans hz2; have o1 := hs3.k o1; have o3 := hs3.k o3; have D := hs3.defers.trans D
 refine wp_block ?_
 (conv => arg 2; whnf)
 refine wp_loop (fun a' w' => ∃ (k : Nat) (A : Option Addr) (c : Nat), k ≤ 8 ∧ Same a3 a' dsWd ∧ Sl a' 4 (.int .i64 (k : Int)) ∧ Sl a' 3 (.slice A (4 * k) c) ∧ Held w0 w' (rowR 5 1 (.slice A (4 * k) c) (4 * k) (bv ((st.take k).flatMap (be 4))) :: blkR g1 111 (u32A st) :: L)) (fun a' _ => 8 - (intOf (a'.eval (.tmp 4))).toNat) ⟨0, none, 0, by omega, Same.refl _ _, o4, o3, S.rownew (World.ownsRow_nil _ _ _ _) (Kp.refl [] _) (by simp [Value.ownBlock])⟩ ?_
 clear o4 o3 S
 rintro b1 w3 ⟨k, A, c, hk, T, o4, o3, S⟩
 have hz1 := T.size.trans hz3
 have o1 := T.keep 1 _ (by decide) o1
 have eCtr := o4.eval (by rw [hz1]; decide)
 refine wp_seq (wp_seq (rwd_r3 k hz1 o4 (fun a2 hs2 o6 => ?_)))
 have hz2 := hs2.size.trans hz1; have o1 := hs2.k o1; have o3 := hs2.k o3; have o4 := hs2.k o4
 have T := T.trans hs2
 by_cases hlt : k < 8
 · refine wp_cond_true ((o6.eval (by rw [hz2]; decide)).trans (by rw [decide_eq_true (by omega)])) (wp_skip ?_)
   obtain ⟨x, hx⟩ : ∃ x, st[k]? = some x := ⟨_, List.getElem?_eq_getElem (by omega)⟩
   refine wp_seq (wp_block ?_)
   refine rwd_r5 w0 g1 k x (4 * k) c A st _ hlt hx (by omega) L hz2 o1 o3 o4 (S.perm (List.perm_append_comm (l₁ := [_, _]) (l₂ := L))) (fun a3 vs gs w4 hs3 o30 h3 o3 S => ?_)
   have hz3 := hs3.size.trans hz2; have o1 := hs3.k o1; have o4 := hs3.k o4; have o6 := hs3.k o6
   have T := T.trans hs3
   obtain ⟨A2, c2, hv⟩ := h3
   rw [hv] at o3 S
   have S := S.dropAt (l1 := [])
   refine rwd_r4 k hlt hz3 o4 (fun a4 hs4 o4 => ?_)
   have hz4 := hs4.size.trans hz3; have o1 := hs4.k o1; have o6 := hs4.k o6; have o3 := hs4.k o3
   have T := T.trans hs4
   have e1 : bv ((st.take k).flatMap (be 4)) ++ bv (be 4 x) = bv ((st.take (k + 1)).flatMap (be 4)) := by
    rw [← bv_append, List.take_add_one, hx, Option.toList_some, List.flatMap_append, List.flatMap_cons, List.flatMap_nil, List.append_nil]
   rw [e1] at S
   have S := S.perm ((List.perm_append_comm (l₁ := [_]) (l₂ := L)).cons _ |>.symm) 
   refine ⟨⟨k + 1, A2, c2, by omega, T.more (by decide +kernel), o4, o3, S⟩, ?_⟩
   show 8 - (intOf _).toNat < 8 - (intOf _).toNat
   rw [eCtr, o4.eval (by rw [hz4]; decide)]
   simp [intOf]; omega
 · obtain rfl : k = 8 := by omega
   refine wp_cond_false ((o6.eval (by rw [hz2]; decide)).trans (by rw [decide_eq_false (by omega)])) (wp_exit ?_)
   refine wp_seq (rwd_r6 A _ c hz2 o3 (fun a5 hs5 o2 => ?_))
   have hz5 := hs5.size.trans hz2
   have D5 := hs5.defers.trans (T.defers.trans D)
   refine wp_ret (bodyPost_ret (results_tmp rfl _ _ _) D5 ?_)
   refine ⟨_, by rw [show a5.tmps.getD 2 undef = _ from o2.eval (by rw [hz5]; decide)], ?_⟩
   rw [List.take_of_length_le (by omega)] at S
   exact S.dropAt (l1 := [_])
end
/- Block of the reference: its regions, each a theorem. -/
section
variable {Q : Exit → Act → World → Prop} {a : Act} {w : World}
open Go.RowKit
theorem rblk_r2  (hsz : a.tmps.size = 209) 
 (hend : ∀ a', Same a a' [6] → Sl a' 6 (.int .i64 ((0 : Nat) : Int)) → Q .normal a' (w)) : (Code.region 2 (opsOf 2 Tryd.f86).toArray false).wp Tryd.prog Q a w := by
 refine wp_region_lit ?_
 (conv => arg 4; whnf)
 go_wp2_with fail
 try simp only [Act.put]
 exact hend _ sS sP
theorem rblk_r3 (k : Nat) (hsz : a.tmps.size = 209) (o6 : Sl a 6 (.int .i64 (k : Int)))
 (hend : ∀ a', Same a a' [22, 23] → Sl a' 23 (.bool (decide ((k : Int) < 16))) → Q .normal a' (w)) : (Code.region 3 (opsOf 3 Tryd.f86).toArray false).wp Tryd.prog Q a w := by
 refine wp_region_lit ?_
 (conv => arg 4; whnf)
 unfold Sl at o6
 go_wp2_with fail
 try simp only [Act.put]
 exact hend _ sS sP
theorem rblk_r5  (hsz : a.tmps.size = 209) 
 (hend : ∀ a', Same a a' [7] → Sl a' 7 (.int .i64 ((0 : Nat) : Int)) → Q .normal a' (w)) : (Code.region 5 (opsOf 5 Tryd.f86).toArray false).wp Tryd.prog Q a w := by
 refine wp_region_lit ?_
 (conv => arg 4; whnf)
 go_wp2_with fail
 try simp only [Act.put]
 exact hend _ sS sP
theorem rblk_r6 (k : Nat) (hsz : a.tmps.size = 209) (o7 : Sl a 7 (.int .i64 (k : Int)))
 (hend : ∀ a', Same a a' [26, 27] → Sl a' 27 (.bool (decide ((k : Int) < 4))) → Q .normal a' (w)) : (Code.region 6 (opsOf 6 Tryd.f86).toArray false).wp Tryd.prog Q a w := by
 refine wp_region_lit ?_
 (conv => arg 4; whnf)
 unfold Sl at o7
 go_wp2_with fail
 try simp only [Act.put]
 exact hend _ sS sP
theorem rblk_r7 (k : Nat) (hk : k < 4) (hsz : a.tmps.size = 209) (o7 : Sl a 7 (.int .i64 (k : Int)))
 (hend : ∀ a', Same a a' [28, 29, 7] → Sl a' 7 (.int .i64 ((k + 1 : Nat) : Int)) → Q .normal a' (w)) : (Code.region 7 (opsOf 7 Tryd.f86).toArray false).wp Tryd.prog Q a w := by
 refine wp_region_lit ?_
 (conv => arg 4; whnf)
 unfold Sl at o7
 go_wp2_with fail
 try simp only [Act.put]
 exact hend _ sS sP
theorem rblk_r4 (k : Nat) (hk : k < 16) (hsz : a.tmps.size = 209) (o6 : Sl a 6 (.int .i64 (k : Int)))
 (hend : ∀ a', Same a a' [24, 25, 6] → Sl a' 6 (.int .i64 ((k + 1 : Nat) : Int)) → Q .normal a' (w)) : (Code.region 4 (opsOf 4 Tryd.f86).toArray false).wp Tryd.prog Q a w := by
 refine wp_region_lit ?_
 (conv => arg 4; whnf)
 unfold Sl at o6
 go_wp2_with fail
 try simp only [Act.put]
 exact hend _ sS sP
theorem rblk_r9  (hsz : a.tmps.size = 209) 
 (hend : ∀ a', Same a a' [8] → Sl a' 8 (.int .i64 ((16 : Nat) : Int)) → Q .normal a' (w)) : (Code.region 9 (opsOf 9 Tryd.f86).toArray false).wp Tryd.prog Q a w := by
 refine wp_region_lit ?_
 (conv => arg 4; whnf)
 go_wp2_with fail
 try simp only [Act.put]
 exact hend _ sS sP
theorem rblk_r10 (k : Nat) (hsz : a.tmps.size = 209) (o8 : Sl a 8 (.int .i64 (k : Int)))
 (hend : ∀ a', Same a a' [45, 46] → Sl a' 46 (.bool (decide ((k : Int) < 64))) → Q .normal a' (w)) : (Code.region 10 (opsOf 10 Tryd.f86).toArray false).wp Tryd.prog Q a w := by
 refine wp_region_lit ?_
 (conv => arg 4; whnf)
 unfold Sl at o8
 go_wp2_with fail
 try simp only [Act.put]
 exact hend _ sS sP
theorem rblk_r11 (k : Nat) (hk : k < 64) (hsz : a.tmps.size = 209) (o8 : Sl a 8 (.int .i64 (k : Int)))
 (hend : ∀ a', Same a a' [47, 48, 8] → Sl a' 8 (.int .i64 ((k + 1 : Nat) : Int)) → Q .normal a' (w)) : (Code.region 11 (opsOf 11 Tryd.f86).toArray false).wp Tryd.prog Q a w := by
 refine wp_region_lit ?_
 (conv => arg 4; whnf)
 unfold Sl at o8
 go_wp2_with fail
 try simp only [Act.put]
 exact hend _ sS sP
theorem rblk_r16  (hsz : a.tmps.size = 209) 
 (hend : ∀ a', Same a a' [19] → Sl a' 19 (.int .i64 ((0 : Nat) : Int)) → Q .normal a' (w)) : (Code.region 16 (opsOf 16 Tryd.f86).toArray false).wp Tryd.prog Q a w := by
 refine wp_region_lit ?_
 (conv => arg 4; whnf)
 go_wp2_with fail
 try simp only [Act.put]
 exact hend _ sS sP
theorem rblk_r17 (k : Nat) (hsz : a.tmps.size = 209) (o19 : Sl a 19 (.int .i64 (k : Int)))
 (hend : ∀ a', Same a a' [114, 115] → Sl a' 115 (.bool (decide ((k : Int) < 64))) → Q .normal a' (w)) : (Code.region 17 (opsOf 17 Tryd.f86).toArray false).wp Tryd.prog Q a w := by
 refine wp_region_lit ?_
 (conv => arg 4; whnf)
 unfold Sl at o19
 go_wp2_with fail
 try simp only [Act.put]
 exact hend _ sS sP
theorem rblk_r18 (k : Nat) (hk : k < 64) (hsz : a.tmps.size = 209) (o19 : Sl a 19 (.int .i64 (k : Int)))
 (hend : ∀ a', Same a a' [116, 117, 19] → Sl a' 19 (.int .i64 ((k + 1 : Nat) : Int)) → Q .normal a' (w)) : (Code.region 18 (opsOf 18 Tryd.f86).toArray false).wp Tryd.prog Q a w := by
 refine wp_region_lit ?_
 (conv => arg 4; whnf)
 unfold Sl at o19
 go_wp2_with fail
 try simp only [Act.put]
 exact hend _ sS sP
theorem rblk_r0 (w0 : World) (st : List Nat) (L : List Res) (S : Held w0 w L) (hsz : a.tmps.size = 209) (o0 : Sl a 0 (.agg (u32A st)))
 (hend : ∀ a' W, Same a a' [2, 4] → (∃ g2 g4, Sl a' 2 (.pointer (some ⟨g2, 0, none⟩)) ∧ Sl a' 4 (.pointer (some ⟨g4, 0, none⟩)) ∧ Held w0 W (blkR g4 111 (u32A (List.replicate 8 0)) :: blkR g2 111 (u32A st) :: L)) → Q .normal a' W) : (Code.region 0 (opsOf 0 Tryd.f86).toArray false).wp Tryd.prog Q a w := by
 refine wp_region_lit ?_
 (conv => arg 4; whnf)
 unfold Sl at o0
 have S0 := Lib.hid ((S.newBlk 111 (u32A st)).newBlk 111 (u32A (List.replicate 8 0)))
 simp only [World.size_alloc] at S0
 generalize hca : u32A st = ca at *
 go_wp2
 try simp only [Act.put]
 exact hend _ _ sS (⟨w.heap.size, w.heap.size + 1, sP0, sP0, S0.out⟩)
theorem rblk_r1 (w0 : World) (L : List Res) (S : Held w0 w L) (hsz : a.tmps.size = 209) 
 (hend : ∀ a' W, Same a a' [5] → (∃ g5, Sl a' 5 (.pointer (some ⟨g5, 0, none⟩)) ∧ Held w0 W (blkR g5 144 (u32A (List.replicate 64 0)) :: L)) → Q .normal a' W) : (Code.region 1 (opsOf 1 Tryd.f86).toArray false).wp Tryd.prog Q a w := by
 refine wp_region_lit ?_
 (conv => arg 4; whnf)
 have S0 := Lib.hid (S.newBlk 144 (u32A (List.replicate 64 0)))
 go_wp2
 try simp only [Act.put]
 exact hend _ _ sS (⟨w.heap.size, sP0, S0.out⟩)
theorem rblk_r20 (v0 v1 v2 : Nat) (h0 : Hid (v0 < 4294967296)) (h1 : Hid (v1 < 4294967296)) (h2 : Hid (v2 < 4294967296)) (hsz : a.tmps.size = 209) (o11 : Sl a 11 (.int .u32 ((v0 : Nat) : Int))) (o12 : Sl a 12 (.int .u32 ((v1 : Nat) : Int))) (o13 : Sl a 13 (.int .u32 ((v2 : Nat) : Int)))
 (hend : ∀ a' W, Same a a' [144, 145, 146, 147, 148, 149, 150, 151, 152, 153, 154, 155, 156, 157, 158, 159, 160, 161, 162, 163, 21] → Sl a' 21 (.int .u32 ((rY v0 v1 v2 : Nat) : Int)) → (Kp [] w W) → Q .normal a' W) : (Code.region 20 (opsOf 20 Tryd.f86).toArray false).wp Tryd.prog Q a w := by
 refine wp_region_lit ?_
 (conv => arg 4; whnf)
 unfold Sl at o11 o12 o13
 have x1 := Lib.hid (u32_x (rotr v0 2) (rotr v0 13) (rotr_lt h0.out) (rotr_lt h0.out))
 have x2 := Lib.hid (u32_x (rotr v0 2 ^^^ rotr v0 13) (rotr v0 22) (xor_lt (rotr_lt h0.out) (rotr_lt h0.out)) (rotr_lt h0.out))
 have a1 := Lib.hid (u32_and_nat v0 v1 h0.out h1.out)
 have a2 := Lib.hid (u32_and_nat v0 v2 h0.out h2.out)
 have a3 := Lib.hid (u32_and_nat v1 v2 h1.out h2.out)
 have x3 := Lib.hid (u32_x (v0 &&& v1) (v0 &&& v2) (and_lt h0.out) (and_lt h0.out))
 have x4 := Lib.hid (u32_x ((v0 &&& v1) ^^^ (v0 &&& v2)) (v1 &&& v2) (xor_lt (and_lt h0.out) (and_lt h0.out)) (and_lt h1.out))
 have HR := Lib.hid (fun V n (hn : rotK n) => rrot_any v0 n n rfl h0.out hn V)
 have hy : Hid ((((bS0 v0 : Nat) : Int) + ((maj v0 v1 v2 : Nat) : Int)) % 4294967296 = ((rY v0 v1 v2 : Nat) : Int)) := Lib.hid (by unfold rY; omega)
 generalize hr2 : rotr v0 2 = r2 at *
 generalize hr13 : rotr v0 13 = r13 at *
 generalize hr22 : rotr v0 22 = r22 at *
 go_wp2_with fail
 refine (HR.out _ 2 (by unfold rotK; omega)).mono ?_
 rintro e w1 ⟨rfl, k1⟩
 rw [hr2]
 go_wp2_with fail
 refine (HR.out _ 13 (by unfold rotK; omega)).mono ?_
 rintro e w2 ⟨rfl, k2⟩
 rw [hr13]
 go_wp2_with fail
 refine (HR.out _ 22 (by unfold rotK; omega)).mono ?_
 rintro e w3 ⟨rfl, k3⟩
 rw [hr22]
 go_wp2
 have hb : bits .xor .u32 (bits .xor .u32 (r2 : Int) (r13 : Int)) (r22 : Int) = ((bS0 v0 : Nat) : Int) := by rw [x1.out, x2.out]; unfold bS0; rw [hr2, hr13, hr22]
 have hm : bits .xor .u32 (bits .xor .u32 (bits .and .u32 (v0 : Int) (v1 : Int)) (bits .and .u32 (v0 : Int) (v2 : Int))) (bits .and .u32 (v1 : Int) (v2 : Int)) = ((maj v0 v1 v2 : Nat) : Int) := by rw [a1.out, a2.out, a3.out, x3.out, x4.out]; rfl
 rw [hb, hm, hy.out]
 try simp only [Act.put]
 exact hend _ _ sS sP (((k1.trans k2 (by simp)).trans k3 (by simp)))
theorem rblk_r21 (v4 v5 v6 : Nat) (hsz : a.tmps.size = 209) (o15 : Sl a 15 (.int .u32 ((v4 : Nat) : Int))) (o16 : Sl a 16 (.int .u32 ((v5 : Nat) : Int))) (o17 : Sl a 17 (.int .u32 ((v6 : Nat) : Int)))
 (hend : ∀ a', Same a a' [164, 165, 166, 18, 17, 16] → Sl a' 16 (.int .u32 ((v4 : Nat) : Int)) → Sl a' 17 (.int .u32 ((v5 : Nat) : Int)) → Sl a' 18 (.int .u32 ((v6 : Nat) : Int)) → Q .normal a' (w)) : (Code.region 21 (opsOf 21 Tryd.f86).toArray false).wp Tryd.prog Q a w := by
 refine wp_region_lit ?_
 (conv => arg 4; whnf)
 unfold Sl at o15 o16 o17
 go_wp2_with fail
 try simp only [Act.put]
 exact hend _ sS sP sP sP
theorem rblk_r22 (v3 x : Nat) (hsz : a.tmps.size = 209) (o14 : Sl a 14 (.int .u32 ((v3 : Nat) : Int))) (o20 : Sl a 20 (.int .u32 ((x : Nat) : Int)))
 (hend : ∀ a', Same a a' [167, 168, 169, 15] → Sl a' 15 (.int .u32 (((v3 + x) % 4294967296 : Nat) : Int)) → Q .normal a' (w)) : (Code.region 22 (opsOf 22 Tryd.f86).toArray false).wp Tryd.prog Q a w := by
 refine wp_region_lit ?_
 (conv => arg 4; whnf)
 unfold Sl at o14 o20
 go_wp2_with fail
 try simp only [Act.put]
 exact hend _ sS sP
theorem rblk_r23 (v0 v1 v2 : Nat) (hsz : a.tmps.size = 209) (o11 : Sl a 11 (.int .u32 ((v0 : Nat) : Int))) (o12 : Sl a 12 (.int .u32 ((v1 : Nat) : Int))) (o13 : Sl a 13 (.int .u32 ((v2 : Nat) : Int)))
 (hend : ∀ a', Same a a' [170, 171, 172, 14, 13, 12] → Sl a' 12 (.int .u32 ((v0 : Nat) : Int)) → Sl a' 13 (.int .u32 ((v1 : Nat) : Int)) → Sl a' 14 (.int .u32 ((v2 : Nat) : Int)) → Q .normal a' (w)) : (Code.region 23 (opsOf 23 Tryd.f86).toArray false).wp Tryd.prog Q a w := by
 refine wp_region_lit ?_
 (conv => arg 4; whnf)
 unfold Sl at o11 o12 o13
 go_wp2_with fail
 try simp only [Act.put]
 exact hend _ sS sP sP sP
theorem rblk_r24 (x y : Nat) (hsz : a.tmps.size = 209) (o20 : Sl a 20 (.int .u32 ((x : Nat) : Int))) (o21 : Sl a 21 (.int .u32 ((y : Nat) : Int)))
 (hend : ∀ a', Same a a' [173, 174, 175, 11] → Sl a' 11 (.int .u32 (((x + y) % 4294967296 : Nat) : Int)) → Q .normal a' (w)) : (Code.region 24 (opsOf 24 Tryd.f86).toArray false).wp Tryd.prog Q a w := by
 refine wp_region_lit ?_
 (conv => arg 4; whnf)
 unfold Sl at o20 o21
 go_wp2_with fail
 try simp only [Act.put]
 exact hend _ sS sP
theorem rblk_r25 (w0 : World) (g2 g4 s0 s1 s2 s3 s4 s5 s6 s7 v0 v1 v2 v3 v4 v5 v6 v7 : Nat) (c4 : List Nat) (h4l : c4.length = 8) (L1 L2 : List Res) (S : Held w0 w (blkR g4 111 (u32A c4) :: (L1 ++ blkR g2 111 (u32A [s0, s1, s2, s3, s4, s5, s6, s7]) :: L2))) (hsz : a.tmps.size = 209) (o2 : Sl a 2 (.pointer (some ⟨g2, 0, none⟩))) (o4 : Sl a 4 (.pointer (some ⟨g4, 0, none⟩))) (o11 : Sl a 11 (.int .u32 ((v0 : Nat) : Int))) (o12 : Sl a 12 (.int .u32 ((v1 : Nat) : Int))) (o13 : Sl a 13 (.int .u32 ((v2 : Nat) : Int))) (o14 : Sl a 14 (.int .u32 ((v3 : Nat) : Int))) (o15 : Sl a 15 (.int .u32 ((v4 : Nat) : Int))) (o16 : Sl a 16 (.int .u32 ((v5 : Nat) : Int))) (o17 : Sl a 17 (.int .u32 ((v6 : Nat) : Int))) (o18 : Sl a 18 (.int .u32 ((v7 : Nat) : Int)))
 (hend : ∀ a' W, Same a a' [176, 177, 178, 179, 180, 181, 182, 183, 184, 185, 186, 187, 188, 189, 190, 191, 192, 193, 194, 195, 196, 197, 198, 199, 200, 201, 202, 203, 204, 205, 206, 207, 208] → (Held w0 W (blkR g4 111 (u32A [(s0 + v0) % 4294967296, (s1 + v1) % 4294967296, (s2 + v2) % 4294967296, (s3 + v3) % 4294967296, (s4 + v4) % 4294967296, (s5 + v5) % 4294967296, (s6 + v6) % 4294967296, (s7 + v7) % 4294967296]) :: (L1 ++ blkR g2 111 (u32A [s0, s1, s2, s3, s4, s5, s6, s7]) :: L2))) → Q .normal a' W) : (Code.region 25 (opsOf 25 Tryd.f86).toArray false).wp Tryd.prog Q a w := by
 refine wp_region_lit ?_
 (conv => arg 4; whnf)
 unfold Sl at o2 o4 o11 o12 o13 o14 o15 o16 o17 o18
 have H4 := Lib.hid h4l
 clear h4l
 have S := Lib.hid S
 have c0 := u32_cell (S.out.at_ (l1 := _ :: L1)) 0 s0 rfl
 have c1 := u32_cell (S.out.at_ (l1 := _ :: L1)) 1 s1 rfl
 have c2 := u32_cell (S.out.at_ (l1 := _ :: L1)) 2 s2 rfl
 have c3 := u32_cell (S.out.at_ (l1 := _ :: L1)) 3 s3 rfl
 have c4 := u32_cell (S.out.at_ (l1 := _ :: L1)) 4 s4 rfl
 have c5 := u32_cell (S.out.at_ (l1 := _ :: L1)) 5 s5 rfl
 have c6 := u32_cell (S.out.at_ (l1 := _ :: L1)) 6 s6 rfl
 have c7 := u32_cell (S.out.at_ (l1 := _ :: L1)) 7 s7 rfl
 go_wp2_with (first
  | (refine wpList_buildC rfl 111 _ rfl (at0N (u32L [(s0 + v0) % 4294967296, (s1 + v1) % 4294967296, (s2 + v2) % 4294967296, (s3 + v3) % 4294967296, (s4 + v4) % 4294967296, (s5 + v5) % 4294967296, (s6 + v6) % 4294967296, (s7 + v7) % 4294967296]) 0) ?_ _ (Tryd.built8 _ _ _ _ _ _ _ _) ?_; simp [Act.eval, Act.put, hsz, at0N, u32L])
  | (refine wpList_store_blk rfl 111 (.tmp 4) (.tmp 208) rfl g4 (by simp [Act.eval, Act.put, hsz, o4]) (u32A [(s0 + v0) % 4294967296, (s1 + v1) % 4294967296, (s2 + v2) % 4294967296, (s3 + v3) % 4294967296, (s4 + v4) % 4294967296, (s5 + v5) % 4294967296, (s6 + v6) % 4294967296, (s7 + v7) % 4294967296]) (by simp [Act.eval, Act.put, hsz]) 111 _ (S.out.at_ (l1 := [])) (by rw [u32A_size]; exact Tryd.info8w) (by rw [u32A_size, u32A_size, H4.out]; rfl) (u32A_one _) ?_; intro w2 b2 k2; have S2 := Lib.hid (Held.setBlk (l1 := []) S.out b2 k2); clear b2 k2))
 try simp only [Act.put]
 exact hend _ _ sS (S2.out)
theorem rblk_r12 (j g5 x : Nat) (L : List Nat) (hlt : j < 48) (HX : L[j + 1]? = some x) (HXl : x < 4294967296) (HW : Hid (∀ V, Kp [] w V → ∀ i x : Nat, L[i]? = some x → V.cell? ⟨g5, i, none⟩ = some (.int .u32 (x : Int)))) (hsz : a.tmps.size = 209) (o5 : Sl a 5 (.pointer (some ⟨g5, 0, none⟩))) (o8 : Sl a 8 (.int .i64 ((j + 16 : Nat) : Int)))
 (hend : ∀ a' W, Same a a' [49, 50, 51, 52, 53, 54, 55, 56, 57, 58, 59, 60, 61, 62, 63, 64, 65, 9] → Kp [] w.drew W → Sl a' 9 (.int .u32 ((sg0 x : Nat) : Int)) → Q .normal a' W) : (Code.region 12 (opsOf 12 Tryd.f86).toArray true).wp Tryd.prog Q a w := by
 have hap : apartB (opsOf 12 Tryd.f86) = true := by kernel_rfl
 refine wp_region_inv (l := (opsOf 12 Tryd.f86)) (fun i v W => match i with | 0 => v = .int .i64 ((j + 16 : Nat) : Int) | 1 => v = .int .i64 ((j + 1 : Nat) : Int) | 2 => v = .pointer (some ⟨g5, j + 1, none⟩) | 3 => v = .int .u32 ((x : Nat) : Int) | 4 => v = .int .u32 ((rotr x 7 : Nat) : Int) | 5 => v = .int .i64 ((j + 16 : Nat) : Int) | 6 => v = .int .i64 ((j + 1 : Nat) : Int) | 7 => v = .pointer (some ⟨g5, j + 1, none⟩) | 8 => v = .int .u32 ((x : Nat) : Int) | 9 => v = .int .u32 ((rotr x 18 : Nat) : Int) | 10 => v = .int .u32 (((rotr x 7) ^^^ (rotr x 18) : Nat) : Int) | 11 => v = .int .i64 ((j + 16 : Nat) : Int) | 12 => v = .int .i64 ((j + 1 : Nat) : Int) | 13 => v = .pointer (some ⟨g5, j + 1, none⟩) | 14 => v = .int .u32 ((x : Nat) : Int) | 15 => v = .int .u32 ((x / 8 : Nat) : Int) | 16 => v = .int .u32 ((sg0 x : Nat) : Int) | 17 => v = .int .u32 ((sg0 x : Nat) : Int) | _ => True) (by kernel_rfl) hap (by kernel_rfl) ?_ ?_ ?_
 · intro i v W W' h _
   iterate 18 (rcases i with _ | i; · exact h)
   exact h
 · refine ⟨?_, ?_, ?_, ?_, ?_, ?_, ?_, ?_, ?_, ?_, ?_, ?_, ?_, ?_, ?_, ?_, ?_, ?_, trivial⟩
   · intro vs A' W hA hW hd K hK; have e8 := sO 8 o8 hA hap hsz; clear hA hd o5 o8; go_step; exact hK _ _ kR rfl
   · intro vs A' W hA hW hd K hK; have e49 := sV 49 (hd 0 (by kernel_rfl)) hA hap hsz; clear hA hd o5 o8; go_step
     exact hK _ _ kR (congrArg (Value.int .i64) (by first | omega | (unfold wrap64; omega)))
   · intro vs A' W hA hW hd K hK; have e5 := sO 5 o5 hA hap hsz; have e50 := sV 50 (hd 1 (by kernel_rfl)) hA hap hsz; clear hA hd o5 o8
     have h0 : 0 ≤ (j : Int) + 1 := by omega
     have h1 : (j : Int) + 1 < 64 := by omega
     go_step; exact hK _ _ kR rfl
   · intro vs A' W hA hW hd K hK; have e51 := sV 51 (hd 2 (by kernel_rfl)) hA hap hsz; clear hA hd o5 o8
     have c0 := HW.out W ((Kp.refl [] _).drew.trans hW (by simp)) (j + 1) x HX
     go_step; exact hK _ _ kR rfl
   · intro vs A' W hA hW hd K hK; have e52 := sV 52 (hd 3 (by kernel_rfl)) hA hap hsz; clear hA hd o5 o8; go_step
     refine (rrot_any x 7 7 rfl HXl (by unfold rotK; omega) W).mono ?_
     rintro e w' ⟨rfl, kq⟩
     exact hK _ _ kq rfl
   · intro vs A' W hA hW hd K hK; have e8 := sO 8 o8 hA hap hsz; clear hA hd o5 o8; go_step; exact hK _ _ kR rfl
   · intro vs A' W hA hW hd K hK; have e54 := sV 54 (hd 5 (by kernel_rfl)) hA hap hsz; clear hA hd o5 o8; go_step
     exact hK _ _ kR (congrArg (Value.int .i64) (by first | omega | (unfold wrap64; omega)))
   · intro vs A' W hA hW hd K hK; have e5 := sO 5 o5 hA hap hsz; have e55 := sV 55 (hd 6 (by kernel_rfl)) hA hap hsz; clear hA hd o5 o8
     have h0 : 0 ≤ (j : Int) + 1 := by omega
     have h1 : (j : Int) + 1 < 64 := by omega
     go_step; exact hK _ _ kR rfl
   · intro vs A' W hA hW hd K hK; have e56 := sV 56 (hd 7 (by kernel_rfl)) hA hap hsz; clear hA hd o5 o8
     have c0 := HW.out W ((Kp.refl [] _).drew.trans hW (by simp)) (j + 1) x HX
     go_step; exact hK _ _ kR rfl
   · intro vs A' W hA hW hd K hK; have e57 := sV 57 (hd 8 (by kernel_rfl)) hA hap hsz; clear hA hd o5 o8; go_step
     refine (rrot_any x 18 18 rfl HXl (by unfold rotK; omega) W).mono ?_
     rintro e w' ⟨rfl, kq⟩
     exact hK _ _ kq rfl
   · intro vs A' W hA hW hd K hK; have e53 := sV 53 (hd 4 (by kernel_rfl)) hA hap hsz; have e58 := sV 58 (hd 9 (by kernel_rfl)) hA hap hsz; clear hA hd o5 o8; go_step
     exact hK _ _ kR (congrArg (Value.int .u32) (u32_x _ _ (rotr_lt HXl) (rotr_lt HXl)))
   · intro vs A' W hA hW hd K hK; have e8 := sO 8 o8 hA hap hsz; clear hA hd o5 o8; go_step; exact hK _ _ kR rfl
   · intro vs A' W hA hW hd K hK; have e60 := sV 60 (hd 11 (by kernel_rfl)) hA hap hsz; clear hA hd o5 o8; go_step
     exact hK _ _ kR (congrArg (Value.int .i64) (by first | omega | (unfold wrap64; omega)))
   · intro vs A' W hA hW hd K hK; have e5 := sO 5 o5 hA hap hsz; have e61 := sV 61 (hd 12 (by kernel_rfl)) hA hap hsz; clear hA hd o5 o8
     have h0 : 0 ≤ (j : Int) + 1 := by omega
     have h1 : (j : Int) + 1 < 64 := by omega
     go_step; exact hK _ _ kR rfl
   · intro vs A' W hA hW hd K hK; have e62 := sV 62 (hd 13 (by kernel_rfl)) hA hap hsz; clear hA hd o5 o8
     have c0 := HW.out W ((Kp.refl [] _).drew.trans hW (by simp)) (j + 1) x HX
     go_step; exact hK _ _ kR rfl
   · intro vs A' W hA hW hd K hK; have e63 := sV 63 (hd 14 (by kernel_rfl)) hA hap hsz; clear hA hd o5 o8; go_step
     exact hK _ _ kR (congrArg (Value.int .u32) (by first | omega | rfl))
   · intro vs A' W hA hW hd K hK; have e59 := sV 59 (hd 10 (by kernel_rfl)) hA hap hsz; have e64 := sV 64 (hd 15 (by kernel_rfl)) hA hap hsz; clear hA hd o5 o8; go_step
     exact hK _ _ kR (congrArg (Value.int .u32) (u32_x _ _ (xor_lt (rotr_lt HXl) (rotr_lt HXl)) (div_lt HXl)))
   · intro vs A' W hA hW hd K hK; have e65 := sV 65 (hd 16 (by kernel_rfl)) hA hap hsz; clear hA hd o5 o8; go_step; exact hK _ _ kR rfl
 · intro vs W hW hp
   rw [putAll_eq]
   exact hend _ W sQ hW (sW (hp 17 sB))
theorem rblk_r13 (j g5 x : Nat) (L : List Nat) (hlt : j < 48) (HX : L[j + 14]? = some x) (HXl : x < 4294967296) (HW : Hid (∀ V, Kp [] w V → ∀ i x : Nat, L[i]? = some x → V.cell? ⟨g5, i, none⟩ = some (.int .u32 (x : Int)))) (hsz : a.tmps.size = 209) (o5 : Sl a 5 (.pointer (some ⟨g5, 0, none⟩))) (o8 : Sl a 8 (.int .i64 ((j + 16 : Nat) : Int)))
 (hend : ∀ a' W, Same a a' [66, 67, 68, 69, 70, 71, 72, 73, 74, 75, 76, 77, 78, 79, 80, 81, 82, 10] → Kp [] w.drew W → Sl a' 10 (.int .u32 ((sg1 x : Nat) : Int)) → Q .normal a' W) : (Code.region 13 (opsOf 13 Tryd.f86).toArray true).wp Tryd.prog Q a w := by
 have hap : apartB (opsOf 13 Tryd.f86) = true := by kernel_rfl
 refine wp_region_inv (l := (opsOf 13 Tryd.f86)) (fun i v W => match i with | 0 => v = .int .i64 ((j + 16 : Nat) : Int) | 1 => v = .int .i64 ((j + 14 : Nat) : Int) | 2 => v = .pointer (some ⟨g5, j + 14, none⟩) | 3 => v = .int .u32 ((x : Nat) : Int) | 4 => v = .int .u32 ((rotr x 17 : Nat) : Int) | 5 => v = .int .i64 ((j + 16 : Nat) : Int) | 6 => v = .int .i64 ((j + 14 : Nat) : Int) | 7 => v = .pointer (some ⟨g5, j + 14, none⟩) | 8 => v = .int .u32 ((x : Nat) : Int) | 9 => v = .int .u32 ((rotr x 19 : Nat) : Int) | 10 => v = .int .u32 (((rotr x 17) ^^^ (rotr x 19) : Nat) : Int) | 11 => v = .int .i64 ((j + 16 : Nat) : Int) | 12 => v = .int .i64 ((j + 14 : Nat) : Int) | 13 => v = .pointer (some ⟨g5, j + 14, none⟩) | 14 => v = .int .u32 ((x : Nat) : Int) | 15 => v = .int .u32 ((x / 1024 : Nat) : Int) | 16 => v = .int .u32 ((sg1 x : Nat) : Int) | 17 => v = .int .u32 ((sg1 x : Nat) : Int) | _ => True) (by kernel_rfl) hap (by kernel_rfl) ?_ ?_ ?_
 · intro i v W W' h _
   iterate 18 (rcases i with _ | i; · exact h)
   exact h
 · refine ⟨?_, ?_, ?_, ?_, ?_, ?_, ?_, ?_, ?_, ?_, ?_, ?_, ?_, ?_, ?_, ?_, ?_, ?_, trivial⟩
   · intro vs A' W hA hW hd K hK; have e8 := sO 8 o8 hA hap hsz; clear hA hd o5 o8; go_step; exact hK _ _ kR rfl
   · intro vs A' W hA hW hd K hK; have e66 := sV 66 (hd 0 (by kernel_rfl)) hA hap hsz; clear hA hd o5 o8; go_step
     exact hK _ _ kR (congrArg (Value.int .i64) (by first | omega | (unfold wrap64; omega)))
   · intro vs A' W hA hW hd K hK; have e5 := sO 5 o5 hA hap hsz; have e67 := sV 67 (hd 1 (by kernel_rfl)) hA hap hsz; clear hA hd o5 o8
     have h0 : 0 ≤ (j : Int) + 14 := by omega
     have h1 : (j : Int) + 14 < 64 := by omega
     go_step; exact hK _ _ kR rfl
   · intro vs A' W hA hW hd K hK; have e68 := sV 68 (hd 2 (by kernel_rfl)) hA hap hsz; clear hA hd o5 o8
     have c0 := HW.out W ((Kp.refl [] _).drew.trans hW (by simp)) (j + 14) x HX
     go_step; exact hK _ _ kR rfl
   · intro vs A' W hA hW hd K hK; have e69 := sV 69 (hd 3 (by kernel_rfl)) hA hap hsz; clear hA hd o5 o8; go_step
     refine (rrot_any x 17 17 rfl HXl (by unfold rotK; omega) W).mono ?_
     rintro e w' ⟨rfl, kq⟩
     exact hK _ _ kq rfl
   · intro vs A' W hA hW hd K hK; have e8 := sO 8 o8 hA hap hsz; clear hA hd o5 o8; go_step; exact hK _ _ kR rfl
   · intro vs A' W hA hW hd K hK; have e71 := sV 71 (hd 5 (by kernel_rfl)) hA hap hsz; clear hA hd o5 o8; go_step
     exact hK _ _ kR (congrArg (Value.int .i64) (by first | omega | (unfold wrap64; omega)))
   · intro vs A' W hA hW hd K hK; have e5 := sO 5 o5 hA hap hsz; have e72 := sV 72 (hd 6 (by kernel_rfl)) hA hap hsz; clear hA hd o5 o8
     have h0 : 0 ≤ (j : Int) + 14 := by omega
     have h1 : (j : Int) + 14 < 64 := by omega
     go_step; exact hK _ _ kR rfl
   · intro vs A' W hA hW hd K hK; have e73 := sV 73 (hd 7 (by kernel_rfl)) hA hap hsz; clear hA hd o5 o8
     have c0 := HW.out W ((Kp.refl [] _).drew.trans hW (by simp)) (j + 14) x HX
     go_step; exact hK _ _ kR rfl
   · intro vs A' W hA hW hd K hK; have e74 := sV 74 (hd 8 (by kernel_rfl)) hA hap hsz; clear hA hd o5 o8; go_step
     refine (rrot_any x 19 19 rfl HXl (by unfold rotK; omega) W).mono ?_
     rintro e w' ⟨rfl, kq⟩
     exact hK _ _ kq rfl
   · intro vs A' W hA hW hd K hK; have e70 := sV 70 (hd 4 (by kernel_rfl)) hA hap hsz; have e75 := sV 75 (hd 9 (by kernel_rfl)) hA hap hsz; clear hA hd o5 o8; go_step
     exact hK _ _ kR (congrArg (Value.int .u32) (u32_x _ _ (rotr_lt HXl) (rotr_lt HXl)))
   · intro vs A' W hA hW hd K hK; have e8 := sO 8 o8 hA hap hsz; clear hA hd o5 o8; go_step; exact hK _ _ kR rfl
   · intro vs A' W hA hW hd K hK; have e77 := sV 77 (hd 11 (by kernel_rfl)) hA hap hsz; clear hA hd o5 o8; go_step
     exact hK _ _ kR (congrArg (Value.int .i64) (by first | omega | (unfold wrap64; omega)))
   · intro vs A' W hA hW hd K hK; have e5 := sO 5 o5 hA hap hsz; have e78 := sV 78 (hd 12 (by kernel_rfl)) hA hap hsz; clear hA hd o5 o8
     have h0 : 0 ≤ (j : Int) + 14 := by omega
     have h1 : (j : Int) + 14 < 64 := by omega
     go_step; exact hK _ _ kR rfl
   · intro vs A' W hA hW hd K hK; have e79 := sV 79 (hd 13 (by kernel_rfl)) hA hap hsz; clear hA hd o5 o8
     have c0 := HW.out W ((Kp.refl [] _).drew.trans hW (by simp)) (j + 14) x HX
     go_step; exact hK _ _ kR rfl
   · intro vs A' W hA hW hd K hK; have e80 := sV 80 (hd 14 (by kernel_rfl)) hA hap hsz; clear hA hd o5 o8; go_step
     exact hK _ _ kR (congrArg (Value.int .u32) (by first | omega | rfl))
   · intro vs A' W hA hW hd K hK; have e76 := sV 76 (hd 10 (by kernel_rfl)) hA hap hsz; have e81 := sV 81 (hd 15 (by kernel_rfl)) hA hap hsz; clear hA hd o5 o8; go_step
     exact hK _ _ kR (congrArg (Value.int .u32) (u32_x _ _ (xor_lt (rotr_lt HXl) (rotr_lt HXl)) (div_lt HXl)))
   · intro vs A' W hA hW hd K hK; have e82 := sV 82 (hd 16 (by kernel_rfl)) hA hap hsz; clear hA hd o5 o8; go_step; exact hK _ _ kR rfl
 · intro vs W hW hp
   rw [putAll_eq]
   exact hend _ W sQ hW (sW (hp 17 sB))
theorem rblk_r14 (w0 : World) (j g5 x y m c m0 : Nat) (L : List Nat) (R : List Res) (hlt : j < 48) (HA : L[j]? = some m) (HC : L[j + 9]? = some c) (HM : L[j + 16]? = some m0) (hsz : a.tmps.size = 209) (o5 : Sl a 5 (.pointer (some ⟨g5, 0, none⟩))) (o8 : Sl a 8 (.int .i64 ((j + 16 : Nat) : Int))) (o9 : Sl a 9 (.int .u32 ((x : Nat) : Int))) (o10 : Sl a 10 (.int .u32 ((y : Nat) : Int)))
 (S0 : Held w0 w (blkR g5 144 (u32A L) :: R))
 (hend : ∀ a' W, Same a a' [83, 84, 85, 86, 87, 88, 89, 90, 91, 92, 93, 94, 95, 96, 97] → Held w0 W (blkR g5 144 (u32A (L.set (j + 16) ((m + x + c + y) % 4294967296))) :: R) → Q .normal a' W) : (Code.region 14 (opsOf 14 Tryd.f86).toArray true).wp Tryd.prog Q a w := by
 have hap : apartB (opsOf 14 Tryd.f86) = true := by kernel_rfl
 refine wp_region_sep (Γ := Unit) (l := (opsOf 14 Tryd.f86)) 2 [0, 1, 2, 3, 4, 5, 6, 7, 8, 9, 10, 11, 12, 13, 14, 15, 17]
  (fun i vs gs => match i with | 0 => vs 0 = .int .i64 ((j + 16 : Nat) : Int) | 1 => vs 1 = .int .i64 ((j + 16 : Nat) : Int) | 2 => vs 2 = .int .i64 ((j : Nat) : Int) | 3 => vs 3 = .pointer (some ⟨g5, j, none⟩) | 4 => vs 4 = .int .u32 ((m : Nat) : Int) | 5 => vs 5 = .int .u32 ((x : Nat) : Int) | 6 => vs 6 = .int .u32 (((m + x) % 4294967296 : Nat) : Int) | 7 => vs 7 = .int .i64 ((j + 16 : Nat) : Int) | 8 => vs 8 = .int .i64 ((j + 9 : Nat) : Int) | 9 => vs 9 = .pointer (some ⟨g5, j + 9, none⟩) | 10 => vs 10 = .int .u32 ((c : Nat) : Int) | 11 => vs 11 = .int .u32 (((m + x + c) % 4294967296 : Nat) : Int) | 12 => vs 12 = .int .u32 ((y : Nat) : Int) | 13 => vs 13 = .int .u32 (((m + x + c + y) % 4294967296 : Nat) : Int) | 14 => vs 14 = .pointer (some ⟨g5, j + 16, none⟩) | _ => True)
  (fun i vs gs => match i with | 15 => [blkR g5 144 (u32A (L.set (j + 16) ((m + x + c + y) % 4294967296)))] | 16 => [blkR g5 144 (u32A L)] | 17 => R | _ => [])
  (fun i => match i with | 15 => [16] | _ => []) (fun i => match i with | 4 => [16] | 10 => [16] | _ => []) S0 (by kernel_rfl) hap (by kernel_rfl) (by kernel_rfl) (fun i => match i with | 0 => [0] | 1 => [1] | 2 => [2] | 3 => [3] | 4 => [4] | 5 => [5] | 6 => [6] | 7 => [7] | 8 => [8] | 9 => [9] | 10 => [10] | 11 => [11] | 12 => [12] | 13 => [13] | 14 => [14] | _ => []) (by kernel_rfl) ?_ (by kernel_rfl) ?_ ?_ ?_
 · intro s vs vs' gs gs' h
   iterate 18 (rcases s with _ | s; · (first | exact ⟨rfl, id⟩ | (simp only [List.mem_cons, List.not_mem_nil, or_false, forall_eq] at h; simp [h])))
   exact ⟨rfl, id⟩
 · simp only [List.range, List.range.loop, List.flatMap_cons, List.flatMap_nil, List.append_nil]
   exact List.Perm.refl _
 · clear S0 hend
   refine ⟨?_, ?_, ?_, ?_, ?_, ?_, ?_, ?_, ?_, ?_, ?_, ?_, ?_, ?_, ?_, ?_, trivial⟩
   · intro vs gs A' W LF hA S hR hd hu K hK; replace hK := hK default; have e8 := sO 8 o8 hA hap hsz; clear hA o5 o8 o9 o10; go_step; exact hK _ _ S rfl
   · intro vs gs A' W LF hA S hR hd hu K hK; replace hK := hK default; have e8 := sO 8 o8 hA hap hsz; clear hA o5 o8 o9 o10; go_step; exact hK _ _ S rfl
   · intro vs gs A' W LF hA S hR hd hu K hK; replace hK := hK default; have e84 := sV 84 (hd 1 (by kernel_rfl)) hA hap hsz; clear hA o5 o8 o9 o10; go_step
     exact hK _ _ S (congrArg (Value.int .i64) (by first | omega | (unfold wrap64; omega)))
   · intro vs gs A' W LF hA S hR hd hu K hK; replace hK := hK default; have e5 := sO 5 o5 hA hap hsz; have e85 := sV 85 (hd 2 (by kernel_rfl)) hA hap hsz; clear hA o5 o8 o9 o10
     have h0 : 0 ≤ (j : Int) := by omega
     have h1 : (j : Int) < 64 := by omega
     go_step; exact hK _ _ S rfl
   · intro vs gs A' W LF hA S hR hd hu K hK; replace hK := hK default; have e86 := sV 86 (hd 3 (by kernel_rfl)) hA hap hsz; clear hA o5 o8 o9 o10
     have c0 := u32_cell (S.ok (blkR g5 144 (u32A L)) (hR 16 (List.mem_singleton.2 rfl) _ (List.mem_singleton.2 rfl))) (j) (m) HA
     go_step; exact hK _ _ S rfl
   · intro vs gs A' W LF hA S hR hd hu K hK; replace hK := hK default; have e9 := sO 9 o9 hA hap hsz; clear hA o5 o8 o9 o10; go_step; exact hK _ _ S rfl
   · intro vs gs A' W LF hA S hR hd hu K hK; replace hK := hK default; have e87 := sV 87 (hd 4 (by kernel_rfl)) hA hap hsz; have e88 := sV 88 (hd 5 (by kernel_rfl)) hA hap hsz; clear hA o5 o8 o9 o10; go_step
     exact hK _ _ S (congrArg (Value.int .u32) (by first | omega | rfl))
   · intro vs gs A' W LF hA S hR hd hu K hK; replace hK := hK default; have e8 := sO 8 o8 hA hap hsz; clear hA o5 o8 o9 o10; go_step; exact hK _ _ S rfl
   · intro vs gs A' W LF hA S hR hd hu K hK; replace hK := hK default; have e90 := sV 90 (hd 7 (by kernel_rfl)) hA hap hsz; clear hA o5 o8 o9 o10; go_step
     exact hK _ _ S (congrArg (Value.int .i64) (by first | omega | (unfold wrap64; omega)))
   · intro vs gs A' W LF hA S hR hd hu K hK; replace hK := hK default; have e5 := sO 5 o5 hA hap hsz; have e91 := sV 91 (hd 8 (by kernel_rfl)) hA hap hsz; clear hA o5 o8 o9 o10
     have h0 : 0 ≤ (j : Int) + 9 := by omega
     have h1 : (j : Int) + 9 < 64 := by omega
     go_step; exact hK _ _ S rfl
   · intro vs gs A' W LF hA S hR hd hu K hK; replace hK := hK default; have e92 := sV 92 (hd 9 (by kernel_rfl)) hA hap hsz; clear hA o5 o8 o9 o10
     have c0 := u32_cell (S.ok (blkR g5 144 (u32A L)) (hR 16 (List.mem_singleton.2 rfl) _ (List.mem_singleton.2 rfl))) (j + 9) (c) HC
     go_step; exact hK _ _ S rfl
   · intro vs gs A' W LF hA S hR hd hu K hK; replace hK := hK default; have e89 := sV 89 (hd 6 (by kernel_rfl)) hA hap hsz; have e93 := sV 93 (hd 10 (by kernel_rfl)) hA hap hsz; clear hA o5 o8 o9 o10; go_step
     exact hK _ _ S (congrArg (Value.int .u32) (by first | omega | rfl))
   · intro vs gs A' W LF hA S hR hd hu K hK; replace hK := hK default; have e10 := sO 10 o10 hA hap hsz; clear hA o5 o8 o9 o10; go_step; exact hK _ _ S rfl
   · intro vs gs A' W LF hA S hR hd hu K hK; replace hK := hK default; have e94 := sV 94 (hd 11 (by kernel_rfl)) hA hap hsz; have e95 := sV 95 (hd 12 (by kernel_rfl)) hA hap hsz; clear hA o5 o8 o9 o10; go_step
     exact hK _ _ S (congrArg (Value.int .u32) (by first | omega | rfl))
   · intro vs gs A' W LF hA S hR hd hu K hK; replace hK := hK default; have e5 := sO 5 o5 hA hap hsz; have e83 := sV 83 (hd 0 (by kernel_rfl)) hA hap hsz; clear hA o5 o8 o9 o10
     have h0 : 0 ≤ (j : Int) + 16 := by omega
     have h1 : (j : Int) + 16 < 64 := by omega
     go_step; exact hK _ _ S rfl
   · intro vs gs A' W LF hA S hR hd hu K hK; replace hK := hK default; have e97 := sV 97 (hd 14 (by kernel_rfl)) hA hap hsz; have e96 := sV 96 (hd 13 (by kernel_rfl)) hA hap hsz; clear hA o5 o8 o9 o10
     have S1 : Held w0 W (blkR g5 144 (u32A L) :: LF) := S
     have q1 := u32_cell (S1.at_ (l1 := [])) (j + 16) _ (HM)
     have q2 := (S1.at_ (l1 := [])).frozen (j + 16)
     have q3 := (S1.at_ (l1 := [])).lt
     go_step
     have S2 := S1.set (l1 := []) (j + 16) (.int .u32 (((m + x + c + y) % 4294967296 : Nat) : Int))
     rw [u32A_set] at S2
     exact hK undef _ S2 trivial
 · intro vs gs W S hp
   have S : Held w0 W (blkR g5 144 (u32A (L.set (j + 16) ((m + x + c + y) % 4294967296))) :: R) := by simpa only [List.flatMap_cons, List.flatMap_nil, List.append_nil, List.nil_append, List.cons_append, List.append_assoc] using S
   rw [putAll_eq]
   exact hend _ W sQ  S
theorem rblk_r8 (w0 : World) (k r q g5 m c n0 cb : Nat) (ad : Addr) (L : List Nat) (R : List Res) (hlt : k < 16) (hi : r < 4) (hq : Hid (q = 4 * k + r)) (hn : q < n0) (HM : L[k]? = some m) (hc : c < 256) (HB : Hid (∀ V, Kp [] w0 V → V.cell? (ad.add q) = some (.int .u8 (c : Int)))) (hsz : a.tmps.size = 209) (o1 : Sl a 1 (.slice (some ad) n0 cb)) (o5 : Sl a 5 (.pointer (some ⟨g5, 0, none⟩))) (o6 : Sl a 6 (.int .i64 ((k : Nat) : Int))) (o7 : Sl a 7 (.int .i64 ((r : Nat) : Int)))
 (S0 : Held w0 w (blkR g5 144 (u32A L) :: R))
 (hend : ∀ a' W, Same a a' [30, 31, 32, 33, 34, 35, 36, 37, 38, 39, 40, 41, 42, 43, 44] → Held w0 W (blkR g5 144 (u32A (L.set k ((m * 256 + c) % 4294967296))) :: R) → Q .normal a' W) : (Code.region 8 (opsOf 8 Tryd.f86).toArray true).wp Tryd.prog Q a w := by
 have hap : apartB (opsOf 8 Tryd.f86) = true := by kernel_rfl
 refine wp_region_sep (Γ := Unit) (l := (opsOf 8 Tryd.f86)) 2 [0, 1, 2, 3, 4, 5, 6, 7, 8, 9, 10, 11, 12, 13, 14, 15, 17]
  (fun i vs gs => match i with | 0 => vs 0 = .int .i64 ((k : Nat) : Int) | 1 => vs 1 = .int .i64 ((k : Nat) : Int) | 2 => vs 2 = .pointer (some ⟨g5, k, none⟩) | 3 => vs 3 = .int .u32 ((m : Nat) : Int) | 4 => vs 4 = .int .u32 ((m * 256 % 4294967296 : Nat) : Int) | 5 => vs 5 = .slice (some ad) n0 cb | 6 => vs 6 = .int .i64 ((k : Nat) : Int) | 7 => vs 7 = .int .i64 ((4 * k : Nat) : Int) | 8 => vs 8 = .int .i64 ((r : Nat) : Int) | 9 => vs 9 = .int .i64 ((q : Nat) : Int) | 10 => vs 10 = .pointer (some (ad.add q)) | 11 => vs 11 = .int .u8 ((c : Nat) : Int) | 12 => vs 12 = .int .u32 ((c : Nat) : Int) | 13 => vs 13 = .int .u32 (((m * 256 + c) % 4294967296 : Nat) : Int) | 14 => vs 14 = .pointer (some ⟨g5, k, none⟩) | _ => True)
  (fun i vs gs => match i with | 15 => [blkR g5 144 (u32A (L.set k ((m * 256 + c) % 4294967296)))] | 16 => [blkR g5 144 (u32A L)] | 17 => R | _ => [])
  (fun i => match i with | 15 => [16] | _ => []) (fun i => match i with | 3 => [16] | _ => []) S0 (by kernel_rfl) hap (by kernel_rfl) (by kernel_rfl) (fun i => match i with | 0 => [0] | 1 => [1] | 2 => [2] | 3 => [3] | 4 => [4] | 5 => [5] | 6 => [6] | 7 => [7] | 8 => [8] | 9 => [9] | 10 => [10] | 11 => [11] | 12 => [12] | 13 => [13] | 14 => [14] | _ => []) (by kernel_rfl) ?_ (by kernel_rfl) ?_ ?_ ?_
 · intro s vs vs' gs gs' h
   iterate 18 (rcases s with _ | s; · (first | exact ⟨rfl, id⟩ | (simp only [List.mem_cons, List.not_mem_nil, or_false, forall_eq] at h; simp [h])))
   exact ⟨rfl, id⟩
 · simp only [List.range, List.range.loop, List.flatMap_cons, List.flatMap_nil, List.append_nil]
   exact List.Perm.refl _
 · clear S0 hend
   refine ⟨?_, ?_, ?_, ?_, ?_, ?_, ?_, ?_, ?_, ?_, ?_, ?_, ?_, ?_, ?_, ?_, trivial⟩
   · intro vs gs A' W LF hA S hR hd hu K hK; replace hK := hK default; have e6 := sO 6 o6 hA hap hsz; clear hA o1 o5 o6 o7; go_step; exact hK _ _ S rfl
   · intro vs gs A' W LF hA S hR hd hu K hK; replace hK := hK default; have e6 := sO 6 o6 hA hap hsz; clear hA o1 o5 o6 o7; go_step; exact hK _ _ S rfl
   · intro vs gs A' W LF hA S hR hd hu K hK; replace hK := hK default; have e5 := sO 5 o5 hA hap hsz; have e31 := sV 31 (hd 1 (by kernel_rfl)) hA hap hsz; clear hA o1 o5 o6 o7
     have h0 : 0 ≤ (k : Int) := by omega
     have h1 : (k : Int) < 64 := by omega
     go_step; exact hK _ _ S rfl
   · intro vs gs A' W LF hA S hR hd hu K hK; replace hK := hK default; have e32 := sV 32 (hd 2 (by kernel_rfl)) hA hap hsz; clear hA o1 o5 o6 o7
     have c0 := u32_cell (S.ok (blkR g5 144 (u32A L)) (hR 16 (List.mem_singleton.2 rfl) _ (List.mem_singleton.2 rfl))) k m HM
     go_step; exact hK _ _ S rfl
   · intro vs gs A' W LF hA S hR hd hu K hK; replace hK := hK default; have e33 := sV 33 (hd 3 (by kernel_rfl)) hA hap hsz; clear hA o1 o5 o6 o7; go_step
     exact hK _ _ S (congrArg (Value.int .u32) (by first | omega | rfl))
   · intro vs gs A' W LF hA S hR hd hu K hK; replace hK := hK default; have e1 := sO 1 o1 hA hap hsz; clear hA o1 o5 o6 o7; go_step; exact hK _ _ S rfl
   · intro vs gs A' W LF hA S hR hd hu K hK; replace hK := hK default; have e6 := sO 6 o6 hA hap hsz; clear hA o1 o5 o6 o7; go_step; exact hK _ _ S rfl
   · intro vs gs A' W LF hA S hR hd hu K hK; replace hK := hK default; have e36 := sV 36 (hd 6 (by kernel_rfl)) hA hap hsz; clear hA o1 o5 o6 o7; go_step
     exact hK _ _ S (congrArg (Value.int .i64) (by first | omega | (unfold wrap64; omega)))
   · intro vs gs A' W LF hA S hR hd hu K hK; replace hK := hK default; have e7 := sO 7 o7 hA hap hsz; clear hA o1 o5 o6 o7; go_step; exact hK _ _ S rfl
   · intro vs gs A' W LF hA S hR hd hu K hK; replace hK := hK default; have e37 := sV 37 (hd 7 (by kernel_rfl)) hA hap hsz; have e38 := sV 38 (hd 8 (by kernel_rfl)) hA hap hsz; clear hA o1 o5 o6 o7; go_step
     have hq := hq.out
     exact hK _ _ S (congrArg (Value.int .i64) (by first | omega | (unfold wrap64; omega)))
   · intro vs gs A' W LF hA S hR hd hu K hK; replace hK := hK default; have e35 := sV 35 (hd 5 (by kernel_rfl)) hA hap hsz; have e39 := sV 39 (hd 9 (by kernel_rfl)) hA hap hsz; clear hA o1 o5 o6 o7
     have h0 : 0 ≤ (q : Int) := by omega
     have h1 : (q : Int) < n0 := by omega
     go_step; exact hK _ _ S rfl
   · intro vs gs A' W LF hA S hR hd hu K hK; replace hK := hK default; have e40 := sV 40 (hd 10 (by kernel_rfl)) hA hap hsz; clear hA o1 o5 o6 o7
     have c0 := HB.out W S.k
     go_step; exact hK _ _ S rfl
   · intro vs gs A' W LF hA S hR hd hu K hK; replace hK := hK default; have e41 := sV 41 (hd 11 (by kernel_rfl)) hA hap hsz; clear hA o1 o5 o6 o7; go_step; exact hK _ _ S rfl
   · intro vs gs A' W LF hA S hR hd hu K hK; replace hK := hK default; have e34 := sV 34 (hd 4 (by kernel_rfl)) hA hap hsz; have e42 := sV 42 (hd 12 (by kernel_rfl)) hA hap hsz; clear hA o1 o5 o6 o7; go_step
     exact hK _ _ S (congrArg (Value.int .u32) (by first | omega | rfl))
   · intro vs gs A' W LF hA S hR hd hu K hK; replace hK := hK default; have e5 := sO 5 o5 hA hap hsz; have e30 := sV 30 (hd 0 (by kernel_rfl)) hA hap hsz; clear hA o1 o5 o6 o7
     have h0 : 0 ≤ (k : Int) := by omega
     have h1 : (k : Int) < 64 := by omega
     go_step; exact hK _ _ S rfl
   · intro vs gs A' W LF hA S hR hd hu K hK; replace hK := hK default; have e44 := sV 44 (hd 14 (by kernel_rfl)) hA hap hsz; have e43 := sV 43 (hd 13 (by kernel_rfl)) hA hap hsz; clear hA o1 o5 o6 o7
     have S1 : Held w0 W (blkR g5 144 (u32A L) :: LF) := S
     have q1 := u32_cell (S1.at_ (l1 := [])) (k) _ (HM)
     have q2 := (S1.at_ (l1 := [])).frozen (k)
     have q3 := (S1.at_ (l1 := [])).lt
     go_step
     have S2 := S1.set (l1 := []) (k) (.int .u32 (((m * 256 + c) % 4294967296 : Nat) : Int))
     rw [u32A_set] at S2
     exact hK undef _ S2 trivial
 · intro vs gs W S hp
   have S : Held w0 W (blkR g5 144 (u32A (L.set k ((m * 256 + c) % 4294967296))) :: R) := by simpa only [List.flatMap_cons, List.flatMap_nil, List.append_nil, List.nil_append, List.cons_append, List.append_assoc] using S
   rw [putAll_eq]
   exact hend _ W sQ  S
theorem rblk_r15 (g2 s0 s1 s2 s3 s4 s5 s6 s7 : Nat) (HV : Hid (∀ V, Kp [] w V → ∀ i x : Nat, [s0, s1, s2, s3, s4, s5, s6, s7][i]? = some x → V.cell? ⟨g2, i, none⟩ = some (.int .u32 (x : Int)))) (hsz : a.tmps.size = 209) (o2 : Sl a 2 (.pointer (some ⟨g2, 0, none⟩)))
 (hend : ∀ a' W, Same a a' [98, 99, 100, 101, 102, 103, 104, 105, 106, 107, 108, 109, 110, 111, 112, 113, 11, 12, 13, 14, 15, 16, 17, 18] → Kp [] w.drew W → Sl a' 11 (.int .u32 ((s0 : Nat) : Int)) → Sl a' 12 (.int .u32 ((s1 : Nat) : Int)) → Sl a' 13 (.int .u32 ((s2 : Nat) : Int)) → Sl a' 14 (.int .u32 ((s3 : Nat) : Int)) → Sl a' 15 (.int .u32 ((s4 : Nat) : Int)) → Sl a' 16 (.int .u32 ((s5 : Nat) : Int)) → Sl a' 17 (.int .u32 ((s6 : Nat) : Int)) → Sl a' 18 (.int .u32 ((s7 : Nat) : Int)) → Q .normal a' W) : (Code.region 15 (opsOf 15 Tryd.f86).toArray true).wp Tryd.prog Q a w := by
 have hap : apartB (opsOf 15 Tryd.f86) = true := by kernel_rfl
 refine wp_region_inv (l := (opsOf 15 Tryd.f86)) (fun i v W => match i with | 0 => v = .pointer (some ⟨g2, 0, none⟩) | 1 => v = .int .u32 ((s0 : Nat) : Int) | 2 => v = .pointer (some ⟨g2, 1, none⟩) | 3 => v = .int .u32 ((s1 : Nat) : Int) | 4 => v = .pointer (some ⟨g2, 2, none⟩) | 5 => v = .int .u32 ((s2 : Nat) : Int) | 6 => v = .pointer (some ⟨g2, 3, none⟩) | 7 => v = .int .u32 ((s3 : Nat) : Int) | 8 => v = .pointer (some ⟨g2, 4, none⟩) | 9 => v = .int .u32 ((s4 : Nat) : Int) | 10 => v = .pointer (some ⟨g2, 5, none⟩) | 11 => v = .int .u32 ((s5 : Nat) : Int) | 12 => v = .pointer (some ⟨g2, 6, none⟩) | 13 => v = .int .u32 ((s6 : Nat) : Int) | 14 => v = .pointer (some ⟨g2, 7, none⟩) | 15 => v = .int .u32 ((s7 : Nat) : Int) | 16 => v = .int .u32 ((s0 : Nat) : Int) | 17 => v = .int .u32 ((s1 : Nat) : Int) | 18 => v = .int .u32 ((s2 : Nat) : Int) | 19 => v = .int .u32 ((s3 : Nat) : Int) | 20 => v = .int .u32 ((s4 : Nat) : Int) | 21 => v = .int .u32 ((s5 : Nat) : Int) | 22 => v = .int .u32 ((s6 : Nat) : Int) | 23 => v = .int .u32 ((s7 : Nat) : Int) | _ => True) (by kernel_rfl) hap (by kernel_rfl) ?_ ?_ ?_
 · intro i v W W' h _
   iterate 24 (rcases i with _ | i; · exact h)
   exact h
 · refine ⟨?_, ?_, ?_, ?_, ?_, ?_, ?_, ?_, ?_, ?_, ?_, ?_, ?_, ?_, ?_, ?_, ?_, ?_, ?_, ?_, ?_, ?_, ?_, ?_, trivial⟩
   · intro vs A' W hA hW hd K hK; have e2 := sO 2 o2 hA hap hsz; clear hA hd o2; go_step; exact hK _ _ kR rfl
   · intro vs A' W hA hW hd K hK; have e98 := sV 98 (hd 0 (by kernel_rfl)) hA hap hsz; clear hA hd o2
     have c0 := HV.out W ((Kp.refl [] _).drew.trans hW (by simp)) 0 s0 rfl
     go_step; exact hK _ _ kR rfl
   · intro vs A' W hA hW hd K hK; have e2 := sO 2 o2 hA hap hsz; clear hA hd o2; go_step; exact hK _ _ kR rfl
   · intro vs A' W hA hW hd K hK; have e100 := sV 100 (hd 2 (by kernel_rfl)) hA hap hsz; clear hA hd o2
     have c0 := HV.out W ((Kp.refl [] _).drew.trans hW (by simp)) 1 s1 rfl
     go_step; exact hK _ _ kR rfl
   · intro vs A' W hA hW hd K hK; have e2 := sO 2 o2 hA hap hsz; clear hA hd o2; go_step; exact hK _ _ kR rfl
   · intro vs A' W hA hW hd K hK; have e102 := sV 102 (hd 4 (by kernel_rfl)) hA hap hsz; clear hA hd o2
     have c0 := HV.out W ((Kp.refl [] _).drew.trans hW (by simp)) 2 s2 rfl
     go_step; exact hK _ _ kR rfl
   · intro vs A' W hA hW hd K hK; have e2 := sO 2 o2 hA hap hsz; clear hA hd o2; go_step; exact hK _ _ kR rfl
   · intro vs A' W hA hW hd K hK; have e104 := sV 104 (hd 6 (by kernel_rfl)) hA hap hsz; clear hA hd o2
     have c0 := HV.out W ((Kp.refl [] _).drew.trans hW (by simp)) 3 s3 rfl
     go_step; exact hK _ _ kR rfl
   · intro vs A' W hA hW hd K hK; have e2 := sO 2 o2 hA hap hsz; clear hA hd o2; go_step; exact hK _ _ kR rfl
   · intro vs A' W hA hW hd K hK; have e106 := sV 106 (hd 8 (by kernel_rfl)) hA hap hsz; clear hA hd o2
     have c0 := HV.out W ((Kp.refl [] _).drew.trans hW (by simp)) 4 s4 rfl
     go_step; exact hK _ _ kR rfl
   · intro vs A' W hA hW hd K hK; have e2 := sO 2 o2 hA hap hsz; clear hA hd o2; go_step; exact hK _ _ kR rfl
   · intro vs A' W hA hW hd K hK; have e108 := sV 108 (hd 10 (by kernel_rfl)) hA hap hsz; clear hA hd o2
     have c0 := HV.out W ((Kp.refl [] _).drew.trans hW (by simp)) 5 s5 rfl
     go_step; exact hK _ _ kR rfl
   · intro vs A' W hA hW hd K hK; have e2 := sO 2 o2 hA hap hsz; clear hA hd o2; go_step; exact hK _ _ kR rfl
   · intro vs A' W hA hW hd K hK; have e110 := sV 110 (hd 12 (by kernel_rfl)) hA hap hsz; clear hA hd o2
     have c0 := HV.out W ((Kp.refl [] _).drew.trans hW (by simp)) 6 s6 rfl
     go_step; exact hK _ _ kR rfl
   · intro vs A' W hA hW hd K hK; have e2 := sO 2 o2 hA hap hsz; clear hA hd o2; go_step; exact hK _ _ kR rfl
   · intro vs A' W hA hW hd K hK; have e112 := sV 112 (hd 14 (by kernel_rfl)) hA hap hsz; clear hA hd o2
     have c0 := HV.out W ((Kp.refl [] _).drew.trans hW (by simp)) 7 s7 rfl
     go_step; exact hK _ _ kR rfl
   · intro vs A' W hA hW hd K hK; have e99 := sV 99 (hd 1 (by kernel_rfl)) hA hap hsz; clear hA hd o2; go_step; exact hK _ _ kR rfl
   · intro vs A' W hA hW hd K hK; have e101 := sV 101 (hd 3 (by kernel_rfl)) hA hap hsz; clear hA hd o2; go_step; exact hK _ _ kR rfl
   · intro vs A' W hA hW hd K hK; have e103 := sV 103 (hd 5 (by kernel_rfl)) hA hap hsz; clear hA hd o2; go_step; exact hK _ _ kR rfl
   · intro vs A' W hA hW hd K hK; have e105 := sV 105 (hd 7 (by kernel_rfl)) hA hap hsz; clear hA hd o2; go_step; exact hK _ _ kR rfl
   · intro vs A' W hA hW hd K hK; have e107 := sV 107 (hd 9 (by kernel_rfl)) hA hap hsz; clear hA hd o2; go_step; exact hK _ _ kR rfl
   · intro vs A' W hA hW hd K hK; have e109 := sV 109 (hd 11 (by kernel_rfl)) hA hap hsz; clear hA hd o2; go_step; exact hK _ _ kR rfl
   · intro vs A' W hA hW hd K hK; have e111 := sV 111 (hd 13 (by kernel_rfl)) hA hap hsz; clear hA hd o2; go_step; exact hK _ _ kR rfl
   · intro vs A' W hA hW hd K hK; have e113 := sV 113 (hd 15 (by kernel_rfl)) hA hap hsz; clear hA hd o2; go_step; exact hK _ _ kR rfl
 · intro vs W hW hp
   rw [putAll_eq]
   exact hend _ W sQ hW (sW (hp 16 sB)) (sW (hp 17 sB)) (sW (hp 18 sB)) (sW (hp 19 sB)) (sW (hp 20 sB)) (sW (hp 21 sB)) (sW (hp 22 sB)) (sW (hp 23 sB))
theorem rblk_r19 (k g5 kk wk v4 v5 v6 v7 : Nat) (h4 : v4 < 4294967296) (h5 : v5 < 4294967296) (h6 : v6 < 4294967296) (hk : k < 64) (HK : Hid (∀ V, Calls Tryd.prog 101 #[.int .i64 (k : Int)] V fun e w' => e = .returned (.int .u32 (kk : Int)) ∧ Kp [] V w')) (HWt : Hid (∀ V, Kp [] w V → V.cell? ⟨g5, k, none⟩ = some (.int .u32 (wk : Int)))) (hsz : a.tmps.size = 209) (o5 : Sl a 5 (.pointer (some ⟨g5, 0, none⟩))) (o15 : Sl a 15 (.int .u32 ((v4 : Nat) : Int))) (o16 : Sl a 16 (.int .u32 ((v5 : Nat) : Int))) (o17 : Sl a 17 (.int .u32 ((v6 : Nat) : Int))) (o18 : Sl a 18 (.int .u32 ((v7 : Nat) : Int))) (o19 : Sl a 19 (.int .i64 ((k : Nat) : Int)))
 (hend : ∀ a' W, Same a a' [118, 119, 120, 121, 122, 123, 124, 125, 126, 127, 128, 129, 130, 131, 132, 133, 134, 135, 136, 137, 138, 139, 140, 141, 142, 143, 20] → Kp [] w.drew W → Sl a' 20 (.int .u32 ((rX v4 v5 v6 v7 kk wk : Nat) : Int)) → Q .normal a' W) : (Code.region 19 (opsOf 19 Tryd.f86).toArray true).wp Tryd.prog Q a w := by
 have hap : apartB (opsOf 19 Tryd.f86) = true := by kernel_rfl
 refine wp_region_inv (l := (opsOf 19 Tryd.f86)) (fun i v W => match i with | 0 => v = .int .u32 ((v7 : Nat) : Int) | 1 => v = .int .u32 ((v4 : Nat) : Int) | 2 => v = .int .u32 ((rotr v4 6 : Nat) : Int) | 3 => v = .int .u32 ((v4 : Nat) : Int) | 4 => v = .int .u32 ((rotr v4 11 : Nat) : Int) | 5 => v = .int .u32 (((rotr v4 6) ^^^ (rotr v4 11) : Nat) : Int) | 6 => v = .int .u32 ((v4 : Nat) : Int) | 7 => v = .int .u32 ((rotr v4 25 : Nat) : Int) | 8 => v = .int .u32 ((bS1 v4 : Nat) : Int) | 9 => v = .int .u32 (((v7 + bS1 v4) % 4294967296 : Nat) : Int) | 10 => v = .int .u32 ((v4 : Nat) : Int) | 11 => v = .int .u32 ((v5 : Nat) : Int) | 12 => v = .int .u32 ((v4 &&& v5 : Nat) : Int) | 13 => v = .int .u32 ((v4 : Nat) : Int) | 14 => v = .int .u32 ((not32 v4 : Nat) : Int) | 15 => v = .int .u32 ((v6 : Nat) : Int) | 16 => v = .int .u32 (((not32 v4) &&& v6 : Nat) : Int) | 17 => v = .int .u32 ((cho v4 v5 v6 : Nat) : Int) | 18 => v = .int .u32 (((v7 + bS1 v4 + cho v4 v5 v6) % 4294967296 : Nat) : Int) | 19 => v = .int .i64 ((k : Nat) : Int) | 20 => v = .int .u32 ((kk : Nat) : Int) | 21 => v = .int .u32 (((v7 + bS1 v4 + cho v4 v5 v6 + kk) % 4294967296 : Nat) : Int) | 22 => v = .int .i64 ((k : Nat) : Int) | 23 => v = .pointer (some ⟨g5, k, none⟩) | 24 => v = .int .u32 ((wk : Nat) : Int) | 25 => v = .int .u32 ((rX v4 v5 v6 v7 kk wk : Nat) : Int) | 26 => v = .int .u32 ((rX v4 v5 v6 v7 kk wk : Nat) : Int) | _ => True) (by kernel_rfl) hap (by kernel_rfl) ?_ ?_ ?_
 · intro i v W W' h _
   iterate 27 (rcases i with _ | i; · exact h)
   exact h
 · refine ⟨?_, ?_, ?_, ?_, ?_, ?_, ?_, ?_, ?_, ?_, ?_, ?_, ?_, ?_, ?_, ?_, ?_, ?_, ?_, ?_, ?_, ?_, ?_, ?_, ?_, ?_, ?_, trivial⟩
   · intro vs A' W hA hW hd K hK; have e18 := sO 18 o18 hA hap hsz; clear hA hd o5 o15 o16 o17 o18 o19; go_step; exact hK _ _ kR rfl
   · intro vs A' W hA hW hd K hK; have e15 := sO 15 o15 hA hap hsz; clear hA hd o5 o15 o16 o17 o18 o19; go_step; exact hK _ _ kR rfl
   · intro vs A' W hA hW hd K hK; have e119 := sV 119 (hd 1 (by kernel_rfl)) hA hap hsz; clear hA hd o5 o15 o16 o17 o18 o19; go_step
     refine (rrot_any v4 6 6 rfl h4 (by unfold rotK; omega) W).mono ?_
     rintro e w' ⟨rfl, kq⟩
     exact hK _ _ kq rfl
   · intro vs A' W hA hW hd K hK; have e15 := sO 15 o15 hA hap hsz; clear hA hd o5 o15 o16 o17 o18 o19; go_step; exact hK _ _ kR rfl
   · intro vs A' W hA hW hd K hK; have e121 := sV 121 (hd 3 (by kernel_rfl)) hA hap hsz; clear hA hd o5 o15 o16 o17 o18 o19; go_step
     refine (rrot_any v4 11 11 rfl h4 (by unfold rotK; omega) W).mono ?_
     rintro e w' ⟨rfl, kq⟩
     exact hK _ _ kq rfl
   · intro vs A' W hA hW hd K hK; have e120 := sV 120 (hd 2 (by kernel_rfl)) hA hap hsz; have e122 := sV 122 (hd 4 (by kernel_rfl)) hA hap hsz; clear hA hd o5 o15 o16 o17 o18 o19; go_step
     exact hK _ _ kR (congrArg (Value.int .u32) (u32_x _ _ (rotr_lt h4) (rotr_lt h4)))
   · intro vs A' W hA hW hd K hK; have e15 := sO 15 o15 hA hap hsz; clear hA hd o5 o15 o16 o17 o18 o19; go_step; exact hK _ _ kR rfl
   · intro vs A' W hA hW hd K hK; have e124 := sV 124 (hd 6 (by kernel_rfl)) hA hap hsz; clear hA hd o5 o15 o16 o17 o18 o19; go_step
     refine (rrot_any v4 25 25 rfl h4 (by unfold rotK; omega) W).mono ?_
     rintro e w' ⟨rfl, kq⟩
     exact hK _ _ kq rfl
   · intro vs A' W hA hW hd K hK; have e123 := sV 123 (hd 5 (by kernel_rfl)) hA hap hsz; have e125 := sV 125 (hd 7 (by kernel_rfl)) hA hap hsz; clear hA hd o5 o15 o16 o17 o18 o19; go_step
     exact hK _ _ kR (congrArg (Value.int .u32) (u32_x _ _ (xor_lt (rotr_lt h4) (rotr_lt h4)) (rotr_lt h4)))
   · intro vs A' W hA hW hd K hK; have e118 := sV 118 (hd 0 (by kernel_rfl)) hA hap hsz; have e126 := sV 126 (hd 8 (by kernel_rfl)) hA hap hsz; clear hA hd o5 o15 o16 o17 o18 o19; go_step
     exact hK _ _ kR (congrArg (Value.int .u32) (by first | omega | rfl))
   · intro vs A' W hA hW hd K hK; have e15 := sO 15 o15 hA hap hsz; clear hA hd o5 o15 o16 o17 o18 o19; go_step; exact hK _ _ kR rfl
   · intro vs A' W hA hW hd K hK; have e16 := sO 16 o16 hA hap hsz; clear hA hd o5 o15 o16 o17 o18 o19; go_step; exact hK _ _ kR rfl
   · intro vs A' W hA hW hd K hK; have e128 := sV 128 (hd 10 (by kernel_rfl)) hA hap hsz; have e129 := sV 129 (hd 11 (by kernel_rfl)) hA hap hsz; clear hA hd o5 o15 o16 o17 o18 o19; go_step
     exact hK _ _ kR (congrArg (Value.int .u32) (u32_and_nat _ _ h4 h5))
   · intro vs A' W hA hW hd K hK; have e15 := sO 15 o15 hA hap hsz; clear hA hd o5 o15 o16 o17 o18 o19; go_step; exact hK _ _ kR rfl
   · intro vs A' W hA hW hd K hK; have e131 := sV 131 (hd 13 (by kernel_rfl)) hA hap hsz; clear hA hd o5 o15 o16 o17 o18 o19; go_step
     exact hK _ _ kR (congrArg (Value.int .u32) (u32_not v4 h4))
   · intro vs A' W hA hW hd K hK; have e17 := sO 17 o17 hA hap hsz; clear hA hd o5 o15 o16 o17 o18 o19; go_step; exact hK _ _ kR rfl
   · intro vs A' W hA hW hd K hK; have e132 := sV 132 (hd 14 (by kernel_rfl)) hA hap hsz; have e133 := sV 133 (hd 15 (by kernel_rfl)) hA hap hsz; clear hA hd o5 o15 o16 o17 o18 o19; go_step
     exact hK _ _ kR (congrArg (Value.int .u32) (u32_and_nat _ _ (not32_lt' v4) h6))
   · intro vs A' W hA hW hd K hK; have e130 := sV 130 (hd 12 (by kernel_rfl)) hA hap hsz; have e134 := sV 134 (hd 16 (by kernel_rfl)) hA hap hsz; clear hA hd o5 o15 o16 o17 o18 o19; go_step
     exact hK _ _ kR (congrArg (Value.int .u32) (u32_x _ _ (and_lt h4) (and_lt (not32_lt' v4))))
   · intro vs A' W hA hW hd K hK; have e127 := sV 127 (hd 9 (by kernel_rfl)) hA hap hsz; have e135 := sV 135 (hd 17 (by kernel_rfl)) hA hap hsz; clear hA hd o5 o15 o16 o17 o18 o19; go_step
     exact hK _ _ kR (congrArg (Value.int .u32) (by first | omega | rfl))
   · intro vs A' W hA hW hd K hK; have e19 := sO 19 o19 hA hap hsz; clear hA hd o5 o15 o16 o17 o18 o19; go_step; exact hK _ _ kR rfl
   · intro vs A' W hA hW hd K hK; have e137 := sV 137 (hd 19 (by kernel_rfl)) hA hap hsz; clear hA hd o5 o15 o16 o17 o18 o19; go_step
     refine (HK.out W).mono ?_
     rintro e w' ⟨rfl, kq⟩
     exact hK _ _ kq rfl
   · intro vs A' W hA hW hd K hK; have e136 := sV 136 (hd 18 (by kernel_rfl)) hA hap hsz; have e138 := sV 138 (hd 20 (by kernel_rfl)) hA hap hsz; clear hA hd o5 o15 o16 o17 o18 o19; go_step
     exact hK _ _ kR (congrArg (Value.int .u32) (by first | omega | rfl))
   · intro vs A' W hA hW hd K hK; have e19 := sO 19 o19 hA hap hsz; clear hA hd o5 o15 o16 o17 o18 o19; go_step; exact hK _ _ kR rfl
   · intro vs A' W hA hW hd K hK; have e5 := sO 5 o5 hA hap hsz; have e140 := sV 140 (hd 22 (by kernel_rfl)) hA hap hsz; clear hA hd o5 o15 o16 o17 o18 o19
     have h0 : 0 ≤ (k : Int) := by omega
     have h1 : (k : Int) < 64 := by omega
     go_step; exact hK _ _ kR rfl
   · intro vs A' W hA hW hd K hK; have e141 := sV 141 (hd 23 (by kernel_rfl)) hA hap hsz; clear hA hd o5 o15 o16 o17 o18 o19
     have c0 := HWt.out W ((Kp.refl [] _).drew.trans hW (by simp))
     go_step; exact hK _ _ kR rfl
   · intro vs A' W hA hW hd K hK; have e139 := sV 139 (hd 21 (by kernel_rfl)) hA hap hsz; have e142 := sV 142 (hd 24 (by kernel_rfl)) hA hap hsz; clear hA hd o5 o15 o16 o17 o18 o19; go_step
     exact hK _ _ kR (congrArg (Value.int .u32) (by unfold rX; omega))
   · intro vs A' W hA hW hd K hK; have e143 := sV 143 (hd 25 (by kernel_rfl)) hA hap hsz; clear hA hd o5 o15 o16 o17 o18 o19; go_step; exact hK _ _ kR rfl
 · intro vs W hW hp
   rw [putAll_eq]
   exact hend _ W sQ hW (sW (hp 26 sB))
end
/- Block of the reference. -/
section
open Go.RowKit
def dsRA : List Nat := [7, 26, 27, 28, 29, 30, 31, 32, 33, 34, 35, 36, 37, 38, 39, 40, 41, 42, 43, 44]
def dsR1 : List Nat := [6, 7, 22, 23, 24, 25, 26, 27, 28, 29, 30, 31, 32, 33, 34, 35, 36, 37, 38, 39, 40, 41, 42, 43, 44]
def dsR2 : List Nat := [8, 9, 10, 45, 46, 47, 48, 49, 50, 51, 52, 53, 54, 55, 56, 57, 58, 59, 60, 61, 62, 63, 64, 65, 66, 67, 68, 69, 70, 71, 72, 73, 74, 75, 76, 77, 78, 79, 80, 81, 82, 83, 84, 85, 86, 87, 88, 89, 90, 91, 92, 93, 94, 95, 96, 97]
def dsR3 : List Nat := [11, 12, 13, 14, 15, 16, 17, 18, 19, 20, 21, 114, 115, 116, 117, 118, 119, 120, 121, 122, 123, 124, 125, 126, 127, 128, 129, 130, 131, 132, 133, 134, 135, 136, 137, 138, 139, 140, 141, 142, 143, 144, 145, 146, 147, 148, 149, 150, 151, 152, 153, 154, 155, 156, 157, 158, 159, 160, 161, 162, 163, 164, 165, 166, 167, 168, 169, 170, 171, 172, 173, 174, 175]
theorem rblk_lA {Q : Exit → Act → World → Prop} {a : Act} {w0 w : World} (b : List UInt8) (n0 cb : Nat) (ad : Addr) (hn0 : 64 ≤ n0) (hbl : 64 ≤ b.length) (HB : ∀ V, Kp [] w0 V → ∀ j, j < 64 → V.cell? (ad.add j) = some (.int .u8 ((b.getD j 0).toNat : Int))) (k g5 : Nat) (hlt : k < 16) (l : List Nat) (hl : l.length = k) (R : List Res) (hsz : a.tmps.size = 209)
 (o1 : Sl a 1 (.slice (some ad) n0 cb)) (o5 : Sl a 5 (.pointer (some ⟨g5, 0, none⟩))) (o6 : Sl a 6 (.int .i64 (k : Int))) (o7 : Sl a 7 (.int .i64 ((0 : Nat) : Int)))
 (S : Held w0 w (blkR g5 144 (u32A (pz l)) :: R))
 (hend : ∀ a' W, Same a a' dsRA → Held w0 W (blkR g5 144 (u32A (pz (l ++ [num ((b.drop (4 * k)).take 4)]))) :: R) → Q .normal a' W) :
 (Code.block 2 (blockOf 2 Tryd.f86)).wp Tryd.prog Q a w := by
 have hpl : (pz l).length = 64 := pz_length (by omega)
 have h00 : (pz l).set k (num ((b.drop (4 * k)).take 0)) = pz l := by
  refine List.ext_getElem? fun j => ?_
  by_cases hj : j = k
  · subst hj
    rw [List.getElem?_set_self (by omega)]
    unfold pz
    rw [List.getElem?_append_right (by omega), hl, Nat.sub_self, List.getElem?_replicate, if_pos (by omega)]
    simp [num]
  · rw [List.getElem?_set_ne (fun h => hj h.symm)]
 refine wp_block ?_
 (conv => arg 2; whnf)
 refine wp_loop (fun a' w' => ∃ r : Nat, r ≤ 4 ∧ Same a a' dsRA ∧ Sl a' 7 (.int .i64 (r : Int)) ∧ Held w0 w' (blkR g5 144 (u32A ((pz l).set k (num ((b.drop (4 * k)).take r)))) :: R)) (fun a' _ => 4 - (intOf (a'.eval (.tmp 7))).toNat) ⟨0, by omega, Same.refl _ _, o7, by rw [h00]; exact S⟩ ?_
 clear o7 S
 rintro a1 w1 ⟨r, hr, T, o7, S⟩
 have o1 := T.keep 1 _ (by decide) o1
 have o5 := T.keep 5 _ (by decide) o5
 have o6 := T.keep 6 _ (by decide) o6
 have hz1 := T.size.trans hsz
 have eCtr := o7.eval (by rw [hz1]; decide)
 refine wp_seq (wp_seq (rblk_r6 r hz1 o7 (fun a2 hs2 o27 => ?_)))
 have hz2 := hs2.size.trans hz1; have o1 := hs2.k o1; have o5 := hs2.k o5; have o6 := hs2.k o6; have o7 := hs2.k o7
 have T := T.trans hs2
 by_cases hlt4 : r < 4
 · refine wp_cond_true ((o27.eval (by rw [hz2]; decide)).trans (by rw [decide_eq_true (by omega)])) (wp_skip ?_)
   refine wp_seq (wp_block ?_)
   have hq : 4 * k + r < b.length := by omega
   have hc := (b.getD (4 * k + r) 0).toNat_lt
   have hnum : num ((b.drop (4 * k)).take (r + 1)) = 256 * num ((b.drop (4 * k)).take r) + (b.getD (4 * k + r) 0).toNat := by
    have e : (b.drop (4 * k))[r]? = some (b.getD (4 * k + r) 0) := by
     rw [List.getElem?_drop, List.getD_eq_getElem?_getD, List.getElem?_eq_getElem hq]; rfl
    rw [List.take_add_one, e]
    exact num_snoc _ _
   have hlt2 : num ((b.drop (4 * k)).take r) < 16777216 := by
    have := num4_lt ((b.drop (4 * k)).take 3)
    have h3 : ∀ j, j ≤ 3 → num ((b.drop (4 * k)).take j) < 256 ^ j := by
     intro j
     induction j with
     | zero => intro _; simp [num]
     | succ j ih =>
      intro hj
      have hjl : j < (b.drop (4 * k)).length := by rw [List.length_drop]; omega
      have := ih (by omega)
      have hb := ((b.drop (4 * k))[j]).toNat_lt
      rw [List.take_add_one, List.getElem?_eq_getElem hjl, show (some (b.drop (4 * k))[j]).toList = [(b.drop (4 * k))[j]] from rfl, num_snoc, Nat.pow_succ]
      omega
    have := h3 r (by omega)
    have h4 : 256 ^ r ≤ 256 ^ 3 := Nat.pow_le_pow_right (by decide) (by omega)
    omega
   refine rblk_r8 w0 k r (4 * k + r) g5 _ _ n0 cb ad _ R hlt hlt4 (Lib.hid rfl) (by omega) (List.getElem?_set_self (by omega)) hc (Lib.hid (fun V kk => HB V kk _ (by omega))) hz2 o1 o5 o6 o7 S (fun a3 w2 hs3 S => ?_)
   have hz3 := hs3.size.trans hz2; have o1 := hs3.k o1; have o5 := hs3.k o5; have o6 := hs3.k o6; have o7 := hs3.k o7; have o27 := hs3.k o27
   have T := T.trans hs3
   rw [List.set_set, show (num ((b.drop (4 * k)).take r) * 256 + (b.getD (4 * k + r) 0).toNat) % 4294967296 = num ((b.drop (4 * k)).take (r + 1)) from by rw [hnum]; omega] at S
   refine rblk_r7 r hlt4 hz3 o7 (fun a4 hs4 o7 => ?_)
   have hz4 := hs4.size.trans hz3; have o1 := hs4.k o1; have o5 := hs4.k o5; have o6 := hs4.k o6; have o27 := hs4.k o27
   have T := T.trans hs4
   refine ⟨⟨r + 1, by omega, T.more (by decide +kernel), o7, S⟩, ?_⟩
   show 4 - (intOf (a4.eval (.tmp 7))).toNat < 4 - (intOf (a1.eval (.tmp 7))).toNat
   rw [eCtr, o7.eval (by rw [hz4]; decide)]
   simp [intOf]; omega
 · obtain rfl : r = 4 := by omega
   refine wp_cond_false ((o27.eval (by rw [hz2]; decide)).trans (by rw [decide_eq_false (by omega)])) (wp_exit ?_)
   have e : (pz l).set k (num ((b.drop (4 * k)).take 4)) = pz (l ++ [num ((b.drop (4 * k)).take 4)]) := by rw [← pz_next (by omega), hl]
   rw [e] at S
   exact hend _ _ (T.more (by decide +kernel)) S
theorem rblk_l1 {Q : Exit → Act → World → Prop} {a : Act} {w0 w : World} (b : List UInt8) (n0 cb : Nat) (ad : Addr) (hn0 : 64 ≤ n0) (hbl : 64 ≤ b.length) (HB : ∀ V, Kp [] w0 V → ∀ j, j < 64 → V.cell? (ad.add j) = some (.int .u8 ((b.getD j 0).toNat : Int))) (g5 : Nat) (R : List Res) (hsz : a.tmps.size = 209)
 (o1 : Sl a 1 (.slice (some ad) n0 cb)) (o5 : Sl a 5 (.pointer (some ⟨g5, 0, none⟩))) (o6 : Sl a 6 (.int .i64 ((0 : Nat) : Int)))
 (S : Held w0 w (blkR g5 144 (u32A (List.replicate 64 0)) :: R))
 (hend : ∀ a' W, Same a a' dsR1 → Held w0 W (blkR g5 144 (u32A (pz (wsN b 16))) :: R) → Q .normal a' W) :
 (Code.block 0 (blockOf 0 Tryd.f86)).wp Tryd.prog Q a w := by
 refine wp_block ?_
 (conv => arg 2; whnf)
 refine wp_loop (fun a' w' => ∃ k : Nat, k ≤ 16 ∧ Same a a' dsR1 ∧ Sl a' 6 (.int .i64 (k : Int)) ∧ Held w0 w' (blkR g5 144 (u32A (pz (wsN b k))) :: R)) (fun a' _ => 16 - (intOf (a'.eval (.tmp 6))).toNat) ⟨0, by omega, Same.refl _ _, o6, S⟩ ?_
 clear o6 S
 rintro a1 w1 ⟨k, hk, T, o6, S⟩
 have o1 := T.keep 1 _ (by decide) o1
 have o5 := T.keep 5 _ (by decide) o5
 have hz1 := T.size.trans hsz
 have eCtr := o6.eval (by rw [hz1]; decide)
 refine wp_seq (wp_seq (rblk_r3 k hz1 o6 (fun a2 hs2 o23 => ?_)))
 have hz2 := hs2.size.trans hz1; have o1 := hs2.k o1; have o5 := hs2.k o5; have o6 := hs2.k o6
 have T := T.trans hs2
 by_cases hlt : k < 16
 · refine wp_cond_true ((o23.eval (by rw [hz2]; decide)).trans (by rw [decide_eq_true (by omega)])) (wp_skip ?_)
   refine wp_seq (wp_block ?_)
   refine wp_seq (rblk_r5 hz2 (fun a3 hs3 o7 => ?_))
   have hz3 := hs3.size.trans hz2; have o1 := hs3.k o1; have o5 := hs3.k o5; have o6 := hs3.k o6; have o23 := hs3.k o23
   have T := T.trans hs3
   refine rblk_lA b n0 cb ad hn0 hbl HB k g5 hlt _ (wsN_length b k) R hz3 o1 o5 o6 o7 S (fun a4 w2 hs4 S => ?_)
   have hz4 := hs4.size.trans hz3; have o1 := hs4.k o1; have o5 := hs4.k o5; have o6 := hs4.k o6; have o23 := hs4.k o23
   have T := T.trans hs4
   rw [← wsN_next16 b hlt] at S
   refine rblk_r4 k hlt hz4 o6 (fun a5 hs5 o6 => ?_)
   have hz5 := hs5.size.trans hz4; have o1 := hs5.k o1; have o5 := hs5.k o5; have o23 := hs5.k o23
   have T := T.trans hs5
   refine ⟨⟨k + 1, by omega, T.more (by decide +kernel), o6, S⟩, ?_⟩
   show 16 - (intOf (a5.eval (.tmp 6))).toNat < 16 - (intOf (a1.eval (.tmp 6))).toNat
   rw [eCtr, o6.eval (by rw [hz5]; decide)]
   simp [intOf]; omega
 · obtain rfl : k = 16 := by omega
   refine wp_cond_false ((o23.eval (by rw [hz2]; decide)).trans (by rw [decide_eq_false (by omega)])) (wp_exit ?_)
   exact hend _ _ (T.more (by decide +kernel)) S
theorem rblk_l2 {Q : Exit → Act → World → Prop} {a : Act} {w0 w : World} (b : List UInt8) (g5 : Nat) (R : List Res) (hsz : a.tmps.size = 209)
 (o5 : Sl a 5 (.pointer (some ⟨g5, 0, none⟩))) (o8 : Sl a 8 (.int .i64 ((16 : Nat) : Int)))
 (S : Held w0 w (blkR g5 144 (u32A (pz (wsN b 16))) :: R))
 (hend : ∀ a' W, Same a a' dsR2 → Held w0 W (blkR g5 144 (u32A (wsN b 64)) :: R) → Q .normal a' W) :
 (Code.block 4 (blockOf 4 Tryd.f86)).wp Tryd.prog Q a w := by
 refine wp_block ?_
 (conv => arg 2; whnf)
 refine wp_loop (fun a' w' => ∃ k : Nat, 16 ≤ k ∧ k ≤ 64 ∧ Same a a' dsR2 ∧ Sl a' 8 (.int .i64 (k : Int)) ∧ Held w0 w' (blkR g5 144 (u32A (pz (wsN b k))) :: R)) (fun a' _ => 64 - (intOf (a'.eval (.tmp 8))).toNat) ⟨16, by omega, by omega, Same.refl _ _, o8, S⟩ ?_
 clear o8 S
 rintro a1 w1 ⟨n, hn16, hn, T, o8, S⟩
 have o5 := T.keep 5 _ (by decide) o5
 have hz1 := T.size.trans hsz
 have eCtr := o8.eval (by rw [hz1]; decide)
 refine wp_seq (wp_seq (rblk_r10 n hz1 o8 (fun a2 hs2 o46 => ?_)))
 have hz2 := hs2.size.trans hz1; have o5 := hs2.k o5; have o8 := hs2.k o8
 have T := T.trans hs2
 by_cases hlt : n < 64
 · refine wp_cond_true ((o46.eval (by rw [hz2]; decide)).trans (by rw [decide_eq_true (by omega)])) (wp_skip ?_)
   obtain ⟨j, rfl⟩ : ∃ j, n = j + 16 := ⟨n - 16, by omega⟩
   have HWl := wsN_lt b (j + 16)
   have HWn := wsN_length b (j + 16)
   have Hnx := wsN_next48 b j
   generalize hl : wsN b (j + 16) = l at *
   have hpl : (pz l).length = 64 := pz_length (by omega)
   have HA : (pz l)[j]? = some (l.getD j 0) := pz_at (getD_at (by omega))
   have HC : (pz l)[j + 9]? = some (l.getD (j + 9) 0) := pz_at (getD_at (by omega))
   have HX : (pz l)[j + 1]? = some (l.getD (j + 1) 0) := pz_at (getD_at (by omega))
   have HY : (pz l)[j + 14]? = some (l.getD (j + 14) 0) := pz_at (getD_at (by omega))
   have HM : (pz l)[j + 16]? = some ((pz l).getD (j + 16) 0) := getD_at (by omega)
   have HXl := getD_lt HWl (j + 1)
   have HYl := getD_lt HWl (j + 14)
   have HE : ∀ x, (pz l).set (j + 16) x = pz (l ++ [x]) := fun x => by rw [← HWn]; exact pz_next (by omega) x
   generalize l.getD j 0 = v at *
   generalize l.getD (j + 9) 0 = c at *
   generalize l.getD (j + 1) 0 = x at *
   generalize l.getD (j + 14) 0 = y at *
   refine wp_seq (wp_block ?_)
   refine wp_seq (rblk_r12 j g5 x (pz l) (by omega) HX HXl (Lib.hid (fun V kk i x h => u32_cell ((S.at_ (l1 := [])).kp kk (by simp)) i x h)) hz2 o5 o8 (fun a3 W3 hs3 k3 o9 => ?_))
   have hz3 := hs3.size.trans hz2; have o5 := hs3.k o5; have o8 := hs3.k o8; have o46 := hs3.k o46
   have T := T.trans hs3
   have S := S.kp ((Kp.refl [] _).drew.trans k3 (by simp))
   refine wp_seq (rblk_r13 j g5 y (pz l) (by omega) HY HYl (Lib.hid (fun V kk i x h => u32_cell ((S.at_ (l1 := [])).kp kk (by simp)) i x h)) hz3 o5 o8 (fun a4 W4 hs4 k4 o10 => ?_))
   have hz4 := hs4.size.trans hz3; have o5 := hs4.k o5; have o8 := hs4.k o8; have o46 := hs4.k o46; have o9 := hs4.k o9
   have T := T.trans hs4
   have S := S.kp ((Kp.refl [] _).drew.trans k4 (by simp))
   refine rblk_r14 w0 j g5 _ _ v c _ (pz l) R (by omega) HA HC HM hz4 o5 o8 o9 o10 S (fun a5 W5 hs5 S => ?_)
   have hz5 := hs5.size.trans hz4; have o5 := hs5.k o5; have o8 := hs5.k o8; have o46 := hs5.k o46; have o9 := hs5.k o9; have o10 := hs5.k o10
   have T := T.trans hs5
   rw [HE] at S
   refine rblk_r11 (j + 16) hlt hz5 o8 (fun a6 hs6 o8 => ?_)
   have hz6 := hs6.size.trans hz5; have o5 := hs6.k o5; have o46 := hs6.k o46; have o9 := hs6.k o9; have o10 := hs6.k o10
   have T := T.trans hs6
   refine ⟨⟨j + 16 + 1, by omega, by omega, T.more (by decide +kernel), o8, ?_⟩, ?_⟩
   · rw [Hnx]
     exact S
   · show 64 - (intOf (a6.eval (.tmp 8))).toNat < 64 - (intOf (a1.eval (.tmp 8))).toNat
     rw [eCtr, o8.eval (by rw [hz6]; decide)]
     simp [intOf]; omega
 · obtain rfl : n = 64 := by omega
   refine wp_cond_false ((o46.eval (by rw [hz2]; decide)).trans (by rw [decide_eq_false (by omega)])) (wp_exit ?_)
   rw [pz_full (wsN_length b 64)] at S
   exact hend _ _ (T.more (by decide +kernel)) S
theorem rblk_l3 {Q : Exit → Act → World → Prop} {a : Act} {w0 w : World} (st ws : List Nat) (hst : Ws st) (hsl : st.length = 8) (hwl : ws.length = 64) (g5 : Nat) (R : List Res) (hsz : a.tmps.size = 209)
 (o5 : Sl a 5 (.pointer (some ⟨g5, 0, none⟩))) (o19 : Sl a 19 (.int .i64 ((0 : Nat) : Int))) (o11 : Sl a 11 (.int .u32 ((st.getD 0 0 : Nat) : Int))) (o12 : Sl a 12 (.int .u32 ((st.getD 1 0 : Nat) : Int))) (o13 : Sl a 13 (.int .u32 ((st.getD 2 0 : Nat) : Int))) (o14 : Sl a 14 (.int .u32 ((st.getD 3 0 : Nat) : Int))) (o15 : Sl a 15 (.int .u32 ((st.getD 4 0 : Nat) : Int))) (o16 : Sl a 16 (.int .u32 ((st.getD 5 0 : Nat) : Int))) (o17 : Sl a 17 (.int .u32 ((st.getD 6 0 : Nat) : Int))) (o18 : Sl a 18 (.int .u32 ((st.getD 7 0 : Nat) : Int)))
 (S : Held w0 w (blkR g5 144 (u32A ws) :: R))
 (hend : ∀ a' W, Same a a' dsR3 → Sl a' 11 (.int .u32 (((rnds st ws 64).getD 0 0 : Nat) : Int)) → Sl a' 12 (.int .u32 (((rnds st ws 64).getD 1 0 : Nat) : Int)) → Sl a' 13 (.int .u32 (((rnds st ws 64).getD 2 0 : Nat) : Int)) → Sl a' 14 (.int .u32 (((rnds st ws 64).getD 3 0 : Nat) : Int)) → Sl a' 15 (.int .u32 (((rnds st ws 64).getD 4 0 : Nat) : Int)) → Sl a' 16 (.int .u32 (((rnds st ws 64).getD 5 0 : Nat) : Int)) → Sl a' 17 (.int .u32 (((rnds st ws 64).getD 6 0 : Nat) : Int)) → Sl a' 18 (.int .u32 (((rnds st ws 64).getD 7 0 : Nat) : Int)) → Held w0 W (blkR g5 144 (u32A ws) :: R) → Q .normal a' W) :
 (Code.block 6 (blockOf 6 Tryd.f86)).wp Tryd.prog Q a w := by
 refine wp_block ?_
 (conv => arg 2; whnf)
 refine wp_loop (fun a' w' => ∃ k : Nat, k ≤ 64 ∧ Same a a' dsR3 ∧ Sl a' 19 (.int .i64 (k : Int)) ∧ (Sl a' 11 (.int .u32 (((rnds st ws k).getD 0 0 : Nat) : Int)) ∧ Sl a' 12 (.int .u32 (((rnds st ws k).getD 1 0 : Nat) : Int)) ∧ Sl a' 13 (.int .u32 (((rnds st ws k).getD 2 0 : Nat) : Int)) ∧ Sl a' 14 (.int .u32 (((rnds st ws k).getD 3 0 : Nat) : Int)) ∧ Sl a' 15 (.int .u32 (((rnds st ws k).getD 4 0 : Nat) : Int)) ∧ Sl a' 16 (.int .u32 (((rnds st ws k).getD 5 0 : Nat) : Int)) ∧ Sl a' 17 (.int .u32 (((rnds st ws k).getD 6 0 : Nat) : Int)) ∧ Sl a' 18 (.int .u32 (((rnds st ws k).getD 7 0 : Nat) : Int))) ∧ Held w0 w' (blkR g5 144 (u32A ws) :: R)) (fun a' _ => 64 - (intOf (a'.eval (.tmp 19))).toNat) ⟨0, by omega, Same.refl _ _, o19, ⟨o11, o12, o13, o14, o15, o16, o17, o18⟩, S⟩ ?_
 clear o19 S o11 o12 o13 o14 o15 o16 o17 o18
 rintro a1 w1 ⟨k, hk, T, o19, ⟨o11, o12, o13, o14, o15, o16, o17, o18⟩, S⟩
 have o5 := T.keep 5 _ (by decide) o5
 have hz1 := T.size.trans hsz
 have eCtr := o19.eval (by rw [hz1]; decide)
 refine wp_seq (wp_seq (rblk_r17 k hz1 o19 (fun a2 hs2 o115 => ?_)))
 have hz2 := hs2.size.trans hz1; have o5 := hs2.k o5; have o11 := hs2.k o11; have o12 := hs2.k o12; have o13 := hs2.k o13; have o14 := hs2.k o14; have o15 := hs2.k o15; have o16 := hs2.k o16; have o17 := hs2.k o17; have o18 := hs2.k o18; have o19 := hs2.k o19
 have T := T.trans hs2
 by_cases hlt : k < 64
 · refine wp_cond_true ((o115.eval (by rw [hz2]; decide)).trans (by rw [decide_eq_true (by omega)])) (wp_skip ?_)
   have hv := rnds_length st ws k
   have hvl := rnds_lt hst ws k
   have Hnext : rnds st ws (k + 1) = rnd (rnds st ws k) (kT.getD k 0) (ws.getD k 0) := rfl
   obtain ⟨v0, v1, v2, v3, v4, v5, v6, v7, hvv⟩ := list8 (hv.trans hsl)
   rw [hvv] at hvl Hnext o11 o12 o13 o14 o15 o16 o17 o18
   simp only [List.getD_cons_zero, List.getD_cons_succ] at o11 o12 o13 o14 o15 o16 o17 o18
   have HWt : ∀ W, Kp [] w1 W → ∀ V, Kp [] W V → V.cell? ⟨g5, k, none⟩ = some (.int .u32 ((ws.getD k 0 : Nat) : Int)) := fun W k1 V k2 => u32_cell ((S.at_ (l1 := [])).kp (k1.trans k2 (by simp)) (by simp)) k _ (getD_at (by rw [hwl]; exact hlt))
   have HK : ∀ V, Calls Tryd.prog 101 #[.int .i64 (k : Int)] V fun e w' => e = .returned (.int .u32 ((kT.getD k 0 : Nat) : Int)) ∧ Kp [] V w' := fun V => rk_any k hlt V
   generalize kT.getD k 0 = kk at *
   generalize ws.getD k 0 = wk at *
   refine wp_seq (wp_block ?_)
   refine wp_seq (rblk_r19 k g5 kk wk v4 v5 v6 v7 (hvl _ (by simp)) (hvl _ (by simp)) (hvl _ (by simp)) hlt (Lib.hid HK) (Lib.hid (HWt w1 kR)) hz2 o5 o15 o16 o17 o18 o19 (fun a3 W3 hs3 k3 o20 => ?_))
   have hz3 := hs3.size.trans hz2; have o5 := hs3.k o5; have o11 := hs3.k o11; have o12 := hs3.k o12; have o13 := hs3.k o13; have o14 := hs3.k o14; have o15 := hs3.k o15; have o16 := hs3.k o16; have o17 := hs3.k o17; have o18 := hs3.k o18; have o19 := hs3.k o19; have o115 := hs3.k o115
   have T := T.trans hs3
   have S := S.kp ((Kp.refl [] _).drew.trans k3 (by simp))
   refine wp_seq (rblk_r20 v0 v1 v2 (Lib.hid (hvl _ (by simp))) (Lib.hid (hvl _ (by simp))) (Lib.hid (hvl _ (by simp))) hz3 o11 o12 o13 (fun a4 W4 hs4 o21 k4 => ?_))
   have hz4 := hs4.size.trans hz3; have o5 := hs4.k o5; have o11 := hs4.k o11; have o12 := hs4.k o12; have o13 := hs4.k o13; have o14 := hs4.k o14; have o15 := hs4.k o15; have o16 := hs4.k o16; have o17 := hs4.k o17; have o18 := hs4.k o18; have o19 := hs4.k o19; have o115 := hs4.k o115; have o20 := hs4.k o20
   have T := T.trans hs4
   have S := S.kp k4
   refine wp_seq (rblk_r21 v4 v5 v6 hz4 o15 o16 o17 (fun a5 hs5 o16 o17 o18 => ?_))
   have hz5 := hs5.size.trans hz4; have o5 := hs5.k o5; have o11 := hs5.k o11; have o12 := hs5.k o12; have o13 := hs5.k o13; have o14 := hs5.k o14; have o15 := hs5.k o15; have o19 := hs5.k o19; have o115 := hs5.k o115; have o20 := hs5.k o20; have o21 := hs5.k o21
   have T := T.trans hs5
   refine wp_seq (rblk_r22 v3 _ hz5 o14 o20 (fun a6 hs6 o15 => ?_))
   have hz6 := hs6.size.trans hz5; have o5 := hs6.k o5; have o11 := hs6.k o11; have o12 := hs6.k o12; have o13 := hs6.k o13; have o14 := hs6.k o14; have o16 := hs6.k o16; have o17 := hs6.k o17; have o18 := hs6.k o18; have o19 := hs6.k o19; have o115 := hs6.k o115; have o20 := hs6.k o20; have o21 := hs6.k o21
   have T := T.trans hs6
   refine wp_seq (rblk_r23 v0 v1 v2 hz6 o11 o12 o13 (fun a7 hs7 o12 o13 o14 => ?_))
   have hz7 := hs7.size.trans hz6; have o5 := hs7.k o5; have o11 := hs7.k o11; have o15 := hs7.k o15; have o16 := hs7.k o16; have o17 := hs7.k o17; have o18 := hs7.k o18; have o19 := hs7.k o19; have o115 := hs7.k o115; have o20 := hs7.k o20; have o21 := hs7.k o21
   have T := T.trans hs7
   refine rblk_r24 _ _ hz7 o20 o21 (fun a8 hs8 o11 => ?_)
   have hz8 := hs8.size.trans hz7; have o5 := hs8.k o5; have o12 := hs8.k o12; have o13 := hs8.k o13; have o14 := hs8.k o14; have o15 := hs8.k o15; have o16 := hs8.k o16; have o17 := hs8.k o17; have o18 := hs8.k o18; have o19 := hs8.k o19; have o115 := hs8.k o115; have o20 := hs8.k o20; have o21 := hs8.k o21
   have T := T.trans hs8
   refine rblk_r18 k hlt hz8 o19 (fun a9 hs9 o19 => ?_)
   have hz9 := hs9.size.trans hz8; have o5 := hs9.k o5; have o11 := hs9.k o11; have o12 := hs9.k o12; have o13 := hs9.k o13; have o14 := hs9.k o14; have o15 := hs9.k o15; have o16 := hs9.k o16; have o17 := hs9.k o17; have o18 := hs9.k o18; have o115 := hs9.k o115; have o20 := hs9.k o20; have o21 := hs9.k o21
   have T := T.trans hs9
   refine ⟨⟨k + 1, by omega, T.more (by decide +kernel), o19, ?_, S⟩, ?_⟩
   · rw [Hnext]
     exact ⟨o11, o12, o13, o14, o15, o16, o17, o18⟩
   · show 64 - (intOf (a9.eval (.tmp 19))).toNat < 64 - (intOf (a1.eval (.tmp 19))).toNat
     rw [eCtr, o19.eval (by rw [hz9]; decide)]
     simp [intOf]; omega
 · obtain rfl : k = 64 := by omega
   refine wp_cond_false ((o115.eval (by rw [hz2]; decide)).trans (by rw [decide_eq_false (by omega)])) (wp_exit ?_)
   exact hend _ _ (T.more (by decide +kernel)) o11 o12 o13 o14 o15 o16 o17 o18 S
theorem rblock_any (st : List Nat) (hst : Ws st) (hsl : st.length = 8) (b : List UInt8) (hbl : b.length = 64) (v : Value) (w : World) (hv : Rd w 1 v 64 (bv b)) : Calls Tryd.prog 86 #[.agg (u32A st), v] w fun e w' => e = .returned (.agg (u32A (blkF st b))) ∧ Kp [] w w' := by
 obtain ⟨hl, A, cb, rfl, h1, h2, hA, hc⟩ := id hv
 rcases A with _ | ad
 · have := hA rfl; omega
 have HB : ∀ V, Kp [] w V → ∀ j, j < 64 → V.cell? (ad.add j) = some (.int .u8 ((b.getD j 0).toNat : Int)) := fun V kk j hj => by
  obtain ⟨_, A', c', he, _, _, _, hc'⟩ := rd_old hv kk
  cases he
  refine hc' ad rfl j _ ?_
  rw [bv_get, List.getD_eq_getElem?_getD, List.getElem?_eq_getElem (by omega)]
  rfl
 refine calls_fr Tryd.func86 rfl 209 rfl (fun a0 hsz hdf hAr => ?_)
 have hz0 : a0.tmps.size = 209 := hsz
 have o0 := hAr 0 _ rfl
 have o1 := hAr 1 _ rfl
 have D := hdf
 refine wp_seq (rblk_r0 w st [] (Held.start w) hz0 o0 (fun a1 w1 hs1 h => ?_))
 have hz1 := hs1.size.trans hz0; have o0 := hs1.k o0; have o1 := hs1.k o1; have D := hs1.defers.trans D
 obtain ⟨g2, g4, o2, o4, S⟩ := h
 refine wp_seq (rblk_r1 w _ S hz1 (fun a2 w2 hs2 h => ?_))
 have hz2 := hs2.size.trans hz1; have o1 := hs2.k o1; have o2 := hs2.k o2; have o4 := hs2.k o4; have D := hs2.defers.trans D
 obtain ⟨g5, o5, S⟩ := h
 refine wp_seq (wp_seq (rblk_r2 hz2 (fun a3 hs3 o6 => ?_)))
 have hz3 := hs3.size.trans hz2; have o1 := hs3.k o1; have o2 := hs3.k o2; have o4 := hs3.k o4; have o5 := hs3.k o5; have D := hs3.defers.trans D
 refine rblk_l1 b 64 cb ad (by omega) (by omega) HB g5 _ hz3 o1 o5 o6 S (fun a4 w4 hs4 S => ?_)
 have hz4 := hs4.size.trans hz3; have o2 := hs4.k o2; have o4 := hs4.k o4; have o5 := hs4.k o5; have D := hs4.defers.trans D
 refine wp_seq (wp_seq (rblk_r9 hz4 (fun a5 hs5 o8 => ?_)))
 have hz5 := hs5.size.trans hz4; have o2 := hs5.k o2; have o4 := hs5.k o4; have o5 := hs5.k o5; have D := hs5.defers.trans D
 refine rblk_l2 b g5 _ hz5 o5 o8 S (fun a6 w6 hs6 S => ?_)
 have hz6 := hs6.size.trans hz5; have o2 := hs6.k o2; have o4 := hs6.k o4; have o5 := hs6.k o5; have D := hs6.defers.trans D
 obtain ⟨s0, s1, s2, s3, s4, s5, s6, s7, hss⟩ := list8 hsl
 have hst' := hst
 rw [hss] at S
 refine wp_seq (rblk_r15 g2 s0 s1 s2 s3 s4 s5 s6 s7 (Lib.hid (fun V kk i x h => u32_cell ((S.at_ (l1 := [_, _])).kp kk (by simp)) i x h)) hz6 o2 (fun a7 w7 hs7 k7 o11 o12 o13 o14 o15 o16 o17 o18 => ?_))
 have hz7 := hs7.size.trans hz6; have o2 := hs7.k o2; have o4 := hs7.k o4; have o5 := hs7.k o5; have D := hs7.defers.trans D
 have S := S.kp ((Kp.refl [] _).drew.trans k7 (by simp))
 refine wp_seq (wp_seq (rblk_r16 hz7 (fun a8 hs8 o19 => ?_)))
 have hz8 := hs8.size.trans hz7; have o2 := hs8.k o2; have o4 := hs8.k o4; have o5 := hs8.k o5; have o11 := hs8.k o11; have o12 := hs8.k o12; have o13 := hs8.k o13; have o14 := hs8.k o14; have o15 := hs8.k o15; have o16 := hs8.k o16; have o17 := hs8.k o17; have o18 := hs8.k o18; have D := hs8.defers.trans D
 rw [← hss] at S
 refine rblk_l3 st (wsN b 64) hst hsl (wsN_length b 64) g5 _ hz8 o5 o19 (by rw [hss]; exact o11) (by rw [hss]; exact o12) (by rw [hss]; exact o13) (by rw [hss]; exact o14) (by rw [hss]; exact o15) (by rw [hss]; exact o16) (by rw [hss]; exact o17) (by rw [hss]; exact o18) S (fun a9 w9 hs9 o11 o12 o13 o14 o15 o16 o17 o18 S => ?_)
 have hz9 := hs9.size.trans hz8; have o2 := hs9.k o2; have o4 := hs9.k o4; have o5 := hs9.k o5; have D := hs9.defers.trans D
 have hrl := (rnds_length st (wsN b 64) 64).trans hsl
 have hblk : blkF st b = List.zipWith (fun x y => (x + y) % 4294967296) (rnds st (wsN b 64) 64) st := rfl
 obtain ⟨v0, v1, v2, v3, v4, v5, v6, v7, hvv⟩ := list8 hrl
 rw [hvv] at o11 o12 o13 o14 o15 o16 o17 o18 hblk
 simp only [List.getD_cons_zero, List.getD_cons_succ] at o11 o12 o13 o14 o15 o16 o17 o18
 rw [hss] at S hblk
 have S := S.perm (List.Perm.swap _ _ _)
 refine wp_seq (rblk_r25 w g2 g4 s0 s1 s2 s3 s4 s5 s6 s7 v0 v1 v2 v3 v4 v5 v6 v7 (List.replicate 8 0) rfl [_] _ S hz9 o2 o4 o11 o12 o13 o14 o15 o16 o17 o18 (fun a10 w10 hs10 S => ?_))
 have hz10 := hs10.size.trans hz9; have o2 := hs10.k o2; have o4 := hs10.k o4; have o5 := hs10.k o5; have o11 := hs10.k o11; have o12 := hs10.k o12; have o13 := hs10.k o13; have o14 := hs10.k o14; have o15 := hs10.k o15; have o16 := hs10.k o16; have o17 := hs10.k o17; have o18 := hs10.k o18; have D := hs10.defers.trans D
 have hfin : [(s0 + v0) % 4294967296, (s1 + v1) % 4294967296, (s2 + v2) % 4294967296, (s3 + v3) % 4294967296, (s4 + v4) % 4294967296, (s5 + v5) % 4294967296, (s6 + v6) % 4294967296, (s7 + v7) % 4294967296] = blkF st b := by
  rw [hss, hblk]
  simp only [List.zipWith_cons_cons, List.zipWith_nil_left, Nat.add_comm]
 rw [hfin] at S
 refine wp_ret (bodyPost_ret (results_cell1 (by rfl) (o4.eval (by rw [hz10]; decide)) (S.at_ (l1 := [])) Tryd.underlying111 rfl (by rw [u32A_size, blkF_length, hsl]; exact Tryd.info8w)) D ⟨rfl, S.k⟩)
end
/- The reference's Take, End, Sum. -/
section
variable {Q : Exit → Act → World → Prop} {a : Act} {w : World}
open Go.RowKit
theorem rtk_r0 (w0 : World) (st : List Nat) (n : Nat) (v : Value) (hs : st.length = 8) (hv : v.oneCell' = true) (L : List Res) (S : Held w0 w L) (hsz : a.tmps.size = 31) (o0 : Sl a 0 (.agg (undA st n v)))
 (hend : ∀ a' W, Same a a' [2, 4] → (∃ g2 g4, Sl a' 2 (.pointer (some ⟨g2, 0, none⟩)) ∧ Sl a' 4 (.pointer (some ⟨g4, 0, none⟩)) ∧ Held w0 W (blkR g4 113 (undA (List.replicate 8 0) 0 (.slice none 0 0)) :: blkR g2 113 (undA st n v) :: L)) → Q .normal a' W) : (Code.region 0 (opsOf 0 Tryd.f67).toArray false).wp Tryd.prog Q a w := by
 refine wp_region_lit ?_
 (conv => arg 4; whnf)
 unfold Sl at o0
 have S0 := Lib.hid ((S.newBlk 113 (undA st n v)).newBlk 113 (undA (List.replicate 8 0) 0 (.slice none 0 0)))
 simp only [World.size_alloc] at S0
 generalize hca : undA st n v = ca at *
 go_wp2
 try simp only [Act.put]
 exact hend _ _ sS (⟨w.heap.size, w.heap.size + 1, sP0, sP0, S0.out⟩)
theorem rtk_r1 (w0 : World) (g2 n : Nat) (st : List Nat) (hs : st.length = 8) (Ar Ax : Option Addr) (cr cx : Nat) (r l : List UInt8) (hl : r.length + l.length ≤ 140737488355328) (L : List Res) (HRr : ∀ V L', Held w0 V (L' ++ blkR g2 113 (undA st n (.slice Ar r.length cr)) :: L) → Rd V 1 (.slice Ar r.length cr) r.length (bv r)) (HRx : ∀ V L', Held w0 V (L' ++ blkR g2 113 (undA st n (.slice Ar r.length cr)) :: L) → Rd V 1 (.slice Ax l.length cx) l.length (bv l)) (S : Held w0 w (blkR g2 113 (undA st n (.slice Ar r.length cr)) :: L)) (hsz : a.tmps.size = 31) (o1 : Sl a 1 (.slice Ax l.length cx)) (o2 : Sl a 2 (.pointer (some ⟨g2, 0, none⟩)))
 (hend : ∀ a' W, Same a a' [6, 7, 8, 9, 10, 5] → (∃ A c, Sl a' 5 (.slice A (r ++ l).length c) ∧ Held w0 W (rowR 5 1 (.slice A (r ++ l).length c) (r ++ l).length (bv (r ++ l)) :: blkR g2 113 (undA st n (.slice Ar r.length cr)) :: L)) → Q .normal a' W) : (Code.region 1 (opsOf 1 Tryd.f67).toArray false).wp Tryd.prog Q a w := by
 refine wp_region_lit ?_
 (conv => arg 4; whnf)
 unfold Sl at o1 o2
 have c9 : w.cell? ⟨g2, 9, none⟩ = some (.slice Ar r.length cr) := by rw [(S.at_ (l1 := [])).cell]; exact undA_rest hs
 have S := Lib.hid S
 have HRr := Lib.hid HRr
 have HRx := Lib.hid HRx
 have Hl := Lib.hid hl
 clear hl hs
 obtain ⟨nr, hnr⟩ : ∃ nr, r.length = nr := ⟨_, rfl⟩
 obtain ⟨nl, hnl⟩ : ∃ nl, l.length = nl := ⟨_, rfl⟩
 have Hnr := Lib.hid hnr
 have Hnl := Lib.hid hnl
 rw [hnr] at c9
 rw [hnl] at o1
 clear hnr hnl
 go_wp2_with (at_builtin; first
  | (refine app_new rfl (.const (.slice none 0 0)) (.tmp 7) rfl rfl S.out (.slice Ar nr cr) r (by simp [Act.eval, hsz]) (by rw [← Hnr.out]; exact HRr.out w [] S.out) (by have := Hl.out; omega) ?_; intro v1 w1 S1; have S1 := Lib.hid S1; obtain ⟨A1, c1, hv1, _, _⟩ := ow_form (S1.out.at_ (l1 := [])); subst hv1)
  | (refine app_held [] rfl (.tmp 8) (.tmp 9) rfl (.slice A1 r.length c1) r (by simp [Act.eval, hsz]) S1.out (.slice Ax nl cx) l (by simp [Act.eval, hsz]) (by rw [← Hnl.out]; exact HRx.out w1 [_] S1.out) Hl.out ?_; intro v2 w2 S2; have S2 := Lib.hid S2; obtain ⟨A2, c2, hv2, _, _⟩ := ow_form (S2.out.at_ (l1 := [])); subst hv2))
 try simp only [Act.put]
 exact hend _ _ sS (⟨A2, c2, sP0, S2.out⟩)
theorem rtk_r2 (A : Option Addr) (n c : Nat) (hsz : a.tmps.size = 31) (o5 : Sl a 5 (.slice A n c))
 (hend : ∀ a', Same a a' [11, 12, 13] → Sl a' 13 (.bool (decide (64 ≤ n))) → Q .normal a' (w)) : (Code.region 2 (opsOf 2 Tryd.f67).toArray false).wp Tryd.prog Q a w := by
 refine wp_region_lit ?_
 (conv => arg 4; whnf)
 unfold Sl at o5
 go_wp2_with fail
 try simp only [Act.put]
 exact hend _ sS sP
theorem rtk_r4 (A A1 : Option Addr) (n m c c1 : Nat) (hr : ∀ w, (Instr.sliceAt 22 (.slice A n c) (some (.int .i64 (64 : Int))) none none).run Tryd.prog w = .ok (.slice A1 m c1) w) (hsz : a.tmps.size = 31) (o5 : Sl a 5 (.slice A n c))
 (hend : ∀ a', Same a a' [20, 21, 5] → Sl a' 5 (.slice A1 m c1) → Q .normal a' (w)) : (Code.region 4 (opsOf 4 Tryd.f67).toArray false).wp Tryd.prog Q a w := by
 refine wp_region_lit ?_
 (conv => arg 4; whnf)
 unfold Sl at o5
 go_wp2_with fail
 try simp only [Act.put]
 exact hend _ sS sP
theorem rtk_r5 (w0 : World) (g2 n k c : Nat) (A : Option Addr) (st : List Nat) (v : Value) (hs : st.length = 8) (hn : n + k < 9223372036854775808) (L : List Res) (S : Held w0 w (blkR g2 113 (undA st n v) :: L)) (hsz : a.tmps.size = 31) (o1 : Sl a 1 (.slice A k c)) (o2 : Sl a 2 (.pointer (some ⟨g2, 0, none⟩)))
 (hend : ∀ a' W, Same a a' [22, 23, 24, 25, 26, 27] → (Held w0 W (blkR g2 113 (undA st (n + k) v) :: L)) → Q .normal a' W) : (Code.region 5 (opsOf 5 Tryd.f67).toArray false).wp Tryd.prog Q a w := by
 refine wp_region_lit ?_
 (conv => arg 4; whnf)
 unfold Sl at o1 o2
 have c1 : w.cell? ⟨g2, 8, none⟩ = some (.int .i64 (n : Int)) := by rw [(S.at_ (l1 := [])).cell]; exact undA_len hs
 have c2 := (S.at_ (l1 := [])).frozen 8
 have S2 : Hid (Held w0 (w.setCell ⟨g2, 8, none⟩ (.int .i64 ((n + k : Nat) : Int))) _) := Lib.hid (S.set (l1 := []) 8 (.int .i64 ((n + k : Nat) : Int)))
 rw [undA_setLen hs] at S2
 have hw := Lib.hid (show wrap64 ((n : Int) + (k : Int)) = ((n + k : Nat) : Int) from by unfold wrap64; omega)
 clear S hs hn
 go_wp2
 rw [hw.out]
 try simp only [Act.put]
 exact hend _ _ sS (S2.out)
theorem rtk_r6 (w0 : World) (g2 n m c : Nat) (A : Option Addr) (st : List Nat) (v : Value) (hs : st.length = 8) (L : List Res) (S : Held w0 w (blkR g2 113 (undA st n v) :: L)) (hsz : a.tmps.size = 31) (o2 : Sl a 2 (.pointer (some ⟨g2, 0, none⟩))) (o5 : Sl a 5 (.slice A m c))
 (hend : ∀ a' W, Same a a' [28, 29] → (Held w0 W (blkR g2 113 (undA st n (.slice A m c)) :: L)) → Q .normal a' W) : (Code.region 6 (opsOf 6 Tryd.f67).toArray false).wp Tryd.prog Q a w := by
 refine wp_region_lit ?_
 (conv => arg 4; whnf)
 unfold Sl at o2 o5
 have c1 : w.cell? ⟨g2, 9, none⟩ = some v := by rw [(S.at_ (l1 := [])).cell]; exact undA_rest hs
 have c2 := (S.at_ (l1 := [])).frozen 9
 have S2 : Hid (Held w0 (w.setCell ⟨g2, 9, none⟩ (.slice A m c)) _) := Lib.hid (S.set (l1 := []) 9 (.slice A m c))
 rw [undA_setRest hs] at S2
 clear S hs
 go_wp2
 try simp only [Act.put]
 exact hend _ _ sS (S2.out)
theorem rtk_r7 (w0 : World) (g2 g4 n m c : Nat) (A : Option Addr) (st : List Nat) (hs : st.length = 8) (L1 L2 : List Res) (S : Held w0 w (blkR g2 113 (undA st n (.slice A m c)) :: (L1 ++ blkR g4 113 (undA (List.replicate 8 0) 0 (.slice none 0 0)) :: L2))) (hsz : a.tmps.size = 31) (o2 : Sl a 2 (.pointer (some ⟨g2, 0, none⟩))) (o4 : Sl a 4 (.pointer (some ⟨g4, 0, none⟩)))
 (hend : ∀ a' W, Same a a' [30] → (Held w0 W (blkR g2 113 (undA st n (.slice A m c)) :: (L1 ++ blkR g4 113 (undA st n (.slice A m c)) :: L2))) → Q .normal a' W) : (Code.region 7 (opsOf 7 Tryd.f67).toArray false).wp Tryd.prog Q a w := by
 refine wp_region_lit ?_
 (conv => arg 4; whnf)
 unfold Sl at o2 o4
 have S := Lib.hid S
 have hz := Lib.hid (undA_size (n := n) (v := .slice A m c) hs)
 have hO := Lib.hid (undA_one (st := st) (n := n) (v := .slice A m c) rfl)
 obtain ⟨ch, hch⟩ : ∃ ch, Hid (undA st n (.slice A m c) = ch) := ⟨_, Lib.hid rfl⟩
 rw [hch.out] at S hz hO
 clear hs
 go_wp2_with (first
  | (refine wpList_load_blk rfl 113 (.tmp 2) rfl g2 (by simp [Act.eval, Act.put, hsz, o2]) 113 _ (S.out.at_ (l1 := [])) _ Tryd.underlying113 rfl (by rw [hz.out]; exact Tryd.infoUnder) ?_)
  | (refine wpList_store_blk rfl 113 (.tmp 4) (.tmp 30) rfl g4 (by simp [Act.eval, Act.put, hsz, o4]) ch (by simp [Act.eval, Act.put, hsz]) 113 _ (S.out.at_ (l1 := _ :: L1)) (by rw [hz.out]; exact Tryd.infoUnder) (by rw [hz.out]; rfl) hO.out ?_; intro w7 b7 k7; have S7 := Lib.hid (Held.setBlk (l1 := _ :: L1) S.out b7 k7); clear b7 k7))
 rw [← hch.out] at S7
 try simp only [Act.put]
 exact hend _ _ sS (S7.out)
theorem rtk_r3 (w0 : World) (g2 n m c c1 : Nat) (A A1 : Option Addr) (st : List Nat) (v : Value) (b : List UInt8) (hs : st.length = 8) (hst : Ws st) (hb : b.length = 64) (hr : ∀ w, (Instr.sliceAt 22 (.slice A m c) none (some (.int .i64 (64 : Int))) none).run Tryd.prog w = .ok (.slice A1 64 c1) w) (L : List Res) (r0 : Res) (hr0 : r0 ∈ L) (HB : ∀ V, r0.ok V → Rd V 1 (.slice A1 64 c1) 64 (bv b)) (hsz : a.tmps.size = 31) (o2 : Sl a 2 (.pointer (some ⟨g2, 0, none⟩))) (o5 : Sl a 5 (.slice A m c))
 (S0 : Held w0 w (blkR g2 113 (undA st n v) :: L))
 (hend : ∀ a' W, Same a a' [14, 15, 16, 17, 18, 19] → Held w0 W (blkR g2 113 (undA (blkF st b) n v) :: L) → Q .normal a' W) : (Code.region 3 (opsOf 3 Tryd.f67).toArray true).wp Tryd.prog Q a w := by
 have hap : apartB (opsOf 3 Tryd.f67) = true := by kernel_rfl
 refine wp_region_sep (Γ := Unit) (l := (opsOf 3 Tryd.f67)) 3 [0, 1, 2, 3, 4, 5, 6, 7, 9]
  (fun i vs gs => match i with | 0 => vs 0 = .pointer (some ⟨g2, 0, none⟩) | 1 => vs 1 = .agg (u32A st) | 2 => vs 2 = .slice A m c | 3 => vs 3 = .slice A1 64 c1 | 4 => vs 4 = .agg (u32A (blkF st b)) | 5 => vs 5 = .pointer (some ⟨g2, 0, none⟩) | _ => True)
  (fun i vs gs => match i with | 6 => [blkR g2 113 (undA (blkF st b) n v)] | 8 => [blkR g2 113 (undA st n v)] | 9 => L | _ => [])
  (fun i => match i with | 6 => [8] | _ => []) (fun i => match i with | 1 => [8] | 4 => [8, 9] | _ => []) S0 (by kernel_rfl) hap (by kernel_rfl) (by kernel_rfl) (fun i => match i with | 0 => [0] | 1 => [1] | 2 => [2] | 3 => [3] | 4 => [4] | 5 => [5] | _ => []) (by kernel_rfl) ?_ (by kernel_rfl) ?_ ?_ ?_
 · intro s vs vs' gs gs' h
   iterate 10 (rcases s with _ | s; · (first | exact ⟨rfl, id⟩ | (simp only [List.mem_cons, List.not_mem_nil, or_false, forall_eq] at h; simp [h])))
   exact ⟨rfl, id⟩
 · simp only [List.range, List.range.loop, List.flatMap_cons, List.flatMap_nil, List.append_nil]
   exact List.Perm.refl _
 · clear S0 hend
   refine ⟨?_, ?_, ?_, ?_, ?_, ?_, ?_, trivial⟩
   · intro vs gs A' W LF hA S hR hd hu K hK; replace hK := hK default; have e2 := sO 2 o2 hA hap hsz; clear hA o2 o5; go_step; exact hK _ _ S rfl
   · intro vs gs A' W LF hA S hR hd hu K hK; replace hK := hK default; have e14 := sV 14 (hd 0 (by kernel_rfl)) hA hap hsz; clear hA o2 o5
     refine op_runs (v := .agg (u32A st)) (w' := W) (exec_load rfl (by simpa [Act.eval] using e14) (run_loadAt_agg W ⟨g2, 0, none⟩ 111 (u32A st).toList _ (und_stateAt (show Blk W g2 113 (undA st n v) from S.ok (blkR g2 113 (undA st n v)) (hR 8 (List.mem_singleton.2 rfl) _ (List.mem_singleton.2 rfl))) hs) Tryd.underlying111 rfl (by rw [Array.length_toList, u32A_size, hs]; exact Tryd.info8w))) ?_
     exact hK _ _ S rfl
   · intro vs gs A' W LF hA S hR hd hu K hK; replace hK := hK default; have e5 := sO 5 o5 hA hap hsz; clear hA o2 o5; go_step; exact hK _ _ S rfl
   · intro vs gs A' W LF hA S hR hd hu K hK; replace hK := hK default; have e16 := sV 16 (hd 2 (by kernel_rfl)) hA hap hsz; clear hA o2 o5
     have hr := hr W
     go_step; exact hK _ _ S rfl
   · intro vs gs A' W LF hA S hR hd hu K hK; replace hK := hK default; have e15 := sV 15 (hd 1 (by kernel_rfl)) hA hap hsz; have e17 := sV 17 (hd 3 (by kernel_rfl)) hA hap hsz; clear hA o2 o5
     generalize hca : u32A st = ca at *
     go_step
     rw [← hca]
     refine (rblock_any st hst hs b hb _ _ (HB W (S.ok r0 (hR 9 (List.mem_cons_of_mem _ (List.mem_singleton.2 rfl)) r0 hr0)))).mono ?_
     rintro e w' ⟨rfl, kq⟩
     exact hK _ _ (S.kp kq) rfl
   · intro vs gs A' W LF hA S hR hd hu K hK; replace hK := hK default; have e2 := sO 2 o2 hA hap hsz; clear hA o2 o5; go_step; exact hK _ _ S rfl
   · intro vs gs A' W LF hA S hR hd hu K hK; replace hK := hK default; have e19 := sV 19 (hd 5 (by kernel_rfl)) hA hap hsz; have e18 := sV 18 (hd 4 (by kernel_rfl)) hA hap hsz; clear hA o2 o5
     have S1 : Held w0 W (blkR g2 113 (undA st n v) :: LF) := S
     refine op_store_part (.tmp 19) (.tmp 18) 111 rfl g2 0 (by simpa [Act.eval] using e19) (u32A (blkF st b)) (by simpa [Act.eval] using e18) 113 _ (S1.at_ (l1 := [])) (by rw [u32A_size, blkF_length, hs]; exact Tryd.info8w) (by rw [u32A_size, blkF_length, hs, undA_size hs]; omega) (u32A_one _) (fun w' hbk k => hK undef _ ?_ trivial)
     rw [undA_state hs _ ((blkF_length _ _).trans hs)] at hbk
     exact Held.setBlk (l1 := []) S1 hbk k
 · intro vs gs W S hp
   have S : Held w0 W (blkR g2 113 (undA (blkF st b) n v) :: L) := by simpa only [List.flatMap_cons, List.flatMap_nil, List.append_nil, List.nil_append, List.cons_append, List.append_assoc] using S
   rw [putAll_eq]
   exact hend _ W sQ  S
def dsTkR : List Nat := [5, 11, 12, 13, 14, 15, 16, 17, 18, 19, 20, 21]
def TkPost (w0 : World) (L : List Res) (st : List Nat) (n : Nat) (a : List UInt8) (k : Nat) (e : Ending) (w' : World) : Prop :=
 ∃ A c v, e = .returned (.agg (undA (fB st a (a.length / 64)) (n + k) (.slice A (a.length % 64) c))) ∧ Held w0 w' (rowR 5 1 v a.length (bv a) :: L) ∧ ∀ V, (rowR 5 1 v a.length (bv a)).ok V → Rd V 1 (.slice A (a.length % 64) c) (a.length % 64) (bv (a.drop (64 * (a.length / 64))))
theorem rtake_any (w0 : World) (L : List Res) (st : List Nat) (n : Nat) (hs : st.length = 8) (hst : Ws st) (Ar Ax : Option Addr) (cr cx : Nat) (r l : List UInt8) (hl : r.length + l.length ≤ 140737488355328) (hn : n + l.length < 9223372036854775808) (w : World) (S : Held w0 w L)
 (HRr : ∀ V L', Held w0 V (L' ++ L) → Rd V 1 (.slice Ar r.length cr) r.length (bv r)) (HRx : ∀ V L', Held w0 V (L' ++ L) → Rd V 1 (.slice Ax l.length cx) l.length (bv l)) :
 Calls Tryd.prog 67 #[.agg (undA st n (.slice Ar r.length cr)), .slice Ax l.length cx] w (TkPost w0 L st n (r ++ l) l.length) := by
 refine calls_fr Tryd.func67 rfl 31 rfl (fun a0 hsz hdf hAr => ?_)
 have hz0 : a0.tmps.size = 31 := hsz
 have D := hdf
 have o0 := hAr 0 _ rfl
 have o1 := hAr 1 _ rfl
 refine wp_seq (rtk_r0 w0 st n (.slice Ar r.length cr) hs rfl _ S hz0 o0 (fun a1 w1 hs1 h => ?_))
 have hz1 := hs1.size.trans hz0; have o1 := hs1.k o1; have D := hs1.defers.trans D
 obtain ⟨g2, g4, o2, o4, S⟩ := h
 have S := S.perm (List.Perm.swap _ _ _)
 refine wp_seq (rtk_r1 w0 g2 n st hs Ar Ax cr cx r l hl (blkR g4 113 (undA (List.replicate 8 0) 0 (.slice none 0 0)) :: L) (fun V L' SV => HRr V (L' ++ [_, _]) (by rw [List.append_assoc]; exact SV)) (fun V L' SV => HRx V (L' ++ [_, _]) (by rw [List.append_assoc]; exact SV)) S hz1 o1 o2 (fun a2 w2 hs2 h => ?_))
 have hz2 := hs2.size.trans hz1; have o1 := hs2.k o1; have o2 := hs2.k o2; have o4 := hs2.k o4; have D := hs2.defers.trans D
 obtain ⟨A0, c0, o5, S⟩ := h
 have S := S.perm (List.Perm.swap _ _ _)
 obtain ⟨al, hal⟩ : ∃ al, r ++ l = al := ⟨_, rfl⟩
 rw [hal] at S o5 ⊢
 obtain ⟨N, hN⟩ : ∃ N, al.length = N := ⟨_, rfl⟩
 obtain ⟨row, hrow⟩ : ∃ row, rowR 5 1 (.slice A0 al.length c0) al.length (bv al) = row := ⟨_, rfl⟩
 have hR0 : ∀ V, row.ok V → Rd V 1 (.slice A0 al.length c0) al.length (bv al) := fun V h => by rw [← hrow] at h; exact Rd.of_own h
 rw [hrow] at S
 refine wp_seq (wp_block ?_)
 (conv => arg 2; whnf)
 refine wp_loop (fun a' w' => ∃ (q : Nat) (A : Option Addr) (c m : Nat), 64 * q + m = al.length ∧ Same a2 a' dsTkR ∧ Sl a' 5 (.slice A m c) ∧ (∀ V, row.ok V → Rd V 1 (.slice A m c) m (bv (al.drop (64 * q)))) ∧ Held w0 w' (blkR g2 113 (undA (fB st al q) n (.slice Ar r.length cr)) :: row :: blkR g4 113 (undA (List.replicate 8 0) 0 (.slice none 0 0)) :: L)) (fun a' _ => lenV (a'.eval (.tmp 5))) ⟨0, A0, c0, al.length, by omega, Same.refl _ _, o5, fun V h => hR0 V h, S⟩ ?_
 clear o5 S hR0
 rintro a1 w3 ⟨q, A, c, m, hm, T, o5, HB, S⟩
 have hz1 := T.size.trans hz2
 have o1 := T.keep 1 _ (by decide) o1
 have o2 := T.keep 2 _ (by decide) o2
 have o4 := T.keep 4 _ (by decide) o4
 have eCtr := o5.eval (by rw [hz1]; decide)
 refine wp_seq (wp_seq (rtk_r2 A m c hz1 o5 (fun a2 hs2 o13 => ?_)))
 have hz2 := hs2.size.trans hz1; have o1 := hs2.k o1; have o2 := hs2.k o2; have o4 := hs2.k o4; have o5 := hs2.k o5
 have T := T.trans hs2
 by_cases hlt : 64 ≤ m
 · refine wp_cond_true ((o13.eval (by rw [hz2]; decide)).trans (by rw [decide_eq_true hlt])) (wp_skip ?_)
   have hrow0 : row ∈ (row :: blkR g4 113 (undA (List.replicate 8 0) 0 (.slice none 0 0)) :: L) := List.mem_cons_self ..
   obtain ⟨hlm, A', c', he, hmc, -⟩ := HB w3 (S.ok row (List.mem_cons_of_mem _ hrow0))
   cases he
   have hdl : (al.drop (64 * q)).length = m := by rw [List.length_drop]; omega
   obtain ⟨A1, c1, run1, rd1, -⟩ := cut_hi A m c 64 64 rfl hlt hmc
   obtain ⟨A2, c2, run2, rd2, -⟩ := cut_lo A m c 64 (m - 64) 64 rfl (by omega)
   have hs' := fB_length hs al q
   have hb64 : ((al.drop (64 * q)).take 64).length = 64 := by rw [List.length_take]; omega
   refine wp_block ?_
   refine wp_seq (rtk_r3 w0 g2 n m c c1 A A1 (fB st al q) (.slice Ar r.length cr) ((al.drop (64 * q)).take 64) hs' (fB_lt hst al q) hb64 run1 _ row hrow0 (fun V hV => by have := rd1 V _ (HB V hV); simpa using this) hz2 o2 o5 S (fun a3 w4 hs3 S => ?_))
   have hz3 := hs3.size.trans hz2; have o1 := hs3.k o1; have o2 := hs3.k o2; have o4 := hs3.k o4; have o5 := hs3.k o5; have o13 := hs3.k o13
   have T := T.trans hs3
   refine rtk_r4 A A2 m (m - 64) c c2 run2 hz3 o5 (fun a4 hs4 o5 => ?_)
   have hz4 := hs4.size.trans hz3; have o1 := hs4.k o1; have o2 := hs4.k o2; have o4 := hs4.k o4; have o13 := hs4.k o13
   have T := T.trans hs4
   refine ⟨⟨q + 1, A2, c2, m - 64, by omega, T.more (by decide +kernel), o5, fun V hV => ?_, S⟩, ?_⟩
   · have := rd2 V _ (HB V hV)
     rw [List.drop_drop, List.take_of_length_le (by rw [List.length_drop]; omega)] at this
     rw [show 64 * (q + 1) = 64 * q + 64 from by omega]
     exact this
   · show lenV _ < lenV _
     rw [eCtr, o5.eval (by rw [hz4]; decide)]
     show m - 64 < m
     omega
 · refine wp_cond_false ((o13.eval (by rw [hz2]; decide)).trans (by rw [decide_eq_false hlt])) (wp_exit ?_)
   have D2 := T.defers.trans D
   have hq : q = al.length / 64 := by omega
   have hmm : m = al.length % 64 := by omega
   have hs' := fB_length hs al q
   refine wp_seq (rtk_r5 w0 g2 n l.length cx Ax _ _ hs' hn _ S hz2 o1 o2 (fun a3 w5 hs3 S => ?_))
   have hz3 := hs3.size.trans hz2; have o1 := hs3.k o1; have o2 := hs3.k o2; have o4 := hs3.k o4; have o5 := hs3.k o5
   have D2 := hs3.defers.trans D2
   refine wp_seq (rtk_r6 w0 g2 _ m c A _ _ hs' _ S hz3 o2 o5 (fun a4 w6 hs4 S => ?_))
   have hz4 := hs4.size.trans hz3; have o1 := hs4.k o1; have o2 := hs4.k o2; have o4 := hs4.k o4; have o5 := hs4.k o5
   have D2 := hs4.defers.trans D2
   refine wp_seq (rtk_r7 w0 g2 g4 _ m c A _ hs' [_] _ S hz4 o2 o4 (fun a5 w7 hs5 S => ?_))
   have hz5 := hs5.size.trans hz4; have o1 := hs5.k o1; have o2 := hs5.k o2; have o4 := hs5.k o4; have o5 := hs5.k o5
   have D2 := hs5.defers.trans D2
   refine wp_ret (bodyPost_ret (results_cell1 (by rfl) (o4.eval (by rw [hz5]; decide)) (S.at_ (l1 := [_, _])) Tryd.underlying113 rfl (by rw [undA_size hs']; exact Tryd.infoUnder)) D2 ?_)
   subst hq hmm
   refine ⟨A, c, _, rfl, ?_, fun V hV => HB V (by rw [← hrow]; exact hV)⟩
   have S := S.drop.dropAt (l1 := [_])
   rw [← hrow] at S
   exact S
end
end Go.Proofs.YtapboamjpilckaaDoor
