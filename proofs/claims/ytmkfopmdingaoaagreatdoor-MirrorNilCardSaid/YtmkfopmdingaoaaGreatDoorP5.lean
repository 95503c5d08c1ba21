/- Several texts in one: SigE, SigF, SigG, SigH, SigI, SigJ, SigN, SigO, SigP, SigQ, SigR, SigS, SigT, SigU, SigV, SigW, SigX, SigY, SigZ, SigAA, SigAB, Join, SigAC, SigAD, Ops, Make, SigAE, SigAF, SigAG, SigAH. -/
import Derived.BigQuiet
import Derived.Lib.AppendZeros
import Derived.Lib.Overlaps
import Derived.Laws.Externs
import Derived.Lib.ConvBytes
import Derived.Great.BuildSlice
import Derived.Maps.OwnOps
import Derived.Maps.OwnSet
import Derived.Maps.Views
import Derived.StringKeys
import Derived.Test.YtmkfopmdingaoaaGreatDoorP4
set_option linter.unusedVariables false
set_option linter.unusedSimpArgs false
set_option maxRecDepth 100000
set_option maxHeartbeats 8000000
namespace Go.Proofs.YtmkfopmdingaoaaGreatDoor
section
variable {Q:Exit->Act->World->Prop} {a:Act} {w:World}
open Go.RowKit
theorem rmc_r0(w0:World)(L:List Res)(S:Held w0 w L)(hsz:a.tmps.size=54):RG1 false 0 Tryz.f114 Q a w fun a' W q'=>(∃ g,Sl a' 4 (Pq g 0) ∧ Held w0 W (blkR g 23 (hashA (List.replicate 32 0)) :: L))->q':=by
 intro hend
 refine wp_region_lit ?_
 (conv=>arg 4;whnf)
 have S0:=LH (S.newBlk 23 (hashA (List.replicate 32 0)))
 go_wp2
 try simp only [Act.put]
 exact hend _ _ tS (⟨w.heap.size,sP0,S0.out⟩)
theorem rmc_r1(w0:World)(A:Option Addr)(c:Nat)(s:Bs)(hl:s.length<=140737488355328)(L:List Res)(hr:Rd w 1 (.slice A s.length c) s.length (bv s))(S:Held w0 w L)(hsz:a.tmps.size=54)(o0:Sl a 0 (.slice A s.length c)):RG1 false 1 Tryz.f114 Q a w fun a' W q'=>(∃ A c,Sl a' 5 (.slice A s.length c) ∧ Held w0 W (rowR 5 1 (.slice A (s).length c) (s).length (bv (s)) :: L))->q':=by
 intro hend
 refine wp_region_lit ?_
 (conv=>arg 4;whnf)
 unfold Sl at o0
 have S:=LH S
 have hr:=LH hr
 have hl:=LH hl
 obtain ⟨ns,hns⟩:∃ ns,s.length=ns:=⟨_,rfl⟩
 have Hns:=LH hns
 rw [hns] at o0
 clear hns
 go_wp2_with (at_builtin;refine app_new rfl (.const (.slice none 0 0)) (.tmp 11) rfl rfl S.out (.slice A ns c) s (by simp [Act.eval,hsz]) (by rw [<- Hns.out];exact hr.out) hl.out ?_;intro v1 w1 S1;have S1:=LH S1;obtain ⟨A1,c1,hv1,_,_⟩:=ow_form (S1.out.at_ (l1:=[]));subst hv1)
 try simp only [Act.put]
 exact hend _ _ tS (⟨A1,c1,sP0,S1.out⟩)
theorem rmc_r2(A:Option Addr)(n c:Nat)(hsz:a.tmps.size=54)(o5:Sl a 5 (.slice A n c)):RG0 2 Tryz.f114 Q a w fun a' q'=>Sl a' 15 (.bool (decide (64 < n)))->q':=rO
theorem rmc_r5(A:Option Addr)(n c:Nat)(hsz:a.tmps.size=54)(o5:Sl a 5 (.slice A n c)):RG0 5 Tryz.f114 Q a w fun a' q'=>Sl a' 22 (.bool (decide (n < 64)))->q':=rO
theorem rmc_r3(w0:World)(A:Option Addr)(c:Nat)(s:Bs)(hl:s.length<=140737488355328)(L:List Res)(S:Held w0 w (rowR 5 1 (.slice A (s).length c) (s).length (bv (s)) :: L))(hsz:a.tmps.size=54)(o5:Sl a 5 (.slice A s.length c)):RG1 false 3 Tryz.f114 Q a w fun a' W q'=>(∃ g,Sl a' 6 (Pq g 0) ∧ Held w0 W (blkR g 23 (hashA (shaF s)) :: rowR 5 1 (.slice A (s).length c) (s).length (bv (s)) :: L))->q':=by
 intro hend
 refine wp_region_lit ?_
 (conv=>arg 4;whnf)
 unfold Sl at o5
 have HR:=LH (rsha_any w0 _ A c s hl w S (fun V L' SV=>Rd.of_own SV.at_))
 have hO:=LH (hashA_one (shaF (s)))
 have hsz1:Hid ((hashA (shaF (s))).size=32):=LH (by rw [hashA_size,shaF_length])
 obtain ⟨ch,hch⟩:∃ ch,Hid (hashA (shaF (s))=ch):=⟨_,LH rfl⟩
 rw [hch.out] at HR hO hsz1
 obtain ⟨ns,hns⟩:∃ ns,s.length=ns:=⟨_,rfl⟩
 have Hns:=LH hns
 rw [hns] at o5 HR
 clear hns;clear S hl
 go_wp2_with fail
 refine HR.out.mono ?_
 rintro e w4 ⟨rfl,S4⟩
 have S4:=LH (S4.newBlk 23 (hashA (List.replicate 32 0)))
 rw [<- Hns.out] at S4
 go_wp2_with (refine wpList_store_blk rfl 23 (.tmp 6) (.tmp 17) rfl w4.heap.size aE ch aE 23 _ (S4.out.at_ (l1:=[])) (by rw [hsz1.out];exact Tryz.infoHashP) (by rw [hsz1.out];rfl) hO.out ?_;intro w5 b5 k5;have S5:=LH (Held.setBlk (l1:=[]) S4.out b5 k5);clear b5 k5)
 rw [<- hch.out] at S5
 try simp only [Act.put]
 exact hend _ _ tS (⟨_,sP0,S5.out⟩)
theorem rmc_r4(w0:World)(g6:Nat)(h:Bs)(hh:h.length=32)(L:List Res)(S:Held w0 w (blkR g6 23 (hashA h) :: L))(hsz:a.tmps.size=54)(o6:Sl a 6 (Pq g6 0)):RG1 false 4 Tryz.f114 Q a w fun a' W q'=>(∃ A c,Sl a' 5 (.slice A h.length c) ∧ Held w0 W (rowR 5 1 (.slice A (h).length c) (h).length (bv (h)) :: blkR g6 23 (hashA h) :: L))->q':=by
 intro hend
 refine wp_region_lit ?_
 (conv=>arg 4;whnf)
 unfold Sl at o6
 have hr:=LH (Rd.of_hash (S.at_ (l1:=[])) hh)
 have S:=LH S
 have hh:=LH hh
 go_wp2_with (at_builtin;refine app_new rfl (.const (.slice none 0 0)) (.tmp 18) rfl rfl S.out (.slice (some ⟨g6,0,none⟩) 32 32) h (by simp [Act.eval,hsz]) (by rw [hh.out];exact hr.out) (by rw [hh.out];decide) ?_;intro v1 w1 S1;have S1:=LH S1;obtain ⟨A1,c1,hv1,_,_⟩:=ow_form (S1.out.at_ (l1:=[]));subst hv1)
 try simp only [Act.put]
 exact hend _ _ tS (⟨A1,c1,(by unfold Sl;simp [hsz];exact hh.out.symm),S1.out⟩)
theorem rmc_r6(w0:World)(A:Option Addr)(c:Nat)(xs:Bs)(hx:xs.length<=1000)(L:List Res)(S:Held w0 w (rowR 5 1 (.slice A (xs).length c) (xs).length (bv (xs)) :: L))(hsz:a.tmps.size=54)(o5:Sl a 5 (.slice A xs.length c)):RG1 false 6 Tryz.f114 Q a w fun a' W q'=>(∃ A c,Sl a' 5 (.slice A (xs ++ [0]).length c) ∧ Held w0 W (rowR 5 1 (.slice A (xs ++ [0]).length c) (xs ++ [0]).length (bv (xs ++ [0])) :: L))->q':=by
 intro hend
 refine wp_region_lit ?_
 (conv=>arg 4;whnf)
 unfold Sl at o5
 have S1:=LH (S.alloc (.cells #[.int .u8 0] 5))
 have HR:=LH (rd_lit w 5 #[.int .u8 0] [0] rfl (by simp))
 have Hx:=LH hx
 clear S hx
 obtain ⟨nx,hnx⟩:∃ nx,xs.length=nx:=⟨_,rfl⟩
 have Hnx:=LH hnx
 rw [hnx] at o5
 clear hnx
 go_wp2_with (at_builtin;refine app_held [] rfl (.tmp 23) (.tmp 24) rfl (.slice A nx c) xs (by simp [Act.eval,hsz]) (by rw [<- Hnx.out];exact S1.out) (.slice (some ⟨w.heap.size,0,none⟩) 1 1) [0] (by simp [Act.eval,hsz]) HR.out (by have:=Hx.out;simp;omega) ?_;intro v2 w2 S2;have S2:=LH S2;obtain ⟨A2,c2,hv2,_,_⟩:=ow_form (S2.out.at_ (l1:=[]));subst hv2)
 try simp only [Act.put]
 exact hend _ _ tS (⟨A2,c2,sP0,S2.out⟩)
theorem rmc_r7(hsz:a.tmps.size=54):RG0 7 Tryz.f114 Q a w fun a' q'=>Sl a' 7 (.slice none 0 0)->Sl a' 8 (.slice none 0 0)->q':=rO
theorem rmc_r8(hsz:a.tmps.size=54):RG0 8 Tryz.f114 Q a w fun a' q'=>Sl a' 9 (Nq 0)->q':=rO
theorem rmc_r9(k:Nat)(hsz:a.tmps.size=54)(o9:Sl a 9 (.int .i64 (k:Int))):RG0 9 Tryz.f114 Q a w fun a' q'=>Sl a' 27 (.bool (decide ((k:Int) < 64)))->q':=rO
theorem rmc_r10(k:Nat)(hk:k < 64)(hsz:a.tmps.size=54)(o9:Sl a 9 (.int .i64 (k:Int))):RG0 10 Tryz.f114 Q a w fun a' q'=>Sl a' 9 (Nq (k+1))->q':=rO
theorem rmc_r11(w0:World)(k c ck:Nat)(A:Option Addr)(adk:Addr)(xs:Bs)(b:UInt8)(hk:k < 64)(hx:xs.length<=1000)(hc:w.cell? (adk.add k)=some (.int .u8 (b.toNat:Int)))(LL:List Res)(S:Held w0 w (rowR 5 1 (.slice A (xs).length c) (xs).length (bv (xs)) :: LL))(hsz:a.tmps.size=54)(o5:Sl a 5 (.slice (some adk) 64 ck))(o7:Sl a 7 (.slice A xs.length c))(o9:Sl a 9 (.int .i64 (k:Int))):RG1 false 11 Tryz.f114 Q a w fun a' W q'=>(∃ A2 c2,Sl a' 7 (.slice A2 (xs ++ [b ^^^ 54]).length c2) ∧ Held w0 W (rowR 5 1 (.slice A2 (xs ++ [b ^^^ 54]).length c2) (xs ++ [b ^^^ 54]).length (bv (xs ++ [b ^^^ 54])) :: LL))->q':=by
 intro hend
 refine wp_region_lit ?_
 (conv=>arg 4;whnf)
 unfold Sl at o5 o7 o9
 have hxb:=xor_byte b 54
 rw [show ((54:UInt8).toNat:Int)=54 from rfl] at hxb
 have S1:=LH (S.alloc (.cells #[.int .u8 ((b ^^^ 54).toNat:Int)] 5))
 have HR:=LH (rd_lit w 5 #[.int .u8 ((b ^^^ 54).toNat:Int)] [b ^^^ 54] rfl (by simp))
 have Hx:=LH hx
 clear S hx
 generalize b ^^^ 54=y at *
 obtain ⟨nx,hnx⟩:∃ nx,xs.length=nx:=⟨_,rfl⟩
 have Hnx:=LH hnx
 rw [hnx] at o7
 clear hnx
 go_wp2_with (at_builtin;refine app_held [] rfl (.tmp 30) (.tmp 36) rfl (.slice A nx c) xs (by simp [Act.eval,hsz]) (by rw [<- Hnx.out];exact S1.out) (.slice (some ⟨w.heap.size,0,none⟩) 1 1) [y] (by simp [Act.eval,hsz]) HR.out (by have:=Hx.out;simp;omega) ?_;intro v2 w2 S2;have S2:=LH S2;obtain ⟨A2,c2,hv2,_,_⟩:=ow_form (S2.out.at_ (l1:=[]));subst hv2)
 try simp only [Act.put]
 exact hend _ _ tS (⟨A2,c2,sP0,S2.out⟩)
theorem rmc_r12(w0:World)(k c ck:Nat)(A:Option Addr)(adk:Addr)(xs:Bs)(b:UInt8)(hk:k < 64)(hx:xs.length<=1000)(hc:w.cell? (adk.add k)=some (.int .u8 (b.toNat:Int)))(r0:Res)(LL:List Res)(S:Held w0 w (r0 :: rowR 5 1 (.slice A (xs).length c) (xs).length (bv (xs)) :: LL))(hsz:a.tmps.size=54)(o5:Sl a 5 (.slice (some adk) 64 ck))(o8:Sl a 8 (.slice A xs.length c))(o9:Sl a 9 (.int .i64 (k:Int))):RG1 false 12 Tryz.f114 Q a w fun a' W q'=>(∃ A2 c2,Sl a' 8 (.slice A2 (xs ++ [b ^^^ 92]).length c2) ∧ Held w0 W (r0 :: rowR 5 1 (.slice A2 (xs ++ [b ^^^ 92]).length c2) (xs ++ [b ^^^ 92]).length (bv (xs ++ [b ^^^ 92])) :: LL))->q':=by
 intro hend
 refine wp_region_lit ?_
 (conv=>arg 4;whnf)
 unfold Sl at o5 o8 o9
 have hxb:=xor_byte b 92
 rw [show ((92:UInt8).toNat:Int)=92 from rfl] at hxb
 have S1:=LH (S.alloc (.cells #[.int .u8 ((b ^^^ 92).toNat:Int)] 5))
 have HR:=LH (rd_lit w 5 #[.int .u8 ((b ^^^ 92).toNat:Int)] [b ^^^ 92] rfl (by simp))
 have Hx:=LH hx
 clear S hx
 generalize b ^^^ 92=y at *
 obtain ⟨nx,hnx⟩:∃ nx,xs.length=nx:=⟨_,rfl⟩
 have Hnx:=LH hnx
 rw [hnx] at o8
 clear hnx
 go_wp2_with (at_builtin;refine app_held [_] rfl (.tmp 38) (.tmp 44) rfl (.slice A nx c) xs (by simp [Act.eval,hsz]) (by rw [<- Hnx.out];exact S1.out) (.slice (some ⟨w.heap.size,0,none⟩) 1 1) [y] (by simp [Act.eval,hsz]) HR.out (by have:=Hx.out;simp;omega) ?_;intro v2 w2 S2;have S2:=LH S2;obtain ⟨A2,c2,hv2,_,_⟩:=ow_form (S2.out.at_ (l1:=[_]));subst hv2)
 try simp only [Act.put]
 exact hend _ _ tS (⟨A2,c2,sP0,S2.out⟩)
theorem rmc_r13(w0:World)(A Ax:Option Addr)(c cx:Nat)(s x:Bs)(hl:s.length+x.length<=140737488355328)(L:List Res)(S:Held w0 w (rowR 5 1 (.slice A (s).length c) (s).length (bv (s)) :: L))(hx:Rd w 1 (.slice Ax x.length cx) x.length (bv x))(hsz:a.tmps.size=54)(o1:Sl a 1 (.slice Ax x.length cx))(o7:Sl a 7 (.slice A s.length c)):RG1 false 13 Tryz.f114 Q a w fun a' W q'=>(∃ g A c,Sl a' 10 (Pq g 0) ∧ Held w0 W (blkR g 23 (hashA (shaF (s ++ x))) :: rowR 5 1 (.slice A (s ++ x).length c) (s ++ x).length (bv (s ++ x)) :: L))->q':=by
 intro hend
 refine wp_region_lit ?_
 (conv=>arg 4;whnf)
 unfold Sl at o1 o7
 have HR:Hid (∀ V A c,Held w0 V (rowR 5 1 (.slice A (s ++ x).length c) (s ++ x).length (bv (s ++ x)) :: L)->Calls Tryz.prog 124 #[.slice A (s ++ x).length c] V fun e w'=>e=.returned (.agg (hashA (shaF (s ++ x)))) ∧ Held w0 w' (rowR 5 1 (.slice A (s ++ x).length c) (s ++ x).length (bv (s ++ x)) :: L)):=LH (fun V A c SV=>rsha_any w0 _ A c (s ++ x) (by rw [List.length_append];exact hl) V SV (fun V' L' SV'=>Rd.of_own SV'.at_))
 have hO:=LH (hashA_one (shaF (s ++ x)))
 have hsz1:Hid ((hashA (shaF (s ++ x))).size=32):=LH (by rw [hashA_size,shaF_length])
 obtain ⟨ch,hch⟩:∃ ch,Hid (hashA (shaF (s ++ x))=ch):=⟨_,LH rfl⟩
 rw [hch.out] at HR hO hsz1
 have S:=LH S
 have Hx:=LH hx
 have Hl:=LH hl
 clear hl hx
 obtain ⟨ns,hns⟩:∃ ns,s.length=ns:=⟨_,rfl⟩
 have Hns:=LH hns
 rw [hns] at o7
 clear hns
 obtain ⟨nx,hnx⟩:∃ nx,x.length=nx:=⟨_,rfl⟩
 have Hnx:=LH hnx
 rw [hnx] at o1
 clear hnx
 go_wp2_with (at_builtin;refine app_held [] rfl (.tmp 46) (.tmp 47) rfl (.slice A ns c) s (by simp [Act.eval,hsz]) (by rw [<- Hns.out];exact S.out) (.slice Ax nx cx) x (by simp [Act.eval,hsz]) (by rw [<- Hnx.out];exact Hx.out) Hl.out ?_;intro v2 w2 S2;obtain ⟨A2,c2,hv2,_,_⟩:=ow_form (S2.at_ (l1:=[]));subst hv2;have HR2:=LH (HR.out w2 A2 c2 S2);clear S2;obtain ⟨nz,hnz⟩:∃ nz,(s ++ x).length=nz:=⟨_,rfl⟩;rw [hnz] at HR2 ⊢;have Hnz:=LH hnz;clear hnz)
 refine HR2.out.mono ?_
 rintro e w4 ⟨rfl,S4⟩
 have S4:=LH (S4.newBlk 23 (hashA (List.replicate 32 0)))
 rw [<- Hnz.out] at S4
 go_wp2_with (refine wpList_store_blk rfl 23 (.tmp 10) (.tmp 49) rfl w4.heap.size aE ch aE 23 _ (S4.out.at_ (l1:=[])) (by rw [hsz1.out];exact Tryz.infoHashP) (by rw [hsz1.out];rfl) hO.out ?_;intro w5 b5 k5;have S5:=LH (Held.setBlk (l1:=[]) S4.out b5 k5);clear b5 k5)
 rw [<- hch.out] at S5
 try simp only [Act.put]
 exact hend _ _ tS (⟨_,A2,c2,sP0,S5.out⟩)
theorem rmc_r14(w0:World)(A:Option Addr)(c g10 g4:Nat)(s h:Bs)(hs:s.length=64)(hh:h.length=32)(L1 L:List Res)(S:Held w0 w (rowR 5 1 (.slice A (s).length c) (s).length (bv (s)) :: blkR g10 23 (hashA h) :: (L1 ++ blkR g4 23 (hashA (List.replicate 32 0)) :: L)))(hsz:a.tmps.size=54)(o4:Sl a 4 (Pq g4 0))(o8:Sl a 8 (.slice A s.length c))(o10:Sl a 10 (Pq g10 0)):RG1 false 14 Tryz.f114 Q a w fun a' W q'=>(∃ A c,Held w0 W (rowR 5 1 (.slice A (s ++ h).length c) (s ++ h).length (bv (s ++ h)) :: blkR g10 23 (hashA h) :: (L1 ++ blkR g4 23 (hashA (shaF (s ++ h))) :: L)))->q':=by
 intro hend
 refine wp_region_lit ?_
 (conv=>arg 4;whnf)
 unfold Sl at o4 o8 o10
 have HR:Hid (∀ V A c,Held w0 V (rowR 5 1 (.slice A (s ++ h).length c) (s ++ h).length (bv (s ++ h)) :: blkR g10 23 (hashA h) :: (L1 ++ blkR g4 23 (hashA (List.replicate 32 0)) :: L))->Calls Tryz.prog 124 #[.slice A (s ++ h).length c] V fun e w'=>e=.returned (.agg (hashA (shaF (s ++ h)))) ∧ Held w0 w' (rowR 5 1 (.slice A (s ++ h).length c) (s ++ h).length (bv (s ++ h)) :: blkR g10 23 (hashA h) :: (L1 ++ blkR g4 23 (hashA (List.replicate 32 0)) :: L))):=LH (fun V A c SV=>rsha_any w0 _ A c (s ++ h) (by rw [List.length_append];omega) V SV (fun V' L' SV'=>Rd.of_own SV'.at_))
 have hr:=LH (Rd.of_hash (S.at_ (l1:=[_])) hh)
 have hO:=LH (hashA_one (shaF (s ++ h)))
 have hsz1:Hid ((hashA (shaF (s ++ h))).size=32):=LH (by rw [hashA_size,shaF_length])
 obtain ⟨ch,hch⟩:∃ ch,Hid (hashA (shaF (s ++ h))=ch):=⟨_,LH rfl⟩
 rw [hch.out] at HR hO hsz1
 have S:=LH S
 have Hh:=LH hh
 have Hs:=LH hs
 clear hh hs
 obtain ⟨ns,hns⟩:∃ ns,s.length=ns:=⟨_,rfl⟩
 have Hns:=LH hns
 rw [hns] at o8
 clear hns
 go_wp2_with (at_builtin;refine app_held [] rfl (.tmp 50) (.tmp 51) rfl (.slice A ns c) s (by simp [Act.eval,hsz]) (by rw [<- Hns.out];exact S.out) (.slice (some ⟨g10,0,none⟩) 32 32) h (by simp [Act.eval,hsz]) (by rw [Hh.out];exact hr.out) (by rw [Hs.out,Hh.out];decide) ?_;intro v2 w2 S2;obtain ⟨A2,c2,hv2,_,_⟩:=ow_form (S2.at_ (l1:=[]));subst hv2;have HR2:=LH (HR.out w2 A2 c2 S2);clear S2;obtain ⟨nz,hnz⟩:∃ nz,(s ++ h).length=nz:=⟨_,rfl⟩;rw [hnz] at HR2 ⊢;have Hnz:=LH hnz;clear hnz)
 refine HR2.out.mono ?_
 rintro e w4 ⟨rfl,S4⟩
 have S4:=LH S4
 rw [<- Hnz.out] at S4
 go_wp2_with (refine wpList_store_blk rfl 23 (.tmp 4) (.tmp 53) rfl g4 (aO o4) ch aE 23 _ (S4.out.at_ (l1:=_ :: _ :: L1)) (by rw [hsz1.out];exact Tryz.infoHashP) (by rw [hsz1.out];rfl) hO.out ?_;intro w5 b5 k5;have S5:=LH (Held.setBlk (l1:=_ :: _ :: L1) S4.out b5 k5);clear b5 k5)
 rw [<- hch.out] at S5
 try simp only [Act.put]
 exact hend _ _ tS (⟨A2,c2,S5.out⟩)
def dsMc0:List Nat:=[5,20,21,22,23,24,25]
def dsMc1:List Nat:=[7,8,9,26,27,28,29,30,31,32,33,34,35,36,37,38,39,40,41,42,43,44,45]
theorem rmc_l0{Q:Exit->Act->World->Prop}{a:Act}{w0 w:World}(kk:Bs)(hkl:kk.length<=64)(A:Option Addr)(c:Nat)(L:List Res)(hsz:a.tmps.size=54)(o5:Sl a 5 (.slice A kk.length c))(S:Held w0 w (rowR 5 1 (.slice A kk.length c) kk.length (bv kk) :: L))
 (hend:∀ (a':Act) (W:World) (A:Option Addr) (c:Nat),Same a a' dsMc0->Sl a' 5 (.slice A 64 c)->Held w0 W (rowR 5 1 (.slice A 64 c) 64 (bv (kk ++ List.replicate (64 - kk.length) 0)) :: L)->Q .normal a' W):
 (Code.block 0 (blockOf 0 Tryz.f114)).wp Tryz.prog Q a w:=by
 refine wp_block ?_
 (conv=>arg 2;whnf)
 refine wp_loop (fun a' w'=>∃ (j:Nat) (A:Option Addr) (c:Nat),kk.length+j<=64 ∧ Same a a' dsMc0 ∧ Sl a' 5 (.slice A (kk ++ List.replicate j 0).length c) ∧ Held w0 w' (rowR 5 1 (.slice A (kk ++ List.replicate j 0).length c) (kk ++ List.replicate j 0).length (bv (kk ++ List.replicate j 0)) :: L)) (fun a' _=>64 - lenV (a'.eval (.tmp 5))) ⟨0,A,c,by omega,Same.refl _ _,by rw [List.replicate_zero,List.append_nil];exact o5,by rw [List.replicate_zero,List.append_nil];exact S⟩ ?_
 clear o5 S
 rintro a1 w1 ⟨j,A,c,hj,T,o5,S⟩
 have hz1:=T.size.trans hsz
 have eCtr:=o5.eval (by rw [hz1];decide)
 have hl:(kk ++ List.replicate j 0).length=kk.length+j:=by simp
 refine wp_seq (wp_seq (rmc_r5 A _ c hz1 o5 (fun a2 hs2 o22=>?_)))
 have hz2:=hs2.size.trans hz1;have o5:=hs2.q o5
 have T:=T.trans hs2
 rw [hl] at o22
 by_cases hlt:kk.length+j < 64
 . refine wcT o22 (wp_skip ?_) (by rw [decide_eq_true hlt])
   refine wp_block ?_
   refine rmc_r6 w0 A c _ (by rw [hl];omega) _ S hz2 o5 (fun a3 w2 hs3 h=>?_)
   have hz3:=hs3.size.trans hz2;have o22:=hs3.q o22
   have T:=T.trans hs3
   obtain ⟨A2,c2,o5,S⟩:=h
   have e:kk ++ List.replicate j 0 ++ [0]=kk ++ List.replicate (j+1) 0:=by rw [List.append_assoc,<- List.replicate_succ']
   rw [e] at o5 S
   refine ⟨⟨j+1,A2,c2,by omega,T.more (by decide +kernel),o5,S⟩,?_⟩
   show 64 - lenV _ < 64 - lenV _
   rw [eCtr,o5.eval (by rw [hz3];decide)]
   show 64 - (kk ++ List.replicate (j+1) 0).length < 64 - (kk ++ List.replicate j 0).length
   rw [hl,List.length_append,List.length_replicate]
   omega
 . refine wcF o22 (wp_exit ?_) (by rw [decide_eq_false hlt])
   obtain rfl:j=64 - kk.length:=by omega
   have h64:(kk ++ List.replicate (64 - kk.length) 0).length=64:=by rw [hl];omega
   rw [h64] at o5 S
   exact hend _ _ A c (T.more (by decide +kernel)) o5 S
theorem rmc_l1{Q:Exit->Act->World->Prop}{a:Act}{w0 w:World}(kk:Bs)(hkl:kk.length=64)(Ak:Option Addr)(ck:Nat)(L:List Res)(hsz:a.tmps.size=54)(o5:Sl a 5 (.slice Ak 64 ck))(o7:Sl a 7 (.slice none 0 0))(o8:Sl a 8 (.slice none 0 0))(o9:Sl a 9 (Nq 0))(S:Held w0 w (rowR 5 1 (.slice Ak 64 ck) 64 (bv kk) :: L))
 (hend:∀ (a':Act) (W:World) (A7 A8:Option Addr) (c7 c8:Nat),Same a a' dsMc1->Sl a' 7 (.slice A7 (turned kk 54).length c7)->Sl a' 8 (.slice A8 (turned kk 92).length c8)->Held w0 W (rowR 5 1 (.slice A7 (turned kk 54).length c7) (turned kk 54).length (bv (turned kk 54)) :: rowR 5 1 (.slice A8 (turned kk 92).length c8) (turned kk 92).length (bv (turned kk 92)) :: rowR 5 1 (.slice Ak 64 ck) 64 (bv kk) :: L)->Q .normal a' W):
 (Code.block 2 (blockOf 2 Tryz.f114)).wp Tryz.prog Q a w:=by
 refine wp_block ?_
 (conv=>arg 2;whnf)
 refine wp_loop (fun a' w'=>∃ (k:Nat) (A7 A8:Option Addr) (c7 c8:Nat),k<=64 ∧ Same a a' dsMc1 ∧ Sl a' 9 (.int .i64 (k:Int)) ∧ Sl a' 7 (.slice A7 (turned (kk.take k) 54).length c7) ∧ Sl a' 8 (.slice A8 (turned (kk.take k) 92).length c8) ∧ Held w0 w' (rowR 5 1 (.slice A7 (turned (kk.take k) 54).length c7) (turned (kk.take k) 54).length (bv (turned (kk.take k) 54)) :: rowR 5 1 (.slice A8 (turned (kk.take k) 92).length c8) (turned (kk.take k) 92).length (bv (turned (kk.take k) 92)) :: rowR 5 1 (.slice Ak 64 ck) 64 (bv kk) :: L)) (fun a' _=>64 - (intOf (a'.eval (.tmp 9))).toNat)
  ⟨0,none,none,0,0,by omega,Same.refl _ _,o9,o7,o8,(S.rownew (World.ownsRow_nil _ _ _ _) (Kp.refl [] _) (by simp [Value.ownBlock])).rownew (World.ownsRow_nil _ _ _ _) (Kp.refl [] _) (by simp [Value.ownBlock])⟩ ?_
 clear o7 o8 o9 S
 rintro a1 w1 ⟨k,A7,A8,c7,c8,hk,T,o9,o7,o8,S⟩
 have hz1:=T.size.trans hsz
 have o5:=T.keep 5 _ (by decide) o5
 have eCtr:=o9.eval (by rw [hz1];decide)
 have ht:∀ t,(turned (kk.take k) t).length<=1000:=fun t=>by unfold turned;rw [List.length_map,List.length_take];omega
 refine wp_seq (wp_seq (rmc_r9 k hz1 o9 (fun a2 hs2 o27=>?_)))
 obtain ⟨hz2,-,o5,o7,o8,o9⟩:=kq4 hs2 hz1 rfl o5 o7 o8 o9
 have T:=T.trans hs2
 by_cases hlt:k < 64
 . refine wcT o27 (wp_skip ?_) (by rw [decide_eq_true (by omega)])
   have hR:=Rd.of_own (S.at_ (l1:=[_,_]))
   obtain ⟨-,A',c',he,-,-,hA,hc⟩:=id hR
   cases he
   obtain ⟨adk,rfl⟩:∃ adk,Ak=some adk:=by
    rcases Ak with _|adk
    . have:=hA rfl;omega
    . exact ⟨adk,rfl⟩
   have hkk:k < kk.length:=by omega
   have hcell:∀ V,Kp [] w1 V->True:=fun _ _=>trivial
   have hc1:w1.cell? (adk.add k)=some (.int .u8 (kk[k].toNat:Int)):=hc adk rfl k _ (by rw [bv_get,List.getElem?_eq_getElem hkk];rfl)
   have htn:∀ t,turned (kk.take k) t ++ [kk[k] ^^^ t]=turned (kk.take (k+1)) t:=fun t=>by unfold turned;rw [List.take_add_one,List.getElem?_eq_getElem hkk];simp only [Option.toList_some,List.map_append,List.map_cons,List.map_nil]
   refine wp_seq (wp_block ?_)
   refine wp_seq (rmc_r11 w0 k c7 ck A7 adk _ kk[k] hlt (ht _) hc1 _ S hz2 o5 o7 o9 (fun a3 w2 hs3 h=>?_))
   obtain ⟨hz3,-,o5,o8,o9,o27⟩:=kq4 hs3 hz2 rfl o5 o8 o9 o27
   have T:=T.trans hs3
   obtain ⟨A7,c7,o7,S⟩:=h
   rw [htn] at o7 S
   have hc2:w2.cell? (adk.add k)=some (.int .u8 (kk[k].toNat:Int)):=by
    obtain ⟨-,A',c',he,-,-,-,hc⟩:=Rd.of_own (S.at_ (l1:=[_,_]))
    cases he
    exact hc adk rfl k _ (by rw [bv_get,List.getElem?_eq_getElem hkk];rfl)
   refine rmc_r12 w0 k c8 ck A8 adk _ kk[k] hlt (ht _) hc2 _ _ S hz3 o5 o8 o9 (fun a4 w3 hs4 h=>?_)
   obtain ⟨hz4,-,o5,o9,o27,o7⟩:=kq4 hs4 hz3 rfl o5 o9 o27 o7
   have T:=T.trans hs4
   obtain ⟨A8,c8,o8,S⟩:=h
   rw [htn] at o8 S
   refine rmc_r10 k hlt hz4 o9 (fun a5 hs5 o9=>?_)
   obtain ⟨hz5,-,o5,o27,o7,o8⟩:=kq4 hs5 hz4 rfl o5 o27 o7 o8
   have T:=T.trans hs5
   refine ⟨⟨k+1,A7,A8,c7,c8,by omega,T.more (by decide +kernel),o9,o7,o8,S⟩,?_⟩
   show 64 - (intOf _).toNat < 64 - (intOf _).toNat
   rw [eCtr,o9.eval (by rw [hz5];decide)]
   simp [intOf];omega
 . obtain rfl:k=64:=by omega
   refine wcF o27 (wp_exit ?_) (by rw [decide_eq_false (by omega)])
   rw [List.take_of_length_le (by omega)] at o7 o8 S
   exact hend _ _ A7 A8 c7 c8 (T.more (by decide +kernel)) o7 o8 S
theorem rmac_any(w0:World)(L:List Res)(A:Option Addr)(c:Nat)(sec:Bs)(hs:sec.length<=140737488355328)(Ax:Option Addr)(cx:Nat)(x:Bs)(hx:64+x.length<=140737488355328)(w:World)(S:Held w0 w L)
 (HS:∀ V L',Held w0 V (L' ++ L)->Rd V 1 (.slice A sec.length c) sec.length (bv sec)) (HX:∀ V L',Held w0 V (L' ++ L)->Rd V 1 (.slice Ax x.length cx) x.length (bv x)):
 Calls Tryz.prog 114 #[.slice A sec.length c,.slice Ax x.length cx] w fun e w'=>e=.returned (.agg (hashA (macF sec x))) ∧ Held w0 w' L:=by
 refine calls_fr Tryz.func114 rfl 54 rfl (fun a0 hsz hdf hAr=>?_)
 have hz0:a0.tmps.size=54:=hsz
 have D:=hdf
 have o0:=hAr 0 _ rfl
 have o1:=hAr 1 _ rfl
 refine wp_seq (rmc_r0 w0 _ S hz0 (fun a1 w1 hs1 h=>?_))
 obtain ⟨hz1,D,o0,o1⟩:=kq2 hs1 hz0 D o0 o1
 obtain ⟨g4,o4,S⟩:=h
 refine wp_seq (rmc_r1 w0 A c sec hs _ (HS _ [_] S) S hz1 o0 (fun a2 w2 hs2 h=>?_))
 obtain ⟨hz2,D,o1,o4⟩:=kq2 hs2 hz1 D o1 o4
 obtain ⟨A5,c5,o5,S⟩:=h
 have tail:∀ (a3:Act) (w3:World) (kk:Bs) (A5:Option Addr) (c5:Nat) (L1:List Res),kk.length<=64->kk ++ List.replicate (64 - kk.length) 0=key64 sec->a3.tmps.size=54->a3.defers=[]->Sl a3 1 (.slice Ax x.length cx)->Sl a3 4 (Pq g4 0)->Sl a3 5 (.slice A5 kk.length c5)->Held w0 w3 (rowR 5 1 (.slice A5 kk.length c5) kk.length (bv kk) :: (L1 ++ blkR g4 23 (hashA (List.replicate 32 0)) :: L))->
  (tailOf 2 Tryz.f114).wp Tryz.prog (bodyPost Tryz.prog Tryz.f114 fun e w'=>e=.returned (.agg (hashA (macF sec x))) ∧ Held w0 w' L) a3 w3:=by
  intro a3 w3 kk A5 c5 L1 hkl hkk hz3 D o1 o4 o5 S
  refine wp_seq (rmc_l0 kk hkl A5 c5 _ hz3 o5 S (fun a4 w4 A6 c6 hs4 o5 S=>?_))
  obtain ⟨hz4,D,o1,o4⟩:=kq2 hs4 hz3 D o1 o4
  rw [hkk] at S
  refine wp_seq (rmc_r7 hz4 (fun a5 hs5 o7 o8=>?_))
  obtain ⟨hz5,D,o1,o4,o5⟩:=kq3 hs5 hz4 D o1 o4 o5
  refine wp_seq (wp_seq (rmc_r8 hz5 (fun a6 hs6 o9=>?_)))
  obtain ⟨hz6,D,o1,o4,o5,o7,o8⟩:=kq5 hs6 hz5 D o1 o4 o5 o7 o8
  refine rmc_l1 (key64 sec) (key64_length sec) A6 c6 _ hz6 o5 o7 o8 o9 S (fun a7 w7 A7 A8 c7 c8 hs7 o7 o8 S=>?_)
  obtain ⟨hz7,D,o1,o4,o5⟩:=kq3 hs7 hz6 D o1 o4 o5
  have hr:=HX w7 ([_,_,_] ++ L1 ++ [_]) (by
   have:=S
   simpa [List.append_assoc] using this)
  have h54:(turned (key64 sec) 54).length=64:=by unfold turned;rw [List.length_map,key64_length]
  have h92:(turned (key64 sec) 92).length=64:=by unfold turned;rw [List.length_map,key64_length]
  refine wp_seq (rmc_r13 w0 A7 Ax c7 cx _ x (by rw [h54];exact hx) _ S hr hz7 o1 o7 (fun a8 w8 hs8 h=>?_))
  obtain ⟨hz8,D,o1,o4,o5,o7,o8⟩:=kq5 hs8 hz7 D o1 o4 o5 o7 o8
  obtain ⟨g10,A13,c13,o10,S⟩:=h
  have S:=S.perm ((List.Perm.cons _ (List.Perm.swap _ _ _)).trans (List.Perm.swap _ _ _))
  refine wp_seq (rmc_r14 w0 A8 c8 g10 g4 _ _ h92 (shaF_length _) (_ :: _ :: L1) L S hz8 o4 o8 o10 (fun a9 w9 hs9 h=>?_))
  obtain ⟨hz9,D,o1,o4,o5,o7,o8,o10⟩:=kq6 hs9 hz8 D o1 o4 o5 o7 o8 o10
  obtain ⟨A14,c14,S⟩:=h
  refine wp_ret (bodyPost_ret (results_cell1 (by rfl) (o4.eval (by rw [hz9];decide)) (S.at_ (l1:=_ :: _ :: _ :: _ :: L1)) Tryz.underlying23 rfl (by rw [hashA_size,shaF_length];exact Tryz.infoHashP)) D ⟨rfl,?_⟩)
  exact S.drop.drop.sub ((List.sublist_cons_self _ _).trans (List.sublist_append_right _ _))
 refine wp_seq (wp_seq (rmc_r2 A5 sec.length c5 hz2 o5 (fun a3 hs3 o15=>?_)))
 obtain ⟨hz3,D,o1,o4,o5⟩:=kq3 hs3 hz2 D o1 o4 o5
 by_cases hlt:64 < sec.length
 . refine wcT o15 ?_ (by rw [decide_eq_true hlt])
   refine wp_seq (rmc_r3 w0 A5 c5 sec hs _ S hz3 o5 (fun a4 w3 hs4 h=>?_))
   obtain ⟨hz4,D,o1,o4,o15⟩:=kq3 hs4 hz3 D o1 o4 o15
   obtain ⟨g6,o6,S⟩:=h
   refine rmc_r4 w0 g6 _ (shaF_length sec) _ S hz4 o6 (fun a5 w4 hs5 h=>?_)
   obtain ⟨hz5,D,o1,o4,o15,o6⟩:=kq4 hs5 hz4 D o1 o4 o15 o6
   obtain ⟨A6,c6,o5,S⟩:=h
   exact tail _ _ (shaF sec) A6 c6 [_,_] (by rw [shaF_length];omega) (by unfold key64;rw [if_pos hlt]) hz5 D o1 o4 o5 S
 . refine wcF o15 (wp_skip ?_) (by rw [decide_eq_false hlt])
   exact tail _ _ sec A5 c5 [] (by omega) (by unfold key64;rw [if_neg hlt]) hz3 D o1 o4 o5 S
end
section
open Go.RowKit
def okB (c:UInt8):Bool:=decide (33<=c.toNat) && decide (c.toNat<=126)
theorem nmOk_eq(l:Bs):nmOk l=(decide (0 < l.length) && decide (l.length<=64) && l.all okB):=rfl
theorem all_take_succ{l:List UInt8}{k:Nat}(h:k < l.length):(l.take (k+1)).all okB=((l.take k).all okB && okB l[k]):=by
 rw [List.take_add_one,List.getElem?_eq_getElem h,Option.toList_some,List.all_append,List.all_cons,List.all_nil,Bool.and_true]
theorem all_of_take{l:List UInt8}{k:Nat}(h:k < l.length)(hb:okB l[k]=false):l.all okB=false:=by
 rw [List.all_eq_false]
 exact ⟨l[k],List.getElem_mem h,by simp [hb]⟩
theorem nonempty_strS{s:ByteArray}(h:0 < s.size):s.toList.isEmpty=false:=by
 rw [Lib.toList_data]
 cases hl:s.data.toList with
 |nil=>have:s.data.toList.length=s.size:=rfl;rw [hl] at this;simp at this;omega
 |cons _ _=>rfl
theorem signer_any(s:ByteArray)(hs:s.size<=9223372036854775807)(w:World):Calls Tryz.prog 71 #[.string s] w fun e w'=>e=.returned (.bool (nmOk s.data.toList)) ∧ w=w':=by
 have hsz:s.data.toList.length=s.size:=rfl
 go_enter Tryz.func71,Tryz.ntmps71
 go_wp2
 go_loopw [3,6] (fun _ i wr=>∃ k:Nat,k<=s.size ∧ i=.int .i64 (k:Int) ∧ Hid ((s.data.toList.take k).all okB=true) ∧ w=wr) (fun _ i _=>s.size - (intOf i).toNat)
 case atStart=>exact ⟨0,by omega,rfl,LH rfl,rfl⟩
 case round=>
  obtain ⟨k,hk,rfl,HA,rfl⟩:=hrel
  by_cases hlt:k < s.size
  . have hx:=run_str_indexP s k hlt w
    have hkl:k < s.data.toList.length:=hlt
    have hok:okB s[k]=(decide (33<=s[k].toNat) && decide (s[k].toNat<=126)):=rfl
    have hts:=LH (all_take_succ hkl)
    have htf:=LH (all_of_take hkl)
    have he:s.data.toList[k]=s[k]:=rfl
    rw [he] at hts htf
    have hc:=s[k].toNat_lt
    generalize hcc:s[k]=c at *
    by_cases h1:c.toNat < 33
    . have Hb:Hid (nmOk s.data.toList=false):=LH (by rw [nmOk_eq,htf.out (by rw [hok];simp;omega),Bool.and_false])
      clear hts htf hok he hcc
      go_wp2
      go_ret
      exact ⟨by rw [Hb.out];rfl,rfl⟩
    . by_cases h2:126 < c.toNat
      . have Hb:Hid (nmOk s.data.toList=false):=LH (by rw [nmOk_eq,htf.out (by rw [hok];simp;omega),Bool.and_false])
        clear hts htf hok he hcc
        go_wp2
        go_ret
        exact ⟨by rw [Hb.out];rfl,rfl⟩
      . have Hb:Hid ((s.data.toList.take (k+1)).all okB=true):=LH (by rw [hts.out,HA.out,hok];simp;omega)
        clear hts htf hok he hcc
        go_wp2
        go_roundw
        case rel=>exact ⟨k+1,by omega,by go_num,Hb,trivial⟩
        case measure=>simp [intOf];omega
  . obtain rfl:k=s.size:=by omega
    have hall:Hid (nmOk s.data.toList=(decide (0 < s.size) && decide (s.size<=64))):=LH (by
     rw [nmOk_eq,show s.data.toList.all okB=true from by have:=HA.out;rwa [List.take_of_length_le (by omega)] at this,Bool.and_true];rfl)
    by_cases h0:s.size=0
    . have hse:s={ data:=#[] }:=by
       have:s.data.size=0:=h0
       cases s with|mk d=>simp at this;simp [this]
      subst hse
      go_wp2
      go_ret
      exact ⟨by rw [hall.out];rfl,rfl⟩
    . have hem:s.toList.isEmpty=false:=nonempty_strS (by omega)
      have hd:Hid ((decide (0 < s.size) && decide (s.size<=64))=decide ((s.size:Int)<=64)):=LH (by rw [decide_eq_true (show 0 < s.size by omega),Bool.true_and];congr 1;exact propext ⟨fun h=>by omega,fun h=>by omega⟩)
      go_wp2
      go_ret
      exact ⟨by rw [hall.out,hd.out];rfl,rfl⟩
theorem rname_any(s:ByteArray)(hs:s.size<=9223372036854775807)(w:World):Calls Tryz.prog 110 #[.string s] w fun e w'=>e=.returned (.bool (nmOk s.data.toList)) ∧ w=w':=by
 have hsz:s.data.toList.length=s.size:=rfl
 by_cases h0:s.size < 1
 . have Hb:Hid (nmOk s.data.toList=false):=LH (by rw [nmOk_eq,hsz,decide_eq_false (by omega),Bool.false_and,Bool.false_and])
   have hz:(s.size:Int) < 1:=by omega
   go_enter Tryz.func110,Tryz.ntmps110
   go_wp2
   go_ret
   exact ⟨by rw [Hb.out];rfl,rfl⟩
 . by_cases h64:64 < s.size
   . have Hb:Hid (nmOk s.data.toList=false):=LH (by rw [nmOk_eq,hsz,decide_eq_false (show ¬ s.size<=64 by omega),Bool.and_false,Bool.false_and])
     have hz:¬ (s.size:Int) < 1:=by omega
     have hz2:(64:Int) < (s.size:Int):=by omega
     clear hsz
     go_enter Tryz.func110,Tryz.ntmps110
     go_wp2
     all_goals
      go_ret
      exact ⟨by rw [Hb.out];rfl,rfl⟩
   . have hz:¬ (s.size:Int) < 1:=by omega
     have hz2:¬ (64:Int) < (s.size:Int):=by omega
     have hb0:nmOk s.data.toList=s.data.toList.all okB:=by rw [nmOk_eq,hsz,decide_eq_true (show 0 < s.size by omega),decide_eq_true (show s.size<=64 by omega)];rfl
     have hb:=LH hb0
     clear hb0
     go_enter Tryz.func110,Tryz.ntmps110
     go_wp2
     go_loopw [3] (fun i wr=>∃ k:Nat,k<=s.size ∧ i=.int .i64 (k:Int) ∧ Hid ((s.data.toList.take k).all okB=true) ∧ w=wr) (fun i _=>s.size - (intOf i).toNat)
     case atStart=>exact ⟨0,by omega,rfl,LH rfl,rfl⟩
     case round=>
      obtain ⟨k,hk,rfl,HA,rfl⟩:=hrel
      by_cases hlt:k < s.size
      . have hx:=run_str_indexP s k hlt w
        have hkl:k < s.data.toList.length:=hlt
        have hok:okB s[k]=(decide (33<=s[k].toNat) && decide (s[k].toNat<=126)):=rfl
        have hts:=LH (all_take_succ hkl)
        have htf:=LH (all_of_take hkl)
        have he:s.data.toList[k]=s[k]:=rfl
        rw [he] at hts htf
        have hc:=s[k].toNat_lt
        generalize hcc:s[k]=c at *
        by_cases h1:c.toNat < 33
        . have Hb:Hid (nmOk s.data.toList=false):=LH (by rw [hb.out,htf.out (by rw [hok];simp;omega)])
          clear hts htf hok he hcc
          go_wp2
          go_ret
          exact ⟨by rw [Hb.out];rfl,rfl⟩
        . by_cases h2:126 < c.toNat
          . have Hb:Hid (nmOk s.data.toList=false):=LH (by rw [hb.out,htf.out (by rw [hok];simp;omega)])
            clear hts htf hok he hcc
            go_wp2
            go_ret
            exact ⟨by rw [Hb.out];rfl,rfl⟩
          . have Hb:Hid ((s.data.toList.take (k+1)).all okB=true):=LH (by rw [hts.out,HA.out,hok];simp;omega)
            clear hts htf hok he hcc
            go_wp2
            go_roundw
            case rel=>exact ⟨k+1,by omega,by go_num,Hb,trivial⟩
            case measure=>simp [intOf];omega
      . obtain rfl:k=s.size:=by omega
        have hall:Hid (nmOk s.data.toList=true):=LH (by
         rw [hb.out];have:=HA.out;rwa [List.take_of_length_le (by omega)] at this)
        go_wp2
        go_ret
        exact ⟨by rw [hall.out];rfl,rfl⟩
theorem keyOk_eq(nm sec:Bs):keyOk nm sec=(nmOk nm && decide (0 < sec.length) && decide (sec.length<=256)):=rfl
theorem smay_any(s:ByteArray)(hs:s.size<=9223372036854775807)(A:Option Addr)(n c:Nat)(w:World):Calls Tryz.prog 100 #[.agg #[.string s,.slice A n c]] w fun e w'=>e=.returned (.bool (nmOk s.data.toList && decide (0 < n) && decide (n<=256))) ∧ Kp [] w w':=by
 have S0:=LH ((Held.start w).newBlk 34 #[.string s,.slice A n c])
 obtain ⟨c0,c1,-⟩:=Blk.c2 (S0.out.at_ (l1:=[]))
 have HS:=LH (fun V=>signer_any s hs V)
 generalize nmOk s.data.toList=b at *
 go_enter Tryz.func100,Tryz.ntmps100
 go_wp2_with fail
 refine (HS.out _).mono ?_
 rintro e w' ⟨rfl,rfl⟩
 cases b
 . go_wp2
   go_ret
   exact ⟨rfl,S0.out.k⟩
 . by_cases h0:0 < n
   . have hz:(0:Int) < (n:Int):=by omega
     go_wp2
     go_ret
     refine ⟨?_,S0.out.k⟩
     simp [h0]
     omega
   . obtain rfl:n=0:=by omega
     go_wp2
     go_ret
     exact ⟨rfl,S0.out.k⟩
theorem rkey_any(s:ByteArray)(hs:s.size<=9223372036854775807)(A:Option Addr)(n c:Nat)(w:World):Calls Tryz.prog 84 #[.agg #[.string s,.slice A n c]] w fun e w'=>e=.returned (.bool (nmOk s.data.toList && decide (0 < n) && decide (n<=256))) ∧ Kp [] w w':=by
 have S0:=LH ((Held.start w).newBlk 34 #[.string s,.slice A n c])
 obtain ⟨c0,c1,-⟩:=Blk.c2 (S0.out.at_ (l1:=[]))
 have HS:=LH (fun V=>rname_any s hs V)
 generalize nmOk s.data.toList=b at *
 go_enter Tryz.func84,Tryz.ntmps84
 go_wp2_with fail
 refine (HS.out _).mono ?_
 rintro e w' ⟨rfl,rfl⟩
 cases b
 . go_wp2
   go_ret
   exact ⟨rfl,S0.out.k⟩
 . by_cases h0:0 < n
   . have hz:(1:Int)<=(n:Int):=by omega
     go_wp2
     go_ret
     refine ⟨?_,S0.out.k⟩
     simp [h0]
     omega
   . obtain rfl:n=0:=by omega
     go_wp2
     go_ret
     exact ⟨rfl,S0.out.k⟩
end
section
open Go.RowKit
theorem less_cmp:∀ a b:List UInt8,Op.bytesLess a b=decide (cmpB a b < 0)
 |[],[]=>rfl
 |[],_ :: _=>rfl
 |_ :: _,[]=>rfl
 |x :: a,y :: b=>by
  rw [cmpB_cons]
  unfold Op.bytesLess
  have ih:=less_cmp a b
  by_cases h1:x.toNat < y.toNat
  . rw [if_pos h1]
    simp [UInt8.lt_iff_toNat_lt,h1]
  . rw [if_neg h1]
    by_cases h2:y.toNat < x.toNat
    . rw [if_pos h2]
      have:¬ x=y:=fun e=>by subst e;omega
      simp [UInt8.lt_iff_toNat_lt,h1,this]
    . rw [if_neg h2]
      have:x=y:=UInt8.toNat_inj.1 (by omega)
      subst this
      simp [ih]
theorem cmp_beq(a b:Bs):(a == b)=decide (cmpB a b=0):=by
 rw [Bool.eq_iff_iff,beq_iff_eq,decide_eq_true_iff]
 exact ⟨fun h=>by subst h;exact cmpB_self a,cmpB_zero⟩
theorem leq_cmp(a b:Bs):(Op.bytesLess a b || a == b)=decide (cmpB a b<=0):=by
 rw [less_cmp,cmp_beq,Bool.eq_iff_iff,Bool.or_eq_true,decide_eq_true_iff,decide_eq_true_iff,decide_eq_true_iff]
 omega
def strV (s:Bs):Value:=.string ⟨s.toArray⟩
theorem str_list(s:Bs):(ByteArray.mk s.toArray).toList=s:=by rw [Lib.toList_data]
theorem str_size(s:Bs):(ByteArray.mk s.toArray).size=s.length:=by show s.toArray.size=_;simp
def sgL (s:SigD):List Value:=strV s.1 :: bv s.2
def sgA (s:SigD):Array Value:=(sgL s).toArray
def sgsC (l:List SigD):List Value:=l.flatMap sgL
def SgOk (l:List SigD):Prop:=∀ s,s ∈ l->s.2.length=32 ∧ s.1.length<=9223372036854775807
theorem sgL_length{s:SigD}(h:s.2.length=32):(sgL s).length=33:=by simp [sgL,bv_length,h]
theorem sgA_size{s:SigD}(h:s.2.length=32):(sgA s).size=33:=by simp only [sgA,List.size_toArray];exact sgL_length h
theorem sgA_one(s:SigD):∀ u,u ∈ (sgA s).toList->u.oneCell'=true:=by
 intro u hu
 simp only [sgA,List.toList_toArray,sgL,List.mem_cons] at hu
 rcases hu with rfl|hu
 . rfl
 . exact bv_one _ u hu
theorem sgsC_length:∀ {l:List SigD},SgOk l->(sgsC l).length=l.length * 33
 |[],_=>rfl
 |s :: l,h=>by
  show (sgL s ++ sgsC l).length=_
  rw [List.length_append,sgL_length (h s (by simp)).1,sgsC_length (fun x hx=>h x (by simp [hx])),List.length_cons];omega
theorem sgsC_at:∀ {l:List SigD} {k:Nat} {s:SigD},SgOk l->l[k]?=some s->∀ j u,(sgL s)[j]?=some u->(sgsC l)[k * 33+j]?=some u
 |[],_,_,_,h=>by simp at h
 |s :: l,0,_,hok,h=>fun j u hu=>by
  obtain rfl:s=_:=by simpa using h
  show (sgL s ++ sgsC l)[0 * 33+j]?=_
  rw [Nat.zero_mul,Nat.zero_add,List.getElem?_append_left (List.getElem?_eq_some_iff.1 hu).1]
  exact hu
 |s :: l,k+1,x,hok,h=>fun j u hu=>by
  show (sgL s ++ sgsC l)[(k+1) * 33+j]?=_
  have h1:=sgL_length (hok s (by simp)).1
  rw [List.getElem?_append_right (by omega),h1,show (k+1) * 33+j - 33=k * 33+j from by omega]
  exact sgsC_at (fun y hy=>hok y (by simp [hy])) (by simpa using h) j u hu
theorem sgs_at{W:World}{ad:Addr}{c n:Nat}{l:List SigD}(h:Rd W 33 (.slice (some ad) n c) n (sgsC l))(hok:SgOk l){k:Nat}{s:SigD}(hk:l[k]?=some s):∀ j u,(sgL s)[j]?=some u->W.cell? ((ad.add (k * 33)).add j)=some u:=by
 intro j u hu
 obtain ⟨-,A',c',he,-,-,-,hc⟩:=h
 cases he
 rw [add_of_add]
 exact hc ad rfl _ u (sgsC_at hok hk j u hu)
def ntL (z:Int) (h:Bs) (v:Value):List Value:=.int .i64 z :: (bv h ++ [v])
def ntA (z:Int) (h:Bs) (v:Value):Array Value:=(ntL z h v).toArray
section
variable {z:Int} {h:List UInt8} {v:Value}
theorem ntA_size(hh:h.length=32):(ntA z h v).size=34:=by simp [ntA,ntL,bv_length,hh]
theorem ntA_one(hv:v.oneCell'=true):∀ u,u ∈ (ntA z h v).toList->u.oneCell'=true:=by
 intro u hu
 simp only [ntA,List.toList_toArray,ntL,List.mem_cons,List.mem_append,List.not_mem_nil,or_false] at hu
 rcases hu with rfl|hu|rfl
 . rfl
 . exact bv_one _ u hu
 . exact hv
theorem ntA_sigs(hh:h.length=32):(ntA z h v)[33]?=some v:=by
 simp only [ntA,List.getElem?_toArray,ntL,List.getElem?_cons_succ]
 rw [List.getElem?_append_right (by rw [bv_length];omega),bv_length,hh];rfl
theorem ntA_size0:(ntA z h v)[0]?=some (.int .i64 z):=rfl
theorem ntA_setSigs(hh:h.length=32)(u:Value):(ntA z h v).setIfInBounds 33 u=ntA z h u:=by
 unfold ntA ntL
 rw [List.setIfInBounds_toArray,List.set_cons_succ,List.set_append_right _ _ (by rw [bv_length];omega),bv_length,hh];rfl
theorem nt_pointAt{w:World}{g:Nat}{t:TypeId}(b:Blk w g t (ntA z h v)):∀ j u,(ptA z h).toList[j]?=some u->w.cell? ((⟨g,0,none⟩:Addr).add j)=some u:=by
 intro j u hu
 refine b.agg j u ?_
 simp only [ntA,List.toList_toArray,ntL]
 have e:Value.int .i64 z :: (bv h ++ [v])=(ptA z h).toList ++ [v]:=rfl
 rw [e,List.getElem?_append_left (List.getElem?_eq_some_iff.1 hu).1]
 exact hu
end
theorem Tryz.infoNote:(Tryz.prog.info? 28).map (·.size)=some 34:=by kernel_rfl
theorem Tryz.infoSig:(Tryz.prog.info? 89).map (·.size)=some 33:=by kernel_rfl
theorem Tryz.infoSigZ:(Tryz.prog.info? 89).map (fun i=>(i.zero,i.size,i.bytes))=some (some (.agg (sgA ([],List.replicate 32 0))),33,48):=by kernel_rfl
end
section
open Go.RowKit
def lastN (l:List SigD) (k:Nat):List UInt8:=match k with
 |0=>[]
 |k+1=>(l.getD k ([],[])).1
theorem rising_drop{l:List SigD}{k:Nat}{s:SigD}(h:l[k]?=some s):rising (lastN l k) (l.drop k)=(nmOk s.1 && decide (0 < cmpB s.1 (lastN l k)) && rising s.1 (l.drop (k+1))):=by
 have hk:=(List.getElem?_eq_some_iff.1 h).1
 have hs:=(List.getElem?_eq_some_iff.1 h).2
 rw [List.drop_eq_getElem_cons hk,hs]
 rfl
theorem lastN_succ{l:List SigD}{k:Nat}{s:SigD}(h:l[k]?=some s):lastN l (k+1)=s.1:=by
 show (l.getD k ([],[])).1=_
 rw [List.getD_eq_getElem?_getD,h]
 rfl
theorem str_of(s:Bs):∃ b:ByteArray,Hid (strV s=.string b) ∧ Hid (b.toList=s) ∧ b.size=s.length ∧ Hid (b.data.toList=s):=⟨⟨s.toArray⟩,LH rfl,LH (str_list s),str_size s,LH rfl⟩
def chkN (z:Int) (l:List SigD):Int:=if mayN z l then 0 else 2
theorem scheck_any(z:Int)(hz:-9223372036854775808<=z ∧ z<=9223372036854775807)(h:Bs)(hh:h.length=32)(l:List SigD)(hok:SgOk l)(hll:l.length<=9223372036854775807)(A:Option Addr)(c:Nat)(w:World)(LDw:LD w)(hv:Rd w 33 (.slice A l.length c) l.length (sgsC l)):
 Calls Tryz.prog 31 #[.agg (ntA z h (.slice A l.length c))] w fun e w'=>e=.returned (.int .i64 (chkN z l)) ∧ Kp [] w w':=by
 have S0:=LH ((Held.start w).newBlk 28 (ntA z h (.slice A l.length c)))
 have hpA:=LH (nt_pointAt (S0.out.at_ (l1:=[])))
 have c33:(w.alloc (.cells (ntA z h (.slice A l.length c)) 28)).cell? ⟨w.heap.size,33,none⟩=some (.slice A l.length c):=by rw [(S0.out.at_ (l1:=[])).cell];exact ntA_sigs hh
 have HP:=LH (ptA_size (s:=z) hh)
 have HT:=LH (fun V (hk:Kp [] w V)=>ptext_any z hz h hh V (LDw.kp hk))
 have HV:=LH hv
 clear hv
 have hchk:∀ b,mayN z l=b->chkN z l=if b then 0 else 2:=fun b hb=>by unfold chkN;rw [hb]
 have Hchk:=LH hchk
 clear hchk
 obtain ⟨ca,hca⟩:∃ ca,ntA z h (.slice A l.length c)=ca:=⟨_,rfl⟩
 rw [hca] at S0 hpA c33 ⊢
 obtain ⟨cp,hcp⟩:∃ cp,Hid (ptA z h=cp):=⟨_,LH rfl⟩
 rw [hcp.out] at hpA HP HT
 clear hca
 unfold TextPost at HT
 obtain ⟨ts,hts⟩:∃ ts:ByteArray,(⟨(txt z h).toArray⟩:ByteArray)=ts:=⟨_,rfl⟩
 rw [hts] at HT
 clear hts
 have hcg:=fun V (hk:Kp [] (w.alloc (.cells ca 28)) V)=>cell_kept c33 hk
 have Hcg:=LH hcg
 clear hcg
 go_enter Tryz.func31,Tryz.ntmps31
 go_wp2_with (refine wpList_load_agg rfl 25 (.tmp 9) rfl ⟨w.heap.size,0,none⟩ (by simp [Act.eval,Act.put]) cp.toList _ hpA.out Tryz.underlying25 rfl (by rw [Array.length_toList,HP.out];exact Tryz.infoPointP) ?_)
 refine (HT.out _ S0.out.k).mono ?_
 rintro e w1 ⟨rfl,k1⟩
 have S1:=LH (S0.out.kp k1)
 have c33:=Hcg.out w1 k1
 clear k1 HT hpA
 by_cases hz0:z < 0
 . have e:txE z=2:=if_pos hz0
   rw [e]
   have Hm:=LH (Hchk.out false (by unfold mayN;rw [decide_eq_false (by omega),Bool.false_and,Bool.false_and]))
   go_wp2
   go_ret
   exact ⟨by rw [Hm.out];rfl,S1.out.k⟩
 . have e:txE z=0:=if_neg hz0
   rw [e]
   clear e
   by_cases h64:64 < l.length
   . have h64':(64:Int) < (l.length:Int):=by omega
     have Hm:=LH (Hchk.out false (by unfold mayN;rw [decide_eq_false (show ¬ l.length<=64 by omega),Bool.and_false,Bool.false_and]))
     go_wp2
     go_ret
     exact ⟨by rw [Hm.out];rfl,S1.out.k⟩
   . have h64':¬ (64:Int) < (l.length:Int):=by omega
     have hma:mayN z l=rising [] l:=by unfold mayN;rw [decide_eq_true (by omega),decide_eq_true (show l.length<=64 by omega)];rfl
     have Hma:=LH hma
     clear hma
     go_wp2
     go_loopw [5,7,25] (fun last _ i wr=>∃ k:Nat,k<=l.length ∧ i=.int .i64 (k:Int) ∧ last=strV (lastN l k) ∧ Hid (rising [] l=rising (lastN l k) (l.drop k)) ∧ Kp [] w wr) (fun _ _ i _=>l.length - (intOf i).toNat)
     case atStart=>exact ⟨0,by omega,rfl,rfl,LH rfl,S1.out.k⟩
     case round=>
      clear c33
      obtain ⟨k,hk,rfl,rfl,HA,K⟩:=hrel
      have K:=LH K
      by_cases hlt:k < l.length
      . obtain ⟨s,hs⟩:∃ s,l[k]?=some s:=⟨_,List.getElem?_eq_getElem hlt⟩
        have hsk:=hok s (List.mem_of_getElem? hs)
        obtain ⟨ad,rfl⟩:∃ ad,A=some ad:=by
         obtain ⟨-,A',c',he,-,-,hA,-⟩:=HV.out
         cases he
         rcases A with _|ad
         . have:=hA rfl;omega
         . exact ⟨ad,rfl⟩
        have hat:=LH (sgs_at (rd_old HV.out K.out) hok hs)
        have hrd:=LH (rising_drop hs)
        have hln:=LH (lastN_succ hs)
        have hsz:=LH (sgA_size hsk.1)
        have hone:=LH (sgA_one s)
        have hlist:(sgA s).toList=sgL s:=rfl
        obtain ⟨ns,hns,hnl,hnz,hnd⟩:=str_of s.1
        obtain ⟨ls,hls,hll2,-,-⟩:=str_of (lastN l k)
        have HS:=LH (fun V=>signer_any ns (by rw [hnz];exact hsk.2) V)
        rw [hnd.out] at HS
        have hle:Hid ((Op.bytesLess ns.toList ls.toList || ns.toList == ls.toList)=decide (cmpB s.1 (lastN l k)<=0)):=LH (by rw [hnl.out,hll2.out];exact leq_cmp _ _)
        obtain ⟨cs,hcs⟩:∃ cs,Hid (sgA s=cs):=⟨_,LH rfl⟩
        have hc0:Hid (cs[0]?=some (.string ns)):=LH (by rw [<- hcs.out,<- hns.out];rfl)
        rw [<- hlist] at hat
        rw [hcs.out] at hat hsz hone
        rw [hls.out]
        clear hnz hsk hlist hs
        have S3:=LH ((Held.start wr).newBlk 89 (sgA ([],List.replicate 32 0)))
        generalize hlk:lastN l k=lk at *
        go_wp2_with (first
         |(refine wpList_load_agg rfl 89 (.tmp 27) rfl (ad.add (k * 33)) (by simp [Act.eval,Act.put]) cs.toList _ hat.out Tryz.underlying89 rfl (by rw [Array.length_toList,hsz.out];exact Tryz.infoSig) ?_)
         |(refine wpList_store_blk rfl 89 (.tmp 7) (.tmp 28) rfl wr.heap.size (by simp [Act.eval,Act.put]) cs (by simp [Act.eval,Act.put]) 89 _ (S3.out.at_ (l1:=[])) (by rw [hsz.out];exact Tryz.infoSig) (by rw [hsz.out];rfl) hone.out ?_;intro w5 b5 k5;have S5:=LH (Held.setBlk (l1:=[]) S3.out b5 k5);have c5:w5.cell? ⟨wr.heap.size,0,none⟩=some (.string ns):=(by rw [b5.cell];exact hc0.out);clear b5 k5))
        refine (HS.out _).mono ?_
        rintro e w6 ⟨rfl,rfl⟩
        have K5:=LH (K.out.trans S5.out.k (by simp))
        by_cases hnm:nmOk s.1=true
        . rw [hnm]
          by_cases hcm:cmpB s.1 lk<=0
          . have hle:=hle.out
            rw [decide_eq_true hcm] at hle
            have Hm:=LH (Hchk.out false (by rw [Hma.out,HA.out,hrd.out,decide_eq_false (by omega),Bool.and_false,Bool.false_and]))
            clear hcm hnm
            go_wp2
            go_ret
            exact ⟨by rw [Hm.out];rfl,K5.out⟩
          . have hle:=hle.out
            rw [decide_eq_false hcm] at hle
            have Hr:Hid (rising [] l=rising (lastN l (k+1)) (l.drop (k+1))):=LH (by rw [HA.out,hrd.out,hnm,decide_eq_true (show 0 < cmpB s.1 lk by omega),hln.out];rfl)
            clear hcm hnm
            go_wp2
            go_roundw
            case rel=>exact ⟨k+1,by omega,by go_num,by rw [hln.out,hns.out],Hr,K5.out⟩
            case measure=>simp [intOf];omega
        . have hnm':nmOk s.1=false:=by simpa using hnm
          rw [hnm']
          have Hm:=LH (Hchk.out false (by rw [Hma.out,HA.out,hrd.out,hnm',Bool.false_and,Bool.false_and]))
          clear hnm hnm'
          go_wp2
          go_ret
          exact ⟨by rw [Hm.out];rfl,K5.out⟩
      . obtain rfl:k=l.length:=by omega
        have Hm:=LH (Hchk.out true (by rw [Hma.out,HA.out,List.drop_length];rfl))
        go_wp2
        go_ret
        exact ⟨by rw [Hm.out];rfl,K.out⟩
end
section
open Go.RowKit
theorem geq_cmp(a b:Bs):(!Op.bytesLess a b)=decide (0<=cmpB a b):=by
 rw [less_cmp,Bool.eq_iff_iff,Bool.not_eq_true',decide_eq_false_iff_not,decide_eq_true_iff]
 omega
theorem cmp_nil{s:List UInt8}(h:nmOk s=true):0 < cmpB s []:=by
 cases s with
 |nil=>cases h
 |cons x s=>simp [cmpB,Lib.compareBytes]
theorem addr0(ad:Addr):ad.add 0=ad:=by unfold Addr.add;simp
theorem rmay_any(z:Int)(hz:-9223372036854775808<=z ∧ z<=9223372036854775807)(h:Bs)(hh:h.length=32)(l:List SigD)(hok:SgOk l)(hll:l.length<=9223372036854775807)(A:Option Addr)(c:Nat)(w:World)(hv:Rd w 33 (.slice A l.length c) l.length (sgsC l)):
 Calls Tryz.prog 77 #[.agg (ntA z h (.slice A l.length c))] w fun e w'=>e=.returned (.bool (mayN z l)) ∧ Kp [] w w':=by
 have S0:=LH ((Held.start w).newBlk 28 (ntA z h (.slice A l.length c)))
 have c33:(w.alloc (.cells (ntA z h (.slice A l.length c)) 28)).cell? ⟨w.heap.size,33,none⟩=some (.slice A l.length c):=by rw [(S0.out.at_ (l1:=[])).cell];exact ntA_sigs hh
 have c0:(w.alloc (.cells (ntA z h (.slice A l.length c)) 28)).cell? ⟨w.heap.size,0,none⟩=some (.int .i64 z):=by rw [(S0.out.at_ (l1:=[])).cell];rfl
 have HV:=LH hv
 clear hv
 obtain ⟨ca,hca⟩:∃ ca,ntA z h (.slice A l.length c)=ca:=⟨_,rfl⟩
 rw [hca] at S0 c33 c0 ⊢
 clear hca
 have hcg:=fun V (hk:Kp [] (w.alloc (.cells ca 28)) V)=>cell_kept c33 hk
 have Hcg:=LH hcg
 clear hcg
 by_cases hz0:z < 0
 . have Hm:Hid (mayN z l=false):=LH (by unfold mayN;rw [decide_eq_false (by omega),Bool.false_and,Bool.false_and])
   go_enter Tryz.func77,Tryz.ntmps77
   go_wp2
   go_ret
   exact ⟨by rw [Hm.out];rfl,S0.out.k⟩
 . by_cases h64:64 < l.length
   . have h64':(64:Int) < (l.length:Int):=by omega
     have Hm:Hid (mayN z l=false):=LH (by unfold mayN;rw [decide_eq_false (show ¬ l.length<=64 by omega),Bool.and_false,Bool.false_and])
     go_enter Tryz.func77,Tryz.ntmps77
     go_wp2
     all_goals
      go_ret
      exact ⟨by rw [Hm.out];rfl,S0.out.k⟩
   . have h64':¬ (64:Int) < (l.length:Int):=by omega
     have hma:mayN z l=rising [] l:=by unfold mayN;rw [decide_eq_true (by omega),decide_eq_true (show l.length<=64 by omega)];rfl
     have Hma:=LH hma
     clear hma
     go_enter Tryz.func77,Tryz.ntmps77
     go_wp2
     go_loopw [3] (fun i wr=>∃ k:Nat,k<=l.length ∧ i=.int .i64 (k:Int) ∧ Hid (rising [] l=rising (lastN l k) (l.drop k)) ∧ Kp [] (w.alloc (.cells ca 28)) wr) (fun i _=>l.length - (intOf i).toNat)
     case atStart=>exact ⟨0,by omega,rfl,LH rfl,Kp.refl _ _⟩
     case round=>
      clear c33 c0
      obtain ⟨k,hk,rfl,HA,K⟩:=hrel
      have c33:=Hcg.out wr K
      have K:=LH K
      have K0:=LH (S0.out.k.trans K.out (by simp))
      by_cases hlt:k < l.length
      . obtain ⟨s,hs⟩:∃ s,l[k]?=some s:=⟨_,List.getElem?_eq_getElem hlt⟩
        have hsk:=hok s (List.mem_of_getElem? hs)
        obtain ⟨ad,rfl⟩:∃ ad,A=some ad:=by
         obtain ⟨-,A',c',he,-,-,hA,-⟩:=HV.out
         cases he
         rcases A with _|ad
         . have:=hA rfl;omega
         . exact ⟨ad,rfl⟩
        have hrd:=LH (rising_drop hs)
        have hln:=LH (lastN_succ hs)
        obtain ⟨ns,hns,hnl,hnz,hnd⟩:=str_of s.1
        have HS:=LH (fun V=>rname_any ns (by rw [hnz];exact hsk.2) V)
        rw [hnd.out] at HS
        have hat:=fun V (kk:Kp [] wr V)=>by
         have:=sgs_at (rd_old HV.out (K0.out.trans kk (by simp))) hok hs 0 (strV s.1) rfl
         rwa [addr0,hns.out] at this
        have q1:=hat wr.drew ((Kp.refl [] _).drew)
        have q0:=hat wr (Kp.refl [] _)
        by_cases hnm:nmOk s.1=true
        . rcases k with _|j
          . have q0:=hat wr (Kp.refl [] _)
            simp only [Nat.zero_mul,addr0] at q0
            have Hr:Hid (rising [] l=rising (lastN l (0+1)) (l.drop (0+1))):=LH (by rw [HA.out,hrd.out,hnm,decide_eq_true (show 0 < cmpB s.1 (lastN l 0) from cmp_nil hnm),hln.out];rfl)
            rw [hnm] at HS
            clear hnm hat q1
            go_wp2
            go_quiet ((go_at_call 110;exact Calls.quiet_of_same ((HS.out _).mono (fun e w' h=>⟨h.1,h.2.symm⟩))))
            go_wp2
            go_roundw
            case rel=>exact ⟨1,by omega,rfl,Hr,K.out.drewN _⟩
            case measure=>simp [intOf];omega
          . obtain ⟨p,hp⟩:∃ p,l[j]?=some p:=⟨_,List.getElem?_eq_getElem (by omega)⟩
            have hlj:=LH (lastN_succ hp)
            obtain ⟨ps,hps,hpl,-,-⟩:=str_of p.1
            have q2:=sgs_at (rd_old HV.out K0.out) hok hp 0 (strV p.1) rfl
            rw [addr0,hps.out] at q2
            have hj1:wrap64 (((j+1:Nat):Int) - 1)=(j:Int):=by unfold wrap64;omega
            have hj2:(j:Int) < (l.length:Int):=by omega
            have hge:Hid ((!Op.bytesLess ps.toList ns.toList)=decide (0<=cmpB p.1 s.1)):=LH (by rw [hpl.out,hnl.out];exact geq_cmp _ _)
            have hsym:=cmpB_neg p.1 s.1
            rw [hlj.out] at hrd
            rw [hnm] at HS
            by_cases hcm:0 < cmpB s.1 p.1
            . have hge:=hge.out
              rw [decide_eq_false (by omega)] at hge
              have Hr:Hid (rising [] l=rising (lastN l (j+1+1)) (l.drop (j+1+1))):=LH (by rw [HA.out,hlj.out,hrd.out,hnm,decide_eq_true hcm,hln.out];rfl)
              clear hnm hat q1 hcm hsym
              go_wp2
              go_quiet ((go_at_call 110;exact Calls.quiet_of_same ((HS.out _).mono (fun e w' h=>⟨h.1,h.2.symm⟩))))
              go_wp2
              go_roundw
              case rel=>exact ⟨j+1+1,by omega,by go_num,Hr,K.out.drewN _⟩
              case measure=>simp [intOf];omega
            . have hge:=hge.out
              rw [decide_eq_true (by omega)] at hge
              have Hm:=LH (show mayN z l=false from by rw [Hma.out,HA.out,hlj.out,hrd.out,decide_eq_false hcm,Bool.and_false,Bool.false_and])
              clear hnm hat q1 hcm hsym
              go_wp2
              go_quiet ((go_at_call 110;exact Calls.quiet_of_same ((HS.out _).mono (fun e w' h=>⟨h.1,h.2.symm⟩))))
              go_wp2
              go_ret
              exact ⟨by rw [Hm.out];rfl,K0.out.drewN _⟩
        . have hnm':nmOk s.1=false:=by simpa using hnm
          rw [hnm'] at HS
          have Hm:=LH (show mayN z l=false from by rw [Hma.out,HA.out,hrd.out,hnm',Bool.false_and,Bool.false_and])
          clear hnm hnm' hat q1
          go_wp2
          go_quiet ((go_at_call 110;exact Calls.quiet_of_same ((HS.out _).mono (fun e w' h=>⟨h.1,h.2.symm⟩))))
          go_wp2
          go_ret
          exact ⟨by rw [Hm.out];rfl,K0.out.drewN _⟩
      . obtain rfl:k=l.length:=by omega
        have Hm:=LH (show mayN z l=true from by rw [Hma.out,HA.out,List.drop_length];rfl)
        go_wp2
        go_ret
        exact ⟨by rw [Hm.out];rfl,K0.out⟩
end
section
open Go.RowKit
def zeroN:Array Value:=ntA 0 (List.replicate 32 0) (.slice none 0 0)
theorem Tryz.builtN_is(ps:List (Nat × Value)):Tryz.prog.built 28 ps=Instr.fill (#[(0,33),(33,1)][·]?) zeroN ps:=by
 unfold Program.built
 kernel_rfl
theorem Tryz.built_note(z:Int)(hh:Bs)(hl:hh.length=32):Tryz.prog.built 28 [(0,.agg (ptA z hh))]=some (ntA z hh (.slice none 0 0)):=by
 rw [Tryz.builtN_is]
 have hs:(ptA z hh).size=33:=ptA_size hl
 have hs0:zeroN.size=34:=rfl
 have h:((ptA z hh).zipIdx.foldl (fun cs (x:Value × Nat)=>cs.setIfInBounds (0+x.2) x.1) zeroN)=ntA z hh (.slice none 0 0):=by
  have h1:=foldl_place 0 (ptA z hh).toList 0 zeroN
  rw [show (ptA z hh).zipIdx.foldl (fun cs (x:Value × Nat)=>cs.setIfInBounds (0+x.2) x.1) zeroN=((ptA z hh).toList.zipIdx 0).foldl (fun cs (x:Value × Nat)=>cs.setIfInBounds (0+x.2) x.1) zeroN from by rw [<- Array.foldl_toList,Array.toList_zipIdx],h1]
  rw [hs0,List.take_of_length_le (l:=(ptA z hh).toList) (by rw [Array.length_toList,hs];decide),Array.length_toList,hs]
  rfl
 unfold Instr.fill
 show (if (decide ((ptA z hh).size ≠ 33) || decide (0+(ptA z hh).size > zeroN.size))=true then none else Instr.fill (#[(0,33),(33,1)][·]?) ((ptA z hh).zipIdx.foldl (fun cs (x:Value × Nat)=>cs.setIfInBounds (0+x.2) x.1) zeroN) [])=_
 rw [hs,hs0,h]
 rfl
theorem Tryz.built_noteZ:Tryz.prog.built 28 []=some zeroN:=by rw [Tryz.builtN_is];rfl
theorem rd_nil_any(s:Nat)(V:World):Rd V s (.slice none 0 0) 0 []:=⟨by simp,none,0,rfl,Nat.le_refl _,Nat.zero_le _,fun _=>⟨rfl,rfl⟩,fun ad h=>by cases h⟩
def newA (z:Int) (h:Bs):Array Value:=if 0<=z then ntA z h (.slice none 0 0) else zeroN
theorem mayN_nil(z:Int):mayN z []=decide (0<=z):=by
 unfold mayN rising
 simp
theorem rgnew_any(z:Int)(hz:-9223372036854775808<=z ∧ z<=9223372036854775807)(h:Bs)(hh:h.length=32)(w:World):
 Calls Tryz.prog 40 #[.agg (ptA z h)] w fun e w'=>e=.returned (.tuple #[.agg (newA z h),.int .i64 (chkN z [])]) ∧ Kp [] w w':=by
 have S0:=LH (((Held.start w).newBlk 25 (ptA z h)).newBlkN 28 zeroN (g:=w.heap.size+1) (by simp))
 have HB:=LH (Tryz.built_note z h hh)
 have HB0:=LH Tryz.built_noteZ
 have hp1:=LH (ptA_size (s:=z) hh)
 have hz1:=LH (ntA_size (z:=z) (v:=.slice none 0 0) hh)
 have hzz:Hid (zeroN.size=34):=LH rfl
 have hO:=LH (ntA_one (z:=z) (h:=h) (v:=.slice none 0 0) rfl)
 have hOz:Hid (∀ u,u ∈ zeroN.toList->u.oneCell'=true):=LH (ntA_one (v:=.slice none 0 0) rfl)
 have HC:=LH (fun V=>rmay_any z hz h hh [] (fun s hs=>by cases hs) (by simp) none 0 V (rd_nil_any 33 V))
 have hck:Hid (chkN z []=if 0<=z then 0 else 2):=LH (by unfold chkN;rw [mayN_nil];by_cases h0:0<=z <;> simp [h0])
 have hnA:Hid (newA z h=if 0<=z then ntA z h (.slice none 0 0) else zeroN):=LH rfl
 obtain ⟨cn,hcn⟩:∃ cn,ntA z h (.slice none 0 0)=cn:=⟨_,rfl⟩
 obtain ⟨cp,hcp⟩:∃ cp,ptA z h=cp:=⟨_,rfl⟩
 rw [List.length_nil] at HC
 rw [hcn] at HB hz1 hO HC hnA
 rw [hcp] at HB hp1 S0 ⊢
 clear hcn hcp
 generalize newA z h=cr at *
 have hmn:mayN z []=decide (0<=z):=mayN_nil z
 rw [hmn] at HC
 clear hmn
 generalize chkN z []=ck at *
 go_enter Tryz.func40,Tryz.ntmps40
 go_wp2_with (first
  |(refine wpList_load_blk rfl 25 (.tmp 1) rfl w.heap.size (by simp [Act.eval,Act.put]) 25 _ (S0.out.at_ (l1:=[_])) _ Tryz.underlying25 rfl (by rw [hp1.out];exact Tryz.infoPointP) ?_)
  |(refine wpList_buildC rfl 28 _ rfl [(0,.agg cp)] (by simp [Act.eval,Act.put]) _ HB.out ?_)
  |(refine wpList_store_blk rfl 28 (.tmp 4) (.tmp 6) rfl (w.heap.size+1+1) (by simp [Act.eval,Act.put]) cn (by simp [Act.eval,Act.put]) 28 zeroN (Blk.newN _ 28 _ (by simp)) (by rw [hz1.out];exact Tryz.infoNote) (by rw [hz1.out];rfl) hO.out ?_;intro w5 b5 k5;have S5:=LH (Held.setBlk (l1:=[]) (S0.out.newBlkN 28 zeroN (g:=w.heap.size+1+1) (by simp)) b5 k5);clear b5 k5)
  |(refine wpList_load_blk rfl 28 (.tmp 4) rfl (w.heap.size+1+1) (by simp [Act.eval,Act.put]) 28 _ (S5.out.at_ (l1:=[])) _ Tryz.underlying28 rfl (by rw [hz1.out];exact Tryz.infoNote) ?_))
 refine (HC.out _).mono ?_
 rintro e w6 ⟨rfl,k6⟩
 have S6:=LH (S5.out.kp k6)
 clear k6 S5 S0
 by_cases h0:0<=z
 . rw [if_pos h0] at hck hnA
   rw [decide_eq_true h0]
   clear h0
   go_wp2_with (first
    |(refine wpList_load_blk rfl 28 (.tmp 4) rfl (w.heap.size+1+1) (by simp [Act.eval,Act.put]) 28 _ (S6.out.at_ (l1:=[])) _ Tryz.underlying28 rfl (by rw [hz1.out];exact Tryz.infoNote) ?_)
    |(refine wpList_store_blk rfl 28 (.tmp 2) (.tmp 11) rfl (w.heap.size+1) (by simp [Act.eval,Act.put]) cn (by simp [Act.eval,Act.put]) 28 _ (S6.out.at_ (l1:=[_])) (by rw [hz1.out];exact Tryz.infoNote) (by rw [hz1.out];rfl) hO.out ?_;intro w7 b7 k7;have S7:=LH (Held.setBlk (l1:=[_]) S6.out b7 k7);clear b7 k7))
   refine bodyPost_ret (results_cell_tmp (by rfl) rfl (S7.out.at_ (l1:=[_])) Tryz.underlying28 rfl (by rw [hz1.out];exact Tryz.infoNote)) rfl ?_
   exact ⟨by rw [hck.out,hnA.out];rfl,S7.out.k⟩
 . rw [if_neg h0] at hck hnA
   rw [decide_eq_false h0]
   clear h0
   obtain ⟨cz,hcz⟩:∃ cz,Hid (zeroN=cz):=⟨_,LH rfl⟩
   rw [hcz.out] at HB0 hzz hOz hnA
   go_wp2_with (first
    |(refine wpList_buildC rfl 28 _ rfl [] (by simp [Act.eval,Act.put]) _ HB0.out ?_)
    |(refine wpList_store_blk rfl 28 (.tmp 2) (.tmp 10) rfl (w.heap.size+1) (by simp [Act.eval,Act.put]) cz (by simp [Act.eval,Act.put]) 28 _ (S6.out.at_ (l1:=[_])) (by rw [hzz.out];exact Tryz.infoNote) (by rw [hzz.out];rfl) hOz.out ?_;intro w7 b7 k7;have S7:=LH (Held.setBlk (l1:=[_]) S6.out b7 k7);clear b7 k7))
   refine bodyPost_ret (results_cell_tmp (by rfl) rfl (S7.out.at_ (l1:=[_])) Tryz.underlying28 rfl (by rw [hzz.out];exact Tryz.infoNote)) rfl ?_
   exact ⟨by rw [hck.out,hnA.out];rfl,S7.out.k⟩
end
section
open Go.RowKit
theorem sgeq_any(a b:Bs)(ha:a.length=32)(hb:b.length=32)(w:World):Calls Tryz.prog 105 #[.agg (hashA a),.agg (hashA b)] w fun e w'=>e=.returned (.bool (a == b)) ∧ Kp [] w w':=by
 have S0:=LH (((Held.start w).newBlk 23 (hashA a)).newBlkN 23 (hashA b) (g:=w.heap.size+1) (by simp))
 have hE:=fun V=>hash_eq_top V a b ha hb
 have h1:Hid ((hashA a).size=32):=LH (by rw [hashA_size,ha])
 have h2:Hid ((hashA b).size=32):=LH (by rw [hashA_size,hb])
 generalize hashA a=ca at *
 generalize hashA b=cb at *
 generalize (a == b)=r at *
 clear ha hb
 go_enter Tryz.func105,Tryz.ntmps105
 go_wp2_with (first
  |(refine wpList_load_blk rfl 23 (.tmp 2) rfl w.heap.size (by simp [Act.eval,Act.put]) 23 _ (S0.out.at_ (l1:=[_])) _ Tryz.underlying23 rfl (by rw [h1.out];exact Tryz.infoHashP) ?_)
  |(refine wpList_load_blk rfl 23 (.tmp 3) rfl (w.heap.size+1) (by simp [Act.eval,Act.put]) 23 _ (S0.out.at_ (l1:=[])) _ Tryz.underlying23 rfl (by rw [h2.out];exact Tryz.infoHashP) ?_))
 go_ret
 exact ⟨rfl,S0.out.k⟩
end
section
open Go.RowKit
theorem cmpB_lt_trans:∀ {a b c:List UInt8},cmpB a b < 0->cmpB b c < 0->cmpB a c < 0
 |[],[],_,h,_=>by simp [cmpB_self] at h
 |[],_ :: _,[],_,h=>by simp [cmpB,Lib.compareBytes] at h
 |[],_ :: _,_ :: _,_,_=>by simp [cmpB,Lib.compareBytes]
 |_ :: _,[],_,h,_=>by simp [cmpB,Lib.compareBytes] at h
 |_ :: _,_ :: _,[],_,h=>by simp [cmpB,Lib.compareBytes] at h
 |x :: a,y :: b,z :: c,h1,h2=>by
  rw [cmpB_cons] at h1 h2 ⊢
  by_cases h3:x.toNat < y.toNat
  . by_cases h4:y.toNat < z.toNat
    . rw [if_pos (by omega)];decide
    . rw [if_neg h4] at h2
      by_cases h5:z.toNat < y.toNat
      . rw [if_pos h5] at h2;omega
      . rw [if_pos (by omega)];decide
  . rw [if_neg h3] at h1
    by_cases h4:y.toNat < x.toNat
    . rw [if_pos h4] at h1;omega
    . rw [if_neg h4] at h1
      by_cases h5:y.toNat < z.toNat
      . rw [if_pos (by omega)];decide
      . rw [if_neg h5] at h2
        by_cases h6:z.toNat < y.toNat
        . rw [if_pos h6] at h2;omega
        . rw [if_neg h6] at h2
          rw [if_neg (by omega),if_neg (by omega)]
          exact cmpB_lt_trans h1 h2
def posN (nm:Bs) (l:List SigD):Nat:=(l.takeWhile fun s=>decide (cmpB s.1 nm < 0)).length
def hasN (nm:Bs) (l:List SigD):Bool:=match l[posN nm l]? with
 |some x=>decide (cmpB x.1 nm=0)
 |none=>false
theorem rising_all:∀ {l:List SigD} {a:List UInt8},rising a l=true->∀ x,x ∈ l->cmpB a x.1 < 0
 |[],_,_,x,hx=>by cases hx
 |s :: l,a,h,x,hx=>by
  unfold rising at h
  simp only [Bool.and_eq_true,decide_eq_true_eq] at h
  have hs:cmpB a s.1 < 0:=by rw [cmpB_neg s.1 a];omega
  rcases List.mem_cons.1 hx with rfl|hx
  . exact hs
  . exact cmpB_lt_trans hs (rising_all h.2 x hx)
theorem sgs_addr{W:World}{A:Option Addr}{c n:Nat}{l:List SigD}(h:Rd W 33 (.slice A n c) n (sgsC l))(hn:0 < n):∃ ad,A=some ad:=by
 obtain ⟨-,A',c',he,-,-,hA,-⟩:=h
 cases he
 rcases A with _|ad
 . have:=hA rfl;omega
 . exact ⟨ad,rfl⟩
end
section
open Go.RowKit
theorem sgsC_one:∀ (l:List SigD),∀ u,u ∈ sgsC l->u.oneCell'=true
 |[],u,h=>by cases h
 |s :: l,u,h=>by
  rcases List.mem_append.1 (show u ∈ sgL s ++ sgsC l from h) with h|h
  . exact sgA_one s u (by simpa [sgA] using h)
  . exact sgsC_one l u h
theorem sgsC_append(a b:List SigD):sgsC (a ++ b)=sgsC a ++ sgsC b:=by unfold sgsC;rw [List.flatMap_append]
theorem ow_empty{w:World}{g:Nat}(e:TypeId)(s:Nat)(hg:g=w.heap.size):Ow (w.alloc (.cells #[] e)) e s (.slice (some ⟨g,0,none⟩) 0 0) 0 []:=by
 subst hg
 exact ow_new w e s 0 #[] (by simp) (by decide)
theorem eq_nil_sigs(w:World)(a:Option Addr)(n c:Nat):(binOp .eql 26 (.slice a n c) (.slice none 0 0)).run Tryz.prog w=.ok (.bool a.isNone) w:=
 Lib.run_eql_slice_nil (P:=Tryz.prog) w 26 89 a n c 0 0 Tryz.underlying26
theorem sclone_any(w0:World)(L:List Res)(A:Option Addr)(c:Nat)(l:List SigD)(hok:SgOk l)(hll:l.length<=1000000)(w:World)(S:Held w0 w L)(HV:∀ V,Held w0 V L->Rd V 33 (.slice A l.length c) l.length (sgsC l)):
 Calls Tryz.prog 89 #[.slice A l.length c] w fun e w'=>∃ v,e=.returned v ∧ Held w0 w' (rowR 89 33 v l.length (sgsC l) :: L):=by
 have HV:=LH HV
 have S:=LH S
 have HO:=LH (sgsC_one l)
 rcases A with _|ad
 . have h0:l.length=0 ∧ c=0:=by
    obtain ⟨-,A',c',he,-,-,hA,-⟩:=HV.out w S.out
    cases he
    exact hA rfl
   obtain rfl:l=[]:=List.eq_nil_of_length_eq_zero h0.1
   obtain rfl:=h0.2
   clear h0
   have hq:=fun V=>eq_nil_sigs V none 0 0
   simp only [Option.isNone_none] at hq
   go_enter Tryz.func89,Tryz.ntmps89
   go_wp2
   go_ret
   exact ⟨_,rfl,S.out.rownew (World.ownsRow_nil _ _ _ _) (Kp.refl [] w) (by simp [Value.ownBlock])⟩
 . have hq:=fun V n=>eq_nil_sigs V (some ad) n c
   simp only [Option.isNone_some] at hq
   have S1:=LH (S.out.rownew (ow_empty 89 33 (g:=w.heap.size) rfl) ((Kp.refl [] w).alloc _) (by simp [Value.ownBlock]))
   obtain ⟨i0,hi,hz,hsize,hby⟩:=info_parts Tryz.infoSigZ
   have Hz:=LH hz
   clear hz
   have hle:Hid (l.length<=maxLen ∧ l.length * 48<=140737488355328):=LH ⟨by unfold maxLen;omega,by omega⟩
   generalize hcs:sgsC l=cs at *
   generalize l.length=n at *
   go_enter Tryz.func89,Tryz.ntmps89
   go_wp2_with (at_builtin;refine wpList_app _ rfl (.tmp 5) (.tmp 6) 26 rfl 89 i0 _ 33 48 Tryz.underlying26 hi Hz.out hsize hby rfl (by decide) _ 0 [] (by simp [Act.eval,Act.put]) (S1.out.at_ (l1:=[])) _ n cs (by simp [Act.eval,Act.put]) (HV.out _ S1.out.drop) HO.out (by rw [Nat.zero_add];exact hle.out.1) (by rw [Nat.zero_add];exact hle.out.2) ?_;intro v' w' o2 g2 b2;have S2:=LH (Held.grow (l1:=[]) S1.out o2 g2 b2);clear o2 g2 b2)
   rw [Nat.zero_add,List.nil_append] at S2
   go_ret
   exact ⟨_,rfl,S2.out⟩
end
section
open Go.RowKit
section
variable {P:Program} {w:World} {o:Oper} {a:Act} {Q:Exit->Act->World->Prop} (size:Nat) (d s:Operand) (dT sT:TypeId)
end
theorem Held.blk_row{w0 w:World}{L:List Res}{e:TypeId}{s n g c:Nat}{cur:Array Value}{xs:List Value}(h:Held w0 w (blkR g e cur :: L))(hs:cur.size=c * s)(hx:cur.toList.take (n * s)=xs)(hn:n<=c)(hc:c<=maxLen):
 Held w0 w (rowR e s (.slice (some ⟨g,0,none⟩) n c) n xs :: L):=
 h.turn (rowR e s (.slice (some ⟨g,0,none⟩) n c) n xs) kR ⟨by
  rw [<- hx,List.length_take,Array.length_toList,hs]
  exact Nat.min_eq_left (Nat.mul_le_mul_right s hn),.inr ⟨g,c,cur,rfl,Nat.zero_le _,h.at_ (l1:=[]),hn,hc,hs,hx⟩⟩ (fun b hb=>.inl (by simpa [rowR,blkR,Value.ownBlock] using hb))
end
section
open Go.RowKit
theorem rd_sig1{w:World}{vb:Nat}{t:TypeId}{s:SigD}(hb:Blk w vb t (sgA s))(hs:s.2.length=32):Rd w 33 (.slice (some ⟨vb,0,none⟩) 1 1) 1 (sgA s).toList:=
 ⟨by rw [Array.length_toList,sgA_size hs],_,_,rfl,Nat.le_refl _,by unfold maxLen;omega,(fun h=>by cases h),fun ad had j u hu=>by cases had;exact hb.agg j u hu⟩
theorem elem_sig:Tryz.prog.elem 26=89:=by kernel_rfl
theorem und_sig:Tryz.prog.underlying 26=some (.slice (Tryz.prog.elem 26)):=by rw [elem_sig];exact Tryz.underlying26
theorem size_sig(w:World):(sizeOf 89).run Tryz.prog w=.ok 33 w:=by
 obtain ⟨i0,hi,-,hs,-⟩:=info_parts Tryz.infoSigZ
 simp only [sizeOf,typeInfo]
 simp [hi,hs,go_sem]
theorem cut_loS(A:Option Addr)(n c k:Nat)(hk:k<=n)(w:World):(Instr.sliceAt 26 (.slice A n c) (some (.int .i64 (k:Int))) none none).run Tryz.prog w=.ok (sliced A k n c 33) w:=by
 rw [run_sliceAt_slice w 26 _ _ _ _ und_sig,run_slice_l w 26 A n c und_sig .i64 k (by omega) (by omega),elem_sig,size_sig]
 simp only [Result.andThen_ok,Int.toNat_natCast]
end
section
open Go.RowKit
theorem results_t1{P:Program}{fn:Func}{w:World}{tmps:Array Value}{u:Nat}{x:Value}(h:fn.results=#[.tmp u])(hx:tmps.getD u undef=x):(results fn tmps).run P w=.ok x w:=by
 simp only [Array.getD_eq_getD_getElem?] at hx
 simp [results,h,hx]
end
section
open Go.RowKit
theorem conv_str(w:World)(s:ByteArray)(hs:s.size<=100000000):∃ v w',(convert 9 32 (.string s)).run Tryz.prog w=.ok v w' ∧ Held w w' [rdR v s.size (bv s.data.toList)]:=by
 refine ⟨_,_,Lib.run_convert_string_bytes (P:=Tryz.prog) w 9 32 5 s Tryz.underlying9 Tryz.underlying32 Tryz.underlying5,?_⟩
 have hle:=grownCap_ge w s.size 0 5
 have hmx:=grownCap_le_maxLen w s.size 0 5 (by unfold maxLen;omega)
 have hk:Kp [] w (Lib.bytesWorld w 5 s):=⟨rfl,rfl,rfl,by rw [Lib.bytesWorld_size];omega,fun j hj _=>Lib.bytesWorld_at_old w _ s j hj⟩
 refine (Held.start w).new (rdR _ _ _) hk ⟨⟨by rw [bv_length];simp,_,_,rfl,hle,hmx,(fun h=>by cases h),fun ad had j u hu=>?_⟩,fun g hg=>?_⟩ (fun b hb=>?_)
 . cases had
   have hj:j < s.size:=by have:=(List.getElem?_eq_some_iff.1 hu).1;rw [bv_length] at this;simpa using this
   have:=Lib.bytesWorld_cell w 5 s j hj
   rw [Addr.add_lit,Nat.zero_add,this]
   simp only [bv,List.getElem?_map] at hu
   have hj2:j < s.data.toList.length:=by simpa using hj
   rw [List.getElem?_eq_getElem hj2] at hu
   rw [List.getD_eq_getElem?_getD,List.getElem?_eq_getElem hj2]
   simpa using hu
 . cases hg
   rw [Lib.bytesWorld_size]
   exact Nat.lt_succ_self _
 . simp only [rdR,Value.ownBlock,Option.toList_some,List.mem_singleton] at hb
   omega
theorem wpList_conv{ops:Array Oper}{rest:List Oper}{o:Oper}{a:Act}{w0 w:World}{L:List Res}{Q:Exit->Act->World->Prop}(hg:o.guard=none)(x:Operand)(ho:o.op=.convert 9 32 x)(s:ByteArray)(hx:a.eval x=.string s)(hs:s.size<=100000000)(n:Nat)(hn:s.size=n)(S:Held w0 w L)
 (h:∀ v w',Held w0 w' (rdR v n (bv s.data.toList) :: L)->wpList Tryz.prog ops Q rest (a.put o.dst v) w'):wpList Tryz.prog ops Q (o :: rest) a w:=
 wpList_plain hg fun K hK=>by
  subst hn
  obtain ⟨v,w',hrun,S'⟩:=conv_str w s hs
  refine op_runs (v:=v) (w':=w') ?_ (hK _ _ (h v w' ?_))
  . simp [execOp,ho,hx,hrun,Result.andThen]
  . exact S.new _ S'.k (S'.at_ (l1:=[])) (fun b hb=>S'.base _ (List.mem_singleton.2 rfl) b hb)
def sumOk (z:Int) (nm sec:Bs):Bool:=decide (0<=z) && keyOk nm sec
def sumF (z:Int) (h nm sec:Bs):List UInt8:=macF sec (nm ++ [10] ++ told z.toNat h)
def sumV (z:Int) (h nm sec:Bs):List UInt8:=if sumOk z nm sec then sumF z h nm sec else List.replicate 32 0
theorem sumF_length(z:Int)(h nm sec:Bs):(sumF z h nm sec).length=32:=by unfold sumF macF;exact shaF_length _
theorem sumV_length(z:Int)(h nm sec:Bs):(sumV z h nm sec).length=32:=by
 unfold sumV
 split
 . exact sumF_length ..
 . simp
theorem Tryz.built_hashZ:Tryz.prog.built 23 []=some (hashA (List.replicate 32 0)):=by kernel_rfl
theorem told_le(n:Nat)(hn:n < 9223372036854775808)(h:Bs)(hh:h.length=32):(told n h).length<=1000:=by
 rw [told_length,hexS_length,hh]
 have:=dec_19 hn
 omega
theorem txf_two{w:World}{g:Nat}{t:TypeId}{u v:Value}{n m:Nat}{l1 l2:List UInt8}(hb:Blk w g t #[u,v])(h1:Rd w 1 u n (bv l1))(h2:Rd w 1 v m (bv l2)):TxF w (.slice (some ⟨g,0,none⟩) 2 2) [u,v] [l1,l2]:=by
 have e1:n=l1.length:=by have:=h1.1;rw [bv_length] at this;omega
 have e2:m=l2.length:=by have:=h2.1;rw [bv_length] at this;omega
 subst e1 e2
 refine ⟨⟨rfl,_,_,rfl,Nat.le_refl _,by unfold maxLen;omega,(fun h=>by cases h),fun ad had j x hx=>?_⟩,fun i hi=>?_⟩
 . cases had
   exact hb.agg j x hx
 . rcases i with _|_|i
   . exact ⟨u,rfl,h1⟩
   . exact ⟨v,rfl,h2⟩
   . have hi:i+1+1 < 2:=hi
     omega
theorem ssm_any(z:Int)(hz:-9223372036854775808<=z ∧ z<=9223372036854775807)(h:Bs)(hh:h.length=32)(nm:ByteArray)(hnm:nm.size<=9223372036854775807)(A:Option Addr)(c:Nat)(sec:Bs)(w:World)(LDw:LD w)(hv:Rd w 1 (.slice A sec.length c) sec.length (bv sec)):
 Calls Tryz.prog 69 #[.agg (ptA z h),.agg #[.string nm,.slice A sec.length c]] w fun e w'=>e=.returned (.tuple #[.agg (hashA (sumV z h nm.data.toList sec)),.int .i64 (if sumOk z nm.data.toList sec then 0 else 2)]) ∧ Kp [] w w':=by
 have S0:=LH ((((Held.start w).newBlk 25 (ptA z h)).newBlkN 34 #[.string nm,.slice A sec.length c] (g:=w.heap.size+1) (by simp)).newBlkN 23 (hashA (List.replicate 32 0)) (g:=w.heap.size+1+1) (by simp))
 have HT:=LH (fun V (hk:Kp [] w V)=>ptext_any z hz h hh V (LDw.kp hk))
 have hp1:=LH (ptA_size (s:=z) hh)
 have HM:=LH (fun V=>smay_any nm hnm A sec.length c V)
 have hvv:=LH hv
 have HB0:=LH Tryz.built_hashZ
 have HV:Hid (sumV z h nm.data.toList sec=if sumOk z nm.data.toList sec then sumF z h nm.data.toList sec else List.replicate 32 0):=LH rfl
 have HK:Hid (sumOk z nm.data.toList sec=(decide (0<=z) && (nmOk nm.data.toList && decide (0 < sec.length) && decide (sec.length<=256)))):=LH rfl
 have hO:=LH (hashA_one (List.replicate 32 0))
 unfold TextPost at HT
 clear hv
 obtain ⟨cp,hcp⟩:∃ cp,ptA z h=cp:=⟨_,rfl⟩
 rw [hcp] at S0 hp1 HT ⊢
 clear hcp
 by_cases hz0:z < 0
 . have Hok:Hid (sumOk z nm.data.toList sec=false):=LH (by rw [HK.out,decide_eq_false (by omega),Bool.false_and])
   have e:txE z=2:=if_pos hz0
   rw [e] at HT
   rw [Hok.out] at HV ⊢
   clear HM hvv HK
   generalize txt z h=tx at *
   generalize sec.length=sl at *
   obtain ⟨ca,hca⟩:∃ ca,Hid (hashA (List.replicate 32 0)=ca):=⟨_,LH rfl⟩
   go_enter Tryz.func69,Tryz.ntmps69
   go_wp2_with (refine wpList_load_blk rfl 25 (.tmp 2) rfl w.heap.size (by simp [Act.eval,Act.put]) 25 _ (S0.out.at_ (l1:=[_,_])) _ Tryz.underlying25 rfl (by rw [hp1.out];exact Tryz.infoPointP) ?_)
   refine (HT.out _ S0.out.k).mono ?_
   rintro e w1 ⟨rfl,k1⟩
   have S1:=LH (S0.out.kp k1)
   clear k1 S0
   go_wp2_with (first
    |(refine wpList_buildC rfl 23 _ rfl [] (by simp [Act.eval,Act.put]) _ HB0.out ?_)
    |(refine wpList_store_blk rfl 23 (.tmp 4) (.tmp 20) rfl (w.heap.size+1+1) (by simp [Act.eval,Act.put]) (hashA (List.replicate 32 0)) (by simp [Act.eval,Act.put]) 23 _ (S1.out.at_ (l1:=[])) (by exact Tryz.infoHashP) (by rfl) hO.out ?_;intro w7 b7 k7;have S7:=LH (Held.setBlk (l1:=[]) S1.out b7 k7);clear b7 k7))
   refine bodyPost_ret (results_cell_tmp (by rfl) rfl (S7.out.at_ (l1:=[])) Tryz.underlying23 rfl (by exact Tryz.infoHashP)) rfl ?_
   exact ⟨by rw [HV.out];rfl,S7.out.k⟩
 . have e:txE z=0:=if_neg hz0
   have e2:txt z h=told z.toNat h:=if_neg hz0
   rw [e,e2] at HT
   clear e e2
   have HTL:Hid ((told z.toNat h).length<=1000):=LH (told_le _ (by omega) h hh)
   rw [decide_eq_true (show 0<=z by omega),Bool.true_and] at HK
   obtain ⟨ts,hts,-,htz,htd⟩:=str_of (told z.toNat h)
   have hts:(⟨(told z.toNat h).toArray⟩:ByteArray)=ts:=by have:=hts.out;unfold strV at this;injection this
   rw [hts] at HT
   have htz:=LH htz
   clear hts
   have hsumF:Hid (sumF z h nm.data.toList sec=macF sec [(nm ++ { data:=#[10] }).data.toList,ts.data.toList].flatten):=LH (by
    rw [htd.out];unfold sumF;congr 1;simp)
   have hkb:Hid ((nmOk nm.data.toList && decide (0 < sec.length) && decide (sec.length<=256))=true->nm.size<=64 ∧ sec.length<=256):=LH (fun hb=>by
    rw [nmOk_eq] at hb
    simp only [Bool.and_eq_true,decide_eq_true_eq] at hb
    exact ⟨hb.1.1.1.2,hb.2⟩)
   have hmm:=fun (w5:World) (L:List Res) (x:Value) (vs:List Value) (S:Held w w5 L) (hb:(nmOk nm.data.toList && decide (0 < sec.length) && decide (sec.length<=256))=true) (HX:∀ V,Held w V L->TxF V x vs [(nm ++ { data:=#[10] }).data.toList,ts.data.toList])=>mac_any w L A c sec (by have:=(hkb.out hb).2;omega) x vs _ (by
    have h1:=(hkb.out hb).1
    have h2:=HTL.out
    have h3:ts.data.toList.length=ts.size:=rfl
    have h4:(nm ++ { data:=#[10] }).data.toList.length=nm.size+1:=by
     show (nm ++ { data:=#[10] }).size=_
     rw [ByteArray.size_append];rfl
    rw [<- htz.out] at h2
    simp only [List.flatten_cons,List.flatten_nil,List.append_nil,List.length_append,h3,h4]
    omega) w5 S (fun V SV=>rd_old hvv.out SV.k) HX
   rw [<- hsumF.out] at hmm
   have Hmm:=LH hmm
   clear hmm
   have hO2:=LH (hashA_one (sumF z h nm.data.toList sec))
   have hZ2:Hid ((hashA (sumF z h nm.data.toList sec)).size=32):=LH (by rw [hashA_size,sumF_length])
   obtain ⟨sm,hsm⟩:∃ sm,Hid (hashA (sumF z h nm.data.toList sec)=sm):=⟨_,LH rfl⟩
   rw [hsm.out] at Hmm hO2 hZ2
   generalize hbb:(nmOk nm.data.toList && decide (0 < sec.length) && decide (sec.length<=256))=b at *
   generalize hsl:sec.length=sl at *
   clear hbb hsl
   have hsz1:Hid (b=true->(nm ++ { data:=#[10] }).size<=100000000 ∧ ts.size<=100000000):=LH (fun hb=>by
    have h1:=(hkb.out hb).1
    have h2:=HTL.out
    rw [ByteArray.size_append,htz.out]
    exact ⟨by show nm.size+1<=_;omega,by omega⟩)
   have hsz2:Hid (b=true->nm.size<=64):=LH (fun hb=>(hkb.out hb).1)
   clear hkb
   rw [HK.out] at HV ⊢
   clear HK
   go_enter Tryz.func69,Tryz.ntmps69
   go_wp2_with (refine wpList_load_blk rfl 25 (.tmp 2) rfl w.heap.size (by simp [Act.eval,Act.put]) 25 _ (S0.out.at_ (l1:=[_,_])) _ Tryz.underlying25 rfl (by rw [hp1.out];exact Tryz.infoPointP) ?_)
   refine (HT.out _ S0.out.k).mono ?_
   rintro e w1 ⟨rfl,k1⟩
   have S1:=LH (S0.out.kp k1)
   clear k1 S0
   obtain ⟨c0,c1,m1⟩:=Blk.c2 (S1.out.at_ (l1:=[_]))
   go_wp2_with fail
   refine (HM.out _).mono ?_
   rintro e w2 ⟨rfl,k2⟩
   have S2:=LH (S1.out.kp k2)
   clear k2 S1 c0 c1 m1
   obtain ⟨c0,c1,m1⟩:=Blk.c2 (S2.out.at_ (l1:=[_]))
   cases b
   . go_wp2_with (first
      |(refine wpList_buildC rfl 23 _ rfl [] (by simp [Act.eval,Act.put]) _ HB0.out ?_)
      |(refine wpList_store_blk rfl 23 (.tmp 4) (.tmp 20) rfl (w.heap.size+1+1) (by simp [Act.eval,Act.put]) (hashA (List.replicate 32 0)) (by simp [Act.eval,Act.put]) 23 _ (S2.out.at_ (l1:=[])) (by exact Tryz.infoHashP) (by rfl) hO.out ?_;intro w7 b7 k7;have S7:=LH (Held.setBlk (l1:=[]) S2.out b7 k7);clear b7 k7))
     refine bodyPost_ret (results_cell_tmp (by rfl) rfl (S7.out.at_ (l1:=[])) Tryz.underlying23 rfl (by exact Tryz.infoHashP)) rfl ?_
     exact ⟨by rw [HV.out];rfl,S7.out.k⟩
   . have hz5:=(hsz1.out rfl).1
     have hz6:=(hsz1.out rfl).2
     have hz5:=LH hz5
     obtain ⟨l5,hl5⟩:∃ l5,Hid ((nm ++ { data:=#[10] }).size=l5):=⟨_,LH rfl⟩
     obtain ⟨l6,hl6⟩:∃ l6,Hid (ts.size=l6):=⟨_,LH rfl⟩
     have hz6:=LH hz6
     have hcc:¬ 9223372036854775807 < nm.size+1:=by have:=(hsz2.out rfl);omega
     go_wp2_with (first
      |(refine wpList_conv rfl (.tmp 25) rfl (nm ++ { data:=#[10] }) (by simp [Act.eval,Act.put]) hz5.out l5 hl5.out S2.out ?_;intro v3 w3 s3;obtain ⟨A3,c3,hv3⟩:=rd_form (s3.at_ (l1:=[])).1;subst hv3;have S3:=LH s3;clear s3)
      |(refine wpList_conv rfl (.tmp 27) rfl ts (by simp [Act.eval,Act.put]) hz6.out l6 hl6.out S3.out ?_;intro v4 w4 s4;obtain ⟨A4,c4,hv4⟩:=rd_form (s4.at_ (l1:=[])).1;subst hv4;have S4:=LH s4;clear s4))
     have S5:=LH (S4.out.newBlk 32 #[.slice A3 l5 c3,.slice A4 l6 c4])
     refine (Hmm.out _ _ _ [_,_] S5.out (by trivial) (fun V SV=>txf_two (SV.at_ (l1:=[])) (SV.at_ (l1:=[_,_])).1 (SV.at_ (l1:=[_])).1)).mono ?_
     rintro e w6 ⟨rfl,s6⟩
     have S6:=LH s6
     clear s6
     go_wp2_with (refine wpList_store_blk rfl 23 (.tmp 4) (.tmp 30) rfl (w.heap.size+1+1) (by simp [Act.eval,Act.put]) sm (by simp [Act.eval,Act.put]) 23 _ (S6.out.at_ (l1:=[_,_,_])) (by rw [hZ2.out];exact Tryz.infoHashP) (by rw [hZ2.out];rfl) hO2.out ?_;intro w7 b7 k7;have S7:=LH (Held.setBlk (l1:=[_,_,_]) S6.out b7 k7);clear b7 k7)
     refine bodyPost_ret (results_cell_tmp (by rfl) rfl (S7.out.at_ (l1:=[_,_,_])) Tryz.underlying23 rfl (by rw [hZ2.out];exact Tryz.infoHashP)) rfl ?_
     exact ⟨by rw [HV.out];simp only [if_true];rw [hsm.out];rfl,S7.out.k⟩
end
section
open Go.RowKit
theorem Tryz.builtS_is(ps:List (Nat × Value)):Tryz.prog.built 89 ps=Instr.fill (#[(0,1),(1,32)][·]?) (sgA ([],List.replicate 32 0)) ps:=by
 unfold Program.built
 kernel_rfl
theorem Tryz.built_sig(s:SigD)(hs:s.2.length=32):Tryz.prog.built 89 [(0,strV s.1),(1,.agg (hashA s.2))]=some (sgA s):=by
 rw [Tryz.builtS_is]
 have hz:(hashA s.2).size=32:=by rw [hashA_size,hs]
 have h1:=foldl_place 1 (hashA s.2).toList 0 (sgA (s.1,List.replicate 32 0))
 have hz1:(sgA (s.1,List.replicate 32 0)).size=33:=sgA_size (by simp)
 have e:((hashA s.2).zipIdx.foldl (fun cs (x:Value × Nat)=>cs.setIfInBounds (1+x.2) x.1) (sgA (s.1,List.replicate 32 0)))=sgA s:=by
  rw [show (hashA s.2).zipIdx.foldl (fun cs (x:Value × Nat)=>cs.setIfInBounds (1+x.2) x.1) (sgA (s.1,List.replicate 32 0))=((hashA s.2).toList.zipIdx 0).foldl (fun cs (x:Value × Nat)=>cs.setIfInBounds (1+x.2) x.1) (sgA (s.1,List.replicate 32 0)) from by rw [<- Array.foldl_toList,Array.toList_zipIdx],h1]
  rw [hz1,List.take_of_length_le (l:=(hashA s.2).toList) (by rw [Array.length_toList,hz];decide),Array.length_toList,hz]
  show (#[strV s.1].toList ++ bv s.2 ++ []).toArray=_
  rw [List.append_nil];rfl
 have f1:Instr.fill (#[(0,1),(1,32)][·]?) (sgA (s.1,List.replicate 32 0)) [(1,.agg (hashA s.2))]=some (sgA s):=by
  unfold Instr.fill
  show (if (decide ((hashA s.2).size ≠ 32) || decide (1+(hashA s.2).size > (sgA (s.1,List.replicate 32 0)).size))=true then none else Instr.fill (#[(0,1),(1,32)][·]?) ((hashA s.2).zipIdx.foldl (fun cs (x:Value × Nat)=>cs.setIfInBounds (1+x.2) x.1) (sgA (s.1,List.replicate 32 0))) [])=some (sgA s)
  rw [hz,hz1,e]
  rfl
 unfold Instr.fill
 exact f1
theorem fill_sig{cs:Array Value}(hc:cs.size=33):Instr.fill (fun i=>some (i * 33,33)) ((Array.range (1 * 33)).map ((sgA ([],List.replicate 32 0))[· % (sgA ([],List.replicate 32 0)).size]!)) [(0,.agg cs)]=some cs:=by
 have hz:((Array.range (1 * 33)).map ((sgA ([],List.replicate 32 0))[· % (sgA ([],List.replicate 32 0)).size]!)).size=33:=by simp
 generalize (Array.range (1 * 33)).map ((sgA ([],List.replicate 32 0))[· % (sgA ([],List.replicate 32 0)).size]!)=z at *
 have h1:=foldl_place 0 cs.toList 0 z
 have e:cs.zipIdx.foldl (fun r (x:Value × Nat)=>r.setIfInBounds (0+x.2) x.1) z=cs:=by
  rw [show cs.zipIdx.foldl (fun r (x:Value × Nat)=>r.setIfInBounds (0+x.2) x.1) z=(cs.toList.zipIdx 0).foldl (fun r (x:Value × Nat)=>r.setIfInBounds (0+x.2) x.1) z from by rw [<- Array.foldl_toList,Array.toList_zipIdx],h1]
  rw [hz,List.take_of_length_le (l:=cs.toList) (by rw [Array.length_toList,hc];decide),Array.length_toList,hc,List.drop_of_length_le (by rw [Array.length_toList,hz];decide)]
  simp
 unfold Instr.fill
 show (if (decide (cs.size ≠ 33) || decide (0+cs.size > z.size))=true then none else Instr.fill (fun i=>some (i * 33,33)) (cs.zipIdx.foldl (fun r (x:Value × Nat)=>r.setIfInBounds (0+x.2) x.1) z) [])=some cs
 rw [hc,hz,e]
 rfl
end
section
open Go.RowKit
def signE (z:Int) (l:List SigD) (nm sec:Bs):Int:=if mayN z l=false then 2 else if sumOk z nm sec=false then 2 else if hasN nm l then 8 else if l.length=64 then 380 else 0
def insN (l:List SigD) (s:SigD):List SigD:=l.take (posN s.1 l) ++ s :: l.drop (posN s.1 l)
theorem mayN_64{z:Int}{l:List SigD}(h:mayN z l=true):l.length<=64 ∧ rising [] l=true:=by
 unfold mayN at h
 simp only [Bool.and_eq_true,decide_eq_true_eq] at h
 exact ⟨h.1.2,h.2⟩
end
section
open Go.RowKit
def Cnt (w:World) (b m:Nat) (f:List UInt8->Nat):Prop:=∃ D:DataW Unit,w.ownsMap Tryz.prog 9 (plainElem Tryz.prog 3) b m D ∧ ∀ s,D.atKey (.string s) (.lit (.int .i64 0))=.lit (.int .i64 (f s:Int))
def cntR (b m:Nat) (f:List UInt8->Nat):Res where
 fp:=[b]
 ok:=fun w=>Cnt w b m f
 keep:=fun _ _ _ h hk hn=>by
  obtain ⟨D,h,hf⟩:=h
  have hlt:=h.lt
  obtain ⟨es,clock,hb,rest⟩:=h
  exact ⟨D,⟨es,clock,(hk.block b hlt (hn b (by simp))).trans hb,rest⟩,hf⟩
 lt:=fun _ h g hg=>by
  obtain ⟨D,h,hf⟩:=h
  simp at hg;subst hg;exact h.lt
theorem cnt_new(w:World):Cnt (w.alloc (.map #[] 0)) w.heap.size 0 (fun _=>0):=⟨.map [],World.ownsMap_made ..,fun _=>rfl⟩
theorem cnt_get{w:World}{b m:Nat}{f:List UInt8->Nat}(h:Cnt w b m f)(s:ByteArray)(hs:s.size<=maxLen):(Instr.lookup 158 (.map (some b)) (.string s) false).run Tryz.prog w=.ok (.int .i64 (f s.data.toList:Int)) w:=by
 obtain ⟨D,h,hf⟩:=h
 obtain ⟨c,hrun,hat,-⟩:=h.lookup_int (Maps.string_keyed Tryz.underlying9) Tryz.underlying158 Tryz.underlying3 (by kernel_rfl) (WideMaps.keyOf_string_mk Tryz.underlying9 hs)
 rw [hf] at hat
 have:(f s.data.toList:Int)=c:=by simp only [DataW.lit.injEq,Lit.int.injEq,true_and] at hat;exact hat
 rw [hrun,this]
theorem wf_nat{x:Nat}(hx:x < 9223372036854775808):(Lit.int .i64 (x:Int)).wf=true:=by
 have h1:IntKind.i64.min=-9223372036854775808:=by decide
 have h2:IntKind.i64.max=9223372036854775807:=by decide
 show (decide (IntKind.i64.min<=(x:Int)) && decide ((x:Int)<=IntKind.i64.max))=true
 rw [h1,h2,Bool.and_eq_true,decide_eq_true_iff,decide_eq_true_iff]
 omega
theorem cnt_put{w:World}{b m:Nat}{f:List UInt8->Nat}(h:Cnt w b m f)(hm:m < maxLen)(s:ByteArray)(hs:s.size<=maxLen)(x:Nat)(hx:x < 9223372036854775808):
 ∃ w',(Instr.mapUpdate 158 (.map (some b)) (.string s) (.int .i64 (x:Int))).run Tryz.prog w=.ok () w' ∧ Cnt w' b (m+1) (fun t=>if t=s.data.toList then x else f t) ∧ Kp [b] w w':=by
 obtain ⟨D,h,hf⟩:=h
 have hmap:=h.isMap
 obtain ⟨w',hrun,h',hg⟩:=h.update (Maps.string_keyed Tryz.underlying9) Tryz.underlying158 hm (WideMaps.keyOf_string_mk Tryz.underlying9 hs) (plainElem_int Tryz.underlying3 (a:=(x:Int)) (wf_nat hx))
 refine ⟨w',hrun,⟨_,h',fun t=>?_⟩,Kp.of_grown hg⟩
 show _=DataW.lit (.int .i64 ((if t=s.data.toList then x else f t:Nat):Int))
 by_cases e:t=s.data.toList
 . rw [if_pos e,e]
   exact Maps.atKey_put_same hmap (by trivial) _ _
 . rw [if_neg e,Maps.atKey_put_other (fun h=>e (by simpa using h))]
   exact hf t
end
section
variable {Q:Exit->Act->World->Prop} {a:Act} {w:World}
open Go.RowKit
theorem wpList_load_aggG{P:Program}{ops:Array Oper}{rest:List Oper}{o:Oper}{a:Act}{w:World}{Q:Exit->Act->World->Prop}(j d:Nat)(b:Bool)(hg:o.guard=some (j,b))(hj:(ops[j]?).bind (·.dst)=some d)(hd:a.tmps[d]?.getD undef=.bool b)
 (ty:TypeId) (x:Operand) (ho:o.op=.load ty x) (ad:Addr) (hx:a.eval x=.pointer (some ad)) (cs:List Value) (ds:TypeDesc) (hc:∀ j u,cs[j]?=some u->w.cell? (ad.add j)=some u) (hu:P.underlying ty=some ds) (hds:aggB ds=true) (hi:(P.info? ty).map (·.size)=some cs.length)
 (h:wpList P ops Q rest (a.put o.dst (.agg cs.toArray)) w):wpList P ops Q (o :: rest) a w:=
 wpList_met j d b hg hj hd fun K hK=>by
  unfold Oper.wp
  rw [exec_load ho hx (run_loadAt_agg w ad ty cs ds hc hu hds hi)]
  exact hK _ _ h
theorem sig_sum{w:World}{g:Nat}{t:TypeId}{s:SigD}(hb:Blk w g t (sgA s)):∀ j u,(hashA s.2).toList[j]?=some u->w.cell? ((⟨g,1,none⟩:Addr).add j)=some u:=by
 intro j u hu
 rw [Addr.add_lit,Nat.add_comm]
 have:=hb.agg (j+1) u (by show (strV s.1 :: bv s.2)[j+1]?=_;rw [List.getElem?_cons_succ];exact hu)
 rwa [Addr.add_lit,Nat.zero_add] at this
theorem Tryz.infoStrZ:(Tryz.prog.info? 9).map (fun i=>(i.zero,i.size,i.bytes))=some (some (.string ⟨#[]⟩),1,16):=by kernel_rfl
theorem Tryz.infoKeyP:(Tryz.prog.info? 34).map (·.size)=some 2:=by kernel_rfl
theorem srt_r0(w0:World)(ca:Array Value)(L:List Res)(S:Held w0 w L)(hsz:a.tmps.size=80)(o0:Sl a 0 (.agg ca)):RG1 false 0 Tryz.f73 Q a w fun a' W q'=>(∃ gN,Sl a' 2 (Pq gN 0) ∧ Held w0 W (blkR gN 28 ca :: L))->q':=by
 intro hend
 refine wp_region_lit ?_
 (conv=>arg 4;whnf)
 unfold Sl at o0
 have S0:=LH (S.newBlk 28 ca)
 go_wp2_with fail
 try simp only [Act.put]
 exact hend _ _ tS (⟨_,sP0,S0.out⟩)
theorem srt_r1(w0:World)(L:List Res)(S:Held w0 w L)(hsz:a.tmps.size=80):RG1 false 1 Tryz.f73 Q a w fun a' W q'=>(∃ v,Sl a' 5 v ∧ Held w0 W (rowR 9 1 v 0 [] :: L))->q':=by
 intro hend
 refine wp_region_lit ?_
 (conv=>arg 4;whnf)
 have S1:=LH (S.rownew (ow_empty 9 1 (g:=w.heap.size) rfl) ((Kp.refl [] w).alloc _) (by simp [Value.ownBlock]))
 go_wp2_with fail
 try simp only [Act.put]
 exact hend _ _ tS (⟨_,sP0,S1.out⟩)
theorem srt_r2(w0:World)(gN:Nat)(ca:Array Value)(hz:ca.size=34)(ck:Int)(b:Bool)(hb:(ck != 0)=b)(L:List Res)(S:Held w0 w (blkR gN 28 ca :: L))(HC:∀ V,Held w0 V (blkR gN 28 ca :: L)->Calls Tryz.prog 31 #[.agg ca] V fun e w'=>e=.returned (.int .i64 ck) ∧ Kp [] V w')(hsz:a.tmps.size=80)(o2:Sl a 2 (Pq gN 0)):RG1 false 2 Tryz.f73 Q a w fun a' W q'=>Sl a' 18 (.bool b)->(Held w0 W (blkR gN 28 ca :: L))->q':=by
 intro hend
 refine wp_region_lit ?_
 (conv=>arg 4;whnf)
 unfold Sl at o2
 have S:=LH S
 have HC:=LH (HC _ S.out)
 have hz:=LH hz
 go_wp2_with (refine wpList_load_blk rfl 28 (.tmp 2) rfl gN (aO o2) 28 _ (S.out.at_ (l1:=[])) _ Tryz.underlying28 rfl (by rw [hz.out];exact Tryz.infoNote) ?_)
 refine HC.out.mono ?_
 rintro e w1 ⟨rfl,k1⟩
 have S1:=LH (S.out.kp k1)
 clear k1
 go_wp2_with fail
 try simp only [Act.put]
 exact hend _ _ tS sP (S1.out)
theorem srt_r3(v:Value)(hsz:a.tmps.size=80)(o5:Sl a 5 (v)):RG0 3 Tryz.f73 Q a w fun a' q'=>Sl a' 4 (v)->q':=by
 intro hend
 refine wp_region_lit ?_
 (conv=>arg 4;whnf)
 unfold Sl at o5
 go_wp2_with fail
 try simp only [Act.put]
 exact hend _ tS sP
theorem srt_r4(w0:World)(L:List Res)(S:Held w0 w L)(hsz:a.tmps.size=80):RG1 false 4 Tryz.f73 Q a w fun a' W q'=>(∃ g,Sl a' 6 (.map (some g)) ∧ Held w0 W (cntR g 0 (fun _=>0) :: L))->q':=by
 intro hend
 refine wp_region_lit ?_
 (conv=>arg 4;whnf)
 have hmk:(Instr.makeMap 158 none).run Tryz.prog w=.ok (.map (some w.heap.size)) (w.alloc (.map #[] 0)):=rfl
 have S1:=LH (S.new (cntR w.heap.size 0 (fun _=>0)) ((Kp.refl [] w).alloc (.map #[] 0)) (cnt_new w) (fun b hb=>by simp [cntR] at hb;omega))
 go_wp2_with fail
 try simp only [Act.put]
 exact hend _ _ tS (⟨w.heap.size,sP0,S1.out⟩)
theorem srt_r5(A:Option Addr)(n c:Nat)(hsz:a.tmps.size=80)(o1:Sl a 1 (.slice A n c)):RG0 5 Tryz.f73 Q a w fun a' q'=>Sl a' 21 (.slice A n c)->Sl a' 22 (Nq n)->Sl a' 23 (Nq 0)->q':=by
 intro hend
 refine wp_region_lit ?_
 (conv=>arg 4;whnf)
 unfold Sl at o1
 go_wp2_with fail
 try simp only [Act.put]
 exact hend _ tS sP sP sP
theorem srt_r6(k n:Nat)(hsz:a.tmps.size=80)(o22:Sl a 22 (Nq n))(o23:Sl a 23 (Nq k)):RG0 6 Tryz.f73 Q a w fun a' q'=>Sl a' 24 (.bool (decide (k < n)))->q':=by
 intro hend
 refine wp_region_lit ?_
 (conv=>arg 4;whnf)
 unfold Sl at o22 o23
 go_wp2_with fail
 try simp only [Act.put]
 exact hend _ tS sP
theorem srt_r7(w0:World)(ad:Addr)(k n c:Nat)(hk:k < n)(nm:ByteArray)(v:Value)(hv:∃ A n c,v=.slice A n c)(hc:∀ j u,([.string nm,v]:List Value)[j]?=some u->w.cell? ((ad.add (k * 2)).add j)=some u)(L:List Res)(S:Held w0 w L)(hsz:a.tmps.size=80)(o21:Sl a 21 (.slice (some ad) n c))(o23:Sl a 23 (Nq k)):RG1 false 7 Tryz.f73 Q a w fun a' W q'=>(∃ g,Sl a' 8 (Pq g 0) ∧ Held w0 W (blkR g 34 #[.string nm,v] :: L))->q':=by
 intro hend
 refine wp_region_lit ?_
 (conv=>arg 4;whnf)
 unfold Sl at o21 o23
 obtain ⟨A2,n2,c2,rfl⟩:=hv
 have S:=LH S
 have h0:0<=(k:Int):=by omega
 have h1:(k:Int) < (n:Int):=by omega
 have HC:=LH hc
 have HO:Hid (∀ u,u ∈ (#[.string nm,.slice A2 n2 c2]:Array Value).toList->u.oneCell'=true):=LH (by intro u hu;simp at hu;rcases hu with rfl|rfl <;> rfl)
 have HI:=LH Tryz.infoKeyP
 clear hc
 have S1:=LH (S.out.newBlk 34 #[.string ⟨#[]⟩,.slice none 0 0])
 go_wp2_with (first
  |(refine wpList_load_agg rfl 34 (.tmp 25) rfl (ad.add (k * 2)) aE [.string nm,.slice A2 n2 c2] _ HC.out Tryz.underlying34 rfl (by exact HI.out) ?_)
  |(refine wpList_store_blk rfl 34 (.tmp 8) (.tmp 26) rfl w.heap.size aE #[.string nm,.slice A2 n2 c2] aE 34 _ (S1.out.at_ (l1:=[])) (by exact HI.out) (by rfl) HO.out ?_;intro w7 b7 k7;have S7:=LH (Held.setBlk (l1:=[]) S1.out b7 k7);clear b7 k7))
 try simp only [Act.put]
 exact hend _ _ tS (⟨_,sP0,S7.out⟩)
theorem srt_r8(w0:World)(gN:Nat)(z:Int)(h:Bs)(hh:h.length=32)(A:Option Addr)(n c:Nat)(L:List Res)(S:Held w0 w (blkR gN 28 (ntA z h (.slice A n c)) :: L))(hsz:a.tmps.size=80)(o2:Sl a 2 (Pq gN 0)):RG0 8 Tryz.f73 Q a w fun a' q'=>Sl a' 28 (.slice A n c)->Sl a' 29 (Nq n)->Sl a' 30 (Nq 0)->q':=by
 intro hend
 refine wp_region_lit ?_
 (conv=>arg 4;whnf)
 unfold Sl at o2
 have c33:w.cell? ⟨gN,33,none⟩=some (.slice A n c):=by rw [(S.at_ (l1:=[])).cell];exact ntA_sigs hh
 go_wp2_with fail
 try simp only [Act.put]
 exact hend _ tS sP sP sP
theorem srt_r9(k n:Nat)(hsz:a.tmps.size=80)(o29:Sl a 29 (Nq n))(o30:Sl a 30 (Nq k)):RG0 9 Tryz.f73 Q a w fun a' q'=>Sl a' 31 (.bool (decide (k < n)))->q':=by
 intro hend
 refine wp_region_lit ?_
 (conv=>arg 4;whnf)
 unfold Sl at o29 o30
 go_wp2_with fail
 try simp only [Act.put]
 exact hend _ tS sP
theorem srt_r10(w0:World)(ad:Addr)(k n c:Nat)(hk:k < n)(s:SigD)(hs:s.2.length=32)(hc:∀ j u,(sgL s)[j]?=some u->w.cell? ((ad.add (k * 33)).add j)=some u)(L:List Res)(S:Held w0 w L)(hsz:a.tmps.size=80)(o28:Sl a 28 (.slice (some ad) n c))(o30:Sl a 30 (Nq k)):RG1 false 10 Tryz.f73 Q a w fun a' W q'=>(∃ g,Sl a' 10 (Pq g 0) ∧ Held w0 W (blkR g 89 (sgA s) :: L))->q':=by
 intro hend
 refine wp_region_lit ?_
 (conv=>arg 4;whnf)
 unfold Sl at o28 o30
 have S:=LH S
 have h0:0<=(k:Int):=by omega
 have h1:(k:Int) < (n:Int):=by omega
 have hc2:∀ j u,(sgA s).toList[j]?=some u->w.cell? ((ad.add (k * 33)).add j)=some u:=hc
 have HC:=LH hc2
 clear hc hc2
 have HO:=LH (sgA_one s)
 have hz2:Hid ((sgA s).size=33):=LH (sgA_size hs)
 have S1:=LH (S.out.newBlk 89 (sgA ([],List.replicate 32 0)))
 generalize sgA s=cs at *
 go_wp2_with (first
  |(refine wpList_load_agg rfl 89 (.tmp 32) rfl (ad.add (k * 33)) aE cs.toList _ HC.out Tryz.underlying89 rfl (by rw [Array.length_toList,hz2.out];exact Tryz.infoSig) ?_)
  |(refine wpList_store_blk rfl 89 (.tmp 10) (.tmp 33) rfl w.heap.size aE cs aE 89 _ (S1.out.at_ (l1:=[])) (by rw [hz2.out];exact Tryz.infoSig) (by rw [hz2.out];rfl) HO.out ?_;intro w7 b7 k7;have S7:=LH (Held.setBlk (l1:=[]) S1.out b7 k7);clear b7 k7))
 try simp only [Act.put]
 exact hend _ _ tS (⟨_,sP0,S7.out⟩)
theorem srt_r11(w0:World)(gs gk:Nat)(s:SigD)(ns nm:ByteArray)(v:Value)(hn:strV s.1=.string ns)(b:Bool)(hb:(!(ns.toList == nm.toList))=b)(L:List Res)(S:Held w0 w (blkR gs 89 (sgA s) :: blkR gk 34 #[.string nm,v] :: L))(hsz:a.tmps.size=80)(o8:Sl a 8 (Pq gk 0))(o10:Sl a 10 (Pq gs 0)):RG0 11 Tryz.f73 Q a w fun a' q'=>Sl a' 38 (.bool b)->q':=by
 intro hend
 refine wp_region_lit ?_
 (conv=>arg 4;whnf)
 unfold Sl at o8 o10
 have c1:w.cell? ⟨gs,0,none⟩=some (.string ns):=by rw [(S.at_ (l1:=[])).cell,<- hn];rfl
 obtain ⟨c2,c3,m3⟩:=Blk.c2 (S.at_ (l1:=[_]))
 go_wp2_with fail
 try simp only [Act.put]
 exact hend _ tS sP
theorem srt_r12(w0:World)(gN gK:Nat)(z:Int)(h:Bs)(hh:h.length=32)(v0 u v:Value)(sv:Bs)(hsv:sv.length=32)(se:Int)(L:List Res)(S:Held w0 w (blkR gN 28 (ntA z h v0) :: blkR gK 34 #[u,v] :: L))(HS0:∀ V,Held w0 V (blkR gN 28 (ntA z h v0) :: blkR gK 34 #[u,v] :: L)->Calls Tryz.prog 69 #[.agg (ptA z h),.agg #[u,v]] V fun e w'=>e=.returned (.tuple #[.agg (hashA sv),.int .i64 se]) ∧ Kp [] V w')(hsz:a.tmps.size=80)(o2:Sl a 2 (Pq gN 0))(o8:Sl a 8 (Pq gK 0)):RG1 false 12 Tryz.f73 Q a w fun a' W q'=>Sl a' 12 (.int .i64 (se))->(∃ gS,Sl a' 11 (Pq gS 0) ∧ Held w0 W (blkR gS 23 (hashA sv) :: blkR gN 28 (ntA z h v0) :: blkR gK 34 #[u,v] :: L))->q':=by
 intro hend
 refine wp_region_lit ?_
 (conv=>arg 4;whnf)
 unfold Sl at o2 o8
 have S:=LH S
 have HS:=LH (HS0 _ S.out)
 clear HS0
 have hp:=LH (nt_pointAt (S.out.at_ (l1:=[])))
 have HP:=LH (ptA_size (s:=z) hh)
 have hO:=LH (hashA_one sv)
 have hz2:Hid ((hashA sv).size=32):=LH (by rw [hashA_size,hsv])
 obtain ⟨c0,c1,m1⟩:=Blk.c2 (S.out.at_ (l1:=[_]))
 generalize ntA z h v0=ca at *
 generalize ptA z h=cp at *
 generalize hashA sv=ch at *
 go_wp2_with (refine wpList_load_agg rfl 25 (.tmp 40) rfl ⟨gN,0,none⟩ aE cp.toList _ hp.out Tryz.underlying25 rfl (by rw [Array.length_toList,HP.out];exact Tryz.infoPointP) ?_)
 refine HS.out.mono ?_
 rintro e w1 ⟨rfl,k1⟩
 have S1:=LH ((S.out.kp k1).newBlk 23 (hashA (List.replicate 32 0)))
 clear k1 c0 c1 m1
 go_wp2_with (refine wpList_store_blk rfl 23 (.tmp 11) (.tmp 44) rfl w1.heap.size aE ch aE 23 _ (S1.out.at_ (l1:=[])) (by rw [hz2.out];exact Tryz.infoHashP) (by rw [hz2.out];rfl) hO.out ?_;intro w7 b7 k7;have S7:=LH (Held.setBlk (l1:=[]) S1.out b7 k7);clear b7 k7)
 try simp only [Act.put]
 exact hend _ _ tS sP (⟨_,sP0,S7.out⟩)
theorem srt_r14(w0:World)(gM gK m:Nat)(hm:m < maxLen)(f:List UInt8->Nat)(nm:ByteArray)(hnm:nm.size<=maxLen)(v:Value)(hf:f nm.data.toList < 4611686018427387904)(L:List Res)(S:Held w0 w (cntR gM m f :: blkR gK 34 #[.string nm,v] :: L))(hsz:a.tmps.size=80)(o6:Sl a 6 (.map (some gM)))(o8:Sl a 8 (Pq gK 0)):RG1 false 14 Tryz.f73 Q a w fun a' W q'=>(Held w0 W (cntR gM (m+1) (fun t=>if t=nm.data.toList then f nm.data.toList+1 else f t) :: blkR gK 34 #[.string nm,v] :: L))->q':=by
 intro hend
 refine wp_region_lit ?_
 (conv=>arg 4;whnf)
 unfold Sl at o6 o8
 have S:=LH S
 have hC:Hid (Cnt w gM m f):=LH (S.out.at_ (l1:=[]))
 obtain ⟨c2,c3,m3⟩:=Blk.c2 (S.out.at_ (l1:=[_]))
 have hg:=cnt_get hC.out nm hnm
 have hp:=LH (cnt_put hC.out hm nm hnm (f nm.data.toList+1) (by omega))
 have hw:wrap64 ((f nm.data.toList:Int)+1)=(f nm.data.toList:Int)+1:=by unfold wrap64;omega
 obtain ⟨w5,hrun,hC5,hk5⟩:=hp.out
 have hC5:=LH hC5
 have hk5:=LH hk5
 rw [Int.natCast_add,Int.natCast_one] at hrun
 generalize f nm.data.toList=x at *
 have S5:=LH (S.out.turnAt (l1:=[]) (cntR gM (m+1) (fun t=>if t=nm.data.toList then x+1 else f t)) hk5.out hC5.out (fun b hb=>.inl hb))
 go_wp2_with fail
 try simp only [Act.put]
 exact hend _ _ tS (S5.out)
theorem srt_r15(k:Nat)(hk:k < 9223372036854775807)(hsz:a.tmps.size=80)(o30:Sl a 30 (Nq k)):RG0 15 Tryz.f73 Q a w fun a' q'=>Sl a' 30 (Nq (k+1))->q':=by
 intro hend
 refine wp_region_lit ?_
 (conv=>arg 4;whnf)
 unfold Sl at o30
 have hw:wrap64 ((k:Int)+1)=(k:Int)+1:=by unfold wrap64;omega
 go_wp2_with fail
 try simp only [Act.put]
 exact hend _ tS sP
theorem srt_r16(k:Nat)(hk:k < 9223372036854775807)(hsz:a.tmps.size=80)(o23:Sl a 23 (Nq k)):RG0 16 Tryz.f73 Q a w fun a' q'=>Sl a' 23 (Nq (k+1))->q':=by
 intro hend
 refine wp_region_lit ?_
 (conv=>arg 4;whnf)
 unfold Sl at o23
 have hw:wrap64 ((k:Int)+1)=(k:Int)+1:=by unfold wrap64;omega
 go_wp2_with fail
 try simp only [Act.put]
 exact hend _ tS sP
theorem srt_r17(w0:World)(gN:Nat)(z:Int)(h:Bs)(hh:h.length=32)(A:Option Addr)(n c:Nat)(L:List Res)(S:Held w0 w (blkR gN 28 (ntA z h (.slice A n c)) :: L))(hsz:a.tmps.size=80)(o2:Sl a 2 (Pq gN 0)):RG0 17 Tryz.f73 Q a w fun a' q'=>Sl a' 62 (.slice A n c)->Sl a' 63 (Nq n)->Sl a' 64 (Nq 0)->q':=by
 intro hend
 refine wp_region_lit ?_
 (conv=>arg 4;whnf)
 unfold Sl at o2
 have c33:w.cell? ⟨gN,33,none⟩=some (.slice A n c):=by rw [(S.at_ (l1:=[])).cell];exact ntA_sigs hh
 go_wp2_with fail
 try simp only [Act.put]
 exact hend _ tS sP sP sP
theorem srt_r18(k n:Nat)(hsz:a.tmps.size=80)(o63:Sl a 63 (Nq n))(o64:Sl a 64 (Nq k)):RG0 18 Tryz.f73 Q a w fun a' q'=>Sl a' 65 (.bool (decide (k < n)))->q':=by
 intro hend
 refine wp_region_lit ?_
 (conv=>arg 4;whnf)
 unfold Sl at o63 o64
 go_wp2_with fail
 try simp only [Act.put]
 exact hend _ tS sP
theorem srt_r19(w0:World)(ad:Addr)(k n c:Nat)(hk:k < n)(s:SigD)(hs:s.2.length=32)(hc:∀ j u,(sgL s)[j]?=some u->w.cell? ((ad.add (k * 33)).add j)=some u)(L:List Res)(S:Held w0 w L)(hsz:a.tmps.size=80)(o62:Sl a 62 (.slice (some ad) n c))(o64:Sl a 64 (Nq k)):RG1 false 19 Tryz.f73 Q a w fun a' W q'=>(∃ g,Sl a' 14 (Pq g 0) ∧ Held w0 W (blkR g 89 (sgA s) :: L))->q':=by
 intro hend
 refine wp_region_lit ?_
 (conv=>arg 4;whnf)
 unfold Sl at o62 o64
 have S:=LH S
 have h0:0<=(k:Int):=by omega
 have h1:(k:Int) < (n:Int):=by omega
 have hc2:∀ j u,(sgA s).toList[j]?=some u->w.cell? ((ad.add (k * 33)).add j)=some u:=hc
 have HC:=LH hc2
 clear hc hc2
 have HO:=LH (sgA_one s)
 have hz2:Hid ((sgA s).size=33):=LH (sgA_size hs)
 have S1:=LH (S.out.newBlk 89 (sgA ([],List.replicate 32 0)))
 generalize sgA s=cs at *
 go_wp2_with (first
  |(refine wpList_load_agg rfl 89 (.tmp 66) rfl (ad.add (k * 33)) aE cs.toList _ HC.out Tryz.underlying89 rfl (by rw [Array.length_toList,hz2.out];exact Tryz.infoSig) ?_)
  |(refine wpList_store_blk rfl 89 (.tmp 14) (.tmp 67) rfl w.heap.size aE cs aE 89 _ (S1.out.at_ (l1:=[])) (by rw [hz2.out];exact Tryz.infoSig) (by rw [hz2.out];rfl) HO.out ?_;intro w7 b7 k7;have S7:=LH (Held.setBlk (l1:=[]) S1.out b7 k7);clear b7 k7))
 try simp only [Act.put]
 exact hend _ _ tS (⟨_,sP0,S7.out⟩)
theorem srt_r20(w0:World)(gM gs m:Nat)(f:List UInt8->Nat)(s:SigD)(ns:ByteArray)(hn:strV s.1=.string ns)(hnm:ns.size<=maxLen)(L:List Res)(S:Held w0 w (cntR gM m f :: blkR gs 89 (sgA s) :: L))(hsz:a.tmps.size=80)(o6:Sl a 6 (.map (some gM)))(o14:Sl a 14 (Pq gs 0)):RG0 20 Tryz.f73 Q a w fun a' q'=>Sl a' 72 (.bool (decide (0 < f ns.data.toList)))->q':=by
 intro hend
 refine wp_region_lit ?_
 (conv=>arg 4;whnf)
 unfold Sl at o6 o14
 have hC:Hid (Cnt w gM m f):=LH (S.at_ (l1:=[]))
 have c1:w.cell? ⟨gs,0,none⟩=some (.string ns):=by rw [(S.at_ (l1:=[_])).cell,<- hn];rfl
 have hg:=cnt_get hC.out ns hnm
 have hd:decide (0 < f ns.data.toList)=decide ((0:Int) < (f ns.data.toList:Int)):=by congr 1;exact propext ⟨fun h=>by omega,fun h=>by omega⟩
 rw [hd] at hend
 clear hd
 go_wp2_with fail
 try simp only [Act.put]
 exact hend _ tS sP
theorem srt_r21(w0:World)(gs n:Nat)(hn:n < 1000000)(s:SigD)(ns:ByteArray)(hns:strV s.1=.string ns)(v:Value)(xs:List Value)(L:List Res)(S:Held w0 w (rowR 9 1 v n xs :: blkR gs 89 (sgA s) :: L))(hsz:a.tmps.size=80)(o5:Sl a 5 (v))(o14:Sl a 14 (Pq gs 0)):RG1 false 21 Tryz.f73 Q a w fun a' W q'=>(∃ v',Sl a' 5 v' ∧ Held w0 W (rowR 9 1 v' (n+1) (xs ++ [.string ns]) :: blkR gs 89 (sgA s) :: L))->q':=by
 intro hend
 refine wp_region_lit ?_
 (conv=>arg 4;whnf)
 unfold Sl at o5 o14
 have S:=LH S
 have c1:w.cell? ⟨gs,0,none⟩=some (.string ns):=by rw [(S.out.at_ (l1:=[_])).cell,<- hns];rfl
 have S1:=LH (S.out.newBlk 9 #[.string ns])
 obtain ⟨i0,hi,hz,hsize,hby⟩:=info_parts Tryz.infoStrZ
 have Hz:=LH hz
 clear hz
 have hle:Hid (n+1<=maxLen ∧ (n+1) * 16<=140737488355328):=LH ⟨by unfold maxLen;omega,by omega⟩
 have HR:Hid (Rd (w.alloc (.cells #[.string ns] 9)) 1 (.slice (some ⟨w.heap.size,0,none⟩) 1 1) 1 [.string ns]):=LH ⟨rfl,_,_,rfl,Nat.le_refl _,by unfold maxLen;omega,(fun h=>by cases h),fun ad had j u hu=>by cases had;exact (S1.out.at_ (l1:=[])).agg j u hu⟩
 go_wp2_with (at_builtin;refine wpList_app _ rfl (.tmp 73) (.tmp 76) 129 rfl 9 i0 _ 1 16 Tryz.underlying129 hi Hz.out hsize hby rfl (by decide) _ n xs (aO o5) (S1.out.at_ (l1:=[_])) _ 1 [.string ns] aE HR.out (by intro u hu;rw [List.mem_singleton.1 hu];rfl) hle.out.1 hle.out.2 ?_;intro v' w' o3 g3 b3;have S2:=LH (Held.grow (l1:=[_]) S1.out o3 g3 b3);clear o3 g3 b3)
 try simp only [Act.put]
 exact hend _ _ tS (⟨_,sP0,S2.out.drop⟩)
theorem srt_r22(k:Nat)(hk:k < 9223372036854775807)(hsz:a.tmps.size=80)(o64:Sl a 64 (Nq k)):RG0 22 Tryz.f73 Q a w fun a' q'=>Sl a' 64 (Nq (k+1))->q':=by
 intro hend
 refine wp_region_lit ?_
 (conv=>arg 4;whnf)
 unfold Sl at o64
 have hw:wrap64 ((k:Int)+1)=(k:Int)+1:=by unfold wrap64;omega
 go_wp2_with fail
 try simp only [Act.put]
 exact hend _ tS sP
theorem srt_r23(v:Value)(hsz:a.tmps.size=80)(o5:Sl a 5 (v)):RG0 23 Tryz.f73 Q a w fun a' q'=>Sl a' 4 (v)->q':=by
 intro hend
 refine wp_region_lit ?_
 (conv=>arg 4;whnf)
 unfold Sl at o5
 go_wp2_with fail
 try simp only [Act.put]
 exact hend _ tS sP
end
section
open Go.RowKit
abbrev KeyD:=List UInt8 × List UInt8
def matchS (z:Int) (h:Bs) (k:KeyD) (s:SigD):Bool:=(s.1 == k.1) && (sumOk z k.1 k.2 && (sumV z h k.1 k.2 == s.2))
def cntOne (z:Int) (h:Bs) (k:KeyD) (l:List SigD):Nat:=(l.filter (matchS z h k)).length
def cntAll (z:Int) (h:Bs) (ks:List KeyD) (l:List SigD) (nm:Bs):Nat:=(ks.map fun k=>if nm=k.1 then cntOne z h k l else 0).sum
def rightN (z:Int) (h:Bs) (l:List SigD) (ks:List KeyD):List (List UInt8):=(l.filter fun s=>ks.any fun k=>matchS z h k s).map (·.1)
theorem cntOne_le(z:Int)(h:Bs)(k:KeyD)(l:List SigD):cntOne z h k l<=l.length:=List.length_filter_le ..
theorem cntAll_le(z:Int)(h:Bs)(l:List SigD)(nm:Bs):∀ ks:List KeyD,cntAll z h ks l nm<=ks.length * l.length
 |[]=>by simp [cntAll]
 |k :: ks=>by
  have ih:=cntAll_le z h l nm ks
  have h1:=cntOne_le z h k l
  unfold cntAll at ih ⊢
  rw [List.map_cons,List.sum_cons,List.length_cons,Nat.succ_mul]
  split <;> omega
theorem cntAll_snoc(z:Int)(h:Bs)(ks:List KeyD)(k:KeyD)(l:List SigD)(nm:Bs):cntAll z h (ks ++ [k]) l nm=cntAll z h ks l nm+if nm=k.1 then cntOne z h k l else 0:=by
 unfold cntAll
 rw [List.map_append,List.sum_append]
 simp
theorem cntOne_snoc(z:Int)(h:Bs)(k:KeyD)(l:List SigD)(s:SigD):cntOne z h k (l ++ [s])=cntOne z h k l+if matchS z h k s then 1 else 0:=by
 unfold cntOne
 rw [List.filter_append,List.length_append]
 congr 1
 cases hm:matchS z h k s <;> simp [hm]
theorem rising_inj:∀ {l:List SigD} {a:List UInt8},rising a l=true->∀ x y,x ∈ l->y ∈ l->x.1=y.1->x=y
 |[],_,_,x,_,hx,_,_=>by cases hx
 |s :: l,a,h,x,y,hx,hy,e=>by
  unfold rising at h
  simp only [Bool.and_eq_true] at h
  have hr:=rising_all h.2
  rcases List.mem_cons.1 hx with rfl|hx2
  . rcases List.mem_cons.1 hy with rfl|hy2
    . rfl
    . have:=hr y hy2
      rw [e,cmpB_self] at this
      omega
  . rcases List.mem_cons.1 hy with rfl|hy2
    . have:=hr x hx2
      rw [e,cmpB_self] at this
      omega
    . exact rising_inj h.2 x y hx2 hy2 e
theorem cnt_pos{z:Int}{h:List UInt8}{l:List SigD}{a:List UInt8}(hr:rising a l=true){s:SigD}(hs:s ∈ l):∀ ks:List KeyD,decide (0 < cntAll z h ks l s.1)=ks.any fun k=>matchS z h k s
 |[]=>by simp [cntAll]
 |k :: ks=>by
  have ih:=cnt_pos (z:=z) (h:=h) hr hs ks
  rw [List.any_cons,<- ih]
  unfold cntAll
  rw [List.map_cons,List.sum_cons]
  by_cases hk:s.1=k.1
  . rw [if_pos hk]
    cases hm:matchS z h k s
    . have h0:cntOne z h k l=0:=by
       unfold cntOne
       rw [List.length_eq_zero_iff,List.filter_eq_nil_iff]
       intro x hx hxm
       have hx1:x.1=k.1:=by
        unfold matchS at hxm
        simp only [Bool.and_eq_true,beq_iff_eq] at hxm
        exact hxm.1
       have:=rising_inj hr x s hx hs (hx1.trans hk.symm)
       rw [this,hm] at hxm
       cases hxm
      rw [h0,Nat.zero_add,Bool.false_or]
    . have h0:0 < cntOne z h k l:=List.length_pos_of_mem (List.mem_filter.2 ⟨hs,hm⟩)
      rw [Bool.true_or]
      exact decide_eq_true (by omega)
  . rw [if_neg hk,Nat.zero_add]
    have hm:matchS z h k s=false:=by
     unfold matchS
     rw [beq_false_of_ne hk,Bool.false_and]
    rw [hm,Bool.false_or]
def KysF (W:World) (v:Value) (vs:List Value) (ks:List KeyD):Prop:=Rd W 2 v ks.length vs ∧ ∀ i (hi:i < ks.length),∃ A c,vs[i * 2]?=some (strV ks[i].1) ∧ vs[i * 2+1]?=some (.slice A ks[i].2.length c) ∧ Rd W 1 (.slice A ks[i].2.length c) ks[i].2.length (bv ks[i].2)
theorem KysF.kp0{W W':World}{v:Value}{vs:List Value}{ks:List KeyD}(h:KysF W v vs ks)(k:Kp [] W W'):KysF W' v vs ks:=⟨rd_old h.1 k,fun i hi=>by obtain ⟨A,c,h1,h2,h3⟩:=h.2 i hi;exact ⟨A,c,h1,h2,rd_old h3 k⟩⟩
end
section
open Go.RowKit
def dsRt3:List Nat:=[5,14,64,65,66,67,68,69,70,71,72,73,74,75,76,77,78]
theorem srt_l4{Q:Exit->Act->World->Prop}{a:Act}{w0 w:World}(gM m:Nat)(f:List UInt8->Nat)(A:Option Addr)(c:Nat)(l:List SigD)(hok:SgOk l)(hll:l.length < 1000000)(L:List Res)(v0:Value)(hsz:a.tmps.size=80)
 (o5:Sl a 5 v0) (o6:Sl a 6 (.map (some gM))) (o62:Sl a 62 (.slice A l.length c)) (o63:Sl a 63 (Nq (l.length))) (o64:Sl a 64 (Nq 0)) (hv:Rd w0 33 (.slice A l.length c) l.length (sgsC l))
 (S:Held w0 w (rowR 9 1 v0 0 [] :: cntR gM m f :: L))
 (hend:∀ (a':Act) (W:World) (v:Value) (L2:List Res),Same a a' dsRt3->Sl a' 5 v->Held w0 W (rowR 9 1 v ((l.filter fun s=>decide (0 < f s.1)).map (·.1)).length (((l.filter fun s=>decide (0 < f s.1)).map (·.1)).map strV) :: L2)->Q .normal a' W):
 (Code.block 4 (blockOf 4 Tryz.f73)).wp Tryz.prog Q a w:=by
 refine wp_block ?_
 (conv=>arg 2;whnf)
 refine wp_loop (fun a' w'=>∃ (k:Nat) (v:Value) (L2:List Res),k<=l.length ∧ Same a a' dsRt3 ∧ Sl a' 64 (Nq k) ∧ Sl a' 5 v ∧ Held w0 w' (rowR 9 1 v (((l.take k).filter fun s=>decide (0 < f s.1)).map (·.1)).length ((((l.take k).filter fun s=>decide (0 < f s.1)).map (·.1)).map strV) :: cntR gM m f :: L2)) (fun a' _=>l.length - (intOf (a'.eval (.tmp 64))).toNat) ⟨0,v0,L,Nat.zero_le _,Same.refl _ _,o64,o5,S⟩ ?_
 clear o64 o5 S
 rintro a1 w1 ⟨k,v,L2,hk,T,o64,o5,S⟩
 have hz1:=T.size.trans hsz
 have o6:=T.keep 6 _ (by decide) o6
 have o62:=T.keep 62 _ (by decide) o62
 have o63:=T.keep 63 _ (by decide) o63
 have e64:=o64.eval (by rw [hz1];decide)
 refine wp_seq (srt_r18 k l.length hz1 o63 o64 (fun a2 hs2 o65=>?_))
 obtain ⟨hz2,-,o5,o6,o62,o64⟩:=kq4 hs2 hz1 rfl o5 o6 o62 o64
 have T:=T.trans hs2
 by_cases hlt:k < l.length
 . refine wp_seq (wcT o65 (wp_skip ?_) (by rw [decide_eq_true hlt]))
   have hv1:=rd_old hv S.k
   obtain ⟨ad,rfl⟩:=sgs_addr hv1 (by omega)
   obtain ⟨s,hs⟩:∃ s,l[k]?=some s:=⟨_,List.getElem?_eq_getElem hlt⟩
   have hsk:=hok s (List.mem_of_getElem? hs)
   obtain ⟨ns,hns,hnl,hnz,hnd⟩:=str_of s.1
   have htk:l.take (k+1)=l.take k ++ [s]:=by rw [List.take_add_one,hs];rfl
   refine wp_seq (wp_block ?_)
   refine wp_seq (srt_r19 w0 ad k l.length c hlt s hsk.1 (sgs_at hv1 hok hs) _ S hz2 o62 o64 (fun a3 w3 hs3 h=>?_))
   obtain ⟨g,o14,S⟩:=h
   obtain ⟨hz3,-,o5,o6,o64⟩:=kq3 hs3 hz2 rfl o5 o6 o64
   have T:=T.trans hs3
   have S:=S.perm (show List.Perm _ (cntR gM m f :: blkR g 89 (sgA s) :: rowR 9 1 v (((l.take k).filter fun s=>decide (0 < f s.1)).map (·.1)).length ((((l.take k).filter fun s=>decide (0 < f s.1)).map (·.1)).map strV) :: L2) from (List.perm_append_comm (l₁:=[_,_]) (l₂:=[_])).append_right L2)
   refine wp_seq (srt_r20 w0 gM g m f s ns hns.out (by rw [hnz];unfold maxLen;omega) _ S hz3 o6 o14 (fun a4 hs4 o72=>?_))
   obtain ⟨hz4,-,o5,o14,o64⟩:=kq3 hs4 hz3 rfl o5 o14 o64
   have T:=T.trans hs4
   rw [hnd.out] at o72
   have hlen:(((l.take k).filter fun s=>decide (0 < f s.1)).map (·.1)).length<=k:=by
    rw [List.length_map]
    exact Nat.le_trans (List.length_filter_le ..) (by rw [List.length_take];omega)
   by_cases hp:0 < f s.1
   . refine wcT o72 ?_ (by rw [decide_eq_true hp])
     have S:=S.perm (show List.Perm _ (rowR 9 1 v (((l.take k).filter fun s=>decide (0 < f s.1)).map (·.1)).length ((((l.take k).filter fun s=>decide (0 < f s.1)).map (·.1)).map strV) :: blkR g 89 (sgA s) :: cntR gM m f :: L2) from (List.Perm.cons _ (List.Perm.swap _ _ _)).trans ((List.Perm.swap _ _ _).trans (List.Perm.cons _ (List.Perm.swap _ _ _))))
     refine srt_r21 w0 g _ (by omega) s ns hns.out v _ _ S hz4 o5 o14 (fun a5 w5 hs5 h=>?_)
     obtain ⟨v',o5,S⟩:=h
     have hz5:=hs5.size.trans hz4;have o64:=hs5.q o64
     have T:=T.trans hs5
     simp only [Exit.inBlock,Exit.then]
     refine srt_r22 k (by omega) hz5 o64 (fun a6 hs6 o64'=>?_)
     have hz6:=hs6.size.trans hz5;have o5:=hs6.q o5
     have T:=T.trans hs6
     have hf:(((l.take k).filter fun s=>decide (0 < f s.1)).map (·.1)) ++ [s.1]=(((l.take (k+1)).filter fun s=>decide (0 < f s.1)).map (·.1)):=by
      rw [htk,List.filter_append,List.map_append]
      simp [hp]
     have S:=S.perm (show List.Perm _ (rowR 9 1 v' ((((l.take k).filter fun s=>decide (0 < f s.1)).map (·.1)).length+1) (((((l.take k).filter fun s=>decide (0 < f s.1)).map (·.1)).map strV) ++ [.string ns]) :: cntR gM m f :: blkR g 89 (sgA s) :: L2) from List.Perm.cons _ (List.Perm.swap _ _ _))
     have e1:((((l.take k).filter fun s=>decide (0 < f s.1)).map (·.1)).map strV) ++ [.string ns]=(((l.take (k+1)).filter fun s=>decide (0 < f s.1)).map (·.1)).map strV:=by rw [<- hf,List.map_append,<- hns.out];rfl
     have e2:(((l.take k).filter fun s=>decide (0 < f s.1)).map (·.1)).length+1=(((l.take (k+1)).filter fun s=>decide (0 < f s.1)).map (·.1)).length:=by rw [<- hf,List.length_append];rfl
     rw [e1,e2] at S
     refine ⟨⟨k+1,v',_,by omega,T.more (by decide +kernel),o64',o5,S⟩,?_⟩
     show l.length - (intOf _).toNat < l.length - (intOf _).toNat
     rw [e64,o64'.eval (by rw [hz6];decide)]
     simp only [intOf];omega
   . refine wcF o72 (wp_skip ?_) (by rw [decide_eq_false hp])
     simp only [Exit.inBlock,Exit.then]
     refine srt_r22 k (by omega) hz4 o64 (fun a6 hs6 o64'=>?_)
     have hz6:=hs6.size.trans hz4;have o5:=hs6.q o5
     have T:=T.trans hs6
     have hf:(((l.take k).filter fun s=>decide (0 < f s.1)).map (·.1))=(((l.take (k+1)).filter fun s=>decide (0 < f s.1)).map (·.1)):=by
      rw [htk,List.filter_append,List.map_append]
      simp [hp]
     have S:=S.perm (show List.Perm _ (rowR 9 1 v (((l.take k).filter fun s=>decide (0 < f s.1)).map (·.1)).length ((((l.take k).filter fun s=>decide (0 < f s.1)).map (·.1)).map strV) :: cntR gM m f :: blkR g 89 (sgA s) :: L2) from (List.perm_append_comm (l₁:=[_,_]) (l₂:=[_])).append_right L2)
     rw [hf] at S
     refine ⟨⟨k+1,v,_,by omega,T.more (by decide +kernel),o64',o5,S⟩,?_⟩
     show l.length - (intOf _).toNat < l.length - (intOf _).toNat
     rw [e64,o64'.eval (by rw [hz6];decide)]
     simp only [intOf];omega
 . refine wp_seq (wcF o65 (wp_exit ?_) (by rw [decide_eq_false hlt]))
   obtain rfl:k=l.length:=by omega
   rw [List.take_length] at S
   exact hend _ _ v _ (T.more (by decide +kernel)) o5 S
end
section
open Go.RowKit
theorem wpList_skipG{P:Program}{ops:Array Oper}{rest:List Oper}{o:Oper}{a:Act}{w:World}{Q:Exit->Act->World->Prop}(j d:Nat)(b:Bool)(hg:o.guard=some (j,b))(hj:(ops[j]?).bind (·.dst)=some d)(hd:a.tmps[d]?.getD undef=.bool (!b))(h:wpList P ops Q rest (a.put o.dst undef) w):wpList P ops Q (o :: rest) a w:=
 wpList_step fun K hK=>by
  rw [if_neg (by cases b <;> simp [Region.wanted,hg,yielded_of hj hd])]
  exact hK _ _ h
theorem srt_r13N{Q:Exit->Act->World->Prop}{a:Act}{w:World}(se:Int)(hse:(se == 0)=false)(hsz:a.tmps.size=80)(o12:Sl a 12 (.int .i64 se))
 (hend:∀ a',Same a a' [46,47,48,49,50,51,52,53]->Sl a' 53 (.bool false)->Q .normal a' w):(Code.region 13 (opsOf 13 Tryz.f73).toArray false).wp Tryz.prog Q a w:=by
 refine wp_region_lit ?_
 have hj:(((opsOf 13 Tryz.f73).toArray)[2]?).bind (·.dst)=some 48:=by kernel_rfl
 generalize (opsOf 13 Tryz.f73).toArray=OPS at *
 (conv=>arg 4;whnf)
 unfold Sl at o12
 go_wp2_with (refine wpList_skipG 2 48 true rfl hj (by simp [Act.put,hsz]) ?_)
 try simp only [Act.put]
 exact hend _ sS sP
theorem srt_r13Y{Q:Exit->Act->World->Prop}{a:Act}{w:World}(w0:World)(gS gs:Nat)(sv:Bs)(hsv:sv.length=32)(s:SigD)(hs:s.2.length=32)(L:List Res)(S:Held w0 w (blkR gS 23 (hashA sv) :: blkR gs 89 (sgA s) :: L))(hsz:a.tmps.size=80)(o12:Sl a 12 (.int .i64 0))(o11:Sl a 11 (Pq gS 0))(o10:Sl a 10 (Pq gs 0)):RG1 false 13 Tryz.f73 Q a w fun a' W q'=>Sl a' 53 (.bool (sv == s.2))->Held w0 W (blkR gS 23 (hashA sv) :: blkR gs 89 (sgA s) :: L)->q':=by
 intro hend
 refine wp_region_lit ?_
 have hj:(((opsOf 13 Tryz.f73).toArray)[2]?).bind (·.dst)=some 48:=by kernel_rfl
 generalize (opsOf 13 Tryz.f73).toArray=OPS at *
 (conv=>arg 4;whnf)
 unfold Sl at o12 o11 o10
 have S:=LH S
 have HE:=LH (fun V=>sgeq_any sv s.2 hsv hs V)
 have hz1:Hid ((hashA sv).size=32):=LH (by rw [hashA_size,hsv])
 have hz2:Hid ((hashA s.2).size=32):=LH (by rw [hashA_size,hs])
 have HC:=LH (sig_sum (S.out.at_ (l1:=[_])))
 generalize hashA sv=ca at *
 generalize hashA s.2=cb at *
 generalize sgA s=cs at *
 go_wp2_with (first
  |(refine wpList_load_blkG 2 48 true rfl hj aE 23 (.tmp 11) rfl gS (aO o11) 23 _ (S.out.at_ (l1:=[])) _ Tryz.underlying23 rfl (by rw [hz1.out];exact Tryz.infoHashP) ?_)
  |(refine wpList_load_aggG 2 48 true rfl hj aE 23 (.tmp 50) rfl ⟨gs,1,none⟩ aE cb.toList _ HC.out Tryz.underlying23 rfl (by rw [Array.length_toList,hz2.out];exact Tryz.infoHashP) ?_)
  |(refine wpList_met 2 48 true rfl hj (by simp [Act.put,hsz]) ?_;intro K hK))
 refine (HE.out _).mono ?_
 rintro e w1 ⟨rfl,k1⟩
 have S1:=LH (S.out.kp k1)
 clear k1
 refine hK _ _ ?_
 go_wp2_with fail
 try simp only [Act.put]
 exact hend _ _ tS sP S1.out
end
section
theorem Held.pull{w0 w:World}{L:List Res}(S:Held w0 w L)(i:Nat){r:Res}(h:L[i]?=some r):Held w0 w (r :: L.eraseIdx i):=by
 refine S.perm ?_
 clear S
 induction L generalizing i with
 |nil=>simp at h
 |cons x L ih=>
  rcases i with _|i
  . simp at h;subst h;exact List.Perm.refl _
  . exact ((ih i (by simpa using h)).cons x).trans (List.Perm.swap _ _ _)
theorem Held.some_of{w0 w:World}{L L':List Res}(S:Held w0 w L)(h:L'.Sublist L):Held w0 w L':=
 ⟨S.k,fun r hr=>S.ok r (h.subset hr),fun r hr=>S.base r (h.subset hr),List.Pairwise.sublist h S.apart⟩
end
section
open Go.RowKit
def dsRt2:List Nat:=[10,11,12,30,31,32,33,34,35,36,37,38,39,40,41,42,43,44,45,46,47,48,49,50,51,52,53,54,55,56,57,58,59]
def stepF (base:List UInt8->Nat) (z:Int) (h:Bs) (k:KeyD) (l:List SigD):List UInt8->Nat:=fun t=>base t+if t=k.1 then cntOne z h k l else 0
theorem stepF_nil(base:List UInt8->Nat)(z:Int)(h:Bs)(k:KeyD):stepF base z h k []=base:=by
 funext t;unfold stepF cntOne;simp
theorem stepF_no{base:List UInt8->Nat}{z:Int}{h:List UInt8}{k:KeyD}{l:List SigD}{s:SigD}(hm:matchS z h k s=false):stepF base z h k (l ++ [s])=stepF base z h k l:=by
 funext t;unfold stepF;rw [cntOne_snoc,hm];simp
theorem stepF_yes{base:List UInt8->Nat}{z:Int}{h:List UInt8}{k:KeyD}{l:List SigD}{s:SigD}(hm:matchS z h k s=true):(fun t=>if t=k.1 then stepF base z h k l k.1+1 else stepF base z h k l t)=stepF base z h k (l ++ [s]):=by
 funext t;unfold stepF;rw [cntOne_snoc,hm]
 by_cases e:t=k.1
 . subst e;simp;omega
 . simp [e]
def dsRt3b:List Nat:=[10,11,12,32,33,34,35,36,37,38,39,40,41,42,43,44,45,46,47,48,49,50,51,52,53,54,55,56,57,58]
def upF (f:List UInt8->Nat) (m:Bool) (n:Bs):List UInt8->Nat:=if m then (fun t=>if t=n then f n+1 else f t) else f
theorem match_no{z:Int}{h:List UInt8}{k:KeyD}{s:SigD}(e:(s.1 == k.1)=false):matchS z h k s=false:=by unfold matchS;rw [e,Bool.false_and]
theorem match_bad{z:Int}{h:List UInt8}{k:KeyD}{s:SigD}(e:sumOk z k.1 k.2=false):matchS z h k s=false:=by unfold matchS;rw [e,Bool.false_and,Bool.and_false]
theorem match_is{z:Int}{h:List UInt8}{k:KeyD}{s:SigD}(e:(s.1 == k.1)=true)(o:sumOk z k.1 k.2=true):matchS z h k s=(sumV z h k.1 k.2 == s.2):=by unfold matchS;rw [e,o,Bool.true_and,Bool.true_and]
theorem srt_b3{Q:Exit->Act->World->Prop}{a:Act}{w0 w:World}(gM gN gK m:Nat)(hm:m < maxLen)(f:List UInt8->Nat)(z:Int)(hz:-9223372036854775808<=z ∧ z<=9223372036854775807)(h:Bs)(hh:h.length=32)(v0:Value)(ad:Addr)(n c:Nat)(j:Nat)(hlt:j < n)(s:SigD)(hsk:s.2.length=32)(hc:∀ V,Kp [] w0 V->∀ i u,(sgL s)[i]?=some u->V.cell? ((ad.add (j * 33)).add i)=some u)(k:KeyD)(hf:f k.1 < 4611686018427387904)(nm:ByteArray)(hnl:nm.toList=k.1)(hnd:nm.data.toList=k.1)(hnz:nm.size<=maxLen)(Ak:Option Addr)(ck:Nat)(LDw:LD w0)(L:List Res)
 (hsz:a.tmps.size=80) (o2:Sl a 2 (Pq gN 0)) (o6:Sl a 6 (.map (some gM))) (o8:Sl a 8 (Pq gK 0)) (o28:Sl a 28 (.slice (some ad) n c)) (o30:Sl a 30 (Nq j)) (hkr:Rd w0 1 (.slice Ak k.2.length ck) k.2.length (bv k.2))
 (S:Held w0 w (cntR gM m f :: blkR gN 28 (ntA z h v0) :: blkR gK 34 #[.string nm,.slice Ak k.2.length ck] :: L))
 (hend:∀ (e:Exit) (a':Act) (W:World) (m2:Nat),(e=.normal ∨ e=.exit 3)->Same a a' dsRt3b->m2<=m+1->Held w0 W (cntR gM m2 (upF f (matchS z h k s) k.1) :: blkR gN 28 (ntA z h v0) :: blkR gK 34 #[.string nm,.slice Ak k.2.length ck] :: L)->Q e a' W):
 (blockOf 3 Tryz.f73).wp Tryz.prog Q a w:=by
 (conv=>arg 2;whnf)
 obtain ⟨ns,hns,hnsl,hnsz,hnsd⟩:=str_of s.1
 refine wp_seq (srt_r10 w0 ad j n c hlt s hsk (hc _ S.k) _ S hsz o28 o30 (fun a3 w3 hs3 h3=>?_))
 obtain ⟨g,o10,S⟩:=h3
 have hz3:=hs3.size.trans hsz
 have o2:=hs3.q o2;have o6:=hs3.q o6;have o8:=hs3.q o8
 have T:=hs3
 have S:=S.perm (show List.Perm _ (blkR g 89 (sgA s) :: blkR gK 34 #[.string nm,.slice Ak k.2.length ck] :: cntR gM m f :: blkR gN 28 (ntA z h v0) :: L) from List.Perm.cons _ ((List.perm_append_comm (l₁:=[_,_]) (l₂:=[_])).append_right L))
 refine wp_seq (wp_seq (srt_r11 w0 g gK s ns nm _ hns.out (!(s.1 == k.1)) (by rw [hnsl.out,hnl]) _ S hz3 o8 o10 (fun a4 hs4 o38=>?_)))
 obtain ⟨hz4,-,o2,o6,o8,o10⟩:=kq4 hs4 hz3 rfl o2 o6 o8 o10
 have T:=T.trans hs4
 cases hn:(s.1 == k.1)
 . refine wcT o38 (wp_exit ?_) (by rw [hn];rfl)
   have S:=S.perm (show List.Perm _ (cntR gM m f :: blkR gN 28 (ntA z h v0) :: blkR gK 34 #[.string nm,.slice Ak k.2.length ck] :: blkR g 89 (sgA s) :: L) from ((List.perm_append_comm (l₁:=[_,_]) (l₂:=[_,_])).trans ((List.Perm.cons _ (List.Perm.cons _ (List.Perm.swap _ _ _))))).append_right L)
   have e:upF f (matchS z h k s) k.1=f:=by rw [match_no hn];rfl
   rw [<- e] at S
   exact hend _ _ _ m (.inr rfl) (T.more (by decide +kernel)) (by omega) (S.some_of (List.Sublist.append_left (List.sublist_append_right [_] _) [_,_,_]))
 . refine wcF o38 (wp_skip ?_) (by rw [hn];rfl)
   have S:=S.perm (show List.Perm _ (blkR gN 28 (ntA z h v0) :: blkR gK 34 #[.string nm,.slice Ak k.2.length ck] :: blkR g 89 (sgA s) :: cntR gM m f :: L) from ((List.perm_append_comm (l₁:=[_,_,_]) (l₂:=[_])).trans (List.Perm.cons _ (List.Perm.swap _ _ _))).append_right L)
   obtain ⟨se,hse⟩:∃ se:Int,se=if sumOk z nm.data.toList k.2 then 0 else 2:=⟨_,rfl⟩
   refine wp_seq (srt_r12 w0 gN gK z h hh _ _ _ (sumV z h nm.data.toList k.2) (sumV_length ..) se _ S (fun V SV=>hse ▸ ssm_any z hz h hh nm (by unfold maxLen at hnz;omega) Ak ck k.2 V (LDw.kp SV.k) (rd_old hkr SV.k)) hz4 o2 o8 (fun a5 w5 hs5 o12 h5=>?_))
   obtain ⟨gS,o11,S⟩:=h5
   obtain ⟨hz5,-,o6,o8,o10⟩:=kq3 hs5 hz4 rfl o6 o8 o10
   have T:=T.trans hs5
   rw [hnd] at S hse
   have S:=S.perm (show List.Perm _ (blkR gS 23 (hashA (sumV z h k.1 k.2)) :: blkR g 89 (sgA s) :: cntR gM m f :: blkR gN 28 (ntA z h v0) :: blkR gK 34 #[.string nm,.slice Ak k.2.length ck] :: L) from List.Perm.cons _ ((List.perm_append_comm (l₁:=[_,_]) (l₂:=[_,_])).append_right L))
   cases ho:sumOk z k.1 k.2
   . rw [ho] at hse
     refine wp_seq (srt_r13N se (by rw [hse];rfl) hz5 o12 (fun a6 hs6 o53=>?_))
     have hz6:=hs6.size.trans hz5
     have T:=T.trans hs6
     refine wp_cond_false ((o53.eval (by rw [hz6];decide)).trans rfl) (wp_skip ?_)
     have S:=S.perm (show List.Perm _ (cntR gM m f :: blkR gN 28 (ntA z h v0) :: blkR gK 34 #[.string nm,.slice Ak k.2.length ck] :: blkR gS 23 (hashA (sumV z h k.1 k.2)) :: blkR g 89 (sgA s) :: L) from (List.perm_append_comm (l₁:=[_,_]) (l₂:=[_,_,_])).append_right L)
     have e:upF f (matchS z h k s) k.1=f:=by rw [match_bad ho];rfl
     rw [<- e] at S
     exact hend _ _ _ m (.inl rfl) (T.more (by decide +kernel)) (by omega) (S.some_of (List.Sublist.append_left (List.sublist_append_right [_,_] _) [_,_,_]))
   . rw [ho] at hse
     obtain rfl:se=0:=hse
     refine wp_seq (srt_r13Y w0 gS g _ (sumV_length ..) s hsk _ S hz5 o12 o11 o10 (fun a6 w6 hs6 o53 S=>?_))
     obtain ⟨hz6,-,o6,o8⟩:=kq2 hs6 hz5 rfl o6 o8
     have T:=T.trans hs6
     cases hv:(sumV z h k.1 k.2 == s.2)
     . refine wcF o53 (wp_skip ?_) (by rw [hv])
       have S:=S.perm (show List.Perm _ (cntR gM m f :: blkR gN 28 (ntA z h v0) :: blkR gK 34 #[.string nm,.slice Ak k.2.length ck] :: blkR gS 23 (hashA (sumV z h k.1 k.2)) :: blkR g 89 (sgA s) :: L) from (List.perm_append_comm (l₁:=[_,_]) (l₂:=[_,_,_])).append_right L)
       have e:upF f (matchS z h k s) k.1=f:=by rw [match_is hn ho,hv];rfl
       rw [<- e] at S
       exact hend _ _ _ m (.inl rfl) (T.more (by decide +kernel)) (by omega) (S.some_of (List.Sublist.append_left (List.sublist_append_right [_,_] _) [_,_,_]))
     . refine wcT o53 ?_ (by rw [hv])
       have S:=S.perm (show List.Perm _ (cntR gM m f :: blkR gK 34 #[.string nm,.slice Ak k.2.length ck] :: blkR gN 28 (ntA z h v0) :: blkR gS 23 (hashA (sumV z h k.1 k.2)) :: blkR g 89 (sgA s) :: L) from ((List.perm_append_comm (l₁:=[_,_]) (l₂:=[_,_,_])).trans (List.Perm.cons _ (List.Perm.swap _ _ _))).append_right L)
       refine srt_r14 w0 gM gK m hm f nm hnz _ (by rw [hnd];exact hf) _ S hz6 o6 o8 (fun a7 w7 hs7 S=>?_)
       have T:=T.trans hs7
       rw [hnd] at S
       have S:=S.perm (show List.Perm _ (cntR gM (m+1) (fun t=>if t=k.1 then f k.1+1 else f t) :: blkR gN 28 (ntA z h v0) :: blkR gK 34 #[.string nm,.slice Ak k.2.length ck] :: blkR gS 23 (hashA (sumV z h k.1 k.2)) :: blkR g 89 (sgA s) :: L) from List.Perm.cons _ (List.Perm.swap _ _ _))
       have e:upF f (matchS z h k s) k.1=(fun t=>if t=k.1 then f k.1+1 else f t):=by rw [match_is hn ho,hv];rfl
       rw [<- e] at S
       exact hend _ _ _ (m+1) (.inl rfl) (T.more (by decide +kernel)) (by omega) (S.some_of (List.Sublist.append_left (List.sublist_append_right [_,_] _) [_,_,_]))
theorem srt_l2{Q:Exit->Act->World->Prop}{a:Act}{w0 w:World}(gM gN gK m0:Nat)(base:List UInt8->Nat)(hbs:∀ t,base t < 2305843009213693952)(hm0:m0 < 4611686018427387904)(z:Int)(hz:-9223372036854775808<=z ∧ z<=9223372036854775807)(h:Bs)(hh:h.length=32)(A:Option Addr)(c:Nat)(l:List SigD)(hok:SgOk l)(hll:l.length < 1000000)(k:KeyD)(nm:ByteArray)(hnl:nm.toList=k.1)(hnd:nm.data.toList=k.1)(hnz:nm.size<=maxLen)(Ak:Option Addr)(ck:Nat)(LDw:LD w0)(L:List Res)
 (hsz:a.tmps.size=80) (o2:Sl a 2 (Pq gN 0)) (o6:Sl a 6 (.map (some gM))) (o8:Sl a 8 (Pq gK 0)) (o28:Sl a 28 (.slice A l.length c)) (o29:Sl a 29 (Nq (l.length))) (o30:Sl a 30 (Nq 0)) (hv:Rd w0 33 (.slice A l.length c) l.length (sgsC l)) (hkr:Rd w0 1 (.slice Ak k.2.length ck) k.2.length (bv k.2))
 (S:Held w0 w (cntR gM m0 base :: blkR gN 28 (ntA z h (.slice A l.length c)) :: blkR gK 34 #[.string nm,.slice Ak k.2.length ck] :: L))
 (hend:∀ (a':Act) (W:World) (m:Nat),Same a a' dsRt2->m<=m0+l.length->Held w0 W (cntR gM m (stepF base z h k l) :: blkR gN 28 (ntA z h (.slice A l.length c)) :: blkR gK 34 #[.string nm,.slice Ak k.2.length ck] :: L)->Q (.exit 2) a' W):
 (blockOf 2 Tryz.f73).wp Tryz.prog Q a w:=by
 (conv=>arg 2;whnf)
 refine wp_loop (fun a' w'=>∃ (j m:Nat),j<=l.length ∧ m<=m0+j ∧ Same a a' dsRt2 ∧ Sl a' 30 (Nq j) ∧ Held w0 w' (cntR gM m (stepF base z h k (l.take j)) :: blkR gN 28 (ntA z h (.slice A l.length c)) :: blkR gK 34 #[.string nm,.slice Ak k.2.length ck] :: L)) (fun a' _=>l.length - (intOf (a'.eval (.tmp 30))).toNat) ⟨0,m0,Nat.zero_le _,Nat.le_refl _,Same.refl _ _,o30,by rw [List.take_zero,stepF_nil];exact S⟩ ?_
 clear o30 S
 rintro a1 w1 ⟨j,m,hj,hmj,T,o30,S⟩
 have hz1:=T.size.trans hsz
 have o2:=T.keep 2 _ (by decide) o2
 have o6:=T.keep 6 _ (by decide) o6
 have o8:=T.keep 8 _ (by decide) o8
 have o28:=T.keep 28 _ (by decide) o28
 have o29:=T.keep 29 _ (by decide) o29
 have e30:=o30.eval (by rw [hz1];decide)
 refine wp_seq (srt_r9 j l.length hz1 o29 o30 (fun a2 hs2 o31=>?_))
 obtain ⟨hz2,-,o2,o6,o8,o28,o30⟩:=kq5 hs2 hz1 rfl o2 o6 o8 o28 o30
 have T:=T.trans hs2
 by_cases hlt:j < l.length
 . refine wp_seq (wcT o31 (wp_skip ?_) (by rw [decide_eq_true hlt]))
   have hv1:=rd_old hv S.k
   obtain ⟨ad,rfl⟩:=sgs_addr hv1 (by omega)
   obtain ⟨s,hs⟩:∃ s,l[j]?=some s:=⟨_,List.getElem?_eq_getElem hlt⟩
   have hsk:=hok s (List.mem_of_getElem? hs)
   have htk:l.take (j+1)=l.take j ++ [s]:=by rw [List.take_add_one,hs];rfl
   refine wp_seq (wp_block (srt_b3 gM gN gK m (by unfold maxLen;omega) _ z hz h hh _ ad l.length c j hlt s hsk.1 (fun V kV=>sgs_at (rd_old hv kV) hok hs) k ?_ nm hnl hnd hnz Ak ck LDw _ hz2 o2 o6 o8 o28 o30 hkr S (fun e a3 w3 m3 he hs3 hm3 S=>?_)))
   . have:=cntOne_le z h k (l.take j)
     have:=hbs k.1
     unfold stepF
     rw [if_pos rfl]
     rw [List.length_take] at *
     omega
   have hz3:=hs3.size.trans hz2;have o30:=hs3.q o30
   have T:=T.trans hs3
   have S2:Held w0 w3 (cntR gM m3 (stepF base z h k (l.take (j+1))) :: blkR gN 28 (ntA z h (.slice (some ad) l.length c)) :: blkR gK 34 #[.string nm,.slice Ak k.2.length ck] :: L):=by
    rw [htk]
    cases hm:matchS z h k s
    . rw [hm] at S
      rw [stepF_no hm]
      exact S
    . rw [hm] at S
      rw [<- stepF_yes hm]
      exact S
   have hR:(Code.region 15 (opsOf 15 Tryz.f73).toArray false).wp Tryz.prog (Exit.then (fun a' w'=>(∃ (j m:Nat),j<=l.length ∧ m<=m0+j ∧ Same a a' dsRt2 ∧ Sl a' 30 (Nq j) ∧ Held w0 w' (cntR gM m (stepF base z h k (l.take j)) :: blkR gN 28 (ntA z h (.slice (some ad) l.length c)) :: blkR gK 34 #[.string nm,.slice Ak k.2.length ck] :: L)) ∧ l.length - (intOf (a'.eval (.tmp 30))).toNat < l.length - (intOf (a1.eval (.tmp 30))).toNat) Q) a3 w3:=by
    refine srt_r15 j (by omega) hz3 o30 (fun a6 hs6 o30'=>?_)
    have hz6:=hs6.size.trans hz3
    have T:=T.trans hs6
    refine ⟨⟨j+1,m3,by omega,by omega,T.more (by decide +kernel),o30',S2⟩,?_⟩
    rw [e30,o30'.eval (by rw [hz6];decide)]
    simp only [intOf];omega
   rcases he with rfl|rfl
   . exact hR
   . exact hR
 . refine wp_seq (wcF o31 (wp_exit ?_) (by rw [decide_eq_false hlt]))
   obtain rfl:j=l.length:=by omega
   rw [List.take_length] at S
   exact hend _ _ m (T.more (by decide +kernel)) hmj S
end
section
open Go.RowKit
def dsRt0:List Nat:=[8,10,11,12,24,25,26,27,28,29,30,31,32,33,34,35,36,37,38,39,40,41,42,43,44,45,46,47,48,49,50,51,52,53,54,55,56,57,58,59,60,23]
theorem stepF_all(z:Int)(h:Bs)(ks:List KeyD)(k:KeyD)(l:List SigD):stepF (cntAll z h ks l) z h k l=cntAll z h (ks ++ [k]) l:=by
 funext t;unfold stepF;rw [cntAll_snoc]
theorem kys_addr{W:World}{A:Option Addr}{c:Nat}{vs:List Value}{ks:List KeyD}(h:KysF W (.slice A ks.length c) vs ks)(hn:0 < ks.length):∃ ad,A=some ad:=by
 cases A with
 |some ad=>exact ⟨ad,rfl⟩
 |none=>
  obtain ⟨hvl,A',c',he,-,-,hnil,-⟩:=h.1
  cases he
  obtain ⟨-,-,e1,-⟩:=h.2 0 hn
  have:=hnil rfl
  omega
theorem cntAll_nil(z:Int)(h:Bs)(l:List SigD):cntAll z h [] l=fun _=>0:=by funext t;rfl
def rightA (z:Int) (h:Bs) (l:List SigD) (ks:List KeyD):List (List UInt8):=if mayN z l then rightN z h l ks else []
theorem rightN_is{z:Int}{h:List UInt8}{l:List SigD}{ks:List KeyD}(hr:rising [] l=true):((l.filter fun s=>decide (0 < cntAll z h ks l s.1)).map (·.1))=rightN z h l ks:=by
 unfold rightN
 congr 1
 exact List.filter_congr fun s hs=>cnt_pos hr hs ks
theorem KysF.at2{w0:World}{ad:Addr}{n c:Nat}{vs:List Value}{ks:List KeyD}(h:KysF w0 (.slice (some ad) n c) vs ks){i:Nat}{k:KeyD}(hk:ks[i]?=some k):∃ A c,(∀ W,Kp [] w0 W->∀ j u,([strV k.1,.slice A k.2.length c]:List Value)[j]?=some u->W.cell? ((ad.add (i * 2)).add j)=some u) ∧ Rd w0 1 (.slice A k.2.length c) k.2.length (bv k.2):=by
 obtain ⟨hi,rfl⟩:=List.getElem?_eq_some_iff.1 hk
 obtain ⟨A,c2,h1,h2,h3⟩:=h.2 i hi
 refine ⟨A,c2,fun W kW j u hu=>?_,h3⟩
 obtain ⟨-,A',c',he,-,-,-,hc⟩:=(h.kp0 kW).1
 cases he
 rw [add_of_add]
 rcases j with _|_|j
 . cases hu;exact hc ad rfl _ _ h1
 . cases hu;exact hc ad rfl _ _ h2
 . cases hu
theorem srt_l0{Q:Exit->Act->World->Prop}{a:Act}{w0 w:World}(gM gN:Nat)(z:Int)(hz:-9223372036854775808<=z ∧ z<=9223372036854775807)(h:Bs)(hh:h.length=32)(A:Option Addr)(c:Nat)(l:List SigD)(hok:SgOk l)(hll:l.length<=64)(Ak:Option Addr)(ck:Nat)(ks:List KeyD)(hks:ks.length<=35184372088832)(hnm:∀ k,k ∈ ks->k.1.length<=maxLen)(vs:List Value)(LDw:LD w0)(L:List Res)
 (hsz:a.tmps.size=80) (o2:Sl a 2 (Pq gN 0)) (o6:Sl a 6 (.map (some gM))) (o21:Sl a 21 (.slice Ak ks.length ck)) (o22:Sl a 22 (Nq (ks.length))) (o23:Sl a 23 (Nq 0)) (hv:Rd w0 33 (.slice A l.length c) l.length (sgsC l)) (hkv:KysF w0 (.slice Ak ks.length ck) vs ks)
 (S:Held w0 w (cntR gM 0 (fun _=>0) :: blkR gN 28 (ntA z h (.slice A l.length c)) :: L))
 (hend:∀ (a':Act) (W:World) (m:Nat),Same a a' dsRt0->Held w0 W (cntR gM m (cntAll z h ks l) :: blkR gN 28 (ntA z h (.slice A l.length c)) :: L)->Q .normal a' W):
 (Code.block 0 (blockOf 0 Tryz.f73)).wp Tryz.prog Q a w:=by
 refine wp_block ?_
 (conv=>arg 2;whnf)
 refine wp_loop (fun a' w'=>∃ (j m:Nat),j<=ks.length ∧ m<=j * 64 ∧ Same a a' dsRt0 ∧ Sl a' 23 (Nq j) ∧ Held w0 w' (cntR gM m (cntAll z h (ks.take j) l) :: blkR gN 28 (ntA z h (.slice A l.length c)) :: L)) (fun a' _=>ks.length - (intOf (a'.eval (.tmp 23))).toNat) ⟨0,0,Nat.zero_le _,Nat.le_refl _,Same.refl _ _,o23,by rw [List.take_zero,cntAll_nil];exact S⟩ ?_
 clear o23 S
 rintro a1 w1 ⟨j,m,hj,hmj,T,o23,S⟩
 have hz1:=T.size.trans hsz
 have o2:=T.keep 2 _ (by decide) o2
 have o6:=T.keep 6 _ (by decide) o6
 have o21:=T.keep 21 _ (by decide) o21
 have o22:=T.keep 22 _ (by decide) o22
 have e23:=o23.eval (by rw [hz1];decide)
 refine wp_seq (srt_r6 j ks.length hz1 o22 o23 (fun a2 hs2 o24=>?_))
 obtain ⟨hz2,-,o2,o6,o21,o23⟩:=kq4 hs2 hz1 rfl o2 o6 o21 o23
 have T:=T.trans hs2
 by_cases hlt:j < ks.length
 . refine wp_seq (wcT o24 (wp_skip ?_) (by rw [decide_eq_true hlt]))
   obtain ⟨adk,rfl⟩:=kys_addr hkv (by omega)
   obtain ⟨k,hk⟩:∃ k,ks[j]?=some k:=⟨_,List.getElem?_eq_getElem hlt⟩
   have htk:ks.take (j+1)=ks.take j ++ [k]:=by rw [List.take_add_one,hk];rfl
   obtain ⟨Ak2,ck2,hc0,hkr⟩:=hkv.at2 hk
   have hc:=hc0 _ S.k
   obtain ⟨nm,hnv,hnl,hnz,hnd⟩:=str_of k.1
   rw [hnv.out] at hc
   refine wp_seq (wp_block ?_)
   refine wp_seq (srt_r7 w0 adk j ks.length ck hlt nm _ ⟨_,_,_,rfl⟩ hc _ S hz2 o21 o23 (fun a3 w3 hs3 h3=>?_))
   obtain ⟨hz3,-,o2,o6,o21,o23,o24⟩:=kq5 hs3 hz2 rfl o2 o6 o21 o23 o24
   have T:=T.trans hs3
   obtain ⟨gK,o8,S⟩:=h3
   have S:Held w0 w3 (blkR gN 28 (ntA z h (.slice A l.length c)) :: cntR gM m (cntAll z h (ks.take j) l) :: blkR gK 34 #[.string nm,.slice Ak2 k.2.length ck2] :: L):=(S.pull 1 rfl).pull 2 rfl
   refine wp_seq (srt_r8 w0 gN z h hh _ _ _ _ S hz3 o2 (fun a4 hs4 o28 o29 o30=>?_))
   obtain ⟨hz4,-,o2,o6,o21,o23,o24,o8⟩:=kq6 hs4 hz3 rfl o2 o6 o21 o23 o24 o8
   have T:=T.trans hs4
   have S:Held w0 w3 (cntR gM m (cntAll z h (ks.take j) l) :: blkR gN 28 (ntA z h (.slice A l.length c)) :: blkR gK 34 #[.string nm,.slice Ak2 k.2.length ck2] :: L):=S.pull 1 rfl
   refine wp_block ?_
   have hbs:∀ t,cntAll z h (ks.take j) l t < 2305843009213693952:=by
    intro t
    have h1:=cntAll_le z h l t (ks.take j)
    rw [List.length_take,Nat.min_eq_left hj] at h1
    have h2:j * l.length<=35184372088832 * 64:=Nat.mul_le_mul (by omega) hll
    omega
   refine srt_l2 gM gN gK m _ hbs (by omega) z hz h hh A c l hok (by omega) k nm hnl.out hnd.out (by rw [hnz];exact hnm k (List.mem_of_getElem? hk)) Ak2 ck2 LDw _ hz4 o2 o6 o8 o28 o29 o30 hv hkr S (fun a5 w5 m5 hs5 hm5 S=>?_)
   obtain ⟨hz5,-,o2,o6,o21,o23,o24,o28,o29⟩:=kq7 hs5 hz4 rfl o2 o6 o21 o23 o24 o28 o29
   have T:=T.trans hs5
   simp only [Exit.inBlock,if_true,Exit.then]
   rw [stepF_all,<- htk] at S
   refine srt_r16 j (by omega) hz5 o23 (fun a6 hs6 o23=>?_)
   obtain ⟨hz6,-,o2,o6,o21,o24,o28,o29⟩:=kq6 hs6 hz5 rfl o2 o6 o21 o24 o28 o29
   have T:=T.trans hs6
   have S:Held w0 w5 (cntR gM m5 (cntAll z h (ks.take (j+1)) l) :: blkR gN 28 (ntA z h (.slice A l.length c)) :: L):=S.some_of (List.Sublist.append_left (List.sublist_append_right [_] _) [_,_])
   refine ⟨⟨j+1,m5,by omega,by omega,T.more (by decide +kernel),o23,S⟩,?_⟩
   show ks.length - (intOf _).toNat < ks.length - (intOf _).toNat
   rw [e23,o23.eval (by rw [hz6];decide)]
   simp only [intOf];omega
 . refine wp_seq (wcF o24 (wp_exit ?_) (by rw [decide_eq_false hlt]))
   obtain rfl:j=ks.length:=by omega
   rw [List.take_length] at S
   exact hend _ _ m (T.more (by decide +kernel)) S
theorem sright_any(z:Int)(hz:-9223372036854775808<=z ∧ z<=9223372036854775807)(h:Bs)(hh:h.length=32)(A:Option Addr)(c:Nat)(l:List SigD)(hok:SgOk l)(hll:l.length<=9223372036854775807)(Ak:Option Addr)(ck:Nat)(ks:List KeyD)(hks:ks.length<=35184372088832)(hnm:∀ k,k ∈ ks->k.1.length<=maxLen)(vs:List Value)(w:World)(LDw:LD w)(hv:Rd w 33 (.slice A l.length c) l.length (sgsC l))(hkv:KysF w (.slice Ak ks.length ck) vs ks):
 Calls Tryz.prog 73 #[.agg (ntA z h (.slice A l.length c)),.slice Ak ks.length ck] w fun e w'=>∃ v,e=.returned v ∧ Held w w' [rowR 9 1 v (rightA z h l ks).length ((rightA z h l ks).map strV)]:=by
 refine calls_fr Tryz.func73 rfl 80 rfl (fun a0 hsz hdf hAr=>?_)
 have hz0:a0.tmps.size=80:=hsz
 have D:=hdf
 have o0:=hAr 0 _ rfl
 have o1:=hAr 1 _ rfl
 have hcz:=ntA_size (z:=z) (v:=.slice A l.length c) hh
 refine wp_seq (srt_r0 w _ [] (Held.start w) hz0 o0 (fun a1 w1 hs1 h1=>?_))
 obtain ⟨hz1,D,o0,o1⟩:=kq2 hs1 hz0 D o0 o1
 obtain ⟨gN,o2,S⟩:=h1
 refine wp_seq (srt_r1 w _ S hz1 (fun a2 w2 hs2 h2=>?_))
 obtain ⟨hz2,D,o0,o1,o2⟩:=kq3 hs2 hz1 D o0 o1 o2
 obtain ⟨v0,o5,S⟩:=h2
 have S:Held w w2 (blkR gN 28 (ntA z h (.slice A l.length c)) :: rowR 9 1 v0 0 [] :: []):=S.pull 1 rfl
 obtain ⟨b,hb⟩:∃ b,((chkN z l:Int) != 0)=b:=⟨_,rfl⟩
 have hb2:b=!mayN z l:=by rw [<- hb];unfold chkN;cases mayN z l <;> rfl
 refine wp_seq (wp_seq (srt_r2 w gN _ hcz (chkN z l) b hb _ S (fun V SV=>scheck_any z hz h hh l hok hll A c V (LDw.kp SV.k) (rd_old hv SV.k)) hz2 o2 (fun a3 w3 hs3 o18 S=>?_)))
 obtain ⟨hz3,D,o0,o1,o2,o5⟩:=kq4 hs3 hz2 D o0 o1 o2 o5
 cases hm:mayN z l
 . rw [hm] at hb2
   have hA:rightA z h l ks=[]:=by unfold rightA;rw [hm];rfl
   refine wcT o18 ?_ (by rw [hb2];rfl)
   refine wp_seq (srt_r3 v0 hz3 o5 (fun a4 hs4 o4=>?_))
   obtain ⟨hz4,D,o0,o1,o2,o5,o18⟩:=kq5 hs4 hz3 D o0 o1 o2 o5 o18
   refine wp_ret ?_
   simp only [Exit.then]
   refine (bodyPost_ret (results_t1 (by rfl) (o4.eval (by rw [hz4];decide))) D ⟨_,rfl,?_⟩)
   rw [hA]
   exact S.some_of (List.Sublist.cons _ (List.Sublist.refl _))
 . rw [hm] at hb2
   refine wcF o18 (wp_skip ?_) (by rw [hb2];rfl)
   obtain ⟨h64,hris⟩:=mayN_64 hm
   have hA:rightA z h l ks=rightN z h l ks:=by unfold rightA;rw [hm];rfl
   refine wp_seq (srt_r4 w _ S hz3 (fun a4 w4 hs4 h4=>?_))
   obtain ⟨hz4,D,o0,o1,o2,o5,o18⟩:=kq5 hs4 hz3 D o0 o1 o2 o5 o18
   obtain ⟨gM,o6,S⟩:=h4
   refine wp_seq (wp_seq (srt_r5 Ak _ ck hz4 o1 (fun a5 hs5 o21 o22 o23=>?_)))
   obtain ⟨hz5,D,o0,o1,o2,o5,o18,o6⟩:=kq6 hs5 hz4 D o0 o1 o2 o5 o18 o6
   refine srt_l0 gM gN z hz h hh A c l hok h64 Ak ck ks hks hnm vs LDw _ hz5 o2 o6 o21 o22 o23 hv hkv S (fun a6 w5 m5 hs6 S=>?_)
   obtain ⟨hz6,D,o0,o1,o2,o5,o18,o6,o21,o22⟩:=kq8 hs6 hz5 D o0 o1 o2 o5 o18 o6 o21 o22
   have S:Held w w5 (blkR gN 28 (ntA z h (.slice A l.length c)) :: cntR gM m5 (cntAll z h ks l) :: rowR 9 1 v0 0 [] :: []):=S.pull 1 rfl
   refine wp_seq (wp_seq (srt_r17 w gN z h hh _ _ _ _ S hz6 o2 (fun a7 hs7 o62 o63 o64=>?_)))
   obtain ⟨hz7,D,o0,o1,o2,o5,o18,o6,o21,o22⟩:=kq8 hs7 hz6 D o0 o1 o2 o5 o18 o6 o21 o22
   have S:Held w w5 (rowR 9 1 v0 0 [] :: cntR gM m5 (cntAll z h ks l) :: blkR gN 28 (ntA z h (.slice A l.length c)) :: []):=(S.pull 1 rfl).pull 2 rfl
   refine srt_l4 gM m5 (cntAll z h ks l) A c l hok (by omega) _ v0 hz7 o5 o6 o62 o63 o64 hv S (fun a8 w6 v6 L6 hs8 o5 S=>?_)
   obtain ⟨hz8,D⟩:=kq0 hs8 hz7 D
   rw [rightN_is hris,<- hA] at S
   refine wp_seq (srt_r23 v6 hz8 o5 (fun a9 hs9 o4=>?_))
   obtain ⟨hz9,D,o5⟩:=kq1 hs9 hz8 D o5
   refine wp_ret ?_
   refine (bodyPost_ret (results_t1 (by rfl) (o4.eval (by rw [hz9];decide))) D ⟨_,rfl,?_⟩)
   exact S.some_of (List.singleton_sublist.2 (by simp))
end
section
theorem op_build{P:Program}{o:Oper}{a:Act}{w:World}{K:Act->World->Prop}{Q:Exit->Act->World->Prop}(t:TypeId)(parts:Array (Nat × Operand))(ho:o.op=.build t parts)(ps:List (Nat × Value))(hp:(parts.map fun (i,x)=>(i,a.eval x)).toList=ps)
 (cells:Array Value) (hb:P.built t ps=some cells) (h:K (a.put o.dst (.agg cells)) w):o.wp P a w K Q:=by
 refine wp_build t parts ho (by rw [hp,hb];rfl) ?_
 rw [hp,hb]
 exact h
theorem wpList_buildP{P:Program}{ops:Array Oper}{rest:List Oper}{o:Oper}{a:Act}{w:World}{Q:Exit->Act->World->Prop}(hg:o.guard=none)(t:TypeId)(parts:Array (Nat × Operand))(ho:o.op=.build t parts)(ps:List (Nat × Value))(hp:(parts.map fun (i,x)=>(i,a.eval x)).toList=ps)
 (cells:Array Value) (hb:P.built t ps=some cells) (h:wpList P ops Q rest (a.put o.dst (.agg cells)) w):wpList P ops Q (o :: rest) a w:=by
 refine wpList_build hg t parts ho (by rw [hp,hb];rfl) ?_
 rw [hp,hb]
 exact h
end
section
open Go.RowKit
theorem wpList_appH{P:Program}{ops:Array Oper}{rest:List Oper}{o:Oper}{a:Act}{w0 w:World}{Q:Exit->Act->World->Prop}{L:List Res}(hg:o.guard=none)(s x:Operand)(t e:TypeId)
 (ho:o.op=.call { callee:=.builtin .append,args:=#[s,x],argTypes:=#[t,t] })
 {size bytes:Nat} {z:Value} (hI:(P.info? e).map (fun i=>(i.zero,i.size,i.bytes))=some (some z,size,bytes)) (ht:P.underlying t=some (.slice e)) (hzs:z.cells.size=size) (hsz:0 < size)
 (v:Value) (n:Nat) (xs:List Value) (hs:a.eval s=v) (S:Held w0 w (rowR e size v n xs :: L))
 (y:Value) (m:Nat) (news:List Value) (hx:a.eval x=y) (hr:Rd w size y m news) (h1:∀ u ∈ news,u.oneCell'=true)
 (h63:n+m<=maxLen) (hbytes:(n+m) * bytes<=140737488355328)
 (h:∀ v' w',Held w0 w' (rowR e size v' (n+m) (xs ++ news) :: L)->wpList P ops Q rest (a.put o.dst v') w'):wpList P ops Q (o :: rest) a w:=
 wpList_plain hg fun _ hK=>op_app s x t e ho hI ht hzs hsz v n xs hs S y m news hx hr h1 h63 hbytes (fun v' w' S'=>hK _ _ (h v' w' S'))
theorem wpList_appHN{P:Program}{ops:Array Oper}{rest:List Oper}{o:Oper}{a:Act}{w0 w:World}{Q:Exit->Act->World->Prop}{L:List Res}(hg:o.guard=none)(s x:Operand)(t e:TypeId)
 (ho:o.op=.call { callee:=.builtin .append,args:=#[s,x],argTypes:=#[t,t] })
 {size bytes:Nat} {z:Value} (hI:(P.info? e).map (fun i=>(i.zero,i.size,i.bytes))=some (some z,size,bytes)) (ht:P.underlying t=some (.slice e)) (hzs:z.cells.size=size) (hsz:0 < size)
 (hs:a.eval s=.slice none 0 0) (S:Held w0 w L)
 (y:Value) (m:Nat) (news:List Value) (hx:a.eval x=y) (hr:Rd w size y m news) (h1:∀ u ∈ news,u.oneCell'=true)
 (h63:m<=maxLen) (hbytes:m * bytes<=140737488355328)
 (h:∀ v' w',Held w0 w' (rowR e size v' m news :: L)->wpList P ops Q rest (a.put o.dst v') w'):wpList P ops Q (o :: rest) a w:=
 wpList_plain hg fun _ hK=>op_app_nil s x t e ho hI ht hzs hsz hs S y m news hx hr h1 h63 hbytes (fun v' w' S'=>hK _ _ (h v' w' S'))
end
end Go.Proofs.YtmkfopmdingaoaaGreatDoor
