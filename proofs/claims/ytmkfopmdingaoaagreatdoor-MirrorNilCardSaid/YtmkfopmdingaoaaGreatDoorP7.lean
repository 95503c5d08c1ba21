/- Several texts in one: ConE, ConF, ConG, ConH, ConI, ConJ, ConK, ProA, RangeS, ProB, InLd. -/
import Derived.Laws.EntriesVeiled
import Derived.Test.YtmkfopmdingaoaaGreatDoorP6
set_option linter.unusedVariables false
set_option linter.unusedSimpArgs false
set_option maxRecDepth 100000
set_option maxHeartbeats 8000000
namespace Go.Proofs.YtmkfopmdingaoaaGreatDoor
section
variable {Q:Exit->Act->World->Prop} {a:Act} {w:World}
open Go.RowKit Go.Shelf
theorem cb1_r0(w0:World)(L:List Res)(S:Held w0 w L)(hsz:a.tmps.size=10):RG1 false 0 Tryz.f108 Q a w fun a' W q'=>(∃ g,Sl a' 2 (Pq g 0) ∧ Held w0 W (blkR g 23 (hashA (List.replicate 32 0)) :: L))->q':=by
 intro hend
 refine wp_region_lit ?_
 (conv=>arg 4;whnf)
 have S1:=LH (S.newBlk 23 (hashA (List.replicate 32 0)))
 go_wp2
 try simp only [Act.put]
 exact hend _ _ tS (⟨w.heap.size,sP0,S1.out⟩)
theorem cb1_r1(w0:World)(gn k:Nat)(hk:k<=1000000)(L:List Res)(S:Held w0 w (blkR gn 3 #[Nq k] :: L))(hsz:a.tmps.size=10)(o0:Sl a 0 (Pq gn 0)):RG1 false 1 Tryz.f108 Q a w fun a' W q'=>(Held w0 W (blkR gn 3 #[Nq (k+1)] :: L))->q':=by
 intro hend
 refine wp_region_lit ?_
 (conv=>arg 4;whnf)
 unfold Sl at o0
 have S:=LH S
 obtain ⟨c1,c2,c3⟩:=Blk.c1 (S.out.at_ (l1:=[]))
 have hw:wrap64 ((k:Int)+1)=((k+1:Nat):Int):=by unfold wrap64;omega
 have S1:=LH (S.out.set (l1:=[]) 0 (Nq (k+1)))
 go_wp2_with fail
 try simp only [hw]
 try simp only [Act.put]
 exact hend _ _ tS (S1.out)
theorem cb1_r2(w0:World)(gn gp g2 k n c:Nat)(ad:Addr)(hk:k < n)(hkb:k<=1000000)(x:Bs)(hx32:x.length=32)(hx:∀ j u,(hashA x).toList[j]?=some u->w.cell? ((ad.add (k * 32)).add j)=some u)(hbn:Blk w gn 3 #[Nq (k+1)])(hbp:Blk w gp 29 #[.slice (some ad) n c])(L:List Res)(S:Held w0 w (blkR g2 23 (hashA (List.replicate 32 0)) :: L))(hsz:a.tmps.size=10)(o0:Sl a 0 (Pq gn 0))(o1:Sl a 1 (Pq gp 0))(o2:Sl a 2 (Pq g2 0)):RG1 false 2 Tryz.f108 Q a w fun a' W q'=>(Held w0 W (blkR g2 23 (hashA x) :: L))->q':=by
 intro hend
 refine wp_region_lit ?_
 (conv=>arg 4;whnf)
 unfold Sl at o0 o1 o2
 have c0:w.cell? ⟨gn,0,none⟩=some (.int .i64 ((k:Int)+1)):=hbn.cell 0
 have c1:w.cell? ⟨gp,0,none⟩=some (.slice (some ad) n c):=hbp.cell 0
 have hw:wrap64 (k:Int)=(k:Int):=by unfold wrap64;omega
 have h0:0<=(k:Int):=by omega
 have h1:(k:Int) < (n:Int):=by omega
 have hch:Hid ((hashA (x)).size=32):=LH (by rw [hashA_size,hx32])
 have Och:=LH (hashA_one (x))
 obtain ⟨ch,Ech⟩:∃ cs,Hid (hashA (x)=cs):=⟨_,LH rfl⟩
 rw [Ech.out] at hch Och
 have hcz:Hid ((hashA (List.replicate 32 0)).size=32):=LH rfl
 obtain ⟨cz,Ecz⟩:∃ cs,Hid ((hashA (List.replicate 32 0))=cs):=⟨_,LH rfl⟩
 rw [Ecz.out] at hcz
 have HC:Hid (∀ j u,ch.toList[j]?=some u->w.cell? ((ad.add (k * 32)).add j)=some u):=LH (by rw [<- Ech.out];exact hx)
 clear hx hbn hbp
 rw [Ecz.out] at S
 have S:=LH S
 go_wp2_with (first|(refine wpList_load_agg rfl 23 (.tmp 8) rfl (ad.add (k * 32)) aE ch.toList _ HC.out Tryz.underlying23 rfl (by rw [Array.length_toList,hch.out];exact Tryz.infoHashP) ?_)|(refine wpList_store_blk rfl 23 (.tmp 2) (.tmp 9) rfl g2 (aO o2) ch aE 23 _ (S.out.at_ (l1:=[])) (by rw [hch.out];exact Tryz.infoHashP) (by rw [hch.out,hcz.out]) Och.out ?_;intro w7 b7 k7;have S7:=LH (Held.setBlk (l1:=[]) S.out b7 k7);clear b7 k7))
 rw [<- Ech.out] at S7
 try simp only [Act.put]
 exact hend _ _ tS (S7.out)
theorem cb2_r0(w0:World)(L:List Res)(S:Held w0 w L)(hsz:a.tmps.size=66):RG1 false 0 Tryz.f109 Q a w fun a' W q'=>(∃ g10 g11,Sl a' 10 (Pq g10 0) ∧ Sl a' 11 (Pq g11 0) ∧ Held w0 W (blkR g11 23 (hashA (List.replicate 32 0)) :: blkR g10 23 (hashA (List.replicate 32 0)) :: L))->q':=by
 intro hend
 refine wp_region_lit ?_
 (conv=>arg 4;whnf)
 have S1:=LH ((S.newBlk 23 (hashA (List.replicate 32 0))).newBlkN 23 (hashA (List.replicate 32 0)) (g:=w.heap.size+1) (by simp))
 go_wp2
 try simp only [Act.put]
 exact hend _ _ tS (⟨w.heap.size,w.heap.size+1,sP0,sP0,S1.out⟩)
theorem cb2_r1(g3:Nat)(x z:Int)(hb:Blk w g3 2 #[.int .i64 x])(hsz:a.tmps.size=66)(o1:Sl a 1 (.int .i64 z))(o3:Sl a 3 (Pq g3 0)):RG0 1 Tryz.f109 Q a w fun a' q'=>Sl a' 21 (.bool (x == z))->q':=by
 have c0:w.cell? ⟨g3,0,none⟩=some (.int .i64 x):=hb.cell 0
 exact rO
theorem cb2_r2(w0:World)(g4:Nat)(x:Bs)(hx32:x.length=32)(hb:Blk w g4 23 (hashA x))(L:List Res)(S:Held w0 w L)(hsz:a.tmps.size=66)(o4:Sl a 4 (Pq g4 0)):RG1 false 2 Tryz.f109 Q a w fun a' W q'=>(∃ g12,Sl a' 12 (Pq g12 0) ∧ Held w0 W (blkR g12 23 (hashA x) :: L))->q':=by
 intro hend
 refine wp_region_lit ?_
 (conv=>arg 4;whnf)
 unfold Sl at o4
 have hch:Hid ((hashA (x)).size=32):=LH (by rw [hashA_size,hx32])
 have Och:=LH (hashA_one (x))
 obtain ⟨ch,Ech⟩:∃ cs,Hid (hashA (x)=cs):=⟨_,LH rfl⟩
 rw [Ech.out] at hch Och
 rw [Ech.out] at hb
 have HB:=LH hb
 clear hb
 have S1:=LH (S.newBlk 23 (hashA (List.replicate 32 0)))
 clear S
 go_wp2_with (first|(refine wpList_load_blk rfl 23 (.tmp 4) rfl g4 (aO o4) 23 _ HB.out _ Tryz.underlying23 rfl (by rw [hch.out];exact Tryz.infoHashP) ?_)|(refine wpList_store_blk rfl 23 (.tmp 12) (.tmp 22) rfl w.heap.size aE ch aE 23 _ (S1.out.at_ (l1:=[])) (by rw [hch.out];exact Tryz.infoHashP) (by rw [hch.out];rfl) Och.out ?_;intro w7 b7 k7;have S7:=LH (Held.setBlk (l1:=[]) S1.out b7 k7);clear b7 k7))
 rw [<- Ech.out] at S7
 try simp only [Act.put]
 exact hend _ _ tS (⟨_,sP0,S7.out⟩)
theorem cb2_r3(b:Bool)(hsz:a.tmps.size=66)(o2:Sl a 2 (.bool b)):RG0 3 Tryz.f109 Q a w fun a' q'=>Sl a' 24 (.bool (!b))->q':=rO
theorem cb2_r4(w0:World)(gn gp g5 g12:Nat)(x y:Bs)(hx32:x.length=32)(hy32:y.length=32)(hb5:Blk w g5 131 #[.func (.func 108) #[] #[Pq gn 0,Pq gp 0]])(L:List Res)(HC0:Calls Tryz.prog 108 #[Pq gn 0,Pq gp 0] w fun e w'=>e=.returned (.agg (hashA x)) ∧ Held w0 w' (blkR g12 23 (hashA y) :: L))(hsz:a.tmps.size=66)(o5:Sl a 5 (Pq g5 0))(o12:Sl a 12 (Pq g12 0)):RG1 false 4 Tryz.f109 Q a w fun a' W q'=>(Held w0 W (blkR g12 23 (hashA x) :: L))->q':=by
 intro hend
 refine wp_region_lit ?_
 (conv=>arg 4;whnf)
 unfold Sl at o5 o12
 have hch:Hid ((hashA (x)).size=32):=LH (by rw [hashA_size,hx32])
 have Och:=LH (hashA_one (x))
 obtain ⟨ch,Ech⟩:∃ cs,Hid (hashA (x)=cs):=⟨_,LH rfl⟩
 rw [Ech.out] at hch Och
 have hcz:Hid ((hashA (y)).size=32):=LH (by rw [hashA_size,hy32])
 have Ocz:=LH (hashA_one (y))
 obtain ⟨cz,Ecz⟩:∃ cs,Hid (hashA (y)=cs):=⟨_,LH rfl⟩
 rw [Ecz.out] at hcz Ocz
 rw [Ecz.out] at HC0
 rw [Ech.out] at HC0
 have HC:=LH HC0
 clear HC0
 have c5:w.cell? ⟨g5,0,none⟩=some (.func (.func 108) #[] #[Pq gn 0,Pq gp 0]):=hb5.cell 0
 clear hb5
 go_wp2_with fail
 refine HC.out.mono ?_
 rintro e w1 ⟨rfl,S1⟩
 have S1:=LH S1
 go_wp2_with (refine wpList_store_blk rfl 23 (.tmp 12) (.tmp 26) rfl g12 (aO o12) ch aE 23 _ (S1.out.at_ (l1:=[])) (by rw [hch.out];exact Tryz.infoHashP) (by rw [hch.out,hcz.out]) Och.out ?_;intro w7 b7 k7;have S7:=LH (Held.setBlk (l1:=[]) S1.out b7 k7);clear b7 k7)
 rw [<- Ech.out] at S7
 try simp only [Act.put]
 exact hend _ _ tS (S7.out)
theorem cb2_r6(f n t m:Nat)(ht:Hid (t=f+n ∧ m=f+splF n ∧ f+n < 9223372036854775808))(hsz:a.tmps.size=66)(o0:Sl a 0 (Nq f))(o1:Sl a 1 (Nq t)):RG0 6 Tryz.f109 Q a w fun a' q'=>Sl a' 13 (Nq m)->q':=by
 intro hend
 refine wp_region_lit ?_
 (conv=>arg 4;whnf)
 unfold Sl at o0 o1
 have HR:=LH (hsplit_any n (by have:=ht.out;omega) w)
 have hw:wrap64 ((t:Int) - (f:Int))=(n:Int):=by have:=ht.out;unfold wrap64;omega
 have hs:=LH (splF_self n)
 obtain ⟨k,hk⟩:∃ k,Hid (splF n=k):=⟨_,LH rfl⟩
 rw [hk.out] at HR hs ht
 have hw2:wrap64 ((f:Int)+(k:Int))=(m:Int):=by have:=hs.out;have:=ht.out;unfold wrap64;omega
 go_wp2_with fail
 refine HR.out.mono ?_
 rintro e w' ⟨rfl,rfl⟩
 go_wp2_with fail
 try simp only [Act.put]
 exact hend _ tS sP
theorem cb2_r7(g3:Nat)(x z:Int)(hb:Blk w g3 2 #[.int .i64 x])(hsz:a.tmps.size=66)(o3:Sl a 3 (Pq g3 0))(o13:Sl a 13 (.int .i64 z)):RG0 7 Tryz.f109 Q a w fun a' q'=>Sl a' 37 (.bool (decide (x<=z)))->q':=by
 have c0:w.cell? ⟨g3,0,none⟩=some (.int .i64 x):=hb.cell 0
 exact rO
theorem cb2_r8(w0:World)(g3 g4 g5 g6:Nat)(za zb:Int)(b:Bool)(x y:Bs)(hx32:x.length=32)(hy32:y.length=32)(L:List Res)(hb:Blk w g6 162 #[.func (.func 109) #[] #[Pq g3 0,Pq g4 0,Pq g5 0,Pq g6 0]])(HC0:Calls Tryz.prog 109 #[.int .i64 za,.int .i64 zb,.bool b,Pq g3 0,Pq g4 0,Pq g5 0,Pq g6 0] w fun e w'=>e=.returned (.tuple #[.agg (hashA x),.agg (hashA y)]) ∧ Held w0 w' L)(hsz:a.tmps.size=66)(o0:Sl a 0 (.int .i64 za))(o2:Sl a 2 (.bool b))(o6:Sl a 6 (Pq g6 0))(o13:Sl a 13 (.int .i64 zb)):RG1 false 8 Tryz.f109 Q a w fun a' W q'=>(∃ g7 g8,Sl a' 14 (Pq g7 0) ∧ Sl a' 15 (Pq g8 0) ∧ Held w0 W (blkR g8 23 (hashA y) :: blkR g7 23 (hashA x) :: L))->q':=by
 intro hend
 refine wp_region_lit ?_
 (conv=>arg 4;whnf)
 unfold Sl at o0 o2 o6 o13
 have hca:Hid ((hashA (x)).size=32):=LH (by rw [hashA_size,hx32])
 have Oca:=LH (hashA_one (x))
 obtain ⟨ca,Eca⟩:∃ cs,Hid (hashA (x)=cs):=⟨_,LH rfl⟩
 rw [Eca.out] at hca Oca
 have hcb:Hid ((hashA (y)).size=32):=LH (by rw [hashA_size,hy32])
 have Ocb:=LH (hashA_one (y))
 obtain ⟨cb,Ecb⟩:∃ cs,Hid (hashA (y)=cs):=⟨_,LH rfl⟩
 rw [Ecb.out] at hcb Ocb
 rw [Eca.out,Ecb.out] at HC0
 have HC:=LH HC0
 clear HC0
 have c0:w.cell? ⟨g6,0,none⟩=some (.func (.func 109) #[] #[Pq g3 0,Pq g4 0,Pq g5 0,Pq g6 0]):=hb.cell 0
 clear hb
 go_wp2_with fail
 refine HC.out.mono ?_
 rintro e w1 ⟨rfl,S1⟩
 have S2:=LH ((S1.newBlk 23 (hashA (List.replicate 32 0))).newBlkN 23 (hashA (List.replicate 32 0)) (g:=w1.heap.size+1) (by simp))
 clear S1
 go_wp2_with (first|(refine wpList_store_blk rfl 23 (.tmp 14) (.tmp 44) rfl w1.heap.size aE ca aE 23 _ (S2.out.at_ (l1:=[_])) (by rw [hca.out];exact Tryz.infoHashP) (by rw [hca.out];rfl) Oca.out ?_;intro w7 b7 k7;have S7:=LH (Held.setBlk (l1:=[_]) S2.out b7 k7);clear b7 k7)|(refine wpList_store_blk rfl 23 (.tmp 15) (.tmp 45) rfl (w1.heap.size+1) aE cb aE 23 _ (S7.out.at_ (l1:=[])) (by rw [hcb.out];exact Tryz.infoHashP) (by rw [hcb.out];rfl) Ocb.out ?_;intro w7 b7 k7;have S8:=LH (Held.setBlk (l1:=[]) S7.out b7 k7);clear b7 k7))
 rw [<- Eca.out,<- Ecb.out] at S8
 try simp only [Act.put]
 exact hend _ _ tS (⟨_,_,sP0,sP0,S8.out⟩)
theorem cb2_r10(w0:World)(g3 g4 g5 g6:Nat)(za zb:Int)(x y:Bs)(hx32:x.length=32)(hy32:y.length=32)(L:List Res)(hb:Blk w g6 162 #[.func (.func 109) #[] #[Pq g3 0,Pq g4 0,Pq g5 0,Pq g6 0]])(HC0:Calls Tryz.prog 109 #[.int .i64 za,.int .i64 zb,.bool false,Pq g3 0,Pq g4 0,Pq g5 0,Pq g6 0] w fun e w'=>e=.returned (.tuple #[.agg (hashA x),.agg (hashA y)]) ∧ Held w0 w' L)(hsz:a.tmps.size=66)(o1:Sl a 1 (.int .i64 zb))(o6:Sl a 6 (Pq g6 0))(o13:Sl a 13 (.int .i64 za)):RG1 false 10 Tryz.f109 Q a w fun a' W q'=>(∃ g7 g8,Sl a' 16 (Pq g7 0) ∧ Sl a' 17 (Pq g8 0) ∧ Held w0 W (blkR g8 23 (hashA y) :: blkR g7 23 (hashA x) :: L))->q':=by
 intro hend
 refine wp_region_lit ?_
 (conv=>arg 4;whnf)
 unfold Sl at o1 o6 o13
 have hca:Hid ((hashA (x)).size=32):=LH (by rw [hashA_size,hx32])
 have Oca:=LH (hashA_one (x))
 obtain ⟨ca,Eca⟩:∃ cs,Hid (hashA (x)=cs):=⟨_,LH rfl⟩
 rw [Eca.out] at hca Oca
 have hcb:Hid ((hashA (y)).size=32):=LH (by rw [hashA_size,hy32])
 have Ocb:=LH (hashA_one (y))
 obtain ⟨cb,Ecb⟩:∃ cs,Hid (hashA (y)=cs):=⟨_,LH rfl⟩
 rw [Ecb.out] at hcb Ocb
 rw [Eca.out,Ecb.out] at HC0
 have HC:=LH HC0
 clear HC0
 have c0:w.cell? ⟨g6,0,none⟩=some (.func (.func 109) #[] #[Pq g3 0,Pq g4 0,Pq g5 0,Pq g6 0]):=hb.cell 0
 clear hb
 go_wp2_with fail
 refine HC.out.mono ?_
 rintro e w1 ⟨rfl,S1⟩
 have S2:=LH ((S1.newBlk 23 (hashA (List.replicate 32 0))).newBlkN 23 (hashA (List.replicate 32 0)) (g:=w1.heap.size+1) (by simp))
 clear S1
 go_wp2_with (first|(refine wpList_store_blk rfl 23 (.tmp 16) (.tmp 56) rfl w1.heap.size aE ca aE 23 _ (S2.out.at_ (l1:=[_])) (by rw [hca.out];exact Tryz.infoHashP) (by rw [hca.out];rfl) Oca.out ?_;intro w7 b7 k7;have S7:=LH (Held.setBlk (l1:=[_]) S2.out b7 k7);clear b7 k7)|(refine wpList_store_blk rfl 23 (.tmp 17) (.tmp 57) rfl (w1.heap.size+1) aE cb aE 23 _ (S7.out.at_ (l1:=[])) (by rw [hcb.out];exact Tryz.infoHashP) (by rw [hcb.out];rfl) Ocb.out ?_;intro w7 b7 k7;have S8:=LH (Held.setBlk (l1:=[]) S7.out b7 k7);clear b7 k7))
 rw [<- Eca.out,<- Ecb.out] at S8
 try simp only [Act.put]
 exact hend _ _ tS (⟨_,_,sP0,sP0,S8.out⟩)
theorem cb2_r11(w0:World)(gn gp g5:Nat)(x:Bs)(hx32:x.length=32)(hb5:Blk w g5 131 #[.func (.func 108) #[] #[Pq gn 0,Pq gp 0]])(L:List Res)(HC0:Calls Tryz.prog 108 #[Pq gn 0,Pq gp 0] w fun e w'=>e=.returned (.agg (hashA x)) ∧ Held w0 w' (L))(hsz:a.tmps.size=66)(o5:Sl a 5 (Pq g5 0)):RG1 false 11 Tryz.f109 Q a w fun a' W q'=>(∃ g18,Sl a' 18 (Pq g18 0) ∧ Held w0 W (blkR g18 23 (hashA x) :: L))->q':=by
 intro hend
 refine wp_region_lit ?_
 (conv=>arg 4;whnf)
 unfold Sl at o5
 have hch:Hid ((hashA (x)).size=32):=LH (by rw [hashA_size,hx32])
 have Och:=LH (hashA_one (x))
 obtain ⟨ch,Ech⟩:∃ cs,Hid (hashA (x)=cs):=⟨_,LH rfl⟩
 rw [Ech.out] at hch Och
 rw [Ech.out] at HC0
 have HC:=LH HC0
 clear HC0
 have c5:w.cell? ⟨g5,0,none⟩=some (.func (.func 108) #[] #[Pq gn 0,Pq gp 0]):=hb5.cell 0
 clear hb5
 go_wp2_with fail
 refine HC.out.mono ?_
 rintro e w1 ⟨rfl,S1⟩
 have S1:=LH (S1.newBlk 23 (hashA (List.replicate 32 0)))
 go_wp2_with (refine wpList_store_blk rfl 23 (.tmp 18) (.tmp 59) rfl w1.heap.size aE ch aE 23 _ (S1.out.at_ (l1:=[])) (by rw [hch.out];exact Tryz.infoHashP) (by rw [hch.out];rfl) Och.out ?_;intro w7 b7 k7;have S7:=LH (Held.setBlk (l1:=[]) S1.out b7 k7);clear b7 k7)
 rw [<- Ech.out] at S7
 try simp only [Act.put]
 exact hend _ _ tS (⟨_,sP0,S7.out⟩)
theorem cb2_r5(w0:World)(g10 g11 g12:Nat)(x:Bs)(hx32:x.length=32)(L:List Res)(hsz:a.tmps.size=66)(o10:Sl a 10 (Pq g10 0))(o11:Sl a 11 (Pq g11 0))(o12:Sl a 12 (Pq g12 0))
 (S0:Held w0 w (blkR g10 23 (hashA (List.replicate 32 0)) :: blkR g11 23 (hashA (List.replicate 32 0)) :: blkR g12 23 (hashA x) :: L)):RG1 true 5 Tryz.f109 Q a w fun a' W q'=>Held w0 W (blkR g10 23 (hashA x) :: blkR g11 23 (hashA x) :: blkR g12 23 (hashA x) :: L)->q':=by
 intro hend
 have hap:=pa 5 Tryz.f109
 refine wp_region_sep (Γ:=Unit) (l:=(opsOf 5 Tryz.f109)) 4 [0,1,2,3,6,7]
  (fun i vs gs=>match i with|0=>vs 0=.agg (hashA x)|1=>vs 1=.agg (hashA x)|_=>True)
  (fun i vs gs=>match i with|2=>[blkR g10 23 (hashA x)]|3=>[blkR g11 23 (hashA x)]|4=>[blkR g10 23 (hashA (List.replicate 32 0))]|5=>[blkR g11 23 (hashA (List.replicate 32 0))]|6=>[blkR g12 23 (hashA x)]|7=>L|_=>[])
  (fun i=>match i with|2=>[4]|3=>[5]|_=>[]) (fun i=>match i with|0=>[6]|1=>[6]|_=>[]) S0 (by kernel_rfl) hap (by kernel_rfl) (by kernel_rfl) (fun i=>match i with|0=>[0]|1=>[1]|_=>[]) (by kernel_rfl) ?_ (by kernel_rfl) ?_ ?_ ?_
 . exact lA
 . exact pA
 . clear S0 hend
   refine ⟨?_,?_,?_,?_,trivial⟩ <;> intro vs gs A' W LF hA S hR hd hu K hK
   . exact ldA (hashA x) (eO 12 o12) (Blk.agg (show Blk W g12 23 (hashA x) from S.ok (blkR g12 23 (hashA x)) (hR 6 (by simp) _ (List.mem_singleton.2 rfl)))) Tryz.underlying23 (by rw [hashA_size,hx32];exact Tryz.infoHashP)
   . exact ldA (hashA x) (eO 12 o12) (Blk.agg (show Blk W g12 23 (hashA x) from S.ok (blkR g12 23 (hashA x)) (hR 6 (by simp) _ (List.mem_singleton.2 rfl)))) Tryz.underlying23 (by rw [hashA_size,hx32];exact Tryz.infoHashP)
   . replace hK:=hK default;have e10:=eO 10 o10;have e27:=vD 27 0;clear hA o10 o11 o12
     have S1:Held w0 W (blkR g10 23 (hashA (List.replicate 32 0)) :: LF):=S
     refine op_store_blkS (.tmp 10) (.tmp 27) 23 rfl g10 (by simpa [Act.eval] using e10) (hashA (x)) (by simpa [Act.eval] using e27) 23 (hashA (List.replicate 32 0)) S1 (by rw [hashA_size,hx32];exact Tryz.infoHashP) (by rw [hashA_size,hashA_size,hx32,List.length_replicate]) (hashA_one _) ?_
     intro w' S2
     exact hK _ _ S2 trivial
   . replace hK:=hK default;have e11:=eO 11 o11;have e28:=vD 28 1;clear hA o10 o11 o12
     have S1:Held w0 W (blkR g11 23 (hashA (List.replicate 32 0)) :: LF):=S
     refine op_store_blkS (.tmp 11) (.tmp 28) 23 rfl g11 (by simpa [Act.eval] using e11) (hashA (x)) (by simpa [Act.eval] using e28) 23 (hashA (List.replicate 32 0)) S1 (by rw [hashA_size,hx32];exact Tryz.infoHashP) (by rw [hashA_size,hashA_size,hx32,List.length_replicate]) (hashA_one _) ?_
     intro w' S2
     exact hK _ _ S2 trivial
 . intro vs gs W S hp
   have S:Held w0 W (blkR g10 23 (hashA x) :: blkR g11 23 (hashA x) :: blkR g12 23 (hashA x) :: L):=by simpa only [List.flatMap_cons,List.flatMap_nil,List.append_nil,List.nil_append,List.cons_append,List.append_assoc] using S
   rw [putAll_eq]
   exact hend _ W sQ  S
theorem cb2_r12(w0:World)(g10 g11 g16 g17 g18:Nat)(x a1 b1:Bs)(hx32:x.length=32)(h1:a1.length=32)(h2:b1.length=32)(L:List Res)(hsz:a.tmps.size=66)(o10:Sl a 10 (Pq g10 0))(o11:Sl a 11 (Pq g11 0))(o16:Sl a 16 (Pq g16 0))(o17:Sl a 17 (Pq g17 0))(o18:Sl a 18 (Pq g18 0))
 (S0:Held w0 w (blkR g10 23 (hashA (List.replicate 32 0)) :: blkR g11 23 (hashA (List.replicate 32 0)) :: blkR g18 23 (hashA x) :: blkR g16 23 (hashA a1) :: blkR g17 23 (hashA b1) :: L)):RG1 true 12 Tryz.f109 Q a w fun a' W q'=>Held w0 W (blkR g10 23 (hashA (nodeF x a1)) :: blkR g11 23 (hashA (nodeF x b1)) :: blkR g18 23 (hashA x) :: blkR g16 23 (hashA a1) :: blkR g17 23 (hashA b1) :: L)->q':=by
 intro hend
 have hap:=pa 12 Tryz.f109
 refine wp_region_sep (Γ:=Unit) (l:=(opsOf 12 Tryz.f109)) 6 [0,1,2,3,4,5,6,7,10,11,12,13]
  (fun i vs gs=>match i with|0=>vs 0=.agg (hashA x)|1=>vs 1=.agg (hashA a1)|2=>vs 2=.agg (hashA (nodeF x a1))|3=>vs 3=.agg (hashA x)|4=>vs 4=.agg (hashA b1)|5=>vs 5=.agg (hashA (nodeF x b1))|_=>True)
  (fun i vs gs=>match i with|6=>[blkR g10 23 (hashA (nodeF x a1))]|7=>[blkR g11 23 (hashA (nodeF x b1))]|8=>[blkR g10 23 (hashA (List.replicate 32 0))]|9=>[blkR g11 23 (hashA (List.replicate 32 0))]|10=>[blkR g18 23 (hashA x)]|11=>[blkR g16 23 (hashA a1)]|12=>[blkR g17 23 (hashA b1)]|13=>L|_=>[])
  (fun i=>match i with|6=>[8]|7=>[9]|_=>[]) (fun i=>match i with|0=>[10]|1=>[11]|3=>[10]|4=>[12]|_=>[]) S0 (by kernel_rfl) hap (by kernel_rfl) (by kernel_rfl) (fun i=>match i with|0=>[0]|1=>[1]|2=>[2]|3=>[3]|4=>[4]|5=>[5]|_=>[]) (by kernel_rfl) ?_ (by kernel_rfl) ?_ ?_ ?_
 . exact lA
 . exact pA
 . clear S0 hend
   and_intros <;> try intro vs gs A' W LF hA S hR hd hu K hK
   . exact ldA (hashA x) (eO 18 o18) (Blk.agg (show Blk W g18 23 (hashA x) from S.ok (blkR g18 23 (hashA x)) (hR 10 (by simp) _ (List.mem_singleton.2 rfl)))) Tryz.underlying23 (by rw [hashA_size,hx32];exact Tryz.infoHashP)
   . exact ldA (hashA a1) (eO 16 o16) (Blk.agg (show Blk W g16 23 (hashA a1) from S.ok (blkR g16 23 (hashA a1)) (hR 11 (by simp) _ (List.mem_singleton.2 rfl)))) Tryz.underlying23 (by rw [hashA_size,h1];exact Tryz.infoHashP)
   . replace hK:=hK default;have e60:=vD 60 0;have e61:=vD 61 1;clear hA o10 o11 o16 o17 o18;go_step
     refine (hnode_any x a1 hx32 h1 W).mono ?_
     rintro e w' ⟨rfl,k⟩
     exact hK _ _ (S.kp k) rfl
   . exact ldA (hashA x) (eO 18 o18) (Blk.agg (show Blk W g18 23 (hashA x) from S.ok (blkR g18 23 (hashA x)) (hR 10 (by simp) _ (List.mem_singleton.2 rfl)))) Tryz.underlying23 (by rw [hashA_size,hx32];exact Tryz.infoHashP)
   . exact ldA (hashA b1) (eO 17 o17) (Blk.agg (show Blk W g17 23 (hashA b1) from S.ok (blkR g17 23 (hashA b1)) (hR 12 (by simp) _ (List.mem_singleton.2 rfl)))) Tryz.underlying23 (by rw [hashA_size,h2];exact Tryz.infoHashP)
   . replace hK:=hK default;have e63:=vD 63 3;have e64:=vD 64 4;clear hA o10 o11 o16 o17 o18;go_step
     refine (hnode_any x b1 hx32 h2 W).mono ?_
     rintro e w' ⟨rfl,k⟩
     exact hK _ _ (S.kp k) rfl
   . replace hK:=hK default;have e10:=eO 10 o10;have e62:=vD 62 2;clear hA o10 o11 o16 o17 o18
     have S1:Held w0 W (blkR g10 23 (hashA (List.replicate 32 0)) :: LF):=S
     refine op_store_blkS (.tmp 10) (.tmp 62) 23 rfl g10 (by simpa [Act.eval] using e10) (hashA (nodeF x a1)) (by simpa [Act.eval] using e62) 23 (hashA (List.replicate 32 0)) S1 (by rw [hashA_size,nodeF_length];exact Tryz.infoHashP) (by rw [hashA_size,hashA_size,nodeF_length,List.length_replicate]) (hashA_one _) ?_
     intro w' S2
     exact hK _ _ S2 trivial
   . replace hK:=hK default;have e11:=eO 11 o11;have e65:=vD 65 5;clear hA o10 o11 o16 o17 o18
     have S1:Held w0 W (blkR g11 23 (hashA (List.replicate 32 0)) :: LF):=S
     refine op_store_blkS (.tmp 11) (.tmp 65) 23 rfl g11 (by simpa [Act.eval] using e11) (hashA (nodeF x b1)) (by simpa [Act.eval] using e65) 23 (hashA (List.replicate 32 0)) S1 (by rw [hashA_size,nodeF_length];exact Tryz.infoHashP) (by rw [hashA_size,hashA_size,nodeF_length,List.length_replicate]) (hashA_one _) ?_
     intro w' S2
     exact hK _ _ S2 trivial
   . trivial
 . intro vs gs W S hp
   have S:Held w0 W (blkR g10 23 (hashA (nodeF x a1)) :: blkR g11 23 (hashA (nodeF x b1)) :: blkR g18 23 (hashA x) :: blkR g16 23 (hashA a1) :: blkR g17 23 (hashA b1) :: L):=by simpa only [List.flatMap_cons,List.flatMap_nil,List.append_nil,List.nil_append,List.cons_append,List.append_assoc] using S
   rw [putAll_eq]
   exact hend _ W sQ  S
theorem cb2_r9(w0:World)(g5 g10 g11 g14 g15 gn gp k:Nat)(slv:Value)(x a1 b1:Bs)(hx32:x.length=32)(h1:a1.length=32)(h2:b1.length=32)(HT1:∀ (V:World) (LL:List Res),Held w0 V (blkR gn 3 #[Nq k] :: LL)->blkR gp 29 #[slv] ∈ LL->Calls Tryz.prog 108 #[Pq gn 0,Pq gp 0] V fun e w'=>e=.returned (.agg (hashA x)) ∧ Held w0 w' (blkR gn 3 #[Nq (k+1)] :: LL))(L:List Res)(hsz:a.tmps.size=66)(o5:Sl a 5 (Pq g5 0))(o10:Sl a 10 (Pq g10 0))(o11:Sl a 11 (Pq g11 0))(o14:Sl a 14 (Pq g14 0))(o15:Sl a 15 (Pq g15 0))
 (S0:Held w0 w (blkR g10 23 (hashA (List.replicate 32 0)) :: blkR g11 23 (hashA (List.replicate 32 0)) :: blkR g14 23 (hashA a1) :: blkR g15 23 (hashA b1) :: blkR g5 131 #[.func (.func 108) #[] #[Pq gn 0,Pq gp 0]] :: blkR gn 3 #[Nq k] :: blkR gp 29 #[slv] :: L)):RG1 true 9 Tryz.f109 Q a w fun a' W q'=>Held w0 W (blkR gn 3 #[Nq (k+1)] :: blkR g10 23 (hashA a1) :: blkR g11 23 (hashA (nodeF b1 x)) :: blkR g14 23 (hashA a1) :: blkR g15 23 (hashA b1) :: blkR g5 131 #[.func (.func 108) #[] #[Pq gn 0,Pq gp 0]] :: blkR gp 29 #[slv] :: L)->q':=by
 intro hend
 have hap:=pa 9 Tryz.f109
 refine wp_region_sep (Γ:=Unit) (l:=(opsOf 9 Tryz.f109)) 8 [0,1,2,3,4,5,6,9,10,11,13,14]
  (fun i vs gs=>match i with|0=>vs 0=.agg (hashA a1)|1=>vs 1=.agg (hashA b1)|2=>vs 2=.func (.func 108) #[] #[Pq gn 0,Pq gp 0]|3=>vs 3=.agg (hashA x)|4=>vs 4=.agg (hashA (nodeF b1 x))|_=>True)
  (fun i vs gs=>match i with|3=>[blkR gn 3 #[Nq (k+1)]]|5=>[blkR g10 23 (hashA a1)]|6=>[blkR g11 23 (hashA (nodeF b1 x))]|7=>[blkR g10 23 (hashA (List.replicate 32 0))]|8=>[blkR g11 23 (hashA (List.replicate 32 0))]|9=>[blkR g14 23 (hashA a1)]|10=>[blkR g15 23 (hashA b1)]|11=>[blkR g5 131 #[.func (.func 108) #[] #[Pq gn 0,Pq gp 0]]]|12=>[blkR gn 3 #[Nq k]]|13=>[blkR gp 29 #[slv]]|14=>L|_=>[])
  (fun i=>match i with|3=>[12]|5=>[7]|6=>[8]|_=>[]) (fun i=>match i with|0=>[9]|1=>[10]|2=>[11]|3=>[13]|_=>[]) S0 (by kernel_rfl) hap (by kernel_rfl) (by kernel_rfl) (fun i=>match i with|0=>[0]|1=>[1]|2=>[2]|3=>[3]|4=>[4]|_=>[]) (by kernel_rfl) ?_ (by kernel_rfl) ?_ ?_ ?_
 . exact lA
 . exact pA
 . clear S0 hend
   and_intros <;> try intro vs gs A' W LF hA S hR hd hu K hK
   . exact ldA (hashA a1) (eO 14 o14) (Blk.agg (show Blk W g14 23 (hashA a1) from S.ok (blkR g14 23 (hashA a1)) (hR 9 (by simp) _ (List.mem_singleton.2 rfl)))) Tryz.underlying23 (by rw [hashA_size,h1];exact Tryz.infoHashP)
   . exact ldA (hashA b1) (eO 15 o15) (Blk.agg (show Blk W g15 23 (hashA b1) from S.ok (blkR g15 23 (hashA b1)) (hR 10 (by simp) _ (List.mem_singleton.2 rfl)))) Tryz.underlying23 (by rw [hashA_size,h2];exact Tryz.infoHashP)
   . have c0:W.cell? ⟨g5,0,none⟩=some (.func (.func 108) #[] #[Pq gn 0,Pq gp 0]):=(show Blk W g5 131 _ from S.ok (blkR g5 131 #[.func (.func 108) #[] #[Pq gn 0,Pq gp 0]]) (hR 11 (by simp) _ (List.mem_singleton.2 rfl))).cell 0
     exact qa1 (eO 5 o5)
   . replace hK:=hK default;have e48:=vD 48 2;clear hA o5 o10 o11 o14 o15;go_step
     have S1:Held w0 W (blkR gn 3 #[Nq k] :: LF):=S
     refine (HT1 W LF S1 (hR 13 (by simp) _ (List.mem_singleton.2 rfl))).mono ?_
     rintro e w' ⟨rfl,S2⟩
     exact hK _ _ S2 rfl
   . replace hK:=hK default;have e47:=vD 47 1;have e49:=vD 49 3;clear hA o5 o10 o11 o14 o15;go_step
     refine (hnode_any b1 x h2 hx32 W).mono ?_
     rintro e w' ⟨rfl,k⟩
     exact hK _ _ (S.kp k) rfl
   . replace hK:=hK default;have e10:=eO 10 o10;have e46:=vD 46 0;clear hA o5 o10 o11 o14 o15
     have S1:Held w0 W (blkR g10 23 (hashA (List.replicate 32 0)) :: LF):=S
     refine op_store_blkS (.tmp 10) (.tmp 46) 23 rfl g10 (by simpa [Act.eval] using e10) (hashA (a1)) (by simpa [Act.eval] using e46) 23 (hashA (List.replicate 32 0)) S1 (by rw [hashA_size,h1];exact Tryz.infoHashP) (by rw [hashA_size,hashA_size,h1,List.length_replicate]) (hashA_one _) ?_
     intro w' S2
     exact hK _ _ S2 trivial
   . replace hK:=hK default;have e11:=eO 11 o11;have e50:=vD 50 4;clear hA o5 o10 o11 o14 o15
     have S1:Held w0 W (blkR g11 23 (hashA (List.replicate 32 0)) :: LF):=S
     refine op_store_blkS (.tmp 11) (.tmp 50) 23 rfl g11 (by simpa [Act.eval] using e11) (hashA (nodeF b1 x)) (by simpa [Act.eval] using e50) 23 (hashA (List.replicate 32 0)) S1 (by rw [hashA_size,nodeF_length];exact Tryz.infoHashP) (by rw [hashA_size,hashA_size,nodeF_length,List.length_replicate]) (hashA_one _) ?_
     intro w' S2
     exact hK _ _ S2 trivial
   . trivial
 . intro vs gs W S hp
   have S:Held w0 W (blkR gn 3 #[Nq (k+1)] :: blkR g10 23 (hashA a1) :: blkR g11 23 (hashA (nodeF b1 x)) :: blkR g14 23 (hashA a1) :: blkR g15 23 (hashA b1) :: blkR g5 131 #[.func (.func 108) #[] #[Pq gn 0,Pq gp 0]] :: blkR gp 29 #[slv] :: L):=by simpa only [List.flatMap_cons,List.flatMap_nil,List.append_nil,List.nil_append,List.cons_append,List.append_assoc] using S
   rw [putAll_eq]
   exact hend _ W sQ  S
end
section
open Go.RowKit Go.Shelf
theorem res_c2{P:Program}{fn:Func}{w:World}{tmps:Array Value}{a b t t2 g g2:Nat}{t' t2':TypeId}{cs cs2:Array Value}{d d2:TypeDesc}(h:fn.results=#[.cell a t,.cell b t2])(ha:tmps.getD a undef=Pq g 0)(hb:tmps.getD b undef=Pq g2 0)(h1:Blk w g t' cs)(h2:Blk w g2 t2' cs2)
 (hu:P.underlying t=some d) (hd:aggB d=true) (hi:(P.info? t).map (·.size)=some cs.size) (hu2:P.underlying t2=some d2) (hd2:aggB d2=true) (hi2:(P.info? t2).map (·.size)=some cs2.size):(results fn tmps).run P w=.ok (.tuple #[.agg cs,.agg cs2]) w:=by
 have hl:(loadCells ⟨g,0,none⟩ cs.size).run P w=.ok cs w:=by
  have:=run_loadCells_list (P:=P) w ⟨g,0,none⟩ cs.toList h1.agg
  simpa using this
 have hl2:(loadCells ⟨g2,0,none⟩ cs2.size).run P w=.ok cs2 w:=by
  have:=run_loadCells_list (P:=P) w ⟨g2,0,none⟩ cs2.toList h2.agg
  simpa using this
 cases hq:P.info? t with
 |none=>simp [hq] at hi
 |some i=>
  cases hq2:P.info? t2 with
  |none=>simp [hq2] at hi2
  |some i2=>
   have hs:i.size=cs.size:=by simpa [hq] using hi
   have hs2:i2.size=cs2.size:=by simpa [hq2] using hi2
   simp only [Array.getD_eq_getD_getElem?] at ha hb
   simp [results,h,ha,hb,loadVar,asAddr,Sem.run_bind,run_isAgg hu hd,run_isAgg hu2 hd2,sizeOf,typeInfo,hq,hq2,hs,hs2,hl,hl2]
theorem bothN_succ(f m n:Nat)(whole:Bool)(first:Bs)(proof:List (List UInt8)):bothN (f+1) m n whole first proof=if m=n then (if whole then (first,first) else (proof.headD [],proof.headD [])) else
 if m<=splF n then ((bothN f m (splF n) whole first proof.dropLast).1,nodeF (bothN f m (splF n) whole first proof.dropLast).2 (proof.getLastD []))
 else (nodeF (proof.getLastD []) (bothN f (m - splF n) (n - splF n) false first proof.dropLast).1,nodeF (proof.getLastD []) (bothN f (m - splF n) (n - splF n) false first proof.dropLast).2):=rfl
theorem bothN_ok:∀ (fu fr m n:Nat) (whole:Bool) (first:Bs) (proof:List (List UInt8)),first.length=32->HsOk proof->proof.length=(stepsN (fu+1) m fr n whole).length->1<=m->m<=n->n<=2 ^ fu->
 (bothN (fu+1) m n whole first proof).1.length=32 ∧ (bothN (fu+1) m n whole first proof).2.length=32
 |fu,fr,m,n,whole,first,proof,h0,hok,hl,h1,hm,hf=>by
  by_cases he:m=n
  . subst he
    rw [bothN_succ,if_pos rfl]
    cases whole with
    |true=>exact ⟨h0,h0⟩
    |false=>
     rw [stepsN_succ,if_pos rfl,if_neg (by decide)] at hl
     match proof,hl with
     |[x],_=>
      have:=hok x (List.mem_cons_self ..)
      exact ⟨this,this⟩
  . obtain ⟨fu,rfl⟩:∃ fu',fu=fu'+1:=by
     cases fu with
     |zero=>simp at hf;omega
     |succ fu=>exact ⟨fu,rfl⟩
    have h2:2<=n:=by omega
    obtain ⟨d1,d2⟩:=Deep.next (f:=fu) hf h2
    have hd:HsOk proof.dropLast:=fun x hx=>hok x (List.dropLast_subset _ hx)
    rw [bothN_succ,if_neg he]
    rw [stepsN_succ,if_neg he] at hl
    by_cases hk:m<=splF n
    . rw [if_pos hk] at hl ⊢
      have:=bothN_ok fu fr m (splF n) whole first proof.dropLast h0 hd (by rw [List.length_dropLast,hl,List.length_append];simp) h1 hk d1
      exact ⟨this.1,nodeF_length _ _⟩
    . rw [if_neg hk]
      exact ⟨nodeF_length _ _,nodeF_length _ _⟩
theorem take_last{pf:List (List UInt8)}{c:Nat}{x:List UInt8}(hx:pf[c]?=some x):(pf.take (c+1)).dropLast=pf.take c ∧ (pf.take (c+1)).getLastD []=x:=by
 have hc:=(List.getElem?_eq_some_iff.1 hx).1
 rw [List.take_add_one,hx,Option.toList_some]
 exact ⟨List.dropLast_concat,by simp⟩
theorem ctake_any(w0:World)(gn gp k:Nat)(A:Option Addr)(c:Nat)(pf:List (List UInt8))(hok:HsOk pf)(x:Bs)(hx:pf[k]?=some x)(hk:k<=1000000)(hv:∀ V,Kp [] w0 V->Rd V 32 (.slice A pf.length c) pf.length (hsC pf))(L:List Res)(hg:blkR gp 29 #[.slice A pf.length c] ∈ L)(w:World)(S:Held w0 w (blkR gn 3 #[Nq k] :: L)):
 Calls Tryz.prog 108 #[Pq gn 0,Pq gp 0] w fun e w'=>e=.returned (.agg (hashA x)) ∧ Held w0 w' (blkR gn 3 #[Nq (k+1)] :: L):=by
 have hkl:=(List.getElem?_eq_some_iff.1 hx).1
 obtain ⟨ad,rfl⟩:=rd_addr (hv w S.k) (by omega)
 have hx32:=hok x (List.mem_of_getElem? hx)
 refine calls_fr Tryz.func108 rfl 10 rfl (fun a0 hsz hdf hAr=>?_)
 have hz0:a0.tmps.size=10:=hsz
 have D:=hdf
 have o0:=hAr 0 _ rfl
 have o1:=hAr 1 _ rfl
 refine wp_seq (cb1_r0 w0 _ S hz0 (fun a1 w1 hs1 h1=>?_))
 obtain ⟨hz1,D,o0,o1⟩:=kq2 hs1 hz0 D o0 o1
 obtain ⟨g2,o2,S⟩:=h1
 have S:=S.pull 1 rfl
 refine wp_seq (cb1_r1 w0 gn k hk _ S hz1 o0 (fun a2 w2 hs2 S=>?_))
 obtain ⟨hz2,D,o0,o1,o2⟩:=kq3 hs2 hz1 D o0 o1 o2
 have hbn:=S.at_ (l1:=[])
 have hbp:Blk w2 gp 29 #[.slice (some ad) pf.length c]:=S.ok (blkR gp 29 #[.slice (some ad) pf.length c]) (by simp [hg])
 have S:=S.pull 1 rfl
 refine wp_seq (cb1_r2 w0 gn gp g2 k pf.length c ad hkl hk x hx32 (rd_hash_at hok (hv w2 S.k) hx) hbn hbp _ S hz2 o0 o1 o2 (fun a3 w3 hs3 S=>?_))
 obtain ⟨hz3,D,o0,o1,o2⟩:=kq3 hs3 hz2 D o0 o1 o2
 refine wp_ret ?_
 exact bodyPost_ret (results_cell1 (by rfl) (o2.eval (by rw [hz3];decide)) (S.at_ (l1:=[])) Tryz.underlying23 rfl (by rw [hashA_size,hx32];exact Tryz.infoHashP)) D ⟨rfl,S.drop⟩
theorem cback_any(w0:World)(gn gp g3 g4 g5 g6:Nat)(first:Bs)(hf32:first.length=32)(A:Option Addr)(c:Nat)(pf:List (List UInt8))(hok:HsOk pf)(hpl:pf.length<=1000000)(hv:∀ V,Kp [] w0 V->Rd V 32 (.slice A pf.length c) pf.length (hsC pf)):∀ (fu fr m n:Nat) (whole:Bool) (L:List Res) (w:World),1<=m->m<=n->n<=2 ^ fu->fr+n < 9223372036854775808->(stepsN (fu+1) m fr n whole).length<=pf.length->
 Held w0 w (blkR gn 3 #[Nq 0] :: blkR gp 29 #[.slice A pf.length c] :: blkR g3 2 #[Nq (fr+m)] :: blkR g4 23 (hashA first) :: blkR g5 131 #[.func (.func 108) #[] #[Pq gn 0,Pq gp 0]] :: blkR g6 162 #[.func (.func 109) #[] #[Pq g3 0,Pq g4 0,Pq g5 0,Pq g6 0]] :: L)->
 Calls Tryz.prog 109 #[.int .i64 (fr:Int),Nq (fr+n),.bool whole,Pq g3 0,Pq g4 0,Pq g5 0,Pq g6 0] w fun e w'=>e=.returned (.tuple #[.agg (hashA (bothN (fu+1) m n whole first (pf.take (stepsN (fu+1) m fr n whole).length)).1),.agg (hashA (bothN (fu+1) m n whole first (pf.take (stepsN (fu+1) m fr n whole).length)).2)]) ∧ Held w0 w' (blkR gn 3 #[.int .i64 (((stepsN (fu+1) m fr n whole).length:Nat):Int)] :: blkR gp 29 #[.slice A pf.length c] :: blkR g3 2 #[Nq (fr+m)] :: blkR g4 23 (hashA first) :: blkR g5 131 #[.func (.func 108) #[] #[Pq gn 0,Pq gp 0]] :: blkR g6 162 #[.func (.func 109) #[] #[Pq g3 0,Pq g4 0,Pq g5 0,Pq g6 0]] :: L)
 |fu,fr,m,n,whole,L,w,h1,hm,hf,hn,hc,S=>by
  refine calls_fr Tryz.func109 rfl 66 rfl (fun a0 hsz hdf hAr=>?_)
  have hz0:a0.tmps.size=66:=hsz
  have D:=hdf
  have o0:=hAr 0 _ rfl
  have o1:=hAr 1 _ rfl
  have o2:=hAr 2 _ rfl
  have o3:=hAr 3 _ rfl
  have o4:=hAr 4 _ rfl
  have o5:=hAr 5 _ rfl
  have o6:=hAr 6 _ rfl
  refine wp_seq (cb2_r0 w0 _ S hz0 (fun a1 w1 hs1 h1=>?_))
  obtain ⟨hz1,D,o0,o1,o2,o3,o4,o5,o6⟩:=kq7 hs1 hz0 D o0 o1 o2 o3 o4 o5 o6
  obtain ⟨g10,g11,o10,o11,S⟩:=h1
  refine wp_seq (wp_seq (cb2_r1 g3 ((fr+m:Nat):Int) ((fr+n:Nat):Int) (S.at_ (l1:=[_,_,_,_])) hz1 o1 o3 (fun a2 hs2 o21=>?_)))
  obtain ⟨hz2,D,o0,o1,o2,o3,o4,o5,o6,o10,o11⟩:=kq9 hs2 hz1 D o0 o1 o2 o3 o4 o5 o6 o10 o11
  by_cases he:m=n
  . subst he
    refine wcT o21 ?_ (by simp)
    refine wp_seq (cb2_r2 w0 g4 first hf32 (S.at_ (l1:=[_,_,_,_,_])) _ S hz2 o4 (fun a3 w3 hs3 h3=>?_))
    obtain ⟨hz3,D,o0,o1,o2,o3,o4,o5,o6,o10,o11,o21⟩:=kq10 hs3 hz2 D o0 o1 o2 o3 o4 o5 o6 o10 o11 o21
    obtain ⟨g12,o12,S⟩:=h3
    refine wp_seq (wp_seq (cb2_r3 whole hz3 o2 (fun a4 hs4 o24=>?_)))
    obtain ⟨hz4,D,o0,o1,o2,o3,o4,o5,o6,o10,o11,o21,o12⟩:=kq11 hs4 hz3 D o0 o1 o2 o3 o4 o5 o6 o10 o11 o21 o12
    cases whole
    . obtain ⟨x,hx⟩:∃ x,pf[0]?=some x:=⟨_,List.getElem?_eq_getElem (by rw [stepsN_succ,if_pos rfl,if_neg (by decide)] at hc;exact hc)⟩
      have hx32:=hok x (List.mem_of_getElem? hx)
      refine wcT o24 ?_
      have S:=(((((((((S.pull 8 rfl).pull 8 rfl).pull 8 rfl).pull 8 rfl).pull 8 rfl).pull 7 rfl).pull 7 rfl).pull 7 rfl).pull 8 rfl)
      have HT:=ctake_any w0 gn gp 0 A c pf hok x hx (by decide) hv _ (by simp) _ S
      have S5:=S.at_ (l1:=[_,_,_,_,_,_,_])
      have HT':=HT.mono (fun e w' h=>(⟨h.1,h.2.pull 1 rfl⟩:e=.returned (.agg (hashA x)) ∧ Held w0 w' (blkR g12 23 (hashA first) :: _)))
      refine cb2_r4 w0 gn gp g5 g12 x first hx32 hf32 S5 _ HT' hz4 o5 o12 (fun a5 w5 hs5 S=>?_)
      simp only [Exit.then]
      obtain ⟨hz5,D,o10,o11,o12⟩:=kq3 hs5 hz4 D o10 o11 o12
      have S:=(((((((((S.pull 8 rfl).pull 8 rfl).pull 8 rfl).pull 8 rfl).pull 8 rfl).pull 6 rfl).pull 6 rfl).pull 7 rfl).pull 8 rfl)
      refine wp_seq (cb2_r5 w0 g10 g11 g12 x hx32 _ hz5 o10 o11 o12 S (fun a6 w5 hs6 S=>?_))
      obtain ⟨hz6,D,o10,o11,o12⟩:=kq3 hs6 hz5 D o10 o11 o12
      refine wp_ret ?_
      try simp only [Exit.inBlock,Exit.then]
      refine bodyPost_ret (res_c2 (by rfl) (o10.eval (by rw [hz6];decide)) (o11.eval (by rw [hz6];decide)) (S.ok (blkR g10 23 (hashA x)) (by simp)) (S.ok (blkR g11 23 (hashA x)) (by simp)) Tryz.underlying23 rfl (by rw [hashA_size,hx32];exact Tryz.infoHashP) Tryz.underlying23 rfl (by rw [hashA_size,hx32];exact Tryz.infoHashP)) D ⟨?_,?_⟩
      . rw [bothN_succ,if_pos rfl,if_neg (by decide),stepsN_succ,if_pos rfl,if_neg (by decide)]
        have e:(pf.take 1).headD []=x:=by cases pf with
         |nil=>simp at hx
         |cons y l=>cases hx;rfl
        rw [show List.length [(fr,fr+m)]=1 from rfl,e]
      . rw [stepsN_succ,if_pos rfl,if_neg (by decide)]
        exact S.drop.drop.drop
    . refine wcF o24 (wp_skip ?_)
      simp only [Exit.then]
      have S:=(((((((((S.pull 8 rfl).pull 8 rfl).pull 8 rfl).pull 8 rfl).pull 8 rfl).pull 8 rfl).pull 6 rfl).pull 7 rfl).pull 8 rfl)
      refine wp_seq (cb2_r5 w0 g10 g11 g12 first hf32 _ hz4 o10 o11 o12 S (fun a5 w5 hs5 S=>?_))
      obtain ⟨hz5,D,o0,o1,o2,o3,o4,o5,o6,o10,o11,o21,o12,o24⟩:=kq12 hs5 hz4 D o0 o1 o2 o3 o4 o5 o6 o10 o11 o21 o12 o24
      refine wp_ret ?_
      try simp only [Exit.inBlock,Exit.then]
      refine bodyPost_ret (res_c2 (by rfl) (o10.eval (by rw [hz5];decide)) (o11.eval (by rw [hz5];decide)) (S.ok (blkR g10 23 (hashA first)) (by simp)) (S.ok (blkR g11 23 (hashA first)) (by simp)) Tryz.underlying23 rfl (by rw [hashA_size,hf32];exact Tryz.infoHashP) Tryz.underlying23 rfl (by rw [hashA_size,hf32];exact Tryz.infoHashP)) D ⟨?_,?_⟩
      . rw [bothN_succ,if_pos rfl,if_pos rfl]
      . rw [stepsN_succ,if_pos rfl,if_pos rfl]
        exact S.drop.drop.drop
  . have hq:(((fr+m:Nat):Int) == ((fr+n:Nat):Int))=false:=by rw [beq_eq_false_iff_ne];omega
    refine wcF o21 (wp_skip ?_) (by rw [hq])
    simp only [Exit.then]
    obtain ⟨fu,rfl⟩:∃ fu',fu=fu'+1:=by
     cases fu with
     |zero=>simp at hf;omega
     |succ fu=>exact ⟨fu,rfl⟩
    have h2:2<=n:=by omega
    have hk1:=splF_pos h2
    have hk2:=splF_lt h2
    obtain ⟨d1,d2⟩:=Deep.next (f:=fu) hf h2
    refine wp_seq (cb2_r6 fr n (fr+n) (fr+splF n) (LH ⟨rfl,rfl,hn⟩) hz2 o0 o1 (fun a3 hs3 o13=>?_))
    obtain ⟨hz3,D,o0,o1,o2,o3,o4,o5,o6,o10,o11,o21⟩:=kq10 hs3 hz2 D o0 o1 o2 o3 o4 o5 o6 o10 o11 o21
    refine wp_seq (wp_seq (cb2_r7 g3 ((fr+m:Nat):Int) ((fr+splF n:Nat):Int) (S.at_ (l1:=[_,_,_,_])) hz3 o3 o13 (fun a4 hs4 o37=>?_)))
    obtain ⟨hz4,D,o0,o1,o2,o3,o4,o5,o6,o10,o11,o21,o13⟩:=kq11 hs4 hz3 D o0 o1 o2 o3 o4 o5 o6 o10 o11 o21 o13
    have S:=((((((((S.pull 1 rfl).pull 1 rfl).pull 7 rfl).pull 7 rfl).pull 7 rfl).pull 7 rfl).pull 7 rfl).pull 7 rfl)
    by_cases hk:m<=splF n
    . refine wcT o37 ?_ (by rw [decide_eq_true (by omega)])
      rw [stepsN_succ,if_neg he,if_pos hk,List.length_append] at hc
      have hc':(stepsN (fu+1) m fr (splF n) whole).length < pf.length:=hc
      obtain ⟨c',hc0⟩:∃ c',(stepsN (fu+1) m fr (splF n) whole).length=c':=⟨_,rfl⟩
      have HB:=cback_any w0 gn gp g3 g4 g5 g6 first hf32 A c pf hok hpl hv fu fr m (splF n) whole _ w1 h1 hk d1 (by omega) (by omega) S
      have hbo:=bothN_ok fu fr m (splF n) whole first (pf.take c') hf32 (hok.take c') (by rw [List.length_take,hc0];omega) h1 hk d1
      rw [hc0] at HB hc'
      obtain ⟨x,hx⟩:∃ x,pf[c']?=some x:=⟨_,List.getElem?_eq_getElem hc'⟩
      have hx32:=hok x (List.mem_of_getElem? hx)
      obtain ⟨e1,e2⟩:=take_last hx
      obtain ⟨BB,hBB⟩:∃ BB,bothN (fu+1) m (splF n) whole first (pf.take c')=BB:=⟨_,rfl⟩
      rw [hBB] at HB hbo
      refine wp_seq (cb2_r8 w0 g3 g4 g5 g6 fr ((fr+splF n:Nat):Int) whole BB.1 BB.2 hbo.1 hbo.2 _ (S.at_ (l1:=[_,_,_,_,_])) HB hz4 o0 o2 o6 o13 (fun a5 w5 hs5 h5=>?_))
      obtain ⟨hz5,D,o0,o1,o2,o3,o4,o5,o6,o10,o11,o21,o13,o37⟩:=kq12 hs5 hz4 D o0 o1 o2 o3 o4 o5 o6 o10 o11 o21 o13 o37
      obtain ⟨g14,g15,o14,o15,S⟩:=h5
      have S:=((((((((((S.pull 7 rfl).pull 6 rfl).pull 6 rfl).pull 6 rfl).pull 6 rfl).pull 7 rfl).pull 6 rfl).pull 7 rfl).pull 8 rfl).pull 9 rfl)
      refine wp_seq (cb2_r9 w0 g5 g10 g11 g14 g15 gn gp c' (.slice A pf.length c) x BB.1 BB.2 hx32 hbo.1 hbo.2 (fun V LL SV hg=>ctake_any w0 gn gp c' A c pf hok x hx (by omega) hv LL hg V SV) _ hz5 o5 o10 o11 o14 o15 S (fun a6 w6 hs6 S=>?_))
      obtain ⟨hz6,D,o10,o11,o5,o14,o15⟩:=kq5 hs6 hz5 D o10 o11 o5 o14 o15
      refine wp_ret ?_
      try simp only [Exit.inBlock,Exit.then]
      have S9:=S
      refine bodyPost_ret (res_c2 (by rfl) (o10.eval (by rw [hz6];decide)) (o11.eval (by rw [hz6];decide)) (S.ok (blkR g10 23 (hashA BB.1)) (by simp)) (S.ok (blkR g11 23 (hashA (nodeF BB.2 x))) (by simp)) Tryz.underlying23 rfl (by rw [hashA_size,hbo.1];exact Tryz.infoHashP) Tryz.underlying23 rfl (by rw [hashA_size,nodeF_length];exact Tryz.infoHashP)) D ⟨?_,?_⟩
      . rw [stepsN_succ,if_neg he,if_pos hk,List.length_append,hc0,bothN_succ,if_neg he,if_pos hk]
        rw [show c'+List.length [(_ ,_)]=c'+1 from rfl,e1,e2,hBB]
      . rw [stepsN_succ,if_neg he,if_pos hk,List.length_append,hc0]
        exact (((((((((((S.pull 9 rfl).pull 6 rfl).pull 9 rfl).pull 9 rfl).pull 9 rfl).pull 5 rfl).pull 9 rfl).pull 9 rfl).pull 9 rfl).pull 9 rfl)).drop.drop.drop.drop
    . refine wcF o37 (wp_skip ?_) (by rw [decide_eq_false (by omega)])
      simp only [Exit.then]
      rw [stepsN_succ,if_neg he,if_neg hk,List.length_append] at hc
      have hc':(stepsN (fu+1) (m - splF n) (fr+splF n) (n - splF n) false).length < pf.length:=hc
      obtain ⟨c',hc0⟩:∃ c',(stepsN (fu+1) (m - splF n) (fr+splF n) (n - splF n) false).length=c':=⟨_,rfl⟩
      have hm':fr+m=(fr+splF n)+(m - splF n):=by omega
      have hn':fr+n=(fr+splF n)+(n - splF n):=by omega
      have SB:=S.at_ (l1:=[_,_,_,_,_])
      rw [hm'] at S
      have HB:=cback_any w0 gn gp g3 g4 g5 g6 first hf32 A c pf hok hpl hv fu (fr+splF n) (m - splF n) (n - splF n) false _ w1 (by omega) (by omega) d2 (by omega) (by omega) S
      rw [<- hm',<- hn',hc0] at HB
      have hbo:=bothN_ok fu (fr+splF n) (m - splF n) (n - splF n) false first (pf.take c') hf32 (hok.take c') (by rw [List.length_take,hc0];omega) (by omega) (by omega) d2
      rw [hc0] at hc'
      obtain ⟨x,hx⟩:∃ x,pf[c']?=some x:=⟨_,List.getElem?_eq_getElem hc'⟩
      have hx32:=hok x (List.mem_of_getElem? hx)
      obtain ⟨e1,e2⟩:=take_last hx
      obtain ⟨BB,hBB⟩:∃ BB,bothN (fu+1) (m - splF n) (n - splF n) false first (pf.take c')=BB:=⟨_,rfl⟩
      rw [hBB] at HB hbo
      refine wp_seq (cb2_r10 w0 g3 g4 g5 g6 ((fr+splF n:Nat):Int) ((fr+n:Nat):Int) BB.1 BB.2 hbo.1 hbo.2 _ SB HB hz4 o1 o6 o13 (fun a5 w5 hs5 h5=>?_))
      obtain ⟨hz5,D,o0,o1,o2,o3,o4,o5,o6,o10,o11,o21,o13,o37⟩:=kq12 hs5 hz4 D o0 o1 o2 o3 o4 o5 o6 o10 o11 o21 o13 o37
      obtain ⟨g16,g17,o16,o17,S⟩:=h5
      have S:=((((((((((S.pull 9 rfl).pull 9 rfl).pull 9 rfl).pull 9 rfl).pull 9 rfl).pull 9 rfl).pull 9 rfl).pull 8 rfl).pull 8 rfl).pull 9 rfl)
      have HT:=ctake_any w0 gn gp c' A c pf hok x hx (by omega) hv _ (by simp) _ S
      refine wp_seq (cb2_r11 w0 gn gp g5 x hx32 (S.at_ (l1:=[_,_,_,_,_,_])) _ HT hz5 o5 (fun a6 w6 hs6 h6=>?_))
      obtain ⟨hz6,D,o10,o11,o5,o16,o17⟩:=kq5 hs6 hz5 D o10 o11 o5 o16 o17
      obtain ⟨g18,o18,S⟩:=h6
      have S:=(((((((((((S.pull 8 rfl).pull 8 rfl).pull 8 rfl).pull 8 rfl).pull 8 rfl).pull 6 rfl).pull 7 rfl).pull 8 rfl).pull 8 rfl).pull 9 rfl).pull 10 rfl)
      refine wp_seq (cb2_r12 w0 g10 g11 g16 g17 g18 x BB.1 BB.2 hx32 hbo.1 hbo.2 _ hz6 o10 o11 o16 o17 o18 S (fun a7 w7 hs7 S=>?_))
      obtain ⟨hz7,D,o10,o11,o16,o17,o18⟩:=kq5 hs7 hz6 D o10 o11 o16 o17 o18
      refine wp_ret ?_
      try simp only [Exit.inBlock,Exit.then]
      have S9:=S
      refine bodyPost_ret (res_c2 (by rfl) (o10.eval (by rw [hz7];decide)) (o11.eval (by rw [hz7];decide)) (S.ok (blkR g10 23 (hashA (nodeF x BB.1))) (by simp)) (S.ok (blkR g11 23 (hashA (nodeF x BB.2))) (by simp)) Tryz.underlying23 rfl (by rw [hashA_size,nodeF_length];exact Tryz.infoHashP) Tryz.underlying23 rfl (by rw [hashA_size,nodeF_length];exact Tryz.infoHashP)) D ⟨?_,?_⟩
      . rw [stepsN_succ,if_neg he,if_neg hk,List.length_append,hc0,bothN_succ,if_neg he,if_neg hk]
        rw [show c'+List.length [(_ ,_)]=c'+1 from rfl,e1,e2,hBB]
      . rw [stepsN_succ,if_neg he,if_neg hk,List.length_append,hc0]
        exact S.drop.drop.drop.drop.drop
end
section
variable {Q:Exit->Act->World->Prop} {a:Act} {w:World}
open Go.RowKit Go.Shelf
theorem cbo_r0(w0:World)(z:Int)(xa:Array Value)(A:Option Addr)(n c:Nat)(L:List Res)(S:Held w0 w L)(hsz:a.tmps.size=49)(o0:Sl a 0 (.int .i64 z))(o2:Sl a 2 (.agg xa))(o3:Sl a 3 (.slice A n c)):RG1 false 0 Tryz.f75 Q a w fun a' W q'=>Sl a' 10 (.int .i64 (0:Int))->(∃ g4 g6 g7 g8 g9,Sl a' 4 (Pq g4 0) ∧ Sl a' 6 (Pq g6 0) ∧ Sl a' 7 (Pq g7 0) ∧ Sl a' 8 (Pq g8 0) ∧ Sl a' 9 (Pq g9 0) ∧ Held w0 W (blkR g9 23 (hashA (List.replicate 32 0)) :: blkR g8 23 (hashA (List.replicate 32 0)) :: blkR g7 29 #[.slice A n c] :: blkR g6 23 xa :: blkR g4 2 #[.int .i64 z] :: L))->q':=by
 intro hend
 refine wp_region_lit ?_
 (conv=>arg 4;whnf)
 unfold Sl at o0 o2 o3
 have S1:=LH (((((S.newBlk 2 #[.int .i64 z]).newBlkN 23 xa (g:=w.heap.size+1) (by simp)).newBlkN 29 #[.slice A n c] (g:=w.heap.size+2) (by simp)).newBlkN 23 (hashA (List.replicate 32 0)) (g:=w.heap.size+3) (by simp)).newBlkN 23 (hashA (List.replicate 32 0)) (g:=w.heap.size+4) (by simp))
 go_wp2
 try simp only [Act.put]
 exact hend _ _ tS sP (⟨w.heap.size,w.heap.size+1,w.heap.size+2,w.heap.size+3,w.heap.size+4,sP0,sP0,sP0,sP0,sP0,S1.out⟩)
theorem cbo_r1N(z y:Int)(hz:z < 1)(gz:Nat)(hb:Blk w gz 2 #[.int .i64 z])(hsz:a.tmps.size=49)(o1:Sl a 1 (.int .i64 y))(o4:Sl a 4 (Pq gz 0)):RG1 false 1 Tryz.f75 Q a w fun a' W q'=>Kp [] w W->Sl a' 24 (.bool true)->q':=by
 intro hend
 have hap:=pa 1 Tryz.f75
 refine wp_region_invS (l:=(opsOf 1 Tryz.f75)) (fun i v W=>match i with|0=>v=.int .i64 z|1=>v=.bool true|2=>v=.bool true|6=>v=.bool true|_=>True) hap ?_ ?_ ?_
 . exact fun _ _ _ _ h _=>h
 . and_intros <;> try (intro vs A' W hA hW hd hu K hK;try (refine wpOp_free _ rfl rfl ?_;conv=>arg 2;whnf))
   . have c0:W.cell? ⟨gz,0,none⟩=some (.int .i64 z):=(hb.k0 hW).cell 0
     exact qa1 (eO 4 o4)
   . have e18:=vD 18 0;clear hA hd hu o1 o4;go_step
     exact hK _ _ kR (by first|rfl|(refine congrArg Value.bool ?_;simp;omega)|(refine congrArg Value.bool ?_;simp [hz];done))
   . exact qa1 (vD 19 1)
   . exact qS 2 false (vD 20 2)
   . exact qS 2 false (vD 20 2)
   . exact qS 2 false (vD 20 2)
   . exact qa2 (vD 20 2) (eU 23 5)
   . trivial
 . intro vs W hW hp
   rw [putAll_eq]
   exact hend _ W sQ hW (sW (hp 6 sB))
theorem cbo_r1Y(z y:Int)(hz:¬ z < 1)(gz:Nat)(hb:Blk w gz 2 #[.int .i64 z])(hsz:a.tmps.size=49)(o1:Sl a 1 (.int .i64 y))(o4:Sl a 4 (Pq gz 0)):RG1 false 1 Tryz.f75 Q a w fun a' W q'=>Kp [] w W->Sl a' 24 (.bool (decide (y < z)))->q':=by
 intro hend
 have hap:=pa 1 Tryz.f75
 refine wp_region_invS (l:=(opsOf 1 Tryz.f75)) (fun i v W=>match i with|0=>v=.int .i64 z|1=>v=.bool false|2=>v=.bool false|3=>v=.int .i64 z|4=>v=.int .i64 y|5=>v=.bool (decide (y < z))|6=>v=.bool (decide (y < z))|_=>True) hap ?_ ?_ ?_
 . exact fun _ _ _ _ h _=>h
 . and_intros <;> try (intro vs A' W hA hW hd hu K hK;try (refine wpOp_free _ rfl rfl ?_;conv=>arg 2;whnf))
   . have c0:W.cell? ⟨gz,0,none⟩=some (.int .i64 z):=(hb.k0 hW).cell 0
     exact qa1 (eO 4 o4)
   . have e18:=vD 18 0;clear hA hd hu o1 o4;go_step
     exact hK _ _ kR (by first|rfl|(refine congrArg Value.bool ?_;simp;omega)|(refine congrArg Value.bool ?_;simp [hz];done))
   . exact qa1 (vD 19 1)
   . refine qG 2 (vD 20 2) ?_;(conv=>arg 2;whnf)
     have c0:W.cell? ⟨gz,0,none⟩=some (.int .i64 z):=(hb.k0 hW).cell 0
     exact qa1 (eO 4 o4)
   . exact gq1 2 (vD 20 2) (eO 1 o1)
   . exact gq2 2 (vD 20 2) (vD 21 3) (vD 22 4)
   . exact qa2 (vD 20 2) (vD 23 5)
   . trivial
 . intro vs W hW hp
   rw [putAll_eq]
   exact hend _ W sQ hW (sW (hp 6 sB))
theorem cbo_r2(w0:World)(g8 g9:Nat)(L:List Res)(S:Held w0 w (blkR g8 23 (hashA (List.replicate 32 0)) :: blkR g9 23 (hashA (List.replicate 32 0)) :: L))(hsz:a.tmps.size=49)(o8:Sl a 8 (Pq g8 0))(o9:Sl a 9 (Pq g9 0)):RG1 false 2 Tryz.f75 Q a w fun a' W q'=>Sl a' 10 (.int .i64 (4:Int))->(Held w0 W (blkR g8 23 (hashA (List.replicate 32 0)) :: blkR g9 23 (hashA (List.replicate 32 0)) :: L))->q':=by
 intro hend
 refine wp_region_lit ?_
 (conv=>arg 4;whnf)
 unfold Sl at o8 o9
 have S:=LH S
 have HB0:=LH Tryz.built_hashZ
 have hcz:Hid ((hashA (List.replicate 32 0)).size=32):=LH rfl
 have Ocz:=LH (hashA_one (List.replicate 32 0))
 generalize (hashA (List.replicate 32 0))=cz at *
 go_wp2_with (first|(refine wpList_buildC rfl 23 _ rfl [] (by simp [Act.eval,Act.put]) _ HB0.out ?_)|(refine wpList_store_blk rfl 23 (.tmp 8) (.tmp 25) rfl g8 (aO o8) cz aE 23 _ (S.out.at_ (l1:=[])) (by rw [hcz.out];exact Tryz.infoHashP) (rfl) Ocz.out ?_;intro w7 b7 k7;have S7:=LH (Held.setBlk (l1:=[]) S.out b7 k7);clear b7 k7)|(refine wpList_store_blk rfl 23 (.tmp 9) (.tmp 26) rfl g9 (aO o9) cz aE 23 _ (S7.out.at_ (l1:=[_])) (by rw [hcz.out];exact Tryz.infoHashP) (rfl) Ocz.out ?_;intro w7 b7 k7;have S8:=LH (Held.setBlk (l1:=[_]) S7.out b7 k7);clear b7 k7))
 try simp only [Act.put]
 exact hend _ _ tS sP (S8.out)
theorem cbo_r5(w0:World)(g8 g9:Nat)(L:List Res)(S:Held w0 w (blkR g8 23 (hashA (List.replicate 32 0)) :: blkR g9 23 (hashA (List.replicate 32 0)) :: L))(hsz:a.tmps.size=49)(o8:Sl a 8 (Pq g8 0))(o9:Sl a 9 (Pq g9 0)):RG1 false 5 Tryz.f75 Q a w fun a' W q'=>Sl a' 10 (.int .i64 (220:Int))->(Held w0 W (blkR g8 23 (hashA (List.replicate 32 0)) :: blkR g9 23 (hashA (List.replicate 32 0)) :: L))->q':=by
 intro hend
 refine wp_region_lit ?_
 (conv=>arg 4;whnf)
 unfold Sl at o8 o9
 have S:=LH S
 have HB0:=LH Tryz.built_hashZ
 have hcz:Hid ((hashA (List.replicate 32 0)).size=32):=LH rfl
 have Ocz:=LH (hashA_one (List.replicate 32 0))
 generalize (hashA (List.replicate 32 0))=cz at *
 go_wp2_with (first|(refine wpList_buildC rfl 23 _ rfl [] (by simp [Act.eval,Act.put]) _ HB0.out ?_)|(refine wpList_store_blk rfl 23 (.tmp 8) (.tmp 37) rfl g8 (aO o8) cz aE 23 _ (S.out.at_ (l1:=[])) (by rw [hcz.out];exact Tryz.infoHashP) (rfl) Ocz.out ?_;intro w7 b7 k7;have S7:=LH (Held.setBlk (l1:=[]) S.out b7 k7);clear b7 k7)|(refine wpList_store_blk rfl 23 (.tmp 9) (.tmp 38) rfl g9 (aO o9) cz aE 23 _ (S7.out.at_ (l1:=[_])) (by rw [hcz.out];exact Tryz.infoHashP) (rfl) Ocz.out ?_;intro w7 b7 k7;have S8:=LH (Held.setBlk (l1:=[_]) S7.out b7 k7);clear b7 k7))
 try simp only [Act.put]
 exact hend _ _ tS sP (S8.out)
theorem cbo_r3(g4 q:Nat)(z y x:Int)(hb:Blk w g4 2 #[.int .i64 z])(HC0:Calls Tryz.prog 107 #[.int .i64 z,.int .i64 y] w fun e w'=>e=.returned (.tuple #[Nq q,.int .i64 x]) ∧ Kp [] w w')(hsz:a.tmps.size=49)(o1:Sl a 1 (.int .i64 y))(o4:Sl a 4 (Pq g4 0)):RG1 false 3 Tryz.f75 Q a w fun a' W q'=>Sl a' 11 (Nq q)->(Kp [] w W)->q':=by
 intro hend
 refine wp_region_lit ?_
 (conv=>arg 4;whnf)
 unfold Sl at o1 o4
 have HC:=LH HC0
 clear HC0
 have c0:w.cell? ⟨g4,0,none⟩=some (.int .i64 z):=hb.cell 0
 clear hb
 go_wp2_with fail
 refine HC.out.mono ?_
 rintro e w1 ⟨rfl,k1⟩
 have k1:=LH k1
 go_wp2_with fail
 try simp only [Act.put]
 exact hend _ _ tS sP (k1.out)
theorem cbo_r4(g7 q n c:Nat)(A:Option Addr)(hb:Blk w g7 29 #[.slice A n c])(hsz:a.tmps.size=49)(o7:Sl a 7 (Pq g7 0))(o11:Sl a 11 (Nq q)):RG0 4 Tryz.f75 Q a w fun a' q'=>Sl a' 36 (.bool ((q:Int) != (n:Int)))->q':=by
 have c0:w.cell? ⟨g7,0,none⟩=some (.slice A n c):=hb.cell 0
 exact rO
theorem cbo_r6(w0:World)(L:List Res)(S:Held w0 w L)(hsz:a.tmps.size=49):RG1 false 6 Tryz.f75 Q a w fun a' W q'=>(∃ g,Sl a' 13 (Pq g 0) ∧ Held w0 W (blkR g 3 #[Nq 0] :: L))->q':=by
 intro hend
 refine wp_region_lit ?_
 (conv=>arg 4;whnf)
 have S1:=LH (S.newBlk 3 #[Nq 0])
 go_wp2_with fail
 try simp only [Act.put]
 exact hend _ _ tS (⟨_,sP0,S1.out⟩)
theorem cbo_r7(w0:World)(gn gp:Nat)(L:List Res)(S:Held w0 w L)(hsz:a.tmps.size=49)(o7:Sl a 7 (Pq gp 0))(o13:Sl a 13 (Pq gn 0)):RG1 false 7 Tryz.f75 Q a w fun a' W q'=>(∃ g,Sl a' 14 (Pq g 0) ∧ Held w0 W (blkR g 131 #[.func (.func 108) #[] #[Pq gn 0,Pq gp 0]] :: L))->q':=by
 intro hend
 refine wp_region_lit ?_
 (conv=>arg 4;whnf)
 unfold Sl at o7 o13
 have S1:=LH (S.newBlk 131 #[.func (.func 108) #[] #[Pq gn 0,Pq gp 0]])
 go_wp2_with fail
 try simp only [Act.put]
 exact hend _ _ tS (⟨_,sP0,S1.out⟩)
theorem cbo_r8(w0:World)(L:List Res)(S:Held w0 w L)(hsz:a.tmps.size=49):RG1 false 8 Tryz.f75 Q a w fun a' W q'=>(∃ g,Sl a' 15 (Pq g 0) ∧ Held w0 W (blkR g 162 #[.nilFunc] :: L))->q':=by
 intro hend
 refine wp_region_lit ?_
 (conv=>arg 4;whnf)
 have S1:=LH (S.newBlk 162 #[.nilFunc])
 go_wp2
 try simp only [Act.put]
 exact hend _ _ tS (⟨w.heap.size,sP0,S1.out⟩)
theorem cbo_r9(w0:World)(g3 g4 g5 g6:Nat)(L:List Res)(S:Held w0 w (blkR g6 162 #[.nilFunc] :: L))(hsz:a.tmps.size=49)(o4:Sl a 4 (Pq g3 0))(o6:Sl a 6 (Pq g4 0))(o14:Sl a 14 (Pq g5 0))(o15:Sl a 15 (Pq g6 0)):RG1 false 9 Tryz.f75 Q a w fun a' W q'=>(Held w0 W (blkR g6 162 #[.func (.func 109) #[] #[Pq g3 0,Pq g4 0,Pq g5 0,Pq g6 0]] :: L))->q':=by
 intro hend
 refine wp_region_lit ?_
 (conv=>arg 4;whnf)
 unfold Sl at o4 o6 o14 o15
 have S:=LH S
 obtain ⟨c1,c2,c3⟩:=Blk.c1 (S.out.at_ (l1:=[]))
 have S1:=LH (S.out.set (l1:=[]) 0 (.func (.func 109) #[] #[Pq g3 0,Pq g4 0,Pq g5 0,Pq g6 0]))
 go_wp2_with fail
 try simp only [Act.put]
 exact hend _ _ tS (S1.out)
theorem cbo_r10(w0:World)(g3 g4 g5 g6:Nat)(zb:Int)(hb:Blk w g6 162 #[.func (.func 109) #[] #[Pq g3 0,Pq g4 0,Pq g5 0,Pq g6 0]])(x y:Bs)(hx32:x.length=32)(hy32:y.length=32)(L:List Res)(HC0:Calls Tryz.prog 109 #[.int .i64 0,.int .i64 zb,.bool true,Pq g3 0,Pq g4 0,Pq g5 0,Pq g6 0] w fun e w'=>e=.returned (.tuple #[.agg (hashA x),.agg (hashA y)]) ∧ Held w0 w' L)(hsz:a.tmps.size=49)(o1:Sl a 1 (.int .i64 zb))(o15:Sl a 15 (Pq g6 0)):RG1 false 10 Tryz.f75 Q a w fun a' W q'=>(∃ g7 g8,Sl a' 16 (Pq g7 0) ∧ Sl a' 17 (Pq g8 0) ∧ Held w0 W (blkR g8 23 (hashA y) :: blkR g7 23 (hashA x) :: L))->q':=by
 intro hend
 refine wp_region_lit ?_
 (conv=>arg 4;whnf)
 unfold Sl at o1 o15
 have hca:Hid ((hashA (x)).size=32):=LH (by rw [hashA_size,hx32])
 have Oca:=LH (hashA_one (x))
 obtain ⟨ca,Eca⟩:∃ cs,Hid (hashA (x)=cs):=⟨_,LH rfl⟩
 rw [Eca.out] at hca Oca
 have hcb:Hid ((hashA (y)).size=32):=LH (by rw [hashA_size,hy32])
 have Ocb:=LH (hashA_one (y))
 obtain ⟨cb,Ecb⟩:∃ cs,Hid (hashA (y)=cs):=⟨_,LH rfl⟩
 rw [Ecb.out] at hcb Ocb
 rw [Eca.out,Ecb.out] at HC0
 have HC:=LH HC0
 clear HC0
 have c0:w.cell? ⟨g6,0,none⟩=some (.func (.func 109) #[] #[Pq g3 0,Pq g4 0,Pq g5 0,Pq g6 0]):=hb.cell 0
 clear hb
 go_wp2_with fail
 refine HC.out.mono ?_
 rintro e w1 ⟨rfl,S1⟩
 have S2:=LH ((S1.newBlk 23 (hashA (List.replicate 32 0))).newBlkN 23 (hashA (List.replicate 32 0)) (g:=w1.heap.size+1) (by simp))
 clear S1
 go_wp2_with (first|(refine wpList_store_blk rfl 23 (.tmp 16) (.tmp 45) rfl w1.heap.size aE ca aE 23 _ (S2.out.at_ (l1:=[_])) (by rw [hca.out];exact Tryz.infoHashP) (by rw [hca.out];rfl) Oca.out ?_;intro w7 b7 k7;have S7:=LH (Held.setBlk (l1:=[_]) S2.out b7 k7);clear b7 k7)|(refine wpList_store_blk rfl 23 (.tmp 17) (.tmp 46) rfl (w1.heap.size+1) aE cb aE 23 _ (S7.out.at_ (l1:=[])) (by rw [hcb.out];exact Tryz.infoHashP) (by rw [hcb.out];rfl) Ocb.out ?_;intro w7 b7 k7;have S8:=LH (Held.setBlk (l1:=[]) S7.out b7 k7);clear b7 k7))
 rw [<- Eca.out,<- Ecb.out] at S8
 try simp only [Act.put]
 exact hend _ _ tS (⟨_,_,sP0,sP0,S8.out⟩)
theorem cbo_r11(w0:World)(g8 g9 g16 g17:Nat)(x y:Bs)(hx32:x.length=32)(hy32:y.length=32)(L:List Res)(hsz:a.tmps.size=49)(o8:Sl a 8 (Pq g8 0))(o9:Sl a 9 (Pq g9 0))(o16:Sl a 16 (Pq g16 0))(o17:Sl a 17 (Pq g17 0))
 (S0:Held w0 w (blkR g8 23 (hashA (List.replicate 32 0)) :: blkR g9 23 (hashA (List.replicate 32 0)) :: blkR g16 23 (hashA x) :: blkR g17 23 (hashA y) :: L)):RG1 true 11 Tryz.f75 Q a w fun a' W q'=>Sl a' 10 (.int .i64 (0:Int))->Held w0 W (blkR g8 23 (hashA x) :: blkR g9 23 (hashA y) :: blkR g16 23 (hashA x) :: blkR g17 23 (hashA y) :: L)->q':=by
 intro hend
 have hap:=pa 11 Tryz.f75
 refine wp_region_sep (Γ:=Unit) (l:=(opsOf 11 Tryz.f75)) 5 [0,1,2,3,4,7,8,9]
  (fun i vs gs=>match i with|0=>vs 0=.agg (hashA x)|1=>vs 1=.agg (hashA y)|4=>vs 4=.int .i64 (0:Int)|_=>True)
  (fun i vs gs=>match i with|2=>[blkR g8 23 (hashA x)]|3=>[blkR g9 23 (hashA y)]|5=>[blkR g8 23 (hashA (List.replicate 32 0))]|6=>[blkR g9 23 (hashA (List.replicate 32 0))]|7=>[blkR g16 23 (hashA x)]|8=>[blkR g17 23 (hashA y)]|9=>L|_=>[])
  (fun i=>match i with|2=>[5]|3=>[6]|_=>[]) (fun i=>match i with|0=>[7]|1=>[8]|_=>[]) S0 (by kernel_rfl) hap (by kernel_rfl) (by kernel_rfl) (fun i=>match i with|0=>[0]|1=>[1]|4=>[4]|_=>[]) (by kernel_rfl) ?_ (by kernel_rfl) ?_ ?_ ?_
 . exact lA
 . exact pA
 . clear S0 hend
   and_intros <;> try intro vs gs A' W LF hA S hR hd hu K hK
   . exact ldA (hashA x) (eO 16 o16) (Blk.agg (show Blk W g16 23 (hashA x) from S.ok (blkR g16 23 (hashA x)) (hR 7 (by simp) _ (List.mem_singleton.2 rfl)))) Tryz.underlying23 (by rw [hashA_size,hx32];exact Tryz.infoHashP)
   . exact ldA (hashA y) (eO 17 o17) (Blk.agg (show Blk W g17 23 (hashA y) from S.ok (blkR g17 23 (hashA y)) (hR 8 (by simp) _ (List.mem_singleton.2 rfl)))) Tryz.underlying23 (by rw [hashA_size,hy32];exact Tryz.infoHashP)
   . replace hK:=hK default;have e8:=eO 8 o8;have e47:=vD 47 0;clear hA o8 o9 o16 o17
     have S1:Held w0 W (blkR g8 23 (hashA (List.replicate 32 0)) :: LF):=S
     refine op_store_blkS (.tmp 8) (.tmp 47) 23 rfl g8 (by simpa [Act.eval] using e8) (hashA (x)) (by simpa [Act.eval] using e47) 23 (hashA (List.replicate 32 0)) S1 (by rw [hashA_size,hx32];exact Tryz.infoHashP) (by rw [hashA_size,hashA_size,hx32,List.length_replicate]) (hashA_one _) ?_
     intro w' S2
     exact hK _ _ S2 trivial
   . replace hK:=hK default;have e9:=eO 9 o9;have e48:=vD 48 1;clear hA o8 o9 o16 o17
     have S1:Held w0 W (blkR g9 23 (hashA (List.replicate 32 0)) :: LF):=S
     refine op_store_blkS (.tmp 9) (.tmp 48) 23 rfl g9 (by simpa [Act.eval] using e9) (hashA (y)) (by simpa [Act.eval] using e48) 23 (hashA (List.replicate 32 0)) S1 (by rw [hashA_size,hy32];exact Tryz.infoHashP) (by rw [hashA_size,hashA_size,hy32,List.length_replicate]) (hashA_one _) ?_
     intro w' S2
     exact hK _ _ S2 trivial
   . exact qa0
   . trivial
 . intro vs gs W S hp
   have S:Held w0 W (blkR g8 23 (hashA x) :: blkR g9 23 (hashA y) :: blkR g16 23 (hashA x) :: blkR g17 23 (hashA y) :: L):=by simpa only [List.flatMap_cons,List.flatMap_nil,List.append_nil,List.nil_append,List.cons_append,List.append_assoc] using S
   rw [putAll_eq]
   exact hend _ W sQ (sW (hp 4 sB)) S
end
section
open Go.RowKit Go.Shelf
theorem res_c2t{P:Program}{fn:Func}{w:World}{tmps:Array Value}{a b t t2 g g2 u:Nat}{x:Value}{t' t2':TypeId}{cs cs2:Array Value}{d d2:TypeDesc}(h:fn.results=#[.cell a t,.cell b t2,.tmp u])(hx:tmps.getD u undef=x)(ha:tmps.getD a undef=Pq g 0)(hb:tmps.getD b undef=Pq g2 0)(h1:Blk w g t' cs)(h2:Blk w g2 t2' cs2)
 (hu:P.underlying t=some d) (hd:aggB d=true) (hi:(P.info? t).map (·.size)=some cs.size) (hu2:P.underlying t2=some d2) (hd2:aggB d2=true) (hi2:(P.info? t2).map (·.size)=some cs2.size):(results fn tmps).run P w=.ok (.tuple #[.agg cs,.agg cs2,x]) w:=by
 have hl:(loadCells ⟨g,0,none⟩ cs.size).run P w=.ok cs w:=by
  have:=run_loadCells_list (P:=P) w ⟨g,0,none⟩ cs.toList h1.agg
  simpa using this
 have hl2:(loadCells ⟨g2,0,none⟩ cs2.size).run P w=.ok cs2 w:=by
  have:=run_loadCells_list (P:=P) w ⟨g2,0,none⟩ cs2.toList h2.agg
  simpa using this
 cases hq:P.info? t with
 |none=>simp [hq] at hi
 |some i=>
  cases hq2:P.info? t2 with
  |none=>simp [hq2] at hi2
  |some i2=>
   have hs:i.size=cs.size:=by simpa [hq] using hi
   have hs2:i2.size=cs2.size:=by simpa [hq2] using hi2
   simp only [Array.getD_eq_getD_getElem?] at ha hb hx
   simp [results,h,ha,hb,hx,loadVar,asAddr,Sem.run_bind,run_isAgg hu hd,run_isAgg hu2 hd2,sizeOf,typeInfo,hq,hq2,hs,hs2,hl,hl2]
def boC (m n:Int) (k:Nat):Nat:=if m < 1 ∨ n < m then 4 else if (stF m n).length ≠ k then 220 else 0
def boV (m n:Int) (first:Bs) (pf:List (List UInt8)):List UInt8 × List UInt8:=if boC m n pf.length=0 then bothF m.toNat n.toNat first pf else (List.replicate 32 0,List.replicate 32 0)
theorem boC_4{m n:Int}{k:Nat}(h:m < 1 ∨ n < m):boC m n k=4:=if_pos h
theorem boC_220{m n:Int}{k:Nat}(h:¬ (m < 1 ∨ n < m))(h2:(stF m n).length ≠ k):boC m n k=220:=by unfold boC;rw [if_neg h,if_pos h2]
theorem boC_0{m n:Int}{k:Nat}(h:¬ (m < 1 ∨ n < m))(h2:(stF m n).length=k):boC m n k=0:=by unfold boC;rw [if_neg h,if_neg (by omega)]
theorem boV_no{m n:Int}{first:List UInt8}{pf:List (List UInt8)}(h:boC m n pf.length ≠ 0):boV m n first pf=(List.replicate 32 0,List.replicate 32 0):=if_neg h
theorem boV_yes{m n:Int}{first:List UInt8}{pf:List (List UInt8)}(h:boC m n pf.length=0):boV m n first pf=bothF m.toNat n.toNat first pf:=if_pos h
theorem cboth_any(m n:Int)(hn:n < 9223372036854775808)(first:Bs)(hf32:first.length=32)(A:Option Addr)(c:Nat)(pf:List (List UInt8))(hok:HsOk pf)(w:World)(hv:Rd w 32 (.slice A pf.length c) pf.length (hsC pf)):
 Calls Tryz.prog 75 #[.int .i64 m,.int .i64 n,.agg (hashA first),.slice A pf.length c] w fun e w'=>e=.returned (.tuple #[.agg (hashA (boV m n first pf).1),.agg (hashA (boV m n first pf).2),Nq (boC m n pf.length)]) ∧ Kp [] w w':=by
 refine calls_fr Tryz.func75 rfl 49 rfl (fun a0 hsz hdf hAr=>?_)
 have hz0:a0.tmps.size=49:=hsz
 have D:=hdf
 have o0:=hAr 0 _ rfl
 have o1:=hAr 1 _ rfl
 have o2:=hAr 2 _ rfl
 have o3:=hAr 3 _ rfl
 have hfail:∀ (a:Act) (W:World) (g8 g9 E:Nat) (L:List Res),a.tmps.size=49->a.defers=[]->Sl a 8 (Pq g8 0)->Sl a 9 (Pq g9 0)->Sl a 10 (.int .i64 (E:Int))->Held w W (blkR g8 23 (hashA (List.replicate 32 0)) :: blkR g9 23 (hashA (List.replicate 32 0)) :: L)->boC m n pf.length=E->E ≠ 0->bodyPost Tryz.prog Tryz.f75 (fun e w'=>e=.returned (.tuple #[.agg (hashA (boV m n first pf).1),.agg (hashA (boV m n first pf).2),Nq (boC m n pf.length)]) ∧ Kp [] w w') .ret a W:=by
  intro a W g8 g9 E L hs hd o8 o9 o10 S hE h0
  rw [boV_no (by rw [hE];exact h0),hE]
  exact bodyPost_ret (res_c2t (by rfl) (o10.eval (by rw [hs];decide)) (o8.eval (by rw [hs];decide)) (o9.eval (by rw [hs];decide)) (S.at_ (l1:=[])) (S.at_ (l1:=[_])) Tryz.underlying23 rfl (by exact Tryz.infoHashP) Tryz.underlying23 rfl (by exact Tryz.infoHashP)) hd ⟨rfl,S.k⟩
 refine wp_seq (cbo_r0 w m _ A pf.length c [] (Held.start w) hz0 o0 o2 o3 (fun a1 w1 hs1 o10 h1=>?_))
 obtain ⟨hz1,D,o0,o1,o2,o3⟩:=kq4 hs1 hz0 D o0 o1 o2 o3
 obtain ⟨g4,g6,g7,g8,g9,o4,o6,o7,o8,o9,S⟩:=h1
 by_cases hm:m < 1
 . skip
   refine wp_seq (wp_seq (cbo_r1N m n hm g4 (S.at_ (l1:=[_,_,_,_])) hz1 o1 o4 (fun a2 w2 hs2 k2 o24=>?_)))
   obtain ⟨hz2,D,o1,o4,o6,o7,o8,o9⟩:=kq6 hs2 hz1 D o1 o4 o6 o7 o8 o9
   refine wcT o24 ?_
   have S:=((((((S.kp k2).pull 4 rfl).pull 4 rfl).pull 4 rfl).pull 3 rfl).pull 4 rfl)
   refine wp_seq (cbo_r2 w g8 g9 _ S hz2 o8 o9 (fun a3 w9 hs3 o10 S=>?_))
   obtain ⟨hz3,D,o1,o4,o6,o7,o8,o9,o24⟩:=kq7 hs3 hz2 D o1 o4 o6 o7 o8 o9 o24
   refine wp_ret ?_
   try simp only [Exit.then]
   exact hfail a3 w9 g8 g9 4 _ hz3 D o8 o9 o10 S (boC_4 (.inl hm)) (by decide)
 . skip
   refine wp_seq (wp_seq (cbo_r1Y m n hm g4 (S.at_ (l1:=[_,_,_,_])) hz1 o1 o4 (fun a2 w2 hs2 k2 o24=>?_)))
   obtain ⟨hz2,D,o1,o4,o6,o7,o8,o9⟩:=kq6 hs2 hz1 D o1 o4 o6 o7 o8 o9
   have S:=S.kp k2
   by_cases hmn:n < m
   . refine wcT o24 ?_ (by rw [decide_eq_true hmn])
     have S:=(((((S.pull 4 rfl).pull 4 rfl).pull 4 rfl).pull 3 rfl).pull 4 rfl)
     refine wp_seq (cbo_r2 w g8 g9 _ S hz2 o8 o9 (fun a3 w9 hs3 o10 S=>?_))
     obtain ⟨hz3,D,o1,o4,o6,o7,o8,o9,o24⟩:=kq7 hs3 hz2 D o1 o4 o6 o7 o8 o9 o24
     refine wp_ret ?_
     try simp only [Exit.then]
     exact hfail a3 w9 g8 g9 4 _ hz3 D o8 o9 o10 S (boC_4 (.inr hmn)) (by decide)
   . refine wcF o24 (wp_skip ?_) (by rw [decide_eq_false hmn])
     simp only [Exit.then]
     have hno:¬ (m < 1 ∨ n < m):=by omega
     refine wp_seq (wp_seq (cbo_r3 g4 _ m n _ (S.at_ (l1:=[_,_,_,_])) (csize_any m n hn w2) hz2 o1 o4 (fun a3 w3 hs3 o11 k3=>?_)))
     obtain ⟨hz3,D,o1,o4,o6,o7,o8,o9,o24⟩:=kq7 hs3 hz2 D o1 o4 o6 o7 o8 o9 o24
     have S:=S.kp k3
     refine wp_seq (cbo_r4 g7 _ pf.length c A (S.at_ (l1:=[_,_])) hz3 o7 o11 (fun a4 hs4 o36=>?_))
     obtain ⟨hz4,D,o1,o4,o6,o7,o8,o9,o24,o11⟩:=kq8 hs4 hz3 D o1 o4 o6 o7 o8 o9 o24 o11
     by_cases hq:(stF m n).length=pf.length
     . have hqb:((((stF m n).length:Nat):Int) != ((pf.length:Nat):Int))=false:=by rw [hq];simp
       refine wcF o36 (wp_skip ?_) (by rw [hqb])
       simp only [Exit.then]
       have hC:=boC_0 hno hq
       obtain ⟨mN,rfl⟩:=Int.eq_ofNat_of_zero_le (show 0<=m by omega)
       obtain ⟨nN,rfl⟩:=Int.eq_ofNat_of_zero_le (show 0<=n by omega)
       rw [stF_yes (by omega) (by omega)] at hq
       have hpl:pf.length<=65:=by rw [<- hq];exact stepsN_length 65 mN 0 nN true
       have hcle:(stepsN (64+1) mN 0 nN true).length<=pf.length:=Nat.le_of_eq hq
       have hbo:=bothN_ok 64 0 mN nN true first pf hf32 hok hq.symm (by omega) (by omega) (by omega)
       have hV:boV (mN:Int) (nN:Int) first pf=bothN 65 mN nN true first pf:=by rw [boV_yes hC];unfold bothF;simp
       refine wp_seq (cbo_r6 w _ S hz4 (fun a5 w5 hs5 h5=>?_))
       obtain ⟨hz5,D,o1,o4,o6,o7,o8,o9,o24,o11,o36⟩:=kq9 hs5 hz4 D o1 o4 o6 o7 o8 o9 o24 o11 o36
       obtain ⟨g13,o13,S⟩:=h5
       refine wp_seq (cbo_r7 w g13 g7 _ S hz5 o7 o13 (fun a6 w6 hs6 h6=>?_))
       obtain ⟨hz6,D,o1,o4,o6,o7,o8,o9,o13⟩:=kq7 hs6 hz5 D o1 o4 o6 o7 o8 o9 o13
       obtain ⟨g14,o14,S⟩:=h6
       refine wp_seq (cbo_r8 w _ S hz6 (fun a7 w7 hs7 h7=>?_))
       obtain ⟨hz7,D,o1,o4,o6,o7,o8,o9,o13,o14⟩:=kq8 hs7 hz6 D o1 o4 o6 o7 o8 o9 o13 o14
       obtain ⟨g15,o15,S⟩:=h7
       refine wp_seq (cbo_r9 w g4 g6 g14 g15 _ S hz7 o4 o6 o14 o15 (fun a8 w8 hs8 S=>?_))
       obtain ⟨hz8,D,o1,o4,o6,o7,o8,o9,o13,o14,o15⟩:=kq9 hs8 hz7 D o1 o4 o6 o7 o8 o9 o13 o14 o15
       have S:=((((((((S.pull 3 rfl).pull 4 rfl).pull 2 rfl).pull 3 rfl).pull 6 rfl).pull 7 rfl).pull 7 rfl).pull 7 rfl)
       have S:Held w w8 (blkR g13 3 #[Nq 0] :: blkR g7 29 #[.slice A pf.length c] :: blkR g4 2 #[Nq (0+mN)] :: blkR g6 23 (hashA first) :: blkR g14 131 #[.func (.func 108) #[] #[Pq g13 0,Pq g7 0]] :: blkR g15 162 #[.func (.func 109) #[] #[Pq g4 0,Pq g6 0,Pq g14 0,Pq g15 0]] :: [blkR g8 23 (hashA (List.replicate 32 0)),blkR g9 23 (hashA (List.replicate 32 0))]):=by
        rw [Nat.zero_add]
        exact S
       have HB:=cback_any w g13 g7 g4 g6 g14 g15 first hf32 A c pf hok (by omega) (fun V kV=>rd_old hv kV) 64 0 mN nN true _ w8 (by omega) (by omega) (by omega) (by omega) hcle S
       rw [List.take_of_length_le (l:=pf) (Nat.le_of_eq hq.symm),Nat.zero_add nN] at HB
       refine wp_seq (cbo_r10 w g4 g6 g14 g15 (nN:Int) (S.at_ (l1:=[_,_,_,_,_])) _ _ hbo.1 hbo.2 _ HB hz8 o1 o15 (fun a9 w9 hs9 h9=>?_))
       obtain ⟨hz9,D,o1,o4,o6,o7,o8,o9,o13,o14,o15⟩:=kq9 hs9 hz8 D o1 o4 o6 o7 o8 o9 o13 o14 o15
       obtain ⟨ga,gb,o16,o17,S⟩:=h9
       have S:=((((S.pull 0 rfl).pull 1 rfl).pull 9 rfl).pull 9 rfl)
       refine wp_seq (cbo_r11 w g8 g9 ga gb _ _ hbo.1 hbo.2 _ hz9 o8 o9 o16 o17 S (fun a10 w10 hs10 o10 S=>?_))
       obtain ⟨hz10,D,o8,o9,o16,o17⟩:=kq4 hs10 hz9 D o8 o9 o16 o17
       refine wp_ret ?_
       try simp only [Exit.then]
       rw [hV,hC]
       exact bodyPost_ret (res_c2t (by rfl) (o10.eval (by rw [hz10];decide)) (o8.eval (by rw [hz10];decide)) (o9.eval (by rw [hz10];decide)) (S.at_ (l1:=[])) (S.at_ (l1:=[_])) Tryz.underlying23 rfl (by rw [hashA_size,hbo.1];exact Tryz.infoHashP) Tryz.underlying23 rfl (by rw [hashA_size,hbo.2];exact Tryz.infoHashP)) D ⟨rfl,S.k⟩
     . have hqb:((((stF m n).length:Nat):Int) != ((pf.length:Nat):Int))=true:=by simp;omega
       refine wcT o36 ?_ (by rw [hqb])
       have S:=(((((S.pull 4 rfl).pull 4 rfl).pull 4 rfl).pull 3 rfl).pull 4 rfl)
       refine wp_seq (cbo_r5 w g8 g9 _ S hz4 o8 o9 (fun a5 w9 hs5 o10 S=>?_))
       obtain ⟨hz5,D,o1,o4,o6,o7,o8,o9,o24,o11,o36⟩:=kq9 hs5 hz4 D o1 o4 o6 o7 o8 o9 o24 o11 o36
       refine wp_ret ?_
       try simp only [Exit.then]
       exact hfail a5 w9 g8 g9 220 _ hz5 D o8 o9 o10 S (boC_220 hno hq) (by decide)
end
section
variable {Q:Exit->Act->World->Prop} {a:Act} {w:World}
open Go.RowKit Go.Shelf
theorem boV_len(m n:Int)(first:Bs)(pf:List (List UInt8))(hf:first.length=32)(hok:HsOk pf)(hn:n < 9223372036854775808):(boV m n first pf).1.length=32 ∧ (boV m n first pf).2.length=32:=by
 by_cases h:boC m n pf.length=0
 . rw [boV_yes h]
   unfold boC at h
   by_cases h1:m < 1 ∨ n < m
   . rw [if_pos h1] at h;cases h
   . rw [if_neg h1] at h
     by_cases h2:(stF m n).length ≠ pf.length
     . rw [if_pos h2] at h;cases h
     . obtain ⟨mN,rfl⟩:=Int.eq_ofNat_of_zero_le (show 0<=m by omega)
       obtain ⟨nN,rfl⟩:=Int.eq_ofNat_of_zero_le (show 0<=n by omega)
       have h3:(stF (mN:Int) (nN:Int)).length=pf.length:=by simpa using h2
       unfold bothF
       simp only [Int.toNat_natCast]
       by_cases hb:nN<=2 ^ 64
       . rw [stF_yes (by omega) (by omega)] at h3
         exact bothN_ok 64 0 mN nN true first pf hf hok h3.symm (by omega) (by omega) hb
       . exact absurd hn (by omega)
 . rw [boV_no h]
   exact ⟨List.length_replicate,List.length_replicate⟩
section
variable {m n:Int} {first second:List UInt8} {pf:List (List UInt8)}
theorem consF_4(h:m < 0 ∨ n < m):consF m n first second pf=4:=by unfold consF;rw [if_pos h]
theorem consF_0A(hno:¬ ((0:Int) < 0 ∨ n < 0))(h:(first == emptyF)=false ∨ pf.length ≠ 0 ∨ (n=0 ∧ (second == first)=false)):consF 0 n first second pf=220:=by
 unfold consF
 rw [if_neg hno,if_pos rfl,if_pos]
 rcases h with h|h|⟨h1,h2⟩
 . exact .inl (beq_eq_false_iff_ne.1 h)
 . exact .inr (.inl h)
 . exact .inr (.inr ⟨h1,beq_eq_false_iff_ne.1 h2⟩)
theorem consF_0B(hno:¬ ((0:Int) < 0 ∨ n < 0))(hf:(first == emptyF)=true)(hl:pf.length=0)(h:¬ n=0 ∨ (second == first)=true):consF 0 n first second pf=0:=by
 unfold consF
 rw [if_neg hno,if_pos rfl,if_neg]
 rintro (h1|h1|⟨h1,h2⟩)
 . exact h1 (eq_of_beq hf)
 . exact h1 hl
 . rcases h with h|h
   . exact h h1
   . exact h2 (eq_of_beq h)
theorem consF_1(hno:¬ (m < 0 ∨ n < m))(h0:¬ m=0):consF m n first second pf=if (stepsF m.toNat n.toNat).length ≠ pf.length then 220 else if (bothF m.toNat n.toNat first pf).1 ≠ first ∨ (bothF m.toNat n.toNat first pf).2 ≠ second then 220 else 0:=by
 unfold consF
 rw [if_neg hno,if_neg h0]
theorem stF_st(hno:¬ (m < 0 ∨ n < m))(h0:¬ m=0):stF m n=stepsF m.toNat n.toNat:=by unfold stF;rw [if_neg (by omega)]
theorem boC_zero(hno:¬ (m < 0 ∨ n < m))(h0:¬ m=0):boC m n pf.length=0 ↔ (stepsF m.toNat n.toNat).length=pf.length:=by
 unfold boC
 rw [if_neg (by omega),stF_st hno h0]
 by_cases h:(stepsF m.toNat n.toNat).length=pf.length
 . rw [if_neg (by omega)];simp [h]
 . rw [if_pos h];simp [h]
theorem consF_E(hno:¬ (m < 0 ∨ n < m))(h0:¬ m=0)(hb:¬ boC m n pf.length=0):consF m n first second pf=220:=by
 rw [consF_1 hno h0,if_pos (fun e=>hb ((boC_zero hno h0).2 e))]
theorem consF_F(hno:¬ (m < 0 ∨ n < m))(h0:¬ m=0)(hb:boC m n pf.length=0)(hx:((boV m n first pf).1 == first)=false):consF m n first second pf=220:=by
 rw [boV_yes hb] at hx
 rw [consF_1 hno h0,if_neg (by rw [(boC_zero hno h0).1 hb];simp),if_pos (.inl (beq_eq_false_iff_ne.1 hx))]
theorem consF_G(hno:¬ (m < 0 ∨ n < m))(h0:¬ m=0)(hb:boC m n pf.length=0)(_hx:((boV m n first pf).1 == first)=true)(hy:((boV m n first pf).2 == second)=false):consF m n first second pf=220:=by
 rw [boV_yes hb] at hy
 rw [consF_1 hno h0,if_neg (by rw [(boC_zero hno h0).1 hb];simp),if_pos (.inr (beq_eq_false_iff_ne.1 hy))]
theorem consF_H(hno:¬ (m < 0 ∨ n < m))(h0:¬ m=0)(hb:boC m n pf.length=0)(hx:((boV m n first pf).1 == first)=true)(hy:((boV m n first pf).2 == second)=true):consF m n first second pf=0:=by
 rw [boV_yes hb] at hx hy
 rw [consF_1 hno h0,if_neg (by rw [(boC_zero hno h0).1 hb];simp),if_neg]
 rintro (h|h)
 . exact h (eq_of_beq hx)
 . exact h (eq_of_beq hy)
end
theorem cck_r0(w0:World)(xa xb:Array Value)(L:List Res)(S:Held w0 w L)(hsz:a.tmps.size=61)(o2:Sl a 2 (.agg xa))(o3:Sl a 3 (.agg xb)):RG1 false 0 Tryz.f33 Q a w fun a' W q'=>Sl a' 10 (.int .i64 (0:Int))->(∃ g7 g8,Sl a' 7 (Pq g7 0) ∧ Sl a' 8 (Pq g8 0) ∧ Held w0 W (blkR g8 23 xb :: blkR g7 23 xa :: L))->q':=by
 intro hend
 refine wp_region_lit ?_
 (conv=>arg 4;whnf)
 unfold Sl at o2 o3
 have S1:=LH ((S.newBlk 23 xa).newBlkN 23 xb (g:=w.heap.size+1) (by simp))
 go_wp2
 try simp only [Act.put]
 exact hend _ _ tS sP (⟨w.heap.size,w.heap.size+1,sP0,sP0,S1.out⟩)
theorem cck_r1N(z y:Int)(hz:z < 0)(hsz:a.tmps.size=61)(o0:Sl a 0 (.int .i64 z))(o1:Sl a 1 (.int .i64 y)):RG1 false 1 Tryz.f33 Q a w fun a' W q'=>Kp [] w W->Sl a' 20 (.bool true)->q':=by
 intro hend
 have hap:=pa 1 Tryz.f33
 refine wp_region_invS (l:=(opsOf 1 Tryz.f33)) (fun i v W=>match i with|0=>v=.int .i64 z|1=>v=.bool true|2=>v=.bool true|6=>v=.bool true|_=>True) hap ?_ ?_ ?_
 . exact fun _ _ _ _ h _=>h
 . and_intros <;> try (intro vs A' W hA hW hd hu K hK;try (refine wpOp_free _ rfl rfl ?_;conv=>arg 2;whnf))
   . exact qa1 (eO 0 o0)
   . have e14:=vD 14 0;clear hA hd hu o0 o1;go_step
     exact hK _ _ kR (by first|rfl|(refine congrArg Value.bool ?_;simp;omega)|(refine congrArg Value.bool ?_;simp [hz];done))
   . exact qa1 (vD 15 1)
   . exact qS 2 false (vD 16 2)
   . exact qS 2 false (vD 16 2)
   . exact qS 2 false (vD 16 2)
   . exact qa2 (vD 16 2) (eU 19 5)
   . trivial
 . intro vs W hW hp
   rw [putAll_eq]
   exact hend _ W sQ hW (sW (hp 6 sB))
theorem cck_r1Y(z y:Int)(hz:¬ z < 0)(hsz:a.tmps.size=61)(o0:Sl a 0 (.int .i64 z))(o1:Sl a 1 (.int .i64 y)):RG1 false 1 Tryz.f33 Q a w fun a' W q'=>Kp [] w W->Sl a' 20 (.bool (decide (y < z)))->q':=by
 intro hend
 have hap:=pa 1 Tryz.f33
 refine wp_region_invS (l:=(opsOf 1 Tryz.f33)) (fun i v W=>match i with|0=>v=.int .i64 z|1=>v=.bool false|2=>v=.bool false|3=>v=.int .i64 z|4=>v=.int .i64 y|5=>v=.bool (decide (y < z))|6=>v=.bool (decide (y < z))|_=>True) hap ?_ ?_ ?_
 . exact fun _ _ _ _ h _=>h
 . and_intros <;> try (intro vs A' W hA hW hd hu K hK;try (refine wpOp_free _ rfl rfl ?_;conv=>arg 2;whnf))
   . exact qa1 (eO 0 o0)
   . have e14:=vD 14 0;clear hA hd hu o0 o1;go_step
     exact hK _ _ kR (by first|rfl|(refine congrArg Value.bool ?_;simp;omega)|(refine congrArg Value.bool ?_;simp [hz];done))
   . exact qa1 (vD 15 1)
   . exact gq1 2 (vD 16 2) (eO 0 o0)
   . exact gq1 2 (vD 16 2) (eO 1 o1)
   . exact gq2 2 (vD 16 2) (vD 17 3) (vD 18 4)
   . exact qa2 (vD 16 2) (vD 19 5)
   . trivial
 . intro vs W hW hp
   rw [putAll_eq]
   exact hend _ W sQ hW (sW (hp 6 sB))
theorem cck_r2(hsz:a.tmps.size=61):RG0 2 Tryz.f33 Q a w fun a' q'=>Sl a' 10 (.int .i64 (4:Int))->q':=rO
theorem cck_r5(hsz:a.tmps.size=61):RG0 5 Tryz.f33 Q a w fun a' q'=>Sl a' 10 (.int .i64 (220:Int))->q':=rO
theorem cck_r6(hsz:a.tmps.size=61):RG0 6 Tryz.f33 Q a w fun a' q'=>Sl a' 10 (.int .i64 (0:Int))->q':=rO
theorem cck_r9(hsz:a.tmps.size=61):RG0 9 Tryz.f33 Q a w fun a' q'=>Sl a' 10 (.int .i64 (220:Int))->q':=rO
theorem cck_r10(hsz:a.tmps.size=61):RG0 10 Tryz.f33 Q a w fun a' q'=>Sl a' 10 (.int .i64 (0:Int))->q':=rO
theorem cck_r3(z:Int)(hsz:a.tmps.size=61)(o0:Sl a 0 (.int .i64 z)):RG0 3 Tryz.f33 Q a w fun a' q'=>Sl a' 22 (.bool (z == 0))->q':=rO
theorem cck_r4A(g7 g8:Nat)(f s:Bs)(hf:f.length=32)(hs:s.length=32)(hb7:Blk w g7 23 (hashA f))(hb8:Blk w g8 23 (hashA s))(A:Option Addr)(n c:Nat)(y:Int)(hfe:(f == emptyF)=false)(hsz:a.tmps.size=61)(o1:Sl a 1 (.int .i64 y))(o4:Sl a 4 (.slice A n c))(o7:Sl a 7 (Pq g7 0))(o8:Sl a 8 (Pq g8 0)):RG1 true 4 Tryz.f33 Q a w fun a' W q'=>Kp [] w.drew W->Sl a' 39 (.bool true)->q':=by
 intro hend
 have hap:=pa 4 Tryz.f33
 refine wp_region_invG (l:=(opsOf 4 Tryz.f33)) (fun i v W=>match i with|0=>v=.agg (hashA f)|1=>v=.agg (hashA emptyF)|2=>v=.bool true|3=>v=.bool true|7=>v=.bool true|8=>v=.bool true|11=>v=undef|16=>v=.bool true|_=>True) (by kernel_rfl) hap (by kernel_rfl) ?_ ?_ ?_
 . exact fun _ _ _ _ h _=>h
 . and_intros <;> try (intro vs A' W hA hW hd K hK;try (refine wpOp_free _ rfl rfl ?_;conv=>arg 2;whnf))
   . exact ldA (hashA f) (eO 7 o7) (Blk.agg (hb7.drew.kp hW (by simp))) Tryz.underlying23 (by rw [hashA_size,hf];exact Tryz.infoHashP)
   . clear hA hd o1 o4 o7 o8;go_step
     refine (hempty_any W).mono ?_
     rintro e w' ⟨rfl,k⟩
     exact hK _ _ k rfl
   . have e23:=vD 23 0;have e24:=vD 24 1;clear hA hd o1 o4 o7 o8;refine op_runs (v:=.bool true) (w':=W) (exec_bin_agg rfl (by simpa [Act.eval] using e23) (by simpa [Act.eval] using e24) Tryz.eqGuardType23 ((neq_hash W f emptyF hf emptyF_length).trans (by rw [hfe];rfl))) ?_
     exact hK _ _ kR rfl
   . exact qa1 (vD 25 2)
   . exact qS 3 false (vD 26 3)
   . exact qS 3 false (vD 26 3)
   . exact qS 3 false (vD 26 3)
   . exact qa2 (vD 26 3) (eU 29 6)
   . exact qa1 (vD 30 7)
   . exact qS 8 false (vD 31 8)
   . exact qS 8 false (vD 31 8)
   . exact qS 8 false (vD 31 8)
   . exact qT 11 true (vD 34 11)
   . exact qT 11 true (vD 34 11)
   . exact qT 11 true (vD 34 11)
   . exact qS 8 false (vD 31 8)
   . exact qa2 (vD 31 8) (eU 38 15)
   . trivial
 . intro vs W hW hp
   rw [putAll_eq]
   exact hend _ W sQ hW (sW (hp 16 sB))
theorem cck_r4B(g7 g8:Nat)(f s:Bs)(hf:f.length=32)(hs:s.length=32)(hb7:Blk w g7 23 (hashA f))(hb8:Blk w g8 23 (hashA s))(A:Option Addr)(n c:Nat)(y:Int)(hfe:(f == emptyF)=true)(hn:Hid (n ≠ 0))(hsz:a.tmps.size=61)(o1:Sl a 1 (.int .i64 y))(o4:Sl a 4 (.slice A n c))(o7:Sl a 7 (Pq g7 0))(o8:Sl a 8 (Pq g8 0)):RG1 true 4 Tryz.f33 Q a w fun a' W q'=>Kp [] w.drew W->Sl a' 39 (.bool true)->q':=by
 intro hend
 have hap:=pa 4 Tryz.f33
 refine wp_region_invG (l:=(opsOf 4 Tryz.f33)) (fun i v W=>match i with|0=>v=.agg (hashA f)|1=>v=.agg (hashA emptyF)|2=>v=.bool false|3=>v=.bool false|4=>v=.slice A n c|5=>v=Nq n|6=>v=.bool true|7=>v=.bool true|8=>v=.bool true|11=>v=undef|16=>v=.bool true|_=>True) (by kernel_rfl) hap (by kernel_rfl) ?_ ?_ ?_
 . exact fun _ _ _ _ h _=>h
 . and_intros <;> try (intro vs A' W hA hW hd K hK;try (refine wpOp_free _ rfl rfl ?_;conv=>arg 2;whnf))
   . exact ldA (hashA f) (eO 7 o7) (Blk.agg (hb7.drew.kp hW (by simp))) Tryz.underlying23 (by rw [hashA_size,hf];exact Tryz.infoHashP)
   . clear hA hd o1 o4 o7 o8;go_step
     refine (hempty_any W).mono ?_
     rintro e w' ⟨rfl,k⟩
     exact hK _ _ k rfl
   . have e23:=vD 23 0;have e24:=vD 24 1;clear hA hd o1 o4 o7 o8;refine op_runs (v:=.bool false) (w':=W) (exec_bin_agg rfl (by simpa [Act.eval] using e23) (by simpa [Act.eval] using e24) Tryz.eqGuardType23 ((neq_hash W f emptyF hf emptyF_length).trans (by rw [hfe];rfl))) ?_
     exact hK _ _ kR rfl
   . exact qa1 (vD 25 2)
   . exact gq1 3 (vD 26 3) (eO 4 o4)
   . exact gq1 3 (vD 26 3) (vD 27 4)
   . refine qG 3 (vD 26 3) ?_;(conv=>arg 2;whnf)
     have hn0:¬ (n:Int)=0:=by have:=hn.out;omega
     have hn1:0 < (n:Int):=by have:=hn.out;omega
     exact qa1 (vD 28 5)
   . exact qa2 (vD 26 3) (vD 29 6)
   . exact qa1 (vD 30 7)
   . exact qS 8 false (vD 31 8)
   . exact qS 8 false (vD 31 8)
   . exact qS 8 false (vD 31 8)
   . exact qT 11 true (vD 34 11)
   . exact qT 11 true (vD 34 11)
   . exact qT 11 true (vD 34 11)
   . exact qS 8 false (vD 31 8)
   . exact qa2 (vD 31 8) (eU 38 15)
   . trivial
 . intro vs W hW hp
   rw [putAll_eq]
   exact hend _ W sQ hW (sW (hp 16 sB))
theorem cck_r4C(g7 g8:Nat)(f s:Bs)(hf:f.length=32)(hs:s.length=32)(hb7:Blk w g7 23 (hashA f))(hb8:Blk w g8 23 (hashA s))(A:Option Addr)(n c:Nat)(y:Int)(hfe:(f == emptyF)=true)(hn:Hid (n=0))(hy:Hid (¬ y=0))(hsz:a.tmps.size=61)(o1:Sl a 1 (.int .i64 y))(o4:Sl a 4 (.slice A n c))(o7:Sl a 7 (Pq g7 0))(o8:Sl a 8 (Pq g8 0)):RG1 true 4 Tryz.f33 Q a w fun a' W q'=>Kp [] w.drew W->Sl a' 39 (.bool false)->q':=by
 intro hend
 have hap:=pa 4 Tryz.f33
 refine wp_region_invG (l:=(opsOf 4 Tryz.f33)) (fun i v W=>match i with|0=>v=.agg (hashA f)|1=>v=.agg (hashA emptyF)|2=>v=.bool false|3=>v=.bool false|4=>v=.slice A n c|5=>v=Nq n|6=>v=.bool false|7=>v=.bool false|8=>v=.bool false|9=>v=.int .i64 y|10=>v=.bool false|11=>v=.bool false|15=>v=.bool false|16=>v=.bool false|_=>True) (by kernel_rfl) hap (by kernel_rfl) ?_ ?_ ?_
 . exact fun _ _ _ _ h _=>h
 . and_intros <;> try (intro vs A' W hA hW hd K hK;try (refine wpOp_free _ rfl rfl ?_;conv=>arg 2;whnf))
   . exact ldA (hashA f) (eO 7 o7) (Blk.agg (hb7.drew.kp hW (by simp))) Tryz.underlying23 (by rw [hashA_size,hf];exact Tryz.infoHashP)
   . clear hA hd o1 o4 o7 o8;go_step
     refine (hempty_any W).mono ?_
     rintro e w' ⟨rfl,k⟩
     exact hK _ _ k rfl
   . have e23:=vD 23 0;have e24:=vD 24 1;clear hA hd o1 o4 o7 o8;refine op_runs (v:=.bool false) (w':=W) (exec_bin_agg rfl (by simpa [Act.eval] using e23) (by simpa [Act.eval] using e24) Tryz.eqGuardType23 ((neq_hash W f emptyF hf emptyF_length).trans (by rw [hfe];rfl))) ?_
     exact hK _ _ kR rfl
   . exact qa1 (vD 25 2)
   . exact gq1 3 (vD 26 3) (eO 4 o4)
   . exact gq1 3 (vD 26 3) (vD 27 4)
   . refine qG 3 (vD 26 3) ?_;(conv=>arg 2;whnf)
     have hn0:(n:Int)=0:=by have:=hn.out;omega
     have hn1:¬ 0 < (n:Int):=by have:=hn.out;omega
     exact qa1 (vD 28 5)
   . exact qa2 (vD 26 3) (vD 29 6)
   . exact qa1 (vD 30 7)
   . exact gq1 8 (vD 31 8) (eO 1 o1)
   . refine qG 8 (vD 31 8) ?_;(conv=>arg 2;whnf)
     have hyy:¬ y=0:=hy.out
     exact qa1 (vD 32 9)
   . exact gq1 8 (vD 31 8) (vD 33 10)
   . exact qS 11 true (vD 34 11)
   . exact qS 11 true (vD 34 11)
   . exact qS 11 true (vD 34 11)
   . exact gq2 8 (vD 31 8) (vD 34 11) (eU 37 14)
   . exact qa2 (vD 31 8) (vD 38 15)
   . trivial
 . intro vs W hW hp
   rw [putAll_eq]
   exact hend _ W sQ hW (sW (hp 16 sB))
theorem cck_r4D(g7 g8:Nat)(f s:Bs)(hf:f.length=32)(hs:s.length=32)(hb7:Blk w g7 23 (hashA f))(hb8:Blk w g8 23 (hashA s))(A:Option Addr)(n c:Nat)(y:Int)(hfe:(f == emptyF)=true)(hn:Hid (n=0))(hy:Hid (y=0))(hsz:a.tmps.size=61)(o1:Sl a 1 (.int .i64 y))(o4:Sl a 4 (.slice A n c))(o7:Sl a 7 (Pq g7 0))(o8:Sl a 8 (Pq g8 0)):RG1 true 4 Tryz.f33 Q a w fun a' W q'=>Kp [] w.drew W->Sl a' 39 (.bool (!(s == f)))->q':=by
 intro hend
 have hap:=pa 4 Tryz.f33
 refine wp_region_invG (l:=(opsOf 4 Tryz.f33)) (fun i v W=>match i with|0=>v=.agg (hashA f)|1=>v=.agg (hashA emptyF)|2=>v=.bool false|3=>v=.bool false|4=>v=.slice A n c|5=>v=Nq n|6=>v=.bool false|7=>v=.bool false|8=>v=.bool false|9=>v=.int .i64 y|10=>v=.bool true|11=>v=.bool true|12=>v=.agg (hashA s)|13=>v=.agg (hashA f)|14=>v=.bool (!(s == f))|15=>v=.bool (!(s == f))|16=>v=.bool (!(s == f))|_=>True) (by kernel_rfl) hap (by kernel_rfl) ?_ ?_ ?_
 . exact fun _ _ _ _ h _=>h
 . and_intros <;> try (intro vs A' W hA hW hd K hK;try (refine wpOp_free _ rfl rfl ?_;conv=>arg 2;whnf))
   . exact ldA (hashA f) (eO 7 o7) (Blk.agg (hb7.drew.kp hW (by simp))) Tryz.underlying23 (by rw [hashA_size,hf];exact Tryz.infoHashP)
   . clear hA hd o1 o4 o7 o8;go_step
     refine (hempty_any W).mono ?_
     rintro e w' ⟨rfl,k⟩
     exact hK _ _ k rfl
   . have e23:=vD 23 0;have e24:=vD 24 1;clear hA hd o1 o4 o7 o8;refine op_runs (v:=.bool false) (w':=W) (exec_bin_agg rfl (by simpa [Act.eval] using e23) (by simpa [Act.eval] using e24) Tryz.eqGuardType23 ((neq_hash W f emptyF hf emptyF_length).trans (by rw [hfe];rfl))) ?_
     exact hK _ _ kR rfl
   . exact qa1 (vD 25 2)
   . exact gq1 3 (vD 26 3) (eO 4 o4)
   . exact gq1 3 (vD 26 3) (vD 27 4)
   . refine qG 3 (vD 26 3) ?_;(conv=>arg 2;whnf)
     have hn0:(n:Int)=0:=by have:=hn.out;omega
     have hn1:¬ 0 < (n:Int):=by have:=hn.out;omega
     exact qa1 (vD 28 5)
   . exact qa2 (vD 26 3) (vD 29 6)
   . exact qa1 (vD 30 7)
   . exact gq1 8 (vD 31 8) (eO 1 o1)
   . refine qG 8 (vD 31 8) ?_;(conv=>arg 2;whnf)
     have hyy:y=0:=hy.out
     exact qa1 (vD 32 9)
   . exact gq1 8 (vD 31 8) (vD 33 10)
   . refine qG 11 (vD 34 11) ?_;(conv=>arg 2;whnf);exact ldA (hashA s) (eO 8 o8) (Blk.agg (hb8.drew.kp hW (by simp))) Tryz.underlying23 (by rw [hashA_size,hs];exact Tryz.infoHashP)
   . refine qG 11 (vD 34 11) ?_;(conv=>arg 2;whnf);exact ldA (hashA f) (eO 7 o7) (Blk.agg (hb7.drew.kp hW (by simp))) Tryz.underlying23 (by rw [hashA_size,hf];exact Tryz.infoHashP)
   . refine qG 11 (vD 34 11) ?_;(conv=>arg 2;whnf);have e35:=vD 35 12;have e36:=vD 36 13;clear hA hd o1 o4 o7 o8;refine op_runs (v:=.bool (!(s == f))) (w':=W) (exec_bin_agg rfl (by simpa [Act.eval] using e35) (by simpa [Act.eval] using e36) Tryz.eqGuardType23 ((neq_hash W s f hs hf))) ?_
     exact hK _ _ kR rfl
   . exact gq2 8 (vD 31 8) (vD 34 11) (vD 37 14)
   . exact qa2 (vD 31 8) (vD 38 15)
   . trivial
 . intro vs W hW hp
   rw [putAll_eq]
   exact hend _ W sQ hW (sW (hp 16 sB))
theorem cck_r7(w0:World)(g7:Nat)(z y2 xe:Int)(f:Bs)(hf32:f.length=32)(sl:Value)(hb:Blk w g7 23 (hashA f))(x y:Bs)(hx32:x.length=32)(hy32:y.length=32)(L:List Res)(HC0:Calls Tryz.prog 75 #[.int .i64 z,.int .i64 y2,.agg (hashA f),sl] w fun e w'=>e=.returned (.tuple #[.agg (hashA x),.agg (hashA y),.int .i64 xe]) ∧ Held w0 w' L)(hsz:a.tmps.size=61)(o0:Sl a 0 (.int .i64 z))(o1:Sl a 1 (.int .i64 y2))(o4:Sl a 4 (sl))(o7:Sl a 7 (Pq g7 0)):RG1 false 7 Tryz.f33 Q a w fun a' W q'=>Sl a' 13 (.int .i64 xe)->(∃ g9 g10,Sl a' 11 (Pq g9 0) ∧ Sl a' 12 (Pq g10 0) ∧ Held w0 W (blkR g10 23 (hashA y) :: blkR g9 23 (hashA x) :: L))->q':=by
 intro hend
 refine wp_region_lit ?_
 (conv=>arg 4;whnf)
 unfold Sl at o0 o1 o4 o7
 have hca:Hid ((hashA (x)).size=32):=LH (by rw [hashA_size,hx32])
 have Oca:=LH (hashA_one (x))
 obtain ⟨ca,Eca⟩:∃ cs,Hid (hashA (x)=cs):=⟨_,LH rfl⟩
 rw [Eca.out] at hca Oca
 have hcb:Hid ((hashA (y)).size=32):=LH (by rw [hashA_size,hy32])
 have Ocb:=LH (hashA_one (y))
 obtain ⟨cb,Ecb⟩:∃ cs,Hid (hashA (y)=cs):=⟨_,LH rfl⟩
 rw [Ecb.out] at hcb Ocb
 have hcf:Hid ((hashA (f)).size=32):=LH (by rw [hashA_size,hf32])
 have Ocf:=LH (hashA_one (f))
 obtain ⟨cf,Ecf⟩:∃ cs,Hid (hashA (f)=cs):=⟨_,LH rfl⟩
 rw [Ecf.out] at hcf Ocf
 rw [Eca.out,Ecb.out,Ecf.out] at HC0
 rw [Ecf.out] at hb
 have HC:=LH HC0
 clear HC0
 have HB:=LH hb
 clear hb
 go_wp2_with (refine wpList_load_blk rfl 23 (.tmp 7) rfl g7 (aO o7) 23 _ HB.out _ Tryz.underlying23 rfl (by rw [hcf.out];exact Tryz.infoHashP) ?_)
 refine HC.out.mono ?_
 rintro e w1 ⟨rfl,S1⟩
 have S2:=LH ((S1.newBlk 23 (hashA (List.replicate 32 0))).newBlkN 23 (hashA (List.replicate 32 0)) (g:=w1.heap.size+1) (by simp))
 clear S1
 go_wp2_with (first|(refine wpList_store_blk rfl 23 (.tmp 11) (.tmp 46) rfl w1.heap.size aE ca aE 23 _ (S2.out.at_ (l1:=[_])) (by rw [hca.out];exact Tryz.infoHashP) (by rw [hca.out];rfl) Oca.out ?_;intro w7 b7 k7;have S7:=LH (Held.setBlk (l1:=[_]) S2.out b7 k7);clear b7 k7)|(refine wpList_store_blk rfl 23 (.tmp 12) (.tmp 47) rfl (w1.heap.size+1) aE cb aE 23 _ (S7.out.at_ (l1:=[])) (by rw [hcb.out];exact Tryz.infoHashP) (by rw [hcb.out];rfl) Ocb.out ?_;intro w7 b7 k7;have S8:=LH (Held.setBlk (l1:=[]) S7.out b7 k7);clear b7 k7))
 rw [<- Eca.out,<- Ecb.out] at S8
 try simp only [Act.put]
 exact hend _ _ tS sP (⟨_,_,sP0,sP0,S8.out⟩)
theorem cck_r8E(g7 g8 g11 g12:Nat)(xe:Int)(f s x y:Bs)(hf:f.length=32)(hs:s.length=32)(hx:x.length=32)(hy:y.length=32)(hb7:Blk w g7 23 (hashA f))(hb8:Blk w g8 23 (hashA s))(hb11:Blk w g11 23 (hashA x))(hb12:Blk w g12 23 (hashA y))(he:Hid (¬ xe=0))(hsz:a.tmps.size=61)(o7:Sl a 7 (Pq g7 0))(o8:Sl a 8 (Pq g8 0))(o11:Sl a 11 (Pq g11 0))(o12:Sl a 12 (Pq g12 0))(o13:Sl a 13 (.int .i64 xe)):RG1 false 8 Tryz.f33 Q a w fun a' W q'=>Kp [] w W->Sl a' 60 (.bool true)->q':=by
 intro hend
 have hap:=pa 8 Tryz.f33
 refine wp_region_invS (l:=(opsOf 8 Tryz.f33)) (fun i v W=>match i with|0=>v=.int .i64 xe|1=>v=.bool true|2=>v=.bool true|6=>v=.bool true|7=>v=.bool true|11=>v=.bool true|_=>True) hap ?_ ?_ ?_
 . exact fun _ _ _ _ h _=>h
 . and_intros <;> try (intro vs A' W hA hW hd hu K hK;try (refine wpOp_free _ rfl rfl ?_;conv=>arg 2;whnf))
   . exact qa1 (eO 13 o13)
   . have hxx:¬ xe=0:=he.out
     exact qa1 (vD 49 0)
   . exact qa1 (vD 50 1)
   . exact qS 2 false (vD 51 2)
   . exact qS 2 false (vD 51 2)
   . exact qS 2 false (vD 51 2)
   . exact qa2 (vD 51 2) (eU 54 5)
   . exact qa1 (vD 55 6)
   . exact qS 7 false (vD 56 7)
   . exact qS 7 false (vD 56 7)
   . exact qS 7 false (vD 56 7)
   . exact qa2 (vD 56 7) (eU 59 10)
   . trivial
 . intro vs W hW hp
   rw [putAll_eq]
   exact hend _ W sQ hW (sW (hp 11 sB))
theorem cck_r8F(g7 g8 g11 g12:Nat)(xe:Int)(f s x y:Bs)(hf:f.length=32)(hs:s.length=32)(hx:x.length=32)(hy:y.length=32)(hb7:Blk w g7 23 (hashA f))(hb8:Blk w g8 23 (hashA s))(hb11:Blk w g11 23 (hashA x))(hb12:Blk w g12 23 (hashA y))(he:Hid (xe=0))(hxf:(x == f)=false)(hsz:a.tmps.size=61)(o7:Sl a 7 (Pq g7 0))(o8:Sl a 8 (Pq g8 0))(o11:Sl a 11 (Pq g11 0))(o12:Sl a 12 (Pq g12 0))(o13:Sl a 13 (.int .i64 xe)):RG1 false 8 Tryz.f33 Q a w fun a' W q'=>Kp [] w W->Sl a' 60 (.bool true)->q':=by
 intro hend
 have hap:=pa 8 Tryz.f33
 refine wp_region_invS (l:=(opsOf 8 Tryz.f33)) (fun i v W=>match i with|0=>v=.int .i64 xe|1=>v=.bool false|2=>v=.bool false|3=>v=.agg (hashA x)|4=>v=.agg (hashA f)|5=>v=.bool true|6=>v=.bool true|7=>v=.bool true|11=>v=.bool true|_=>True) hap ?_ ?_ ?_
 . exact fun _ _ _ _ h _=>h
 . and_intros <;> try (intro vs A' W hA hW hd hu K hK;try (refine wpOp_free _ rfl rfl ?_;conv=>arg 2;whnf))
   . exact qa1 (eO 13 o13)
   . have hxx:xe=0:=he.out
     exact qa1 (vD 49 0)
   . exact qa1 (vD 50 1)
   . refine qG 2 (vD 51 2) ?_;(conv=>arg 2;whnf);exact ldA (hashA x) (eO 11 o11) (Blk.agg (hb11.k0 hW)) Tryz.underlying23 (by rw [hashA_size,hx];exact Tryz.infoHashP)
   . refine qG 2 (vD 51 2) ?_;(conv=>arg 2;whnf);exact ldA (hashA f) (eO 7 o7) (Blk.agg (hb7.k0 hW)) Tryz.underlying23 (by rw [hashA_size,hf];exact Tryz.infoHashP)
   . refine qG 2 (vD 51 2) ?_;(conv=>arg 2;whnf);have e52:=vD 52 3;have e53:=vD 53 4;clear hA hd hu o7 o8 o11 o12 o13;refine op_runs (v:=.bool true) (w':=W) (exec_bin_agg rfl (by simpa [Act.eval] using e52) (by simpa [Act.eval] using e53) Tryz.eqGuardType23 ((neq_hash W x f hx hf).trans (by rw [hxf];rfl))) ?_
     exact hK _ _ kR rfl
   . exact qa2 (vD 51 2) (vD 54 5)
   . exact qa1 (vD 55 6)
   . exact qS 7 false (vD 56 7)
   . exact qS 7 false (vD 56 7)
   . exact qS 7 false (vD 56 7)
   . exact qa2 (vD 56 7) (eU 59 10)
   . trivial
 . intro vs W hW hp
   rw [putAll_eq]
   exact hend _ W sQ hW (sW (hp 11 sB))
theorem cck_r8G(g7 g8 g11 g12:Nat)(xe:Int)(f s x y:Bs)(hf:f.length=32)(hs:s.length=32)(hx:x.length=32)(hy:y.length=32)(hb7:Blk w g7 23 (hashA f))(hb8:Blk w g8 23 (hashA s))(hb11:Blk w g11 23 (hashA x))(hb12:Blk w g12 23 (hashA y))(he:Hid (xe=0))(hxf:(x == f)=true)(hsz:a.tmps.size=61)(o7:Sl a 7 (Pq g7 0))(o8:Sl a 8 (Pq g8 0))(o11:Sl a 11 (Pq g11 0))(o12:Sl a 12 (Pq g12 0))(o13:Sl a 13 (.int .i64 xe)):RG1 false 8 Tryz.f33 Q a w fun a' W q'=>Kp [] w W->Sl a' 60 (.bool (!(y == s)))->q':=by
 intro hend
 have hap:=pa 8 Tryz.f33
 refine wp_region_invS (l:=(opsOf 8 Tryz.f33)) (fun i v W=>match i with|0=>v=.int .i64 xe|1=>v=.bool false|2=>v=.bool false|3=>v=.agg (hashA x)|4=>v=.agg (hashA f)|5=>v=.bool false|6=>v=.bool false|7=>v=.bool false|8=>v=.agg (hashA y)|9=>v=.agg (hashA s)|10=>v=.bool (!(y == s))|11=>v=.bool (!(y == s))|_=>True) hap ?_ ?_ ?_
 . exact fun _ _ _ _ h _=>h
 . and_intros <;> try (intro vs A' W hA hW hd hu K hK;try (refine wpOp_free _ rfl rfl ?_;conv=>arg 2;whnf))
   . exact qa1 (eO 13 o13)
   . have hxx:xe=0:=he.out
     exact qa1 (vD 49 0)
   . exact qa1 (vD 50 1)
   . refine qG 2 (vD 51 2) ?_;(conv=>arg 2;whnf);exact ldA (hashA x) (eO 11 o11) (Blk.agg (hb11.k0 hW)) Tryz.underlying23 (by rw [hashA_size,hx];exact Tryz.infoHashP)
   . refine qG 2 (vD 51 2) ?_;(conv=>arg 2;whnf);exact ldA (hashA f) (eO 7 o7) (Blk.agg (hb7.k0 hW)) Tryz.underlying23 (by rw [hashA_size,hf];exact Tryz.infoHashP)
   . refine qG 2 (vD 51 2) ?_;(conv=>arg 2;whnf);have e52:=vD 52 3;have e53:=vD 53 4;clear hA hd hu o7 o8 o11 o12 o13;refine op_runs (v:=.bool false) (w':=W) (exec_bin_agg rfl (by simpa [Act.eval] using e52) (by simpa [Act.eval] using e53) Tryz.eqGuardType23 ((neq_hash W x f hx hf).trans (by rw [hxf];rfl))) ?_
     exact hK _ _ kR rfl
   . exact qa2 (vD 51 2) (vD 54 5)
   . exact qa1 (vD 55 6)
   . refine qG 7 (vD 56 7) ?_;(conv=>arg 2;whnf);exact ldA (hashA y) (eO 12 o12) (Blk.agg (hb12.k0 hW)) Tryz.underlying23 (by rw [hashA_size,hy];exact Tryz.infoHashP)
   . refine qG 7 (vD 56 7) ?_;(conv=>arg 2;whnf);exact ldA (hashA s) (eO 8 o8) (Blk.agg (hb8.k0 hW)) Tryz.underlying23 (by rw [hashA_size,hs];exact Tryz.infoHashP)
   . refine qG 7 (vD 56 7) ?_;(conv=>arg 2;whnf);have e57:=vD 57 8;have e58:=vD 58 9;clear hA hd hu o7 o8 o11 o12 o13;refine op_runs (v:=.bool (!(y == s))) (w':=W) (exec_bin_agg rfl (by simpa [Act.eval] using e57) (by simpa [Act.eval] using e58) Tryz.eqGuardType23 ((neq_hash W y s hy hs))) ?_
     exact hK _ _ kR rfl
   . exact qa2 (vD 56 7) (vD 59 10)
   . trivial
 . intro vs W hW hp
   rw [putAll_eq]
   exact hend _ W sQ hW (sW (hp 11 sB))
theorem ccheck_any(m n:Int)(hn:n < 9223372036854775808)(first second:Bs)(hf:first.length=32)(hs:second.length=32)(A:Option Addr)(c:Nat)(pf:List (List UInt8))(hok:HsOk pf)(w:World)(hv:Rd w 32 (.slice A pf.length c) pf.length (hsC pf)):
 Calls Tryz.prog 33 #[.int .i64 m,.int .i64 n,.agg (hashA first),.agg (hashA second),.slice A pf.length c] w fun e w'=>e=.returned (Nq (consF m n first second pf)) ∧ Kp [] w w':=by
 refine calls_fr Tryz.func33 rfl 61 rfl (fun a0 hsz hdf hAr=>?_)
 have hz0:a0.tmps.size=61:=hsz
 have D:=hdf
 have o0:=hAr 0 _ rfl
 have o1:=hAr 1 _ rfl
 have o2:=hAr 2 _ rfl
 have o3:=hAr 3 _ rfl
 have o4:=hAr 4 _ rfl
 refine wp_seq (cck_r0 w _ _ [] (Held.start w) hz0 o2 o3 (fun a1 w1 hs1 o10 h1=>?_))
 obtain ⟨hz1,D,o0,o1,o2,o3,o4⟩:=kq5 hs1 hz0 D o0 o1 o2 o3 o4
 obtain ⟨g7,g8,o7,o8,S⟩:=h1
 by_cases hm:m < 0
 . skip
   refine wp_seq (wp_seq (cck_r1N m n hm hz1 o0 o1 (fun a2 w2 hs2 k2 o20=>?_)))
   obtain ⟨hz2,D,o0,o1,o4,o7,o8⟩:=kq5 hs2 hz1 D o0 o1 o4 o7 o8
   refine wcT o20 ?_
   refine wp_seq (cck_r2 hz2 (fun a3 hs3 o10=>?_))
   obtain ⟨hz3,D,o0,o1,o4,o7,o8,o20⟩:=kq6 hs3 hz2 D o0 o1 o4 o7 o8 o20
   refine wp_ret ?_
   try simp only [Exit.then]
   exact bodyPost_ret (res_u1 (by rfl) (o10.eval (by rw [hz3];decide))) D ⟨by rw [consF_4 (.inl hm)];rfl,(S.k.trans k2 (by simp))⟩
 . skip
   refine wp_seq (wp_seq (cck_r1Y m n hm hz1 o0 o1 (fun a2 w2 hs2 k2 o20=>?_)))
   obtain ⟨hz2,D,o0,o1,o4,o7,o8⟩:=kq5 hs2 hz1 D o0 o1 o4 o7 o8
   have S:=S.kp k2
   by_cases hmn:n < m
   . refine wcT o20 ?_ (by rw [decide_eq_true hmn])
     refine wp_seq (cck_r2 hz2 (fun a3 hs3 o10=>?_))
     obtain ⟨hz3,D,o0,o1,o4,o7,o8,o20⟩:=kq6 hs3 hz2 D o0 o1 o4 o7 o8 o20
     refine wp_ret ?_
     try simp only [Exit.then]
     exact bodyPost_ret (res_u1 (by rfl) (o10.eval (by rw [hz3];decide))) D ⟨by rw [consF_4 (.inr hmn)];rfl,S.k⟩
   . refine wcF o20 (wp_skip ?_) (by rw [decide_eq_false hmn])
     simp only [Exit.then]
     have hno:¬ (m < 0 ∨ n < m):=by omega
     have hb7:=S.at_ (l1:=[_])
     have hb8:=S.at_ (l1:=[])
     refine wp_seq (wp_seq (cck_r3 m hz2 o0 (fun a3 hs3 o22=>?_)))
     obtain ⟨hz3,D,o0,o1,o4,o7,o8,o20⟩:=kq6 hs3 hz2 D o0 o1 o4 o7 o8 o20
     by_cases h0:m=0
     . refine wcT o22 ?_ (by rw [h0];rfl)
       subst h0
       cases hfe:(first == emptyF)
       . skip
         refine wp_seq (wp_seq (cck_r4A g7 g8 first second hf hs hb7 hb8 A pf.length c n hfe hz3 o1 o4 o7 o8 (fun a4 w4 hs4 k4 o39=>?_)))
         obtain ⟨hz4,D,o0,o1,o4,o7,o8,o20,o22⟩:=kq7 hs4 hz3 D o0 o1 o4 o7 o8 o20 o22
         refine wcT o39 ?_
         refine wp_seq (cck_r5 hz4 (fun a5 hs5 o10=>?_))
         obtain ⟨hz5,D,o0,o1,o4,o7,o8,o20,o22,o39⟩:=kq8 hs5 hz4 D o0 o1 o4 o7 o8 o20 o22 o39
         refine wp_ret ?_
         try simp only [Exit.then]
         exact bodyPost_ret (res_u1 (by rfl) (o10.eval (by rw [hz5];decide))) D ⟨by rw [consF_0A hno (.inl hfe)];rfl,(S.k.trans (((Kp.refl [] w2).drew).trans k4 (by simp)) (by simp))⟩
       . by_cases hl:pf.length=0
         . by_cases hy:n=0
           . skip
             refine wp_seq (wp_seq (cck_r4D g7 g8 first second hf hs hb7 hb8 A pf.length c n hfe (LH hl) (LH hy) hz3 o1 o4 o7 o8 (fun a4 w4 hs4 k4 o39=>?_)))
             obtain ⟨hz4,D,o0,o1,o4,o7,o8,o20,o22⟩:=kq7 hs4 hz3 D o0 o1 o4 o7 o8 o20 o22
             cases hsf:(second == first)
             . rw [hsf] at o39
               refine wcT o39 ?_
               refine wp_seq (cck_r5 hz4 (fun a5 hs5 o10=>?_))
               obtain ⟨hz5,D,o0,o1,o4,o7,o8,o20,o22,o39⟩:=kq8 hs5 hz4 D o0 o1 o4 o7 o8 o20 o22 o39
               refine wp_ret ?_
               try simp only [Exit.then]
               exact bodyPost_ret (res_u1 (by rfl) (o10.eval (by rw [hz5];decide))) D ⟨by rw [consF_0A hno (.inr (.inr ⟨hy,hsf⟩))];rfl,(S.k.trans (((Kp.refl [] w2).drew).trans k4 (by simp)) (by simp))⟩
             . rw [hsf] at o39
               refine wcF o39 (wp_skip ?_)
               simp only [Exit.then]
               refine wp_seq (cck_r6 hz4 (fun a5 hs5 o10=>?_))
               obtain ⟨hz5,D,o0,o1,o4,o7,o8,o20,o22,o39⟩:=kq8 hs5 hz4 D o0 o1 o4 o7 o8 o20 o22 o39
               refine wp_ret ?_
               try simp only [Exit.then]
               exact bodyPost_ret (res_u1 (by rfl) (o10.eval (by rw [hz5];decide))) D ⟨by rw [consF_0B hno hfe hl (.inr hsf)];rfl,(S.k.trans (((Kp.refl [] w2).drew).trans k4 (by simp)) (by simp))⟩
           . skip
             refine wp_seq (wp_seq (cck_r4C g7 g8 first second hf hs hb7 hb8 A pf.length c n hfe (LH hl) (LH hy) hz3 o1 o4 o7 o8 (fun a4 w4 hs4 k4 o39=>?_)))
             obtain ⟨hz4,D,o0,o1,o4,o7,o8,o20,o22⟩:=kq7 hs4 hz3 D o0 o1 o4 o7 o8 o20 o22
             refine wcF o39 (wp_skip ?_)
             simp only [Exit.then]
             refine wp_seq (cck_r6 hz4 (fun a5 hs5 o10=>?_))
             obtain ⟨hz5,D,o0,o1,o4,o7,o8,o20,o22,o39⟩:=kq8 hs5 hz4 D o0 o1 o4 o7 o8 o20 o22 o39
             refine wp_ret ?_
             try simp only [Exit.then]
             exact bodyPost_ret (res_u1 (by rfl) (o10.eval (by rw [hz5];decide))) D ⟨by rw [consF_0B hno hfe hl (.inl hy)];rfl,(S.k.trans (((Kp.refl [] w2).drew).trans k4 (by simp)) (by simp))⟩
         . skip
           refine wp_seq (wp_seq (cck_r4B g7 g8 first second hf hs hb7 hb8 A pf.length c n hfe (LH hl) hz3 o1 o4 o7 o8 (fun a4 w4 hs4 k4 o39=>?_)))
           obtain ⟨hz4,D,o0,o1,o4,o7,o8,o20,o22⟩:=kq7 hs4 hz3 D o0 o1 o4 o7 o8 o20 o22
           refine wcT o39 ?_
           refine wp_seq (cck_r5 hz4 (fun a5 hs5 o10=>?_))
           obtain ⟨hz5,D,o0,o1,o4,o7,o8,o20,o22,o39⟩:=kq8 hs5 hz4 D o0 o1 o4 o7 o8 o20 o22 o39
           refine wp_ret ?_
           try simp only [Exit.then]
           exact bodyPost_ret (res_u1 (by rfl) (o10.eval (by rw [hz5];decide))) D ⟨by rw [consF_0A hno (.inr (.inl hl))];rfl,(S.k.trans (((Kp.refl [] w2).drew).trans k4 (by simp)) (by simp))⟩
     . have hq:(m == 0)=false:=by rw [beq_eq_false_iff_ne];exact h0
       refine wcF o22 (wp_skip ?_) (by rw [hq])
       simp only [Exit.then]
       have hbv:=boV_len m n first pf hf hok hn
       have HB:=(cboth_any m n hn first hf A c pf hok w2 (rd_old hv S.k)).mono (fun e w' h=>(⟨h.1,S.kp h.2⟩:e=_ ∧ Held w w' _))
       refine wp_seq (cck_r7 w g7 m n _ first hf _ hb7 _ _ hbv.1 hbv.2 _ HB hz3 o0 o1 o4 o7 (fun a4 w5 hs4 o13 h5=>?_))
       obtain ⟨hz4,D,o0,o1,o4,o7,o8,o20,o22⟩:=kq7 hs4 hz3 D o0 o1 o4 o7 o8 o20 o22
       obtain ⟨g11,g12,o11,o12,S⟩:=h5
       have hb7:=S.at_ (l1:=[_,_,_])
       have hb8:=S.at_ (l1:=[_,_])
       have hb11:=S.at_ (l1:=[_])
       have hb12:=S.at_ (l1:=[])
       by_cases hbc:boC m n pf.length=0
       . cases hxf:((boV m n first pf).1 == first)
         . skip
           refine wp_seq (wp_seq (cck_r8F g7 g8 g11 g12 _ first second _ _ hf hs hbv.1 hbv.2 hb7 hb8 hb11 hb12 (LH (by rw [hbc];rfl)) hxf hz4 o7 o8 o11 o12 o13 (fun a5 w6 hs5 k6 o60=>?_)))
           obtain ⟨hz5,D,o7,o8,o11,o12,o13⟩:=kq5 hs5 hz4 D o7 o8 o11 o12 o13
           refine wcT o60 ?_
           refine wp_seq (cck_r9 hz5 (fun a6 hs6 o10=>?_))
           obtain ⟨hz6,D,o7,o8,o11,o12,o13,o60⟩:=kq6 hs6 hz5 D o7 o8 o11 o12 o13 o60
           refine wp_ret ?_
           try simp only [Exit.then]
           exact bodyPost_ret (res_u1 (by rfl) (o10.eval (by rw [hz6];decide))) D ⟨by rw [consF_F hno h0 hbc hxf];rfl,(S.k.trans k6 (by simp))⟩
         . skip
           refine wp_seq (wp_seq (cck_r8G g7 g8 g11 g12 _ first second _ _ hf hs hbv.1 hbv.2 hb7 hb8 hb11 hb12 (LH (by rw [hbc];rfl)) hxf hz4 o7 o8 o11 o12 o13 (fun a5 w6 hs5 k6 o60=>?_)))
           obtain ⟨hz5,D,o7,o8,o11,o12,o13⟩:=kq5 hs5 hz4 D o7 o8 o11 o12 o13
           cases hsf:((boV m n first pf).2 == second)
           . rw [hsf] at o60
             refine wcT o60 ?_
             refine wp_seq (cck_r9 hz5 (fun a6 hs6 o10=>?_))
             obtain ⟨hz6,D,o7,o8,o11,o12,o13,o60⟩:=kq6 hs6 hz5 D o7 o8 o11 o12 o13 o60
             refine wp_ret ?_
             try simp only [Exit.then]
             exact bodyPost_ret (res_u1 (by rfl) (o10.eval (by rw [hz6];decide))) D ⟨by rw [consF_G hno h0 hbc hxf hsf];rfl,(S.k.trans k6 (by simp))⟩
           . rw [hsf] at o60
             refine wcF o60 (wp_skip ?_)
             simp only [Exit.then]
             refine wp_seq (cck_r10 hz5 (fun a6 hs6 o10=>?_))
             obtain ⟨hz6,D,o7,o8,o11,o12,o13,o60⟩:=kq6 hs6 hz5 D o7 o8 o11 o12 o13 o60
             refine wp_ret ?_
             try simp only [Exit.then]
             exact bodyPost_ret (res_u1 (by rfl) (o10.eval (by rw [hz6];decide))) D ⟨by rw [consF_H hno h0 hbc hxf hsf];rfl,(S.k.trans k6 (by simp))⟩
       . skip
         refine wp_seq (wp_seq (cck_r8E g7 g8 g11 g12 _ first second _ _ hf hs hbv.1 hbv.2 hb7 hb8 hb11 hb12 (LH (by omega)) hz4 o7 o8 o11 o12 o13 (fun a5 w6 hs5 k6 o60=>?_)))
         obtain ⟨hz5,D,o7,o8,o11,o12,o13⟩:=kq5 hs5 hz4 D o7 o8 o11 o12 o13
         refine wcT o60 ?_
         refine wp_seq (cck_r9 hz5 (fun a6 hs6 o10=>?_))
         obtain ⟨hz6,D,o7,o8,o11,o12,o13,o60⟩:=kq6 hs6 hz5 D o7 o8 o11 o12 o13 o60
         refine wp_ret ?_
         try simp only [Exit.then]
         exact bodyPost_ret (res_u1 (by rfl) (o10.eval (by rw [hz6];decide))) D ⟨by rw [consF_E hno h0 hbc];rfl,(S.k.trans k6 (by simp))⟩
end
section
open Go.RowKit Go.Shelf
theorem eq_nil_hs(w:World)(a:Option Addr)(n c:Nat):(binOp .eql 29 (.slice a n c) (.slice none 0 0)).run Tryz.prog w=.ok (.bool a.isNone) w:=
 Lib.run_eql_slice_nil (P:=Tryz.prog) w 29 23 a n c 0 0 Tryz.underlying29
theorem hsclone_any(w0:World)(L:List Res)(A:Option Addr)(c:Nat)(l:List (List UInt8))(hll:l.length<=1000000)(w:World)(S:Held w0 w L)(HV:∀ V,Held w0 V L->Rd V 32 (.slice A l.length c) l.length (hsC l)):
 Calls Tryz.prog 94 #[.slice A l.length c] w fun e w'=>∃ v,e=.returned v ∧ Held w0 w' (rowR 23 32 v l.length (hsC l) :: L):=by
 have HV:=LH HV
 have S:=LH S
 have HO:=LH (hsC_one (l:=l))
 rcases A with _|ad
 . have h0:l.length=0 ∧ c=0:=by
    obtain ⟨-,A',c',he,-,-,hA,-⟩:=HV.out w S.out
    cases he
    exact hA rfl
   obtain rfl:l=[]:=List.eq_nil_of_length_eq_zero h0.1
   obtain rfl:=h0.2
   clear h0
   have hq:=fun V=>eq_nil_hs V none 0 0
   simp only [Option.isNone_none] at hq
   go_enter Tryz.func94,Tryz.ntmps94
   go_wp2
   go_ret
   exact ⟨_,rfl,S.out.rownew (World.ownsRow_nil _ _ _ _) (Kp.refl [] w) (by simp [Value.ownBlock])⟩
 . have hq:=fun V n=>eq_nil_hs V (some ad) n c
   simp only [Option.isNone_some] at hq
   have S1:=LH (S.out.rownew (ow_empty 23 32 (g:=w.heap.size) rfl) ((Kp.refl [] w).alloc _) (by simp [Value.ownBlock]))
   obtain ⟨i0,hi,hz,hsize,hby⟩:=info_parts Tryz.infoHashZ
   have Hz:=LH hz
   clear hz
   have hle:Hid (l.length<=maxLen ∧ l.length * 32<=140737488355328):=LH ⟨by unfold maxLen;omega,by omega⟩
   generalize hcs:hsC l=cs at *
   generalize l.length=n at *
   go_enter Tryz.func94,Tryz.ntmps94
   go_wp2_with (at_builtin;refine wpList_app _ rfl (.tmp 5) (.tmp 6) 29 rfl 23 i0 _ 32 32 Tryz.underlying29 hi Hz.out hsize hby rfl (by decide) _ 0 [] (by simp [Act.eval,Act.put]) (S1.out.at_ (l1:=[])) _ n cs (by simp [Act.eval,Act.put]) (HV.out _ S1.out.drop) HO.out (by rw [Nat.zero_add];exact hle.out.1) (by rw [Nat.zero_add];exact hle.out.2) ?_;intro v' w' o2 g2 b2;have S2:=LH (Held.grow (l1:=[]) S1.out o2 g2 b2);clear o2 g2 b2)
   rw [Nat.zero_add,List.nil_append] at S2
   go_ret
   exact ⟨_,rfl,S2.out⟩
theorem eq_nil_rg(w:World)(a:Option Addr)(n c:Nat):(binOp .eql 164 (.slice a n c) (.slice none 0 0)).run Tryz.prog w=.ok (.bool a.isNone) w:=
 Lib.run_eql_slice_nil (P:=Tryz.prog) w 164 176 a n c 0 0 Tryz.underlying164
theorem rgclone_any(w0:World)(L:List Res)(A:Option Addr)(c:Nat)(l:List (Nat × Nat))(hll:l.length<=1000000)(w:World)(S:Held w0 w L)(HV:∀ V,Held w0 V L->Rd V 2 (.slice A l.length c) l.length (rgC l)):
 Calls Tryz.prog 129 #[.slice A l.length c] w fun e w'=>∃ v,e=.returned v ∧ Held w0 w' (rowR 176 2 v l.length (rgC l) :: L):=by
 have HV:=LH HV
 have S:=LH S
 have HO:=LH (rgC_one l)
 rcases A with _|ad
 . have h0:l.length=0 ∧ c=0:=by
    obtain ⟨-,A',c',he,-,-,hA,-⟩:=HV.out w S.out
    cases he
    exact hA rfl
   obtain rfl:l=[]:=List.eq_nil_of_length_eq_zero h0.1
   obtain rfl:=h0.2
   clear h0
   have hq:=fun V=>eq_nil_rg V none 0 0
   simp only [Option.isNone_none] at hq
   go_enter Tryz.func129,Tryz.ntmps129
   go_wp2
   go_ret
   exact ⟨_,rfl,S.out.rownew (World.ownsRow_nil _ _ _ _) (Kp.refl [] w) (by simp [Value.ownBlock])⟩
 . have hq:=fun V n=>eq_nil_rg V (some ad) n c
   simp only [Option.isNone_some] at hq
   have S1:=LH (S.out.rownew (ow_empty 176 2 (g:=w.heap.size) rfl) ((Kp.refl [] w).alloc _) (by simp [Value.ownBlock]))
   obtain ⟨i0,hi,hz,hsize,hby⟩:=info_parts Tryz.infoRangeZ
   have Hz:=LH hz
   clear hz
   have hle:Hid (l.length<=maxLen ∧ l.length * 16<=140737488355328):=LH ⟨by unfold maxLen;omega,by omega⟩
   generalize hcs:rgC l=cs at *
   generalize l.length=n at *
   go_enter Tryz.func129,Tryz.ntmps129
   go_wp2_with (at_builtin;refine wpList_app _ rfl (.tmp 5) (.tmp 6) 164 rfl 176 i0 _ 2 16 Tryz.underlying164 hi Hz.out hsize hby rfl (by decide) _ 0 [] (by simp [Act.eval,Act.put]) (S1.out.at_ (l1:=[])) _ n cs (by simp [Act.eval,Act.put]) (HV.out _ S1.out.drop) HO.out (by rw [Nat.zero_add];exact hle.out.1) (by rw [Nat.zero_add];exact hle.out.2) ?_;intro v' w' o2 g2 b2;have S2:=LH (Held.grow (l1:=[]) S1.out o2 g2 b2);clear o2 g2 b2)
   rw [Nat.zero_add,List.nil_append] at S2
   go_ret
   exact ⟨_,rfl,S2.out⟩
end
section
open Go.RowKit Go.Shelf
theorem Stays.up{B B':Nat}{p:World->Prop}(h:Stays B p)(hB:B<=B'):Stays B' p:=fun W W' hp hk=>h W W' hp (by
 rcases hk with hk|⟨l,o,o',hl,h1,h2,h3⟩
 . exact .inl hk
 . exact .inr ⟨l,o,o',by omega,h1,h2,h3⟩)
theorem stays_at{B k:Nat}{o:Obj}(hk:k < B):Stays B (fun W=>W.heap[k]?=some o):=by
 intro W W' h hkp
 rcases hkp with hkp|⟨l,o1,o2,hl,h1,-,rfl⟩
 . exact (hkp.block k (Array.getElem?_eq_some_iff.1 h).1 (by simp)).trans h
 . exact (World.putObj_heap_other (by omega)).trans h
def SeqS {α:Type} (P:Program) (n g:Nat) (lb:Array Value) (encs:α->Array Value) (Z:α->World->Prop) (X:List α->α->World->World->Prop) (S Sp:List α->Prop) (N:Nat) (w:World):Prop:=
 ∀ (l:Nat) (J Jx:List α->World->Prop) (W:World),Kp [] w W->(∀ s,Stays W.heap.size (J s))->(∀ s,Stays W.heap.size (Jx s))->RoundOk P n l encs Z X N J Jx->J [] W->
  CallsIn Fence.wide n P g (#[.func (.yield l) #[] #[]] ++ lb) W fun e W'=>(∃ v,e=.returned v) ∧ ((∃ xs,S xs ∧ J xs W') ∨ (∃ pre,Sp pre ∧ Jx pre W'))
theorem SeqW.s{α:Type}{P:Program}{n g:Nat}{lb:Array Value}{encs:α->Array Value}{Z:α->World->Prop}{X:List α->α->World->World->Prop}{S Sp:List α->Prop}{N:Nat}{w:World}(h:SeqW P n g lb encs Z X S Sp N w):SeqS P n g lb encs Z X S Sp N w:=
 fun l J Jx W hk hJ hJx hY h0=>h l J Jx W hk (fun s A B hA hAB=>(hJ s).kp hA hAB) (fun s A B hA hAB=>(hJx s).kp hA hAB) hY h0
variable {P:Program} {n:Nat}
theorem wp_rangeS{α:Type}{g:Operand}{ps:Array Tmp}{assign body:Code}{Q:Exit->Act->World->Prop}{a:Act}{w:World}{gf:Nat}{lb:Array Value}(hg:a.eval g=.func (.func gf) #[] lb)
 (eg:∀ args w,(callFunc gf args).run P w=.ok (.enter gf args) w) {encs:α->Array Value} {Z:α->World->Prop} {X:List α->α->World->World->Prop} {S Sp:List α->Prop} {N:Nat} (hseq:SeqS P (n - 1) gf lb encs Z X S Sp N w) (hZ:∀ x,Stays w.heap.size (Z x))
 (hps:∀ x,(encs x).size=ps.size)
 (I:List α->World->Prop) (Ix:Code->List α->World->Prop) (hI:∀ pre,Stays w.heap.size (I pre)) (hIx:∀ c pre,Stays w.heap.size (Ix c pre)) (h0:I [] w)
 (I':List α->α->World->Prop) (hI':∀ pre x,Stays w.heap.size (I' pre x)) (hprep:∀ (pre:List α) (x:α) (W0 W1:World),I pre W0->Kp [] W0 W1->X pre x W0 W1->pre.length < N->I' pre x W1)
 (A:Array Value->List α->α->Act->World->Prop) (hA:∀ pre x a',Stays w.heap.size (A a.tmps pre x a'))
 (hassign:∀ (pre:List α) (x:α) (W:World),I' pre x W->∀ K:Act->World->Prop,(∀ a' W',Kp [] W W'->A a.tmps pre x a' W'->K a' W')->
  assign.wpIn (Fence.wide.inRound (w.heap.size+1)) (n - 1 - 1) P (Exit.then K (fun _ _ _=>False)) { tmps:=(ps.zip (encs x)).foldl (fun t (p,v)=>t.setIfInBounds p v) a.tmps,defers:=[] } W)
 (hbody:∀ (pre:List α) (x:α) (a':Act) (W:World),I' pre x W->A a.tmps pre x a' W->pre.length < N->(∃ o,W.heap[w.heap.size+1]?=some o ∧ o.isCells=false)->(∃ o,W.heap[w.heap.size]?=some o ∧ o.isCells=false)->
  body.wpIn (Fence.wide.inRound (w.heap.size+1)) (n - 1 - 1) P (roundEnd (w.heap.size+1) w.heap.size (Z x) I Ix (pre ++ [x]) W) a' W)
 (hdone:∀ (xs:List α) (W:World),S xs->I xs W->W.heap[w.heap.size]?=some (.deferred (some []))->Q .normal { a with defers:=markOf w.heap.size :: a.defers } W)
 (hstop:∀ (c:Code) (pre:List α) (W:World),Sp pre->Ix c pre W->W.heap[w.heap.size]?=some (.deferred (some []))->c.wp P Q { a with defers:=markOf w.heap.size :: a.defers } W):
 (Code.rangeFunc g ps assign body).wp P Q a w:=by
 refine (wpIn_wide (n:=n)).1 (wpIn_rangeFunc ?_)
 intro fn hfn
 show ∃ (l:Nat) (mark:List Deferred) (w₁:World) (d:Deferred) (w₁':World) (f:FuncId) (args:Array Value) (w₂:World),(Instr.enterLoop fn a.tmps ps assign body none).run P w=.ok (l,mark) w₁ ∧ _
 obtain ⟨rec,hrec⟩:∃ rec:LoopState->Option Code->Loop,rec=fun st pe=>{ state:=st,pending:=pe,fn,tmps:=a.tmps,params:=ps,assign,body,defers:=w.heap.size }:=⟨_,rfl⟩
 obtain ⟨W1,hW1⟩:∃ W1,(w.alloc (.deferred (some []))).alloc (.loop (rec .ready none))=W1:=⟨_,rfl⟩
 have hk1:Kp [] w W1:=by rw [<- hW1];exact ((Kp.refl [] w).alloc _).alloc _
 have hL1:W1.heap[w.heap.size+1]?=some (.loop (rec .ready none)):=by
  rw [<- hW1];have:=World.alloc_heap_new (w.alloc (.deferred (some []))) (.loop (rec .ready none));rwa [World.size_alloc] at this
 have hD1:W1.heap[w.heap.size]?=some (.deferred (some [])):=by
  rw [<- hW1];exact (Below.heap_alloc _ _ _ (by simp)).trans (World.alloc_heap_new w _)
 have kept:∀ {A B:World} {k:Nat} {o:Obj},Kp [] A B->A.heap[k]?=some o->B.heap[k]?=some o:=fun hk h=>(hk.block _ (Array.getElem?_eq_some_iff.1 h).1 (by simp)).trans h
 have hlt1:w.heap.size+1 < W1.heap.size:=(Array.getElem?_eq_some_iff.1 hL1).1
 have hlt0:w.heap.size < W1.heap.size:=by omega
 refine ⟨w.heap.size+1,[markOf w.heap.size],W1,{ target:=.fn (.func gf) lb,args:=#[.func (.yield (w.heap.size+1)) #[] #[]] },W1,gf,#[.func (.yield (w.heap.size+1)) #[] #[]] ++ lb,W1,?_,?_,fun _ _=>trivial,?_,fun h=>by simp [Fence.wide] at h,?_⟩
 . rw [<- hW1,hrec];exact run_enterLoop_outer _ _ _ _ _
 . simp only [resolve,hg]
   simp [go_sem]
 . simp [invoke,go_sem,eg]
 . refine (hseq (w.heap.size+1)
    (fun pre W=>I pre W ∧ W.heap[w.heap.size+1]?=some (.loop (rec .ready none)) ∧ W.heap[w.heap.size]?=some (.deferred (some [])))
    (fun pre W=>∃ c,Ix c pre W ∧ W.heap[w.heap.size+1]?=some (.loop (rec .done (some c))) ∧ W.heap[w.heap.size]?=some (.deferred (some [])))
    W1 hk1 (fun s=>((hI s).up hk1.size).and ((stays_at hlt1).and (stays_at hlt0))) (fun s=>Stays.ex fun c=>((hIx c s).up hk1.size).and ((stays_at hlt1).and (stays_at hlt0))) ?_ ⟨(hI []).kp h0 hk1,hL1,hD1⟩).mono ?_
   . rintro pre x W0 W ⟨hi0,hl0,hd0⟩ hk0 hx hlen
     have hi:=hprep pre x W0 W hi0 hk0 hx hlen
     have hl:=kept hk0 hl0
     have hd:=kept hk0 hd0
     have hlt:w.heap.size+1 < W.heap.size:=(Array.getElem?_eq_some_iff.1 hl).1
     have hy:=run_yield (P:=P) (args:=encs x) hl (by rw [hrec];exact hps x)
     rw [hrec] at hy
     refine ⟨fn,_,assign,body,hy,roundIn_of_wpIn hfn (hassign pre x W hi _ fun a' Wa hka hAa=>?_)⟩
     have hla:=kept hka hl
     have hda:=kept hka hd
     refine ⟨Wa.putObj (w.heap.size+1) (.loop { rec .ready none with state:=.busy }),by have:=run_beginRound (P:=P) hla (by rw [hrec]);exact this,?_⟩
     have hlta:w.heap.size+1 < Wa.heap.size:=(Array.getElem?_eq_some_iff.1 hla).1
     have hl2:(Wa.putObj (w.heap.size+1) (.loop { rec .ready none with state:=.busy })).heap[w.heap.size+1]?=some (.loop { rec .ready none with state:=.busy }):=World.putObj_heap_same hlta
     have hd2:(Wa.putObj (w.heap.size+1) (.loop { rec .ready none with state:=.busy })).heap[w.heap.size]?=some (.deferred (some [])):=(World.putObj_heap_other (by omega)).trans hda
     refine wpIn_mono (hbody pre x a' _ ((hI' pre x).put ((hI' pre x).kp hi hka) _ (by omega) hla rfl) ((hA pre x a').put hAa _ (by omega) hla rfl) hlen ⟨_,hl2,rfl⟩ ⟨_,hd2,rfl⟩) ?_
     have fin:∀ (jump:Option Code) (W3:World),Same2 (w.heap.size+1) w.heap.size (Wa.putObj (w.heap.size+1) (.loop { rec .ready none with state:=.busy })) W3->
      (Instr.endRound (w.heap.size+1) jump).run P W3=.ok (.bool jump.isNone) (W3.putObj (w.heap.size+1) (.loop (rec (if jump.isNone then .ready else .done) jump))) ∧
      W3.heap[w.heap.size+1]?=some (.loop { rec .ready none with state:=.busy }) ∧
      (W3.putObj (w.heap.size+1) (.loop (rec (if jump.isNone then .ready else .done) jump))).heap[w.heap.size+1]?=some (.loop (rec (if jump.isNone then .ready else .done) jump)) ∧
      (W3.putObj (w.heap.size+1) (.loop (rec (if jump.isNone then .ready else .done) jump))).heap[w.heap.size]?=some (.deferred (some [])):=fun jump W3 hs=>by
      have hl3:=hs.1.trans hl2
      have hd3:=hs.2.trans hd2
      have:=run_endRound (P:=P) jump hl3
      rw [hrec] at this ⊢
      exact ⟨this,by rw [hrec] at hl3;exact hl3,World.putObj_heap_same (Array.getElem?_eq_some_iff.1 hl3).1,(World.putObj_heap_other (by omega)).trans hd3⟩
     rintro e a3 W3 hp
     cases e with
     |normal=>
      obtain ⟨hs,hk3,hi3⟩:=hp
      obtain ⟨hr,hl3,hl4,hd4⟩:=fin none W3 hs
      exact ⟨_,_,hr,.inl ⟨rfl,⟨(hI _).put hi3 _ (by omega) hl3 rfl,hl4,hd4⟩,(hZ x).put hk3 _ (by omega) hl3 rfl⟩⟩
     |ret=>
      obtain ⟨hs,hi3⟩:=hp
      obtain ⟨hr,hl3,hl4,hd4⟩:=fin (some .ret) W3 hs
      exact ⟨_,_,hr,.inr ⟨rfl,.ret,(hIx _ _).put hi3 _ (by omega) hl3 rfl,hl4,hd4⟩⟩
     |exit id=>
      obtain ⟨hs,hi3⟩:=hp
      obtain ⟨hr,hl3,hl4,hd4⟩:=fin (some (.exit id)) W3 hs
      exact ⟨_,_,hr,.inr ⟨rfl,.exit id,(hIx _ _).put hi3 _ (by omega) hl3 rfl,hl4,hd4⟩⟩
     |goto t=>
      obtain ⟨hs,hi3⟩:=hp
      obtain ⟨hr,hl3,hl4,hd4⟩:=fin (some (.goto t)) W3 hs
      exact ⟨_,_,hr,.inr ⟨rfl,.goto t,(hIx _ _).put hi3 _ (by omega) hl3 rfl,hl4,hd4⟩⟩
     |panic ch=>exact hp.elim
     |outgrown=>exact hp.elim
   . rintro e W2 ⟨⟨v,rfl⟩,(⟨xs,hS,hi,hl,hd⟩|⟨pre,hSp,c,hi,hl,hd⟩)⟩
     . exact ⟨none,_,by have:=run_endLoop (P:=P) hl (by rw [hrec];simp);rw [hrec] at this;exact this,hdone _ _ hS ((hI _).put hi _ (by omega) hl rfl) ((World.putObj_heap_other (by omega)).trans hd)⟩
     . exact ⟨some c,_,by have:=run_endLoop (P:=P) hl (by rw [hrec];simp);rw [hrec] at this;exact this,wpIn_wide.2 (hstop c pre _ hSp ((hIx c pre).put hi _ (by omega) hl rfl) ((World.putObj_heap_other (by omega)).trans hd))⟩
def StaysL (l:Nat) (p:World->Prop):Prop:=∀ W W',p W->(Kp [] W W' ∨ ∃ (o o':Obj),W.heap[l]?=some o ∧ o.isCells=false ∧ W'=W.putObj l o')->p W'
theorem StaysL.kp{l:Nat}{p:World->Prop}(h:StaysL l p){W W':World}(hp:p W)(hk:Kp [] W W'):p W':=h W W' hp (.inl hk)
theorem StaysL.put{l:Nat}{p:World->Prop}(h:StaysL l p){W:World}(hp:p W){o:Obj}(o':Obj)(hl:W.heap[l]?=some o)(ho:o.isCells=false):p (W.putObj l o'):=h W _ hp (.inr ⟨o,o',hl,ho,rfl⟩)
def RoundN {α:Type} (P:Program) (n l:Nat) (encs:α->Array Value) (Z:Nat->α->World->Prop) (X:Nat->List α->α->World->World->Prop) (N:Nat) (J:List α->World->Prop):Prop:=
 ∀ pre x W0 W1,J pre W0->Kp [] W0 W1->X l pre x W0 W1->pre.length < N->YieldAt Fence.wide (n - 1) P l (encs x) W1 fun e W'=>e=.returned (.bool true) ∧ J (pre ++ [x]) W' ∧ Z l x W'
def SeqN {α:Type} (P:Program) (n g:Nat) (lb:Array Value) (encs:α->Array Value) (Z:Nat->α->World->Prop) (X:Nat->List α->α->World->World->Prop) (S:List α->Prop) (N:Nat) (w:World):Prop:=
 ∀ (l:Nat) (J:List α->World->Prop) (W:World),l < W.heap.size->w.heap.size<=l->Kp [] w W->(∀ s,Stays W.heap.size (J s))->RoundN P n l encs Z X N J->J [] W->
  CallsIn Fence.wide n P g (#[.func (.yield l) #[] #[]] ++ lb) W fun e W'=>(∃ v,e=.returned v) ∧ ∃ xs,S xs ∧ J xs W'
theorem wp_rangeN{α:Type}{g:Operand}{ps:Array Tmp}{assign body:Code}{Q:Exit->Act->World->Prop}{a:Act}{w:World}{gf:Nat}{lb:Array Value}(hg:a.eval g=.func (.func gf) #[] lb)
 (eg:∀ args w,(callFunc gf args).run P w=.ok (.enter gf args) w) {encs:α->Array Value} {Z:Nat->α->World->Prop} {X:Nat->List α->α->World->World->Prop} {S:List α->Prop} {N:Nat} (hseq:SeqN P (n - 1) gf lb encs Z X S N w) (hZ:∀ x,StaysL (w.heap.size+1) (Z (w.heap.size+1) x))
 (hps:∀ x,(encs x).size=ps.size)
 (I:List α->World->Prop) (hI:∀ pre,Stays w.heap.size (I pre)) (h0:I [] w)
 (I':List α->α->World->Prop) (hI':∀ pre x,StaysL (w.heap.size+1) (I' pre x)) (hprep:∀ (pre:List α) (x:α) (W0 W1:World),I pre W0->Kp [] W0 W1->X (w.heap.size+1) pre x W0 W1->pre.length < N->I' pre x W1)
 (A:Array Value->List α->α->Act->World->Prop) (hA:∀ pre x a',StaysL (w.heap.size+1) (A a.tmps pre x a'))
 (hassign:∀ (pre:List α) (x:α) (W:World),I' pre x W->∀ K:Act->World->Prop,(∀ a' W',Kp [] W W'->A a.tmps pre x a' W'->K a' W')->
  assign.wpIn (Fence.wide.inRound (w.heap.size+1)) (n - 1 - 1) P (Exit.then K (fun _ _ _=>False)) { tmps:=(ps.zip (encs x)).foldl (fun t (p,v)=>t.setIfInBounds p v) a.tmps,defers:=[] } W)
 (hbody:∀ (pre:List α) (x:α) (a':Act) (W:World),I' pre x W->A a.tmps pre x a' W->pre.length < N->(∃ o,W.heap[w.heap.size+1]?=some o ∧ o.isCells=false)->(∃ o,W.heap[w.heap.size]?=some o ∧ o.isCells=false)->
  body.wpIn (Fence.wide.inRound (w.heap.size+1)) (n - 1 - 1) P (roundEnd (w.heap.size+1) w.heap.size (Z (w.heap.size+1) x) I (fun _ _ _=>False) (pre ++ [x]) W) a' W)
 (hdone:∀ (xs:List α) (W:World),S xs->I xs W->W.heap[w.heap.size]?=some (.deferred (some []))->Q .normal { a with defers:=markOf w.heap.size :: a.defers } W):
 (Code.rangeFunc g ps assign body).wp P Q a w:=by
 refine (wpIn_wide (n:=n)).1 (wpIn_rangeFunc ?_)
 intro fn hfn
 show ∃ (l:Nat) (mark:List Deferred) (w₁:World) (d:Deferred) (w₁':World) (f:FuncId) (args:Array Value) (w₂:World),(Instr.enterLoop fn a.tmps ps assign body none).run P w=.ok (l,mark) w₁ ∧ _
 obtain ⟨rec,hrec⟩:∃ rec:LoopState->Option Code->Loop,rec=fun st pe=>{ state:=st,pending:=pe,fn,tmps:=a.tmps,params:=ps,assign,body,defers:=w.heap.size }:=⟨_,rfl⟩
 obtain ⟨W1,hW1⟩:∃ W1,(w.alloc (.deferred (some []))).alloc (.loop (rec .ready none))=W1:=⟨_,rfl⟩
 have hk1:Kp [] w W1:=by rw [<- hW1];exact ((Kp.refl [] w).alloc _).alloc _
 have hL1:W1.heap[w.heap.size+1]?=some (.loop (rec .ready none)):=by
  rw [<- hW1];have:=World.alloc_heap_new (w.alloc (.deferred (some []))) (.loop (rec .ready none));rwa [World.size_alloc] at this
 have hD1:W1.heap[w.heap.size]?=some (.deferred (some [])):=by
  rw [<- hW1];exact (Below.heap_alloc _ _ _ (by simp)).trans (World.alloc_heap_new w _)
 have kept:∀ {A B:World} {k:Nat} {o:Obj},Kp [] A B->A.heap[k]?=some o->B.heap[k]?=some o:=fun hk h=>(hk.block _ (Array.getElem?_eq_some_iff.1 h).1 (by simp)).trans h
 have hlt1:w.heap.size+1 < W1.heap.size:=(Array.getElem?_eq_some_iff.1 hL1).1
 have hlt0:w.heap.size < W1.heap.size:=by omega
 refine ⟨w.heap.size+1,[markOf w.heap.size],W1,{ target:=.fn (.func gf) lb,args:=#[.func (.yield (w.heap.size+1)) #[] #[]] },W1,gf,#[.func (.yield (w.heap.size+1)) #[] #[]] ++ lb,W1,?_,?_,fun _ _=>trivial,?_,fun h=>by simp [Fence.wide] at h,?_⟩
 . rw [<- hW1,hrec];exact run_enterLoop_outer _ _ _ _ _
 . simp only [resolve,hg]
   simp [go_sem]
 . simp [invoke,go_sem,eg]
 . refine (hseq (w.heap.size+1)
    (fun pre W=>I pre W ∧ W.heap[w.heap.size+1]?=some (.loop (rec .ready none)) ∧ W.heap[w.heap.size]?=some (.deferred (some [])))
    W1 hlt1 (by omega) hk1 (fun s=>((hI s).up hk1.size).and ((stays_at hlt1).and (stays_at hlt0))) ?_ ⟨(hI []).kp h0 hk1,hL1,hD1⟩).mono ?_
   . rintro pre x W0 W ⟨hi0,hl0,hd0⟩ hk0 hx hlen
     have hi:=hprep pre x W0 W hi0 hk0 hx hlen
     have hl:=kept hk0 hl0
     have hd:=kept hk0 hd0
     have hlt:w.heap.size+1 < W.heap.size:=(Array.getElem?_eq_some_iff.1 hl).1
     have hy:=run_yield (P:=P) (args:=encs x) hl (by rw [hrec];exact hps x)
     rw [hrec] at hy
     refine ⟨fn,_,assign,body,hy,roundIn_of_wpIn hfn (hassign pre x W hi _ fun a' Wa hka hAa=>?_)⟩
     have hla:=kept hka hl
     have hda:=kept hka hd
     refine ⟨Wa.putObj (w.heap.size+1) (.loop { rec .ready none with state:=.busy }),by have:=run_beginRound (P:=P) hla (by rw [hrec]);exact this,?_⟩
     have hlta:w.heap.size+1 < Wa.heap.size:=(Array.getElem?_eq_some_iff.1 hla).1
     have hl2:(Wa.putObj (w.heap.size+1) (.loop { rec .ready none with state:=.busy })).heap[w.heap.size+1]?=some (.loop { rec .ready none with state:=.busy }):=World.putObj_heap_same hlta
     have hd2:(Wa.putObj (w.heap.size+1) (.loop { rec .ready none with state:=.busy })).heap[w.heap.size]?=some (.deferred (some [])):=(World.putObj_heap_other (by omega)).trans hda
     refine wpIn_mono (hbody pre x a' _ ((hI' pre x).put ((hI' pre x).kp hi hka) _ hla rfl) ((hA pre x a').put hAa _ hla rfl) hlen ⟨_,hl2,rfl⟩ ⟨_,hd2,rfl⟩) ?_
     have fin:∀ (jump:Option Code) (W3:World),Same2 (w.heap.size+1) w.heap.size (Wa.putObj (w.heap.size+1) (.loop { rec .ready none with state:=.busy })) W3->
      (Instr.endRound (w.heap.size+1) jump).run P W3=.ok (.bool jump.isNone) (W3.putObj (w.heap.size+1) (.loop (rec (if jump.isNone then .ready else .done) jump))) ∧
      W3.heap[w.heap.size+1]?=some (.loop { rec .ready none with state:=.busy }) ∧
      (W3.putObj (w.heap.size+1) (.loop (rec (if jump.isNone then .ready else .done) jump))).heap[w.heap.size+1]?=some (.loop (rec (if jump.isNone then .ready else .done) jump)) ∧
      (W3.putObj (w.heap.size+1) (.loop (rec (if jump.isNone then .ready else .done) jump))).heap[w.heap.size]?=some (.deferred (some [])):=fun jump W3 hs=>by
      have hl3:=hs.1.trans hl2
      have hd3:=hs.2.trans hd2
      have:=run_endRound (P:=P) jump hl3
      rw [hrec] at this ⊢
      exact ⟨this,by rw [hrec] at hl3;exact hl3,World.putObj_heap_same (Array.getElem?_eq_some_iff.1 hl3).1,(World.putObj_heap_other (by omega)).trans hd3⟩
     rintro e a3 W3 hp
     cases e with
     |normal=>
      obtain ⟨hs,hk3,hi3⟩:=hp
      obtain ⟨hr,hl3,hl4,hd4⟩:=fin none W3 hs
      exact ⟨_,_,hr,⟨rfl,⟨(hI _).put hi3 _ (by omega) hl3 rfl,hl4,hd4⟩,(hZ x).put hk3 _ hl3 rfl⟩⟩
     |ret=>exact hp.2.elim
     |exit id=>exact hp.2.elim
     |goto t=>exact hp.2.elim
     |panic ch=>exact hp.elim
     |outgrown=>exact hp.elim
   . rintro e W2 ⟨⟨v,rfl⟩,xs,hS,hi,hl,hd⟩
     exact ⟨none,_,by have:=run_endLoop (P:=P) hl (by rw [hrec];simp);rw [hrec] at this;exact this,hdone _ _ hS ((hI _).put hi _ (by omega) hl rfl) ((World.putObj_heap_other (by omega)).trans hd)⟩
end
section
variable {Q:Exit->Act->World->Prop} {a:Act} {w:World}
open Go.RowKit Go.Shelf
attribute [local go_sem] Oper.semAt_some
theorem pvs_r3(l m g4:Nat)(za zb:Int)(hb4:Blk w g4 176 #[.int .i64 za,.int .i64 zb])(R:Ending->World->Prop)(HY:∃ fn tmps assign body,(Instr.yield l #[.agg #[.int .i64 za,.int .i64 zb]]).run Tryz.prog w=.ok (.round l fn tmps assign body) w ∧ RoundIn Fence.wide m Tryz.prog l fn tmps assign body w R)
 (hR:∀ e W,R e W->∃ b,e=.returned (.bool b)) (hsz:a.tmps.size=16) (o0:Sl a 0 (.func (.yield l) #[] #[])) (o4:Sl a 4 (Pq g4 0))
 (hend:∀ (a':Act) (W:World) (b:Bool),Same a a' [11,12,13,14]->Sl a' 14 (.bool (!b))->R (.returned (.bool b)) W->Q .normal a' W):(Code.region 3 (opsOf 3 Tryz.f145).toArray false).wp Tryz.prog Q a w:=by
 refine (wpIn_wide (n:=m+1)).1 ?_
 obtain ⟨fn,tmps,assign,body,hy,hRd⟩:=HY
 have hrun:(Instr.loadAt 176 (Pq g4 0)).run Tryz.prog w=.ok (.agg #[.int .i64 za,.int .i64 zb]) w:=run_loadAt_agg w ⟨g4,0,none⟩ 176 (#[.int .i64 za,.int .i64 zb]:Array Value).toList _ hb4.agg Tryz.underlying176 rfl Tryz.infoRange
 obtain ⟨q1,q2,q3,q4⟩:=Blk.c2 hb4
 refine wpIn_region_lit ?_
 (conv=>arg 6;whnf)
 unfold Sl at o0 o4
 gi_wp2
 refine hRd.mono ?_
 intro e W h
 obtain ⟨b,rfl⟩:=hR e W h
 gi_wp2
 try simp only [Act.put]
 exact hend _ _ b sS sP h
theorem pvl_r0(w0:World)(A:Option Addr)(n c:Nat)(L:List Res)(S:Held w0 w L)(hsz:a.tmps.size=4)(o0:Sl a 0 (.slice A n c)):RG1 false 0 Tryz.f131 Q a w fun a' W q'=>(∃ g,Sl a' 1 (Pq g 0) ∧ Held w0 W (blkR g 164 #[.slice A n c] :: L))->q':=by
 intro hend
 refine wp_region_lit ?_
 (conv=>arg 4;whnf)
 unfold Sl at o0
 have S1:=LH (S.newBlk 164 #[.slice A n c])
 go_wp2
 try simp only [Act.put]
 exact hend _ _ tS (⟨w.heap.size,sP0,S1.out⟩)
theorem pvl_r1(g:Nat)(hsz:a.tmps.size=4)(o1:Sl a 1 (Pq g 0)):RG0 1 Tryz.f131 Q a w fun a' q'=>Sl a' 2 (.func (.func 145) #[] #[Pq g 0])->q':=rO
theorem pvals_any(A:Option Addr)(n c:Nat)(w:World):Calls Tryz.prog 131 #[.slice A n c] w fun e w'=>∃ g,e=.returned (.func (.func 145) #[] #[Pq g 0]) ∧ Held w w' [blkR g 164 #[.slice A n c]]:=by
 refine calls_fr Tryz.func131 rfl 4 rfl (fun a0 hsz hdf hAr=>?_)
 have hz0:a0.tmps.size=4:=hsz
 have D:=hdf
 have o0:=hAr 0 _ rfl
 refine wp_seq (pvl_r0 w A n c [] (Held.start w) hz0 o0 (fun a1 w1 hs1 h1=>?_))
 obtain ⟨hz1,D,o0⟩:=kq1 hs1 hz0 D o0
 obtain ⟨g1,o1,S⟩:=h1
 refine wp_seq (pvl_r1 g1 hz1 o1 (fun a2 hs2 o2=>?_))
 obtain ⟨hz2,D,o1⟩:=kq1 hs2 hz1 D o1
 refine wp_ret ?_
 exact bodyPost_ret (res_u1 (by rfl) (o2.eval (by rw [hz2];decide))) D ⟨g1,rfl,S⟩
theorem pvs_r0(g:Nat)(A:Option Addr)(n c:Nat)(hb:Blk w g 164 #[.slice A n c])(hsz:a.tmps.size=16)(o1:Sl a 1 (Pq g 0)):RG0 0 Tryz.f145 Q a w fun a' q'=>Sl a' 5 (.slice A n c)->Sl a' 6 (Nq n)->Sl a' 7 (Nq 0)->q':=by
 have c0:w.cell? ⟨g,0,none⟩=some (.slice A n c):=hb.cell 0
 exact rO
theorem pvs_r1(k n:Nat)(hsz:a.tmps.size=16)(o6:Sl a 6 (Nq n))(o7:Sl a 7 (Nq k)):RG0 1 Tryz.f145 Q a w fun a' q'=>Sl a' 8 (.bool (decide (k < n)))->q':=rO
theorem pvs_r4(k:Nat)(hk:k < 9223372036854775807)(hsz:a.tmps.size=16)(o7:Sl a 7 (Nq k)):RG0 4 Tryz.f145 Q a w fun a' q'=>Sl a' 7 (Nq (k+1))->q':=by
 have hw:wrap64 ((k:Int)+1)=(k:Int)+1:=by unfold wrap64;omega
 exact rO
theorem pvs_r2(w0:World)(ad:Addr)(k n c:Nat)(hk:k < n)(za zb:Int)(hc:∀ j u,(#[.int .i64 za,.int .i64 zb]:Array Value).toList[j]?=some u->w.cell? ((ad.add (k * 2)).add j)=some u)(L:List Res)(S:Held w0 w L)(hsz:a.tmps.size=16)(o5:Sl a 5 (.slice (some ad) n c))(o7:Sl a 7 (Nq k)):RG1 false 2 Tryz.f145 Q a w fun a' W q'=>(∃ g4,Sl a' 4 (Pq g4 0) ∧ Held w0 W (blkR g4 176 #[.int .i64 za,.int .i64 zb] :: L))->q':=by
 intro hend
 refine wp_region_lit ?_
 (conv=>arg 4;whnf)
 unfold Sl at o5 o7
 have h0:0<=(k:Int):=by omega
 have h1:(k:Int) < (n:Int):=by omega
 have HC:=LH hc
 clear hc
 have S7:=LH (S.newBlk 176 #[.int .i64 za,.int .i64 zb])
 go_wp2_with (refine wpList_load_agg rfl 176 (.tmp 9) rfl (ad.add (k * 2)) aE (#[.int .i64 za,.int .i64 zb]:Array Value).toList _ HC.out Tryz.underlying176 rfl (by rw [Array.length_toList];exact Tryz.infoRange) ?_)
 try simp only [Act.put]
 exact hend _ _ tS (⟨_,sP0,S7.out⟩)
theorem rd_range_at{w:World}{ad:Addr}{n c:Nat}{l:List (Nat × Nat)}(h:Rd w 2 (.slice (some ad) n c) n (rgC l)){k:Nat}{r:Nat × Nat}(hx:l[k]?=some r):∀ j u,(#[.int .i64 (r.1:Int),.int .i64 (r.2:Int)]:Array Value).toList[j]?=some u->w.cell? ((ad.add (k * 2)).add j)=some u:=fun j u hu=>by
 obtain ⟨-,A',c',e,-,-,-,h5⟩:=h
 cases e
 obtain ⟨h1,h2⟩:=rgC_get hx
 rw [add_of_add]
 refine h5 ad rfl _ _ ?_
 rcases j with _|j
 . cases hu;exact h1
 rcases j with _|j
 . cases hu;exact h2
 . cases hu
def VR.encs (x:Nat × Nat):Array Value:=#[.agg #[.int .i64 (x.1:Int),.int .i64 (x.2:Int)]]
theorem pvs_seq(g:Nat)(A:Option Addr)(c:Nat)(l:List (Nat × Nat))(hl:l.length<=1000000)(w:World)(hb:Blk w g 164 #[.slice A l.length c])(hv:Rd w 2 (.slice A l.length c) l.length (rgC l))(n:Nat):
 SeqW Tryz.prog n 145 #[Pq g 0] VR.encs (fun _ W=>Rd W 2 (.slice A l.length c) l.length (rgC l)) (fun pre x _ _=>l[pre.length]?=some x) (fun xs=>xs.length=l.length) (fun _=>True) l.length w:=by
 intro ll J Jx W hk hJ hJx hY h0
 have hvW:=rd_old hv hk
 refine callsIn_wide.2 ?_
 refine calls_fr Tryz.func145 rfl 16 rfl (fun a0 hsz hdf hAr=>?_)
 have hz0:a0.tmps.size=16:=hsz
 have D:=hdf
 have o0:=hAr 0 _ rfl
 have o1:=hAr 1 _ rfl
 refine wp_seq (pvs_r0 g A l.length c (hb.kp hk (by simp)) hz0 o1 (fun a1 hs1 o5 o6 o7=>?_))
 obtain ⟨hz1,D,o0,o1⟩:=kq2 hs1 hz0 D o0 o1
 refine wp_block ?_
 (conv=>arg 2;whnf)
 refine wp_loop (fun a' w'=>∃ (pre:List (Nat × Nat)),pre.length<=l.length ∧ a'.tmps.size=16 ∧ a'.defers=[] ∧ Sl a' 0 (.func (.yield ll) #[] #[]) ∧ Sl a' 5 (.slice A l.length c) ∧ Sl a' 6 (Nq (l.length)) ∧ Sl a' 7 (Nq (pre.length)) ∧ J pre w' ∧ Rd w' 2 (.slice A l.length c) l.length (rgC l)) (fun a' _=>l.length - (intOf (a'.eval (.tmp 7))).toNat) ⟨[],Nat.zero_le _,hz1,D,o0,o5,o6,o7,h0,hvW⟩ ?_
 iterate 9 (try clear o0)
 iterate 9 (try clear o5)
 iterate 9 (try clear o6)
 iterate 9 (try clear o7)
 iterate 9 (try clear D)
 clear hvW
 rintro a2 w2 ⟨pre,hpl,hz2,D,o0,o5,o6,o7,hJ2,hv2⟩
 have e7:=o7.eval (by rw [hz2];decide)
 refine wp_seq (pvs_r1 pre.length l.length hz2 o6 o7 (fun a3 hs3 o8=>?_))
 obtain ⟨hz3,D,o0,o5,o6,o7⟩:=kq4 hs3 hz2 D o0 o5 o6 o7
 by_cases hlt:pre.length < l.length
 . refine wp_seq (wcT o8 (wp_skip ?_) (by rw [decide_eq_true hlt]))
   simp only [Exit.then]
   obtain ⟨r,hr⟩:∃ r,l[pre.length]?=some r:=⟨_,List.getElem?_eq_getElem hlt⟩
   obtain ⟨ad,rfl⟩:=rd_addr hv2 (by omega)
   refine wp_seq (wp_block ?_)
   refine wp_seq (pvs_r2 w2 ad pre.length l.length c hlt (r.1:Int) (r.2:Int) (rd_range_at hv2 hr) [] (Held.start w2) hz3 o5 o7 (fun a4 w4 hs4 h4=>?_))
   obtain ⟨hz4,D,o0,o5,o6,o7,o8⟩:=kq5 hs4 hz3 D o0 o5 o6 o7 o8
   obtain ⟨g4,o4,S⟩:=h4
   refine wp_seq (pvs_r3 ll (n - 1) g4 (r.1:Int) (r.2:Int) (S.at_ (l1:=[])) _ (hY pre r w2 w4 hJ2 S.k hr hlt) (fun e V h=>by rcases h with ⟨rfl,-⟩|⟨rfl,-⟩ <;> exact ⟨_,rfl⟩) hz4 o0 o4 (fun a5 w5 b hs5 o14 h5=>?_))
   obtain ⟨hz5,D,o0,o5,o6,o7⟩:=kq4 hs5 hz4 D o0 o5 o6 o7
   rcases h5 with ⟨e,hJ5,hZ5⟩|⟨e,hJx5⟩
   . cases e
     refine wcF o14 (wp_skip ?_)
     simp only [Exit.inBlock,Exit.then]
     refine pvs_r4 pre.length (by omega) hz5 o7 (fun a6 hs6 o7=>?_)
     have hz6:=hs6.size.trans hz5
     refine ⟨⟨pre ++ [r],by rw [List.length_append,List.length_singleton];omega,hz6,hs6.defers.trans D,hs6.q o0,hs6.q o5,hs6.q o6,by rw [List.length_append,List.length_singleton];exact o7,hJ5,hZ5⟩,?_⟩
     show l.length - (intOf _).toNat < l.length - (intOf _).toNat
     rw [e7,o7.eval (by rw [hz6];decide)]
     simp only [intOf];omega
   . cases e
     refine wcT o14 ?_
     refine wp_ret ?_
     simp only [Exit.then,Exit.inBlock]
     exact ⟨D,_,res_u0 (by rfl),⟨_,rfl⟩,.inr ⟨_,trivial,hJx5⟩⟩
 . refine wp_seq (wcF o8 (wp_exit ?_) (by rw [decide_eq_false hlt]))
   simp only [Exit.then,Exit.inBlock]
   exact ⟨D,_,res_u0 (by rfl),⟨_,rfl⟩,.inl ⟨pre,by omega,hJ2⟩⟩
end
section
open Go.RowKit
section
variable {F:Fence} {nF:Nat} {P:Program} {ops:Array Oper} {rest:List Oper} {o:Oper} {a:Act} {w:World} {Q:Exit->Act->World->Prop}
theorem wpListIn_met(j d:Nat)(b:Bool)(hg:o.guard=some (j,b))(hj:(ops[j]?).bind (·.dst)=some d)(hd:a.tmps[d]?.getD undef=.bool b)
 (h:∀ K:Act->World->Prop,(∀ a w,wpListIn F nF P ops Q rest a w->K a w)->o.wpIn F nF P a w K Q):wpListIn F nF P ops Q (o :: rest) a w:=
 BigFrame.wpListIn_want (by simp [Region.wanted,hg,yielded_of hj hd]) h
theorem wpListIn_load_blkG(j d:Nat)(b:Bool)(hg:o.guard=some (j,b))(hj:(ops[j]?).bind (·.dst)=some d)(hd:a.tmps[d]?.getD undef=.bool b)
 (ty:TypeId) (x:Operand) (ho:o.op=.load ty x) (g:Nat) (hx:a.eval x=Pq g 0)
 (t:TypeId) (cs:Array Value) (hb:Blk w g t cs) (ds:TypeDesc) (hu:P.underlying ty=some ds) (hds:aggB ds=true) (hi:(P.info? ty).map (·.size)=some cs.size)
 (h:wpListIn F nF P ops Q rest (a.put o.dst (.agg cs)) w):wpListIn F nF P ops Q (o :: rest) a w:=
 BigFrame.wpListIn_want (by simp [Region.wanted,hg,yielded_of hj hd]) fun K hK=>by
  refine ⟨fun f hf=>?_,?_⟩
  . simp [Oper.about,ho] at hf
  . rw [Oper.semAt_eq _ _ _ (by simp [ho]),exec_load ho hx (run_loadAt_agg w ⟨g,0,none⟩ ty cs.toList ds hb.agg hu hds (by rw [hi,Array.length_toList]))]
    exact hK _ _ h
end
end
end Go.Proofs.YtmkfopmdingaoaaGreatDoor
