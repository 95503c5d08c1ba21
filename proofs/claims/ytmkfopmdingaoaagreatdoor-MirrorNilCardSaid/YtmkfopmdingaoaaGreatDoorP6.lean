/- Several texts in one: TreA, SigAM, SigAN, SigAO, SigAP, TreB, TreC, RegM, TreD, TreE, TreF, TreG, ConA, ConB, ConC, ConD. -/
import Derived.Laws.EntriesVeiled
import Derived.Test.YtmkfopmdingaoaaGreatDoorP5
set_option linter.unusedVariables false
set_option linter.unusedSimpArgs false
set_option maxRecDepth 100000
set_option maxHeartbeats 8000000
namespace Go.Proofs.YtmkfopmdingaoaaGreatDoor
section
variable {Q:Exit->Act->World->Prop} {a:Act} {w:World}
open Go.RowKit Go.Shelf
theorem flat_take{ls:List (List UInt8)}{k:Nat}{l:List UInt8}(h:ls[k]?=some l):(ls.take (k+1)).flatten=(ls.take k).flatten ++ l:=by
 rw [List.take_add_one,h];simp
theorem flat_take_le{ls:List (List UInt8)}{k:Nat}{l:List UInt8}(h:ls[k]?=some l):(ls.take k).flatten.length+l.length<=ls.flatten.length:=by
 have h1:ls.flatten=(ls.take (k+1)).flatten ++ (ls.drop (k+1)).flatten:=by rw [<- List.flatten_append,List.take_append_drop]
 rw [h1,flat_take h]
 simp
theorem tsu_r0(w0:World)(L:List Res)(S:Held w0 w L)(hsz:a.tmps.size=19):RG1 false 0 Tryz.f120 Q a w fun a' W q'=>(∃ g,Sl a' 2 (Pq g 0) ∧ Held w0 W (blkR g 23 (hashA (List.replicate 32 0)) :: L))->q':=by
 intro hend
 refine wp_region_lit ?_
 (conv=>arg 4;whnf)
 have S1:=LH (S.newBlk 23 (hashA (List.replicate 32 0)))
 go_wp2
 try simp only [Act.put]
 exact hend _ _ tS (⟨w.heap.size,sP0,S1.out⟩)
theorem tsu_r1(w0:World)(L:List Res)(S:Held w0 w L)(hsz:a.tmps.size=19):RG1 false 1 Tryz.f120 Q a w fun a' W q'=>(∃ g,Sl a' 3 (Pq g 0) ∧ Held w0 W (blkR g 214 (shaC hF (List.replicate 64 0) 0) :: L))->q':=by
 intro hend
 refine wp_region_lit ?_
 (conv=>arg 4;whnf)
 have HR:=LH (snew_any w0 w L S)
 clear S
 go_wp2_with fail
 refine HR.out.mono ?_
 rintro e w1 ⟨g,rfl,S1⟩
 have S1:=LH S1
 go_wp2_with fail
 try simp only [Act.put]
 exact hend _ _ tS (⟨g,sP0,S1.out⟩)
theorem tsu_r2(A:Option Addr)(n c:Nat)(hsz:a.tmps.size=19)(o0:Sl a 0 (.slice A n c)):RG0 2 Tryz.f120 Q a w fun a' q'=>Sl a' 7 (.slice A n c)->Sl a' 8 (Nq n)->Sl a' 9 (Nq 0)->q':=rO
theorem tsu_r3(k n:Nat)(hsz:a.tmps.size=19)(o8:Sl a 8 (Nq n))(o9:Sl a 9 (Nq k)):RG0 3 Tryz.f120 Q a w fun a' q'=>Sl a' 10 (.bool (decide (k < n)))->q':=rO
theorem tsu_r4(ad:Addr)(k n c:Nat)(hk:k < n)(u:Value)(hu:w.cell? (ad.add k)=some u)(hus:∃ Au nu cu,u=.slice Au nu cu)(hsz:a.tmps.size=19)(o7:Sl a 7 (.slice (some ad) n c))(o9:Sl a 9 (Nq k)):RG0 4 Tryz.f120 Q a w fun a' q'=>Sl a' 5 (u)->q':=by
 have h0:0<=(k:Int):=by omega
 have h1:(k:Int) < (n:Int):=by omega
 obtain ⟨Au,nu,cu,rfl⟩:=hus
 exact rO
theorem tsu_r5(g3:Nat)(u:Value)(R:World->Prop)(HC0:Calls Tryz.prog 134 #[Pq g3 0,u] w fun e w'=>e=.returned (.tuple #[]) ∧ R w')(hsz:a.tmps.size=19)(o3:Sl a 3 (Pq g3 0))(o5:Sl a 5 (u)):RG1 false 5 Tryz.f120 Q a w fun a' W q'=>(R W)->q':=by
 intro hend
 refine wp_region_lit ?_
 (conv=>arg 4;whnf)
 unfold Sl at o3 o5
 have HC:=LH HC0
 clear HC0
 go_wp2_with fail
 refine HC.out.mono ?_
 rintro e w1 ⟨rfl,r1⟩
 have r1:=LH r1
 go_wp2_with fail
 try simp only [Act.put]
 exact hend _ _ tS (r1.out)
theorem tsu_r6(k:Nat)(hk:k < 9223372036854775807)(hsz:a.tmps.size=19)(o9:Sl a 9 (Nq k)):RG0 6 Tryz.f120 Q a w fun a' q'=>Sl a' 9 (Nq (k+1))->q':=by
 have hw:wrap64 ((k:Int)+1)=(k:Int)+1:=by unfold wrap64;omega
 exact rO
theorem tsu_r7(w0:World)(g2 g3:Nat)(cz ch cs':Array Value)(hcz:cz.size=32)(hch:ch.size=32)(h1:∀ u,u ∈ ch.toList->u.oneCell'=true)(L:List Res)(HC0:Calls Tryz.prog 135 #[Pq g3 0] w fun e w'=>e=.returned (.agg ch) ∧ Held w0 w' (blkR g3 214 cs' :: blkR g2 23 cz :: L))(hsz:a.tmps.size=19)(o2:Sl a 2 (Pq g2 0))(o3:Sl a 3 (Pq g3 0)):RG1 false 7 Tryz.f120 Q a w fun a' W q'=>(Held w0 W (blkR g3 214 cs' :: blkR g2 23 ch :: L))->q':=by
 intro hend
 refine wp_region_lit ?_
 (conv=>arg 4;whnf)
 unfold Sl at o2 o3
 have HC:=LH HC0
 clear HC0
 have hcz:=LH hcz
 have hch:=LH hch
 have HO:=LH h1
 clear h1
 go_wp2_with fail
 refine HC.out.mono ?_
 rintro e w1 ⟨rfl,S1⟩
 have S1:=LH S1
 go_wp2_with (refine wpList_store_blk rfl 23 (.tmp 2) (.tmp 18) rfl g2 (aO o2) ch aE 23 _ (S1.out.at_ (l1:=[_])) (by rw [hch.out];exact Tryz.infoHashP) (by rw [hch.out,hcz.out]) HO.out ?_;intro w7 b7 k7;have S7:=LH (Held.setBlk (l1:=[_]) S1.out b7 k7);clear b7 k7)
 try simp only [Act.put]
 exact hend _ _ tS (S7.out)
theorem ssums_any(x:Value)(vs:List Value)(ls:List (List UInt8))(hsum:ls.flatten.length < 1152921504606846976)(w:World)(hx:TxF w x vs ls):
 Calls Tryz.prog 120 #[x] w fun e w'=>e=.returned (.agg (hashA (shaF ls.flatten))) ∧ Kp [] w w':=by
 obtain ⟨A,c,rfl⟩:=rd_form hx.1
 refine calls_fr Tryz.func120 rfl 19 rfl (fun a0 hsz hdf hAr=>?_)
 have hz0:a0.tmps.size=19:=hsz
 have D:=hdf
 have o0:=hAr 0 _ rfl
 refine wp_seq (tsu_r0 w [] (Held.start w) hz0 (fun a1 w1 hs1 h1=>?_))
 obtain ⟨hz1,D,o0⟩:=kq1 hs1 hz0 D o0
 obtain ⟨g2,o2,S⟩:=h1
 refine wp_seq (tsu_r1 w _ S hz1 (fun a2 w2 hs2 h2=>?_))
 obtain ⟨hz2,D,o0,o2⟩:=kq2 hs2 hz1 D o0 o2
 obtain ⟨g3,o3,S⟩:=h2
 refine wp_seq (wp_seq (tsu_r2 A ls.length c hz2 o0 (fun a3 hs3 o7 o8 o9=>?_)))
 obtain ⟨hz3,D,o0,o2,o3⟩:=kq3 hs3 hz2 D o0 o2 o3
 refine wp_block ?_
 (conv=>arg 2;whnf)
 refine wp_loop (fun a' w'=>∃ (k:Nat) (st:List Nat) (blk:Bs),k<=ls.length ∧ a'.tmps.size=19 ∧ a'.defers=[] ∧ Sl a' 2 (Pq g2 0) ∧ Sl a' 3 (Pq g3 0) ∧ Sl a' 7 (.slice A ls.length c) ∧ Sl a' 8 (Nq (ls.length)) ∧ Sl a' 9 (Nq k) ∧ Und (ls.take k).flatten st blk ∧ Held w w' [blkR g3 214 (shaC st blk (ls.take k).flatten.length),blkR g2 23 (hashA (List.replicate 32 0))]) (fun a' _=>ls.length - (intOf (a'.eval (.tmp 9))).toNat) ⟨0,hF,List.replicate 64 0,Nat.zero_le _,hz3,D,o2,o3,o7,o8,o9,Und.new,S⟩ ?_
 iterate 9 (try clear o0)
 iterate 9 (try clear o2)
 iterate 9 (try clear o3)
 iterate 9 (try clear o7)
 iterate 9 (try clear o8)
 iterate 9 (try clear o9)
 iterate 9 (try clear S)
 iterate 9 (try clear D)
 rintro a4 w4 ⟨k,st,blk,hk,hz4,D,o2,o3,o7,o8,o9,hU,S⟩
 have e9:=o9.eval (by rw [hz4];decide)
 refine wp_seq (tsu_r3 k ls.length hz4 o8 o9 (fun a5 hs5 o10=>?_))
 obtain ⟨hz5,D,o2,o3,o7,o8,o9⟩:=kq5 hs5 hz4 D o2 o3 o7 o8 o9
 by_cases hlt:k < ls.length
 . refine wp_seq (wcT o10 (wp_skip ?_) (by rw [decide_eq_true hlt]))
   simp only [Exit.then]
   obtain ⟨l,hl⟩:∃ l,ls[k]?=some l:=⟨_,List.getElem?_eq_getElem hlt⟩
   obtain ⟨u,hu,hru⟩:∃ u,vs[k]?=some u ∧ Rd w 1 u l.length (bv l):=by
    obtain ⟨u,h1,h2⟩:=hx.2 k hlt
    rw [(List.getElem?_eq_some_iff.1 hl).2] at h2
    exact ⟨u,h1,h2⟩
   obtain ⟨ad,rfl⟩:∃ ad,A=some ad:=by
    obtain ⟨_,A',c',e,_,_,hA,_⟩:=hx.1
    cases e
    cases A with
    |none=>have:=(hA rfl).1;omega
    |some ad=>exact ⟨ad,rfl⟩
   have hcu:=(hx.kp0 S.k).at_ hu
   have hle:=flat_take_le hl
   have HT':=take_any w g3 (ls.take k).flatten l st blk hU (by omega) u [blkR g2 23 (hashA (List.replicate 32 0))] w4 (fun V cs SV=>rd_old hru SV.k) S
   refine wp_seq (wp_block ?_)
   refine wp_seq (tsu_r4 ad k ls.length c hlt u hcu (by obtain ⟨Au,cu,h⟩:=rd_form hru;exact ⟨_,_,_,h⟩) hz5 o7 o9 (fun a6 hs6 o5=>?_))
   obtain ⟨hz6,D,o2,o3,o7,o8,o9,o10⟩:=kq6 hs6 hz5 D o2 o3 o7 o8 o9 o10
   refine tsu_r5 g3 u _ HT' hz6 o3 o5 (fun a7 w7 hs7 h7=>?_)
   obtain ⟨st',blk',hU',S⟩:=h7
   obtain ⟨hz7,D,o2,o3,o7,o8,o9⟩:=kq5 hs7 hz6 D o2 o3 o7 o8 o9
   rw [<- flat_take hl] at hU' S
   simp only [Exit.inBlock,Exit.then]
   refine tsu_r6 k (by have:=(List.getElem?_eq_some_iff.1 hl).1;have h9:ls.length<=9223372036854775807:=(by obtain ⟨_,_,_,_,_,h1,_⟩:=hx.1;unfold maxLen at h1;omega);omega) hz7 o9 (fun a8 hs8 o9=>?_)
   have hz8:=hs8.size.trans hz7
   refine ⟨⟨k+1,st',blk',hlt,hz8,hs8.defers.trans D,hs8.q o2,hs8.q o3,hs8.q o7,hs8.q o8,o9,hU',S⟩,?_⟩
   show ls.length - (intOf _).toNat < ls.length - (intOf _).toNat
   rw [e9,o9.eval (by rw [hz8];decide)]
   simp only [intOf];omega
 . refine wp_seq (wcF o10 (wp_exit ?_) (by rw [decide_eq_false hlt]))
   simp only [Exit.then,Exit.inBlock]
   obtain rfl:k=ls.length:=by omega
   rw [List.take_length] at hU S
   have HS:=ssum_any w g3 ls.flatten st blk hU hsum [blkR g2 23 (hashA (List.replicate 32 0))] w4 S
   refine wp_seq (tsu_r7 w g2 g3 _ _ _ rfl (by rw [hashA_size,shaF_length]) (hashA_one _) [] HS hz5 o2 o3 (fun a6 w6 hs6 S=>?_))
   have hz6:=hs6.size.trans hz5;have o2:=hs6.q o2
   refine wp_ret ?_
   exact bodyPost_ret (results_cell1 (by rfl) (o2.eval (by rw [hz6];decide)) (S.at_ (l1:=[_])) Tryz.underlying23 rfl (by rw [hashA_size,shaF_length];exact Tryz.infoHashP)) (hs6.defers.trans D) ⟨rfl,S.k⟩
theorem tho_r0(w0:World)(L:List Res)(S:Held w0 w L)(hsz:a.tmps.size=5):RG1 false 0 Tryz.f106 Q a w fun a' W q'=>(∃ g,Sl a' 2 (Pq g 0) ∧ Held w0 W (blkR g 23 (hashA (List.replicate 32 0)) :: L))->q':=by
 intro hend
 refine wp_region_lit ?_
 (conv=>arg 4;whnf)
 have S1:=LH (S.newBlk 23 (hashA (List.replicate 32 0)))
 go_wp2
 try simp only [Act.put]
 exact hend _ _ tS (⟨w.heap.size,sP0,S1.out⟩)
theorem tho_r1(w0:World)(u:Value)(g2:Nat)(cz ch:Array Value)(hcz:cz.size=32)(hch:ch.size=32)(h1:∀ u,u ∈ ch.toList->u.oneCell'=true)(L:List Res)(S:Held w0 w (blkR g2 23 cz :: L))(HC0:Calls Tryz.prog 120 #[u] w fun e w'=>e=.returned (.agg ch) ∧ Kp [] w w')(hsz:a.tmps.size=5)(o0:Sl a 0 (u))(o2:Sl a 2 (Pq g2 0)):RG1 false 1 Tryz.f106 Q a w fun a' W q'=>(Held w0 W (blkR g2 23 ch :: L))->q':=by
 intro hend
 refine wp_region_lit ?_
 (conv=>arg 4;whnf)
 unfold Sl at o0 o2
 have S:=LH S
 have HC:=LH HC0
 clear HC0
 have hcz:=LH hcz
 have hch:=LH hch
 have HO:=LH h1
 clear h1
 go_wp2_with fail
 refine HC.out.mono ?_
 rintro e w1 ⟨rfl,k1⟩
 have S1:=LH (S.out.kp k1)
 clear k1
 go_wp2_with (refine wpList_store_blk rfl 23 (.tmp 2) (.tmp 4) rfl g2 (aO o2) ch aE 23 _ (S1.out.at_ (l1:=[])) (by rw [hch.out];exact Tryz.infoHashP) (by rw [hch.out,hcz.out]) HO.out ?_;intro w7 b7 k7;have S7:=LH (Held.setBlk (l1:=[]) S1.out b7 k7);clear b7 k7)
 try simp only [Act.put]
 exact hend _ _ tS (S7.out)
theorem hof_any(x:Value)(ls:List (List UInt8))(hsum:ls.flatten.length < 1152921504606846976)(w:World)(hx:Txs w x ls):
 Calls Tryz.prog 106 #[x] w fun e w'=>e=.returned (.agg (hashA (shaF ls.flatten))) ∧ Kp [] w w':=by
 obtain ⟨vs,hx⟩:=hx.f
 refine calls_fr Tryz.func106 rfl 5 rfl (fun a0 hsz hdf hAr=>?_)
 have hz0:a0.tmps.size=5:=hsz
 have D:=hdf
 have o0:=hAr 0 _ rfl
 refine wp_seq (tho_r0 w [] (Held.start w) hz0 (fun a1 w1 hs1 h1=>?_))
 obtain ⟨hz1,D,o0⟩:=kq1 hs1 hz0 D o0
 obtain ⟨g2,o2,S⟩:=h1
 refine wp_seq (tho_r1 w x g2 _ _ rfl (by rw [hashA_size,shaF_length]) (hashA_one _) [] S (ssums_any x vs ls hsum w1 (hx.kp0 S.k)) hz1 o0 o2 (fun a2 w2 hs2 S=>?_))
 obtain ⟨hz2,D,o0,o2⟩:=kq2 hs2 hz1 D o0 o2
 refine wp_ret ?_
 exact bodyPost_ret (results_cell1 (by rfl) (o2.eval (by rw [hz2];decide)) (S.at_ (l1:=[])) Tryz.underlying23 rfl (by rw [hashA_size,shaF_length];exact Tryz.infoHashP)) D ⟨rfl,S.k⟩
theorem tro_r0(w0:World)(L:List Res)(S:Held w0 w L)(hsz:a.tmps.size=5):RG1 false 0 Tryz.f111 Q a w fun a' W q'=>(∃ g,Sl a' 2 (Pq g 0) ∧ Held w0 W (blkR g 23 (hashA (List.replicate 32 0)) :: L))->q':=by
 intro hend
 refine wp_region_lit ?_
 (conv=>arg 4;whnf)
 have S1:=LH (S.newBlk 23 (hashA (List.replicate 32 0)))
 go_wp2
 try simp only [Act.put]
 exact hend _ _ tS (⟨w.heap.size,sP0,S1.out⟩)
theorem tro_r1(w0:World)(u:Value)(g2:Nat)(cz ch:Array Value)(hcz:cz.size=32)(hch:ch.size=32)(h1:∀ u,u ∈ ch.toList->u.oneCell'=true)(L:List Res)(S:Held w0 w (blkR g2 23 cz :: L))(HC0:Calls Tryz.prog 124 #[u] w fun e w'=>e=.returned (.agg ch) ∧ Kp [] w w')(hsz:a.tmps.size=5)(o0:Sl a 0 (u))(o2:Sl a 2 (Pq g2 0)):RG1 false 1 Tryz.f111 Q a w fun a' W q'=>(Held w0 W (blkR g2 23 ch :: L))->q':=by
 intro hend
 refine wp_region_lit ?_
 (conv=>arg 4;whnf)
 unfold Sl at o0 o2
 have S:=LH S
 have HC:=LH HC0
 clear HC0
 have hcz:=LH hcz
 have hch:=LH hch
 have HO:=LH h1
 clear h1
 go_wp2_with fail
 refine HC.out.mono ?_
 rintro e w1 ⟨rfl,k1⟩
 have S1:=LH (S.out.kp k1)
 clear k1
 go_wp2_with (refine wpList_store_blk rfl 23 (.tmp 2) (.tmp 4) rfl g2 (aO o2) ch aE 23 _ (S1.out.at_ (l1:=[])) (by rw [hch.out];exact Tryz.infoHashP) (by rw [hch.out,hcz.out]) HO.out ?_;intro w7 b7 k7;have S7:=LH (Held.setBlk (l1:=[]) S1.out b7 k7);clear b7 k7)
 try simp only [Act.put]
 exact hend _ _ tS (S7.out)
theorem rof_any(x:Value)(m:Bs)(hm:m.length<=140737488355328)(w:World)(hx:Rd w 1 x m.length (bv m)):
 Calls Tryz.prog 111 #[x] w fun e w'=>e=.returned (.agg (hashA (shaF m))) ∧ Kp [] w w':=by
 obtain ⟨A,c,rfl⟩:=rd_form hx
 refine calls_fr Tryz.func111 rfl 5 rfl (fun a0 hsz hdf hAr=>?_)
 have hz0:a0.tmps.size=5:=hsz
 have D:=hdf
 have o0:=hAr 0 _ rfl
 refine wp_seq (tro_r0 w [] (Held.start w) hz0 (fun a1 w1 hs1 h1=>?_))
 obtain ⟨hz1,D,o0⟩:=kq1 hs1 hz0 D o0
 obtain ⟨g2,o2,S⟩:=h1
 refine wp_seq (tro_r1 w (.slice A m.length c) g2 _ _ rfl (by rw [hashA_size,shaF_length]) (hashA_one _) [] S ((rsha_any w1 [] A c m hm w1 (Held.start w1) (fun V L' SV=>rd_old hx (S.k.trans SV.k (by simp)))).mono (fun e w' h=>⟨h.1,h.2.k⟩)) hz1 o0 o2 (fun a2 w2 hs2 S=>?_))
 obtain ⟨hz2,D,o0,o2⟩:=kq2 hs2 hz1 D o0 o2
 refine wp_ret ?_
 exact bodyPost_ret (results_cell1 (by rfl) (o2.eval (by rw [hz2];decide)) (S.at_ (l1:=[])) Tryz.underlying23 rfl (by rw [hashA_size,shaF_length];exact Tryz.infoHashP)) D ⟨rfl,S.k⟩
theorem the_r0(w0:World)(L:List Res)(S:Held w0 w L)(hsz:a.tmps.size=2):RG1 false 0 Tryz.f74 Q a w fun a' W q'=>(∃ g,Sl a' 0 (Pq g 0) ∧ Held w0 W (blkR g 23 (hashA (List.replicate 32 0)) :: L))->q':=by
 intro hend
 refine wp_region_lit ?_
 (conv=>arg 4;whnf)
 have S1:=LH (S.newBlk 23 (hashA (List.replicate 32 0)))
 go_wp2
 try simp only [Act.put]
 exact hend _ _ tS (⟨w.heap.size,sP0,S1.out⟩)
theorem the_r1(w0:World)(g0:Nat)(cz ch:Array Value)(hcz:cz.size=32)(hch:ch.size=32)(h1:∀ u,u ∈ ch.toList->u.oneCell'=true)(L:List Res)(S:Held w0 w (blkR g0 23 cz :: L))(HC0:Calls Tryz.prog 106 #[.slice none 0 0] w fun e w'=>e=.returned (.agg ch) ∧ Kp [] w w')(hsz:a.tmps.size=2)(o0:Sl a 0 (Pq g0 0)):RG1 false 1 Tryz.f74 Q a w fun a' W q'=>(Held w0 W (blkR g0 23 ch :: L))->q':=by
 intro hend
 refine wp_region_lit ?_
 (conv=>arg 4;whnf)
 unfold Sl at o0
 have S:=LH S
 have HC:=LH HC0
 clear HC0
 have hcz:=LH hcz
 have hch:=LH hch
 have HO:=LH h1
 clear h1
 go_wp2_with fail
 refine HC.out.mono ?_
 rintro e w1 ⟨rfl,k1⟩
 have S1:=LH (S.out.kp k1)
 clear k1
 go_wp2_with (refine wpList_store_blk rfl 23 (.tmp 0) (.tmp 1) rfl g0 (aO o0) ch aE 23 _ (S1.out.at_ (l1:=[])) (by rw [hch.out];exact Tryz.infoHashP) (by rw [hch.out,hcz.out]) HO.out ?_;intro w7 b7 k7;have S7:=LH (Held.setBlk (l1:=[]) S1.out b7 k7);clear b7 k7)
 try simp only [Act.put]
 exact hend _ _ tS (S7.out)
theorem hempty_any(w:World):Calls Tryz.prog 74 #[] w fun e w'=>e=.returned (.agg (hashA emptyF)) ∧ Kp [] w w':=by
 refine calls_fr Tryz.func74 rfl 2 rfl (fun a0 hsz hdf hAr=>?_)
 have hz0:a0.tmps.size=2:=hsz
 have D:=hdf
 refine wp_seq (the_r0 w [] (Held.start w) hz0 (fun a1 w1 hs1 h1=>?_))
 obtain ⟨hz1,D⟩:=kq0 hs1 hz0 D
 obtain ⟨g0,o0,S⟩:=h1
 refine wp_seq (the_r1 w g0 _ _ rfl (by rw [hashA_size,shaF_length]) (hashA_one _) [] S (hof_any (.slice none 0 0) [] (by decide) w1 ⟨[],Rd.nil _ _,fun i hi=>by simp at hi⟩) hz1 o0 (fun a2 w2 hs2 S=>?_))
 obtain ⟨hz2,D,o0⟩:=kq1 hs2 hz1 D o0
 refine wp_ret ?_
 exact bodyPost_ret (results_cell1 (by rfl) (o0.eval (by rw [hz2];decide)) (S.at_ (l1:=[])) Tryz.underlying23 rfl (by rw [hashA_size,shaF_length];exact Tryz.infoHashP)) D ⟨rfl,S.k⟩
theorem tre_r0(w0:World)(L:List Res)(S:Held w0 w L)(hsz:a.tmps.size=2):RG1 false 0 Tryz.f79 Q a w fun a' W q'=>(∃ g,Sl a' 0 (Pq g 0) ∧ Held w0 W (blkR g 23 (hashA (List.replicate 32 0)) :: L))->q':=by
 intro hend
 refine wp_region_lit ?_
 (conv=>arg 4;whnf)
 have S1:=LH (S.newBlk 23 (hashA (List.replicate 32 0)))
 go_wp2
 try simp only [Act.put]
 exact hend _ _ tS (⟨w.heap.size,sP0,S1.out⟩)
theorem tre_r1(w0:World)(g0:Nat)(cz ch:Array Value)(hcz:cz.size=32)(hch:ch.size=32)(h1:∀ u,u ∈ ch.toList->u.oneCell'=true)(L:List Res)(S:Held w0 w (blkR g0 23 cz :: L))(HC0:Calls Tryz.prog 111 #[.slice none 0 0] w fun e w'=>e=.returned (.agg ch) ∧ Kp [] w w')(hsz:a.tmps.size=2)(o0:Sl a 0 (Pq g0 0)):RG1 false 1 Tryz.f79 Q a w fun a' W q'=>(Held w0 W (blkR g0 23 ch :: L))->q':=by
 intro hend
 refine wp_region_lit ?_
 (conv=>arg 4;whnf)
 unfold Sl at o0
 have S:=LH S
 have HC:=LH HC0
 clear HC0
 have hcz:=LH hcz
 have hch:=LH hch
 have HO:=LH h1
 clear h1
 go_wp2_with fail
 refine HC.out.mono ?_
 rintro e w1 ⟨rfl,k1⟩
 have S1:=LH (S.out.kp k1)
 clear k1
 go_wp2_with (refine wpList_store_blk rfl 23 (.tmp 0) (.tmp 1) rfl g0 (aO o0) ch aE 23 _ (S1.out.at_ (l1:=[])) (by rw [hch.out];exact Tryz.infoHashP) (by rw [hch.out,hcz.out]) HO.out ?_;intro w7 b7 k7;have S7:=LH (Held.setBlk (l1:=[]) S1.out b7 k7);clear b7 k7)
 try simp only [Act.put]
 exact hend _ _ tS (S7.out)
theorem rempty_any(w:World):Calls Tryz.prog 79 #[] w fun e w'=>e=.returned (.agg (hashA emptyF)) ∧ Kp [] w w':=by
 refine calls_fr Tryz.func79 rfl 2 rfl (fun a0 hsz hdf hAr=>?_)
 have hz0:a0.tmps.size=2:=hsz
 have D:=hdf
 refine wp_seq (tre_r0 w [] (Held.start w) hz0 (fun a1 w1 hs1 h1=>?_))
 obtain ⟨hz1,D⟩:=kq0 hs1 hz0 D
 obtain ⟨g0,o0,S⟩:=h1
 refine wp_seq (tre_r1 w g0 _ _ rfl (by rw [hashA_size,shaF_length]) (hashA_one _) [] S (rof_any (.slice none 0 0) [] (by decide) w1 (Rd.nil _ _)) hz1 o0 (fun a2 w2 hs2 S=>?_))
 obtain ⟨hz2,D,o0⟩:=kq1 hs2 hz1 D o0
 refine wp_ret ?_
 exact bodyPost_ret (results_cell1 (by rfl) (o0.eval (by rw [hz2];decide)) (S.at_ (l1:=[])) Tryz.underlying23 rfl (by rw [hashA_size,shaF_length];exact Tryz.infoHashP)) D ⟨rfl,S.k⟩
end
section
open Go.RowKit
theorem nmOk_len{s:List UInt8}(h:nmOk s=true):s.length<=64:=by
 unfold nmOk at h
 simp only [Bool.and_eq_true,decide_eq_true_eq] at h
 exact h.1.2
end
section
open Go.RowKit
theorem posN_lt{nm:List UInt8}{x:SigD}{l:List SigD}(h:cmpB x.1 nm < 0):posN nm (x :: l)=posN nm l+1:=by
 unfold posN
 rw [List.takeWhile_cons,if_pos (by simpa using h),List.length_cons]
theorem posN_ge{nm:List UInt8}{x:SigD}{l:List SigD}(h:¬ cmpB x.1 nm < 0):posN nm (x :: l)=0:=by
 unfold posN
 rw [List.takeWhile_cons,if_neg (by simpa using h)]
 rfl
theorem hasN_lt{nm:List UInt8}{x:SigD}{l:List SigD}(h:cmpB x.1 nm < 0):hasN nm (x :: l)=hasN nm l:=by
 unfold hasN
 rw [posN_lt h,List.getElem?_cons_succ]
theorem hasN_ge{nm:List UInt8}{x:SigD}{l:List SigD}(h:¬ cmpB x.1 nm < 0):hasN nm (x :: l)=decide (cmpB x.1 nm=0):=by
 unfold hasN
 rw [posN_ge h]
 rfl
end
section
open Go.RowKit
theorem op_store_blkS{P:Program}{o:Oper}{a:Act}{w0 w:World}{K:Act->World->Prop}{Q:Exit->Act->World->Prop}{L:List Res}(x y:Operand)(ty:TypeId)(ho:o.op=.store ty x y)(g:Nat)(hx:a.eval x=Pq g 0)(cs:Array Value)(hy:a.eval y=.agg cs)
 (t:TypeId) (old:Array Value) (S:Held w0 w (blkR g t old :: L)) (hi:(P.info? ty).map (·.size)=some cs.size) (hold:cs.size=old.size) (h1:∀ u,u ∈ cs.toList->u.oneCell'=true)
 (h:∀ w',Held w0 w' (blkR g t cs :: L)->K (a.put o.dst undef) w'):o.wp P a w K Q:=by
 refine op_store_part x y ty ho g 0 hx cs hy t old (S.at_ (l1:=[])) hi (by omega) h1 (fun w' h2 k2=>h w' (Held.setBlk (l1:=[]) S ?_ k2))
 rw [set_all _ _ hold.symm] at h2
 exact h2
end
section
variable {Q:Exit->Act->World->Prop} {a:Act} {w:World}
open Go.RowKit Go.Shelf
theorem rd_blkh{W:World}{g:Nat}{t:TypeId}{h:List UInt8}(hb:Blk W g t (hashA h))(hh:h.length=32):Rd W 1 (.slice (some ⟨g,0,none⟩) 32 32) h.length (bv h):=
 ⟨by rw [bv_length,Nat.mul_one],some ⟨g,0,none⟩,32,by rw [hh],by rw [hh];exact Nat.le_refl _,by simp [maxLen],(fun h=>by cases h),(fun ad had j u hu'=>by
  cases had
  rw [Addr.add_lit,hb.cell,<- Array.getElem?_toList,Nat.zero_add,hashA_list]
  exact hu')⟩
theorem txs_row3{W:World}{v u1 u2 u3:Value}{b1 b2 b3:List UInt8}(h:Rd W 1 v 3 [u1,u2,u3])(h1:Rd W 1 u1 b1.length (bv b1))(h2:Rd W 1 u2 b2.length (bv b2))(h3:Rd W 1 u3 b3.length (bv b3)):Txs W v [b1,b2,b3]:=by
 refine ⟨[u1,u2,u3],h,fun i hi=>?_⟩
 have:i=0 ∨ i=1 ∨ i=2:=by simp at hi;omega
 rcases this with rfl|rfl|rfl
 . exact ⟨u1,rfl,h1⟩
 . exact ⟨u2,rfl,h2⟩
 . exact ⟨u3,rfl,h3⟩
theorem thl_r0(w0:World)(L:List Res)(S:Held w0 w L)(hsz:a.tmps.size=7):RG1 false 0 Tryz.f91 Q a w fun a' W q'=>(∃ g,Sl a' 2 (Pq g 0) ∧ Held w0 W (blkR g 23 (hashA (List.replicate 32 0)) :: L))->q':=by
 intro hend
 refine wp_region_lit ?_
 (conv=>arg 4;whnf)
 have S1:=LH (S.newBlk 23 (hashA (List.replicate 32 0)))
 go_wp2
 try simp only [Act.put]
 exact hend _ _ tS (⟨w.heap.size,sP0,S1.out⟩)
theorem thl_r1(w0:World)(g2:Nat)(A:Option Addr)(c:Nat)(e:Bs)(he:e.length<=140737488355200)(hr:Rd w 1 (.slice A e.length c) e.length (bv e))(L:List Res)(S:Held w0 w (blkR g2 23 (hashA (List.replicate 32 0)) :: L))(hsz:a.tmps.size=7)(o0:Sl a 0 (.slice A e.length c))(o2:Sl a 2 (Pq g2 0)):RG1 false 1 Tryz.f91 Q a w fun a' W q'=>(Held w0 W (blkR g2 23 (hashA (leafF e)) :: L))->q':=by
 intro hend
 refine wp_region_lit ?_
 (conv=>arg 4;whnf)
 unfold Sl at o0 o2
 have hT:=txs2 32 (g:=w.heap.size+1) (by simp) (rd_lit w 5 #[.int .u8 0] [0] rfl (by decide)) (rd_old hr ((Kp.refl [] w).alloc (.cells #[.int .u8 0] 5)))
 have HR:=LH ((hof_any _ _ (by simp;omega) _ hT).mono (fun r w' h=>(⟨h.1.trans (by rw [show [[0],e].flatten=0 :: e by simp];rfl),h.2⟩:r=.returned (.agg (hashA (leafF e))) ∧ Kp [] _ w')))
 have S:=(S.alloc (.cells #[.int .u8 0] 5)).alloc (.cells #[.slice (some ⟨w.heap.size,0,none⟩) 1 1,.slice A e.length c] 32)
 clear hT hr
 have hz3:Hid ((hashA (leafF e)).size=32):=LH (by rw [hashA_size,leafF_length])
 have HO:=LH (hashA_one (leafF e))
 have hcz:Hid ((hashA (List.replicate 32 0)).size=32):=LH rfl
 obtain ⟨ch,hch0⟩:∃ ch,Hid (hashA (leafF e)=ch):=⟨_,LH rfl⟩
 have hch:=hz3
 rw [hch0.out] at HO hch
 clear hz3
 obtain ⟨cz,hcz0⟩:∃ cz,Hid ((hashA (List.replicate 32 0))=cz):=⟨_,LH rfl⟩
 rw [hcz0.out] at S hcz
 have S:=LH S
 rw [hch0.out] at HR
 clear he
 obtain ⟨nl,hnl⟩:∃ nl,Hid (e.length=nl):=⟨_,LH rfl⟩
 rw [hnl.out] at o0 HR S
 go_wp2_with fail
 refine HR.out.mono ?_
 rintro r w1 ⟨rfl,k1⟩
 have S1:=LH (S.out.kp k1)
 clear k1
 go_wp2_with (refine wpList_store_blk rfl 23 (.tmp 2) (.tmp 6) rfl g2 (aO o2) ch aE 23 _ (S1.out.at_ (l1:=[])) (by rw [hch.out];exact Tryz.infoHashP) (by rw [hch.out,hcz.out]) HO.out ?_;intro w7 b7 k7;have S7:=LH (Held.setBlk (l1:=[]) S1.out b7 k7);clear b7 k7)
 rw [<- hch0.out] at S7
 try simp only [Act.put]
 exact hend _ _ tS (S7.out)
theorem hleaf_any(A:Option Addr)(c:Nat)(e:Bs)(he:e.length<=140737488355200)(w:World)(hr:Rd w 1 (.slice A e.length c) e.length (bv e)):
 Calls Tryz.prog 91 #[.slice A e.length c] w fun r w'=>r=.returned (.agg (hashA (leafF e))) ∧ Kp [] w w':=by
 refine calls_fr Tryz.func91 rfl 7 rfl (fun a0 hsz hdf hAr=>?_)
 have hz0:a0.tmps.size=7:=hsz
 have D:=hdf
 have o0:=hAr 0 _ rfl
 refine wp_seq (thl_r0 w [] (Held.start w) hz0 (fun a1 w1 hs1 h1=>?_))
 obtain ⟨hz1,D,o0⟩:=kq1 hs1 hz0 D o0
 obtain ⟨g2,o2,S⟩:=h1
 refine wp_seq (thl_r1 w g2 A c e he (rd_old hr S.k) _ S hz1 o0 o2 (fun a2 w2 hs2 S=>?_))
 obtain ⟨hz2,D,o0,o2⟩:=kq2 hs2 hz1 D o0 o2
 refine wp_ret ?_
 exact bodyPost_ret (results_cell1 (by rfl) (o2.eval (by rw [hz2];decide)) (S.at_ (l1:=[])) Tryz.underlying23 rfl (by rw [hashA_size,leafF_length];exact Tryz.infoHashP)) D ⟨rfl,S.k⟩
theorem trl_r0(w0:World)(L:List Res)(S:Held w0 w L)(hsz:a.tmps.size=7):RG1 false 0 Tryz.f83 Q a w fun a' W q'=>(∃ g,Sl a' 2 (Pq g 0) ∧ Held w0 W (blkR g 23 (hashA (List.replicate 32 0)) :: L))->q':=by
 intro hend
 refine wp_region_lit ?_
 (conv=>arg 4;whnf)
 have S1:=LH (S.newBlk 23 (hashA (List.replicate 32 0)))
 go_wp2
 try simp only [Act.put]
 exact hend _ _ tS (⟨w.heap.size,sP0,S1.out⟩)
theorem trl_r1(w0:World)(g2:Nat)(A:Option Addr)(c:Nat)(e:Bs)(he:e.length<=140737488355200)(hr:Rd w 1 (.slice A e.length c) e.length (bv e))(L:List Res)(S:Held w0 w (blkR g2 23 (hashA (List.replicate 32 0)) :: L))(hsz:a.tmps.size=7)(o0:Sl a 0 (.slice A e.length c))(o2:Sl a 2 (Pq g2 0)):RG1 false 1 Tryz.f83 Q a w fun a' W q'=>(Held w0 W (blkR g2 23 (hashA (leafF e)) :: L))->q':=by
 intro hend
 refine wp_region_lit ?_
 (conv=>arg 4;whnf)
 unfold Sl at o0 o2
 have hz3:Hid ((hashA (leafF e)).size=32):=LH (by rw [hashA_size,leafF_length])
 have HO:=LH (hashA_one (leafF e))
 have hcz:Hid ((hashA (List.replicate 32 0)).size=32):=LH rfl
 obtain ⟨ch,hch0⟩:∃ ch,Hid (hashA (leafF e)=ch):=⟨_,LH rfl⟩
 have hch:=hz3
 rw [hch0.out] at HO hch
 clear hz3
 obtain ⟨cz,hcz0⟩:∃ cz,Hid ((hashA (List.replicate 32 0))=cz):=⟨_,LH rfl⟩
 rw [hcz0.out] at S hcz
 have hfl:Hid (∀ (W:World) (u:Value),Rd W 1 u (1+e.length) ([.int .u8 0] ++ bv e)->Calls Tryz.prog 111 #[u] W fun r w'=>r=.returned (.agg ch) ∧ Kp [] W w'):=LH (fun W u hu=>by
  have h:=rof_any u (0 :: e) (by simp;omega) W (by rw [List.length_cons,Nat.add_comm];exact hu)
  rw [show shaF (0 :: e)=leafF e from rfl,hch0.out] at h
  exact h)
 have S1:=LH (S.rownew (ow_new w 5 1 1 #[.int .u8 0] rfl (by decide)) ((Kp.refl [] w).alloc _) (fun g hg=>Nat.le_of_eq (Option.some.inj hg)))
 have HR:=LH (rd_old hr ((Kp.refl [] w).alloc (.cells #[.int .u8 0] 5)))
 clear hr S
 have hb1:Hid (1+e.length<=maxLen ∧ (1+e.length) * 1<=140737488355328):=LH (by unfold maxLen;omega)
 clear he
 obtain ⟨nl,hnl⟩:∃ nl,Hid (e.length=nl):=⟨_,LH rfl⟩
 rw [hnl.out] at o0 HR hb1 hfl
 go_wp2_with (at_builtin;refine wpList_appH rfl (.tmp 3) (.tmp 4) 32 5 rfl Tryz.infoU8 Tryz.underlying32 rfl (by decide) (.slice (some ⟨w.heap.size,0,none⟩) 1 1) 1 _ aE S1.out (.slice A nl c) nl (bv e) (aO o0) HR.out (bv_one _) hb1.out.1 hb1.out.2 ?_;intro v2 w2 S3;have S3:=LH S3)
 refine (hfl.out w2 v2 (Rd.of_own (e:=5) (S3.out.at_ (l1:=[])))).mono ?_
 rintro r w1 ⟨rfl,k1⟩
 have S1:=LH (S3.out.drop.kp k1)
 clear k1
 go_wp2_with (refine wpList_store_blk rfl 23 (.tmp 2) (.tmp 6) rfl g2 (aO o2) ch aE 23 _ (S1.out.at_ (l1:=[])) (by rw [hch.out];exact Tryz.infoHashP) (by rw [hch.out,hcz.out]) HO.out ?_;intro w7 b7 k7;have S7:=LH (Held.setBlk (l1:=[]) S1.out b7 k7);clear b7 k7)
 rw [<- hch0.out] at S7
 try simp only [Act.put]
 exact hend _ _ tS (S7.out)
theorem rleaf_any(A:Option Addr)(c:Nat)(e:Bs)(he:e.length<=140737488355200)(w:World)(hr:Rd w 1 (.slice A e.length c) e.length (bv e)):
 Calls Tryz.prog 83 #[.slice A e.length c] w fun r w'=>r=.returned (.agg (hashA (leafF e))) ∧ Kp [] w w':=by
 refine calls_fr Tryz.func83 rfl 7 rfl (fun a0 hsz hdf hAr=>?_)
 have hz0:a0.tmps.size=7:=hsz
 have D:=hdf
 have o0:=hAr 0 _ rfl
 refine wp_seq (trl_r0 w [] (Held.start w) hz0 (fun a1 w1 hs1 h1=>?_))
 obtain ⟨hz1,D,o0⟩:=kq1 hs1 hz0 D o0
 obtain ⟨g2,o2,S⟩:=h1
 refine wp_seq (trl_r1 w g2 A c e he (rd_old hr S.k) _ S hz1 o0 o2 (fun a2 w2 hs2 S=>?_))
 obtain ⟨hz2,D,o0,o2⟩:=kq2 hs2 hz1 D o0 o2
 refine wp_ret ?_
 exact bodyPost_ret (results_cell1 (by rfl) (o2.eval (by rw [hz2];decide)) (S.at_ (l1:=[])) Tryz.underlying23 rfl (by rw [hashA_size,leafF_length];exact Tryz.infoHashP)) D ⟨rfl,S.k⟩
theorem thn_r0(w0:World)(xa xb:Array Value)(L:List Res)(S:Held w0 w L)(hsz:a.tmps.size=10)(o0:Sl a 0 (.agg xa))(o1:Sl a 1 (.agg xb)):RG1 false 0 Tryz.f93 Q a w fun a' W q'=>(∃ g2 g3 g4,Sl a' 2 (Pq g2 0) ∧ Sl a' 3 (Pq g3 0) ∧ Sl a' 4 (Pq g4 0) ∧ Held w0 W (blkR g4 23 (hashA (List.replicate 32 0)) :: blkR g3 23 xb :: blkR g2 23 xa :: L))->q':=by
 intro hend
 refine wp_region_lit ?_
 (conv=>arg 4;whnf)
 unfold Sl at o0 o1
 have S1:=LH (((S.newBlk 23 xa).newBlkN 23 xb (g:=w.heap.size+1) (by simp)).newBlkN 23 (hashA (List.replicate 32 0)) (g:=w.heap.size+2) (by simp))
 go_wp2
 try simp only [Act.put]
 exact hend _ _ tS (⟨w.heap.size,w.heap.size+1,w.heap.size+2,sP0,sP0,sP0,S1.out⟩)
theorem thn_r1(w0:World)(g2 g3 g4:Nat)(ca cb:Bs)(ha:ca.length=32)(hb:cb.length=32)(L:List Res)(hsz:a.tmps.size=10)(o2:Sl a 2 (Pq g2 0))(o3:Sl a 3 (Pq g3 0))(o4:Sl a 4 (Pq g4 0))
 (S0:Held w0 w (blkR g4 23 (hashA (List.replicate 32 0)) :: blkR g2 23 (hashA ca) :: blkR g3 23 (hashA cb) :: L)):RG2 1 Tryz.f93 Q a w fun a' vs gs W q'=>Held w0 W (rowR 5 1 (vs 0) 1 (bv [1]) :: rowR 32 1 (vs 3) 3 [vs 0,.slice (some ⟨g2,0,none⟩) 32 32,.slice (some ⟨g3,0,none⟩) 32 32] :: blkR g4 23 (hashA (nodeF ca cb)) :: blkR g2 23 (hashA ca) :: blkR g3 23 (hashA cb) :: L)->q':=by
 intro hend
 have hap:=pa 1 Tryz.f93
 refine wp_region_sep (Γ:=Unit) (l:=(opsOf 1 Tryz.f93)) 4 [0,1,2,3,4,5,7,8,9]
  (fun i vs gs=>match i with|1=>vs 1=.slice (some ⟨g2,0,none⟩) 32 32|2=>vs 2=.slice (some ⟨g3,0,none⟩) 32 32|4=>vs 4=.agg (hashA (nodeF ca cb))|_=>True)
  (fun i vs gs=>match i with|0=>[rowR 5 1 (vs 0) 1 (bv [1])]|3=>[rowR 32 1 (vs 3) 3 [vs 0,.slice (some ⟨g2,0,none⟩) 32 32,.slice (some ⟨g3,0,none⟩) 32 32]]|5=>[blkR g4 23 (hashA (nodeF ca cb))]|6=>[blkR g4 23 (hashA (List.replicate 32 0))]|7=>[blkR g2 23 (hashA ca)]|8=>[blkR g3 23 (hashA cb)]|9=>L|_=>[])
  (fun i=>match i with|5=>[6]|_=>[]) (fun i=>match i with|3=>[0]|4=>[0,3,7,8]|_=>[]) S0 (by kernel_rfl) hap (by kernel_rfl) (by kernel_rfl) (fun i=>match i with|0=>[0]|1=>[1]|2=>[2]|3=>[0,3]|4=>[4]|_=>[]) (by kernel_rfl) ?_ (by kernel_rfl) ?_ ?_ ?_
 . exact lA
 . exact pA
 . clear S0 hend
   and_intros <;> try intro vs gs A' W LF hA S hR hd hu K hK
   . replace hK:=hK default;clear hA o2 o3 o4;go_step
     exact hK _ _ (S.rownew (ow_new W 5 1 1 #[.int .u8 1] rfl (by decide)) ((Kp.refl [] W).alloc _) (fun g hg=>Nat.le_of_eq (Option.some.inj hg))) trivial
   . exact qa1 (eO 2 o2)
   . exact qa1 (eO 3 o3)
   . replace hK:=hK default;have e5:=eU 5 0;have e6:=vD 6 1;have e7:=vD 7 2;clear hA o2 o3 o4
     obtain ⟨A0,c0,hv0,-,-⟩:=ow_form (show Ow W 5 1 (vs 0) 1 (bv [1]) from (S.ok (rowR 5 1 (vs 0) 1 (bv [1])) (hR 0 (List.mem_singleton.2 rfl) _ (List.mem_singleton.2 rfl))))
     rw [hv0] at e5
     go_step;have o3:=ow_new W 32 1 3 #[.slice A0 1 c0,.slice (some ⟨g2,0,none⟩) 32 32,.slice (some ⟨g3,0,none⟩) 32 32] rfl (by decide)
     have o4:Ow (W.alloc (.cells #[.slice A0 1 c0,.slice (some ⟨g2,0,none⟩) 32 32,.slice (some ⟨g3,0,none⟩) 32 32] 32)) 32 1 (.slice (some ⟨W.heap.size,0,none⟩) 3 3) 3 [vs 0,.slice (some ⟨g2,0,none⟩) 32 32,.slice (some ⟨g3,0,none⟩) 32 32]:=by rw [hv0];exact o3
     exact hK _ _ (S.rownew o4 ((Kp.refl [] W).alloc _) (fun g hg=>Nat.le_of_eq (Option.some.inj hg))) trivial
   . replace hK:=hK default;have e8:=eU 8 3;clear hA o2 o3 o4;go_step
     have h0:Rd W 1 (vs 0) [1].length (bv [1]):=Rd.of_own (show Ow W 5 1 (vs 0) 1 (bv [1]) from S.ok (rowR 5 1 (vs 0) 1 (bv [1])) (hR 0 (by simp) _ (List.mem_singleton.2 rfl)))
     have h2:=rd_blkh (show Blk W g2 23 (hashA ca) from S.ok (blkR g2 23 (hashA ca)) (hR 7 (by simp) _ (List.mem_singleton.2 rfl))) ha
     have h3:=rd_blkh (show Blk W g3 23 (hashA cb) from S.ok (blkR g3 23 (hashA cb)) (hR 8 (by simp) _ (List.mem_singleton.2 rfl))) hb
     have hv:=Rd.of_own (show Ow W 32 1 (vs 3) 3 [vs 0,.slice (some ⟨g2,0,none⟩) 32 32,.slice (some ⟨g3,0,none⟩) 32 32] from S.ok (rowR 32 1 (vs 3) 3 [vs 0,.slice (some ⟨g2,0,none⟩) 32 32,.slice (some ⟨g3,0,none⟩) 32 32]) (hR 3 (by simp) _ (List.mem_singleton.2 rfl)))
     refine (hof_any (vs 3) [[1],ca,cb] (by simp [ha,hb]) W (txs_row3 hv h0 h2 h3)).mono ?_
     rintro e w' ⟨rfl,k⟩
     exact hK _ _ (S.kp k) (by rw [show [[1],ca,cb].flatten=1 :: (ca ++ cb) by simp];rfl)
   . replace hK:=hK default;have e4:=eO 4 o4;have e9:=vD 9 4;clear hA o2 o3 o4
     have S1:Held w0 W (blkR g4 23 (hashA (List.replicate 32 0)) :: LF):=S
     refine op_store_blkS (.tmp 4) (.tmp 9) 23 rfl g4 (by simpa [Act.eval] using e4) (hashA (nodeF ca cb)) (by simpa [Act.eval] using e9) 23 (hashA (List.replicate 32 0)) S1 (by rw [hashA_size,nodeF_length];exact Tryz.infoHashP) (by rw [hashA_size,nodeF_length] <;> rfl) (hashA_one _) ?_
     intro w' S2
     exact hK _ _ S2 trivial
   . trivial
 . intro vs gs W S hp
   have S:Held w0 W (rowR 5 1 (vs 0) 1 (bv [1]) :: rowR 32 1 (vs 3) 3 [vs 0,.slice (some ⟨g2,0,none⟩) 32 32,.slice (some ⟨g3,0,none⟩) 32 32] :: blkR g4 23 (hashA (nodeF ca cb)) :: blkR g2 23 (hashA ca) :: blkR g3 23 (hashA cb) :: L):=by simpa only [List.flatMap_cons,List.flatMap_nil,List.append_nil,List.nil_append,List.cons_append,List.append_assoc] using S
   rw [putAll_eq]
   exact hend _ vs gs W sQ  S
theorem hnode_any(ca cb:Bs)(ha:ca.length=32)(hb:cb.length=32)(w:World):
 Calls Tryz.prog 93 #[.agg (hashA ca),.agg (hashA cb)] w fun r w'=>r=.returned (.agg (hashA (nodeF ca cb))) ∧ Kp [] w w':=by
 refine calls_fr Tryz.func93 rfl 10 rfl (fun a0 hsz hdf hAr=>?_)
 have hz0:a0.tmps.size=10:=hsz
 have D:=hdf
 have o0:=hAr 0 _ rfl
 have o1:=hAr 1 _ rfl
 refine wp_seq (thn_r0 w _ _ [] (Held.start w) hz0 o0 o1 (fun a1 w1 hs1 h1=>?_))
 obtain ⟨hz1,D,o0,o1⟩:=kq2 hs1 hz0 D o0 o1
 obtain ⟨g2,g3,g4,o2,o3,o4,S⟩:=h1
 have S:=(((S.pull 1 rfl).pull 2 rfl).pull 2 rfl)
 refine wp_seq (thn_r1 w g2 g3 g4 ca cb ha hb _ hz1 o2 o3 o4 S (fun a2 vs gs w2 hs2 S=>?_))
 obtain ⟨hz2,D,o2,o3,o4⟩:=kq3 hs2 hz1 D o2 o3 o4
 refine wp_ret ?_
 exact bodyPost_ret (results_cell1 (by rfl) (o4.eval (by rw [hz2];decide)) (S.ok (blkR g4 23 (hashA (nodeF ca cb))) (by simp)) Tryz.underlying23 rfl (by rw [hashA_size,nodeF_length];exact Tryz.infoHashP)) D ⟨rfl,S.k⟩
end
section
variable {Q:Exit->Act->World->Prop} {a:Act} {w:World}
open Go.RowKit Go.Shelf
theorem trn_r0(w0:World)(xa xb:Array Value)(L:List Res)(S:Held w0 w L)(hsz:a.tmps.size=31)(o0:Sl a 0 (.agg xa))(o1:Sl a 1 (.agg xb)):RG1 false 0 Tryz.f82 Q a w fun a' W q'=>(∃ g2 g3 g4,Sl a' 2 (Pq g2 0) ∧ Sl a' 3 (Pq g3 0) ∧ Sl a' 4 (Pq g4 0) ∧ Held w0 W (blkR g4 23 (hashA (List.replicate 32 0)) :: blkR g3 23 xb :: blkR g2 23 xa :: L))->q':=by
 intro hend
 refine wp_region_lit ?_
 (conv=>arg 4;whnf)
 unfold Sl at o0 o1
 have S1:=LH (((S.newBlk 23 xa).newBlkN 23 xb (g:=w.heap.size+1) (by simp)).newBlkN 23 (hashA (List.replicate 32 0)) (g:=w.heap.size+2) (by simp))
 go_wp2
 try simp only [Act.put]
 exact hend _ _ tS (⟨w.heap.size,w.heap.size+1,w.heap.size+2,sP0,sP0,sP0,S1.out⟩)
theorem trn_r1(w0:World)(L:List Res)(S:Held w0 w L)(hsz:a.tmps.size=31):RG1 false 1 Tryz.f82 Q a w fun a' W q'=>(∃ u,Sl a' 5 u ∧ Held w0 W (rowR 5 1 u 1 (bv [1]) :: L))->q':=by
 intro hend
 refine wp_region_lit ?_
 (conv=>arg 4;whnf)
 have S1:=LH (S.rownew (ow_new w 5 1 1 #[.int .u8 1] rfl (by decide)) ((Kp.refl [] w).alloc _) (fun g hg=>Nat.le_of_eq (Option.some.inj hg)))
 go_wp2_with fail
 try simp only [Act.put]
 exact hend _ _ tS (⟨_,sP0,S1.out⟩)
theorem trn_r2(hsz:a.tmps.size=31):RG0 2 Tryz.f82 Q a w fun a' q'=>Sl a' 6 (Nq 0)->q':=rO
theorem trn_r6(hsz:a.tmps.size=31):RG0 6 Tryz.f82 Q a w fun a' q'=>Sl a' 7 (Nq 0)->q':=rO
theorem trn_r3(k:Nat)(hsz:a.tmps.size=31)(o6:Sl a 6 (Nq k)):RG0 3 Tryz.f82 Q a w fun a' q'=>Sl a' 10 (.bool (decide ((k:Int) < 32)))->q':=rO
theorem trn_r7(k:Nat)(hsz:a.tmps.size=31)(o7:Sl a 7 (Nq k)):RG0 7 Tryz.f82 Q a w fun a' q'=>Sl a' 20 (.bool (decide ((k:Int) < 32)))->q':=rO
theorem trn_r4(k:Nat)(hk:k < 9223372036854775807)(hsz:a.tmps.size=31)(o6:Sl a 6 (Nq k)):RG0 4 Tryz.f82 Q a w fun a' q'=>Sl a' 6 (Nq (k+1))->q':=by
 have hw:wrap64 ((k:Int)+1)=(k:Int)+1:=by unfold wrap64;omega
 exact rO
theorem trn_r8(k:Nat)(hk:k < 9223372036854775807)(hsz:a.tmps.size=31)(o7:Sl a 7 (Nq k)):RG0 8 Tryz.f82 Q a w fun a' q'=>Sl a' 7 (Nq (k+1))->q':=by
 have hw:wrap64 ((k:Int)+1)=(k:Int)+1:=by unfold wrap64;omega
 exact rO
theorem trn_r5(w0:World)(gx:Nat)(ca:Bs)(ha:ca.length=32)(k:Nat)(hk:k < 32)(cx:UInt8)(hcx:ca[k]?=some cx)(u:Value)(m:Nat)(hm:m<=1000)(xs:Bs)(hb:Blk w gx 23 (hashA ca))(L:List Res)(S:Held w0 w (rowR 5 1 u m (bv xs) :: L))(hsz:a.tmps.size=31)(o2:Sl a 2 (Pq gx 0))(o5:Sl a 5 (u))(o6:Sl a 6 (Nq k)):RG1 false 5 Tryz.f82 Q a w fun a' W q'=>(∃ v,Sl a' 5 v ∧ Held w0 W (rowR 5 1 v (m+1) (bv (xs ++ [cx])) :: L))->q':=by
 intro hend
 refine wp_region_lit ?_
 (conv=>arg 4;whnf)
 unfold Sl at o2 o5 o6
 have c0:w.cell? ⟨gx,k,none⟩=some (.int .u8 (cx.toNat:Int)):=by rw [hb.cell,<- Array.getElem?_toList,hashA_list];rw [bv_get,hcx];rfl
 have h0:0<=(k:Int):=by omega
 have h1:(k:Int) < 32:=by omega
 have S1:=LH (S.alloc (.cells #[.int .u8 (cx.toNat:Int)] 5))
 have HR:=LH (rd_lit w 5 #[.int .u8 (cx.toNat:Int)] [cx] rfl (by simp))
 have hb1:Hid (m+1<=maxLen ∧ (m+1) * 1<=140737488355328):=LH (by unfold maxLen;omega)
 clear S hb ha hcx
 go_wp2_with (at_builtin;refine wpList_appH rfl (.tmp 13) (.tmp 17) 32 5 rfl Tryz.infoU8 Tryz.underlying32 rfl (by decide) u m (bv xs) (aO o5) S1.out (.slice (some ⟨w.heap.size,0,none⟩) 1 1) 1 (bv [cx]) aE HR.out (bv_one _) hb1.out.1 hb1.out.2 ?_;intro v2 w2 S3;have S3:=LH S3)
 try simp only [Act.put]
 exact hend _ _ tS (⟨v2,sP0,by rw [bv_append];exact S3.out⟩)
theorem trn_r9(w0:World)(gx:Nat)(ca:Bs)(ha:ca.length=32)(k:Nat)(hk:k < 32)(cx:UInt8)(hcx:ca[k]?=some cx)(u:Value)(m:Nat)(hm:m<=1000)(xs:Bs)(hb:Blk w gx 23 (hashA ca))(L:List Res)(S:Held w0 w (rowR 5 1 u m (bv xs) :: L))(hsz:a.tmps.size=31)(o3:Sl a 3 (Pq gx 0))(o5:Sl a 5 (u))(o7:Sl a 7 (Nq k)):RG1 false 9 Tryz.f82 Q a w fun a' W q'=>(∃ v,Sl a' 5 v ∧ Held w0 W (rowR 5 1 v (m+1) (bv (xs ++ [cx])) :: L))->q':=by
 intro hend
 refine wp_region_lit ?_
 (conv=>arg 4;whnf)
 unfold Sl at o3 o5 o7
 have c0:w.cell? ⟨gx,k,none⟩=some (.int .u8 (cx.toNat:Int)):=by rw [hb.cell,<- Array.getElem?_toList,hashA_list];rw [bv_get,hcx];rfl
 have h0:0<=(k:Int):=by omega
 have h1:(k:Int) < 32:=by omega
 have S1:=LH (S.alloc (.cells #[.int .u8 (cx.toNat:Int)] 5))
 have HR:=LH (rd_lit w 5 #[.int .u8 (cx.toNat:Int)] [cx] rfl (by simp))
 have hb1:Hid (m+1<=maxLen ∧ (m+1) * 1<=140737488355328):=LH (by unfold maxLen;omega)
 clear S hb ha hcx
 go_wp2_with (at_builtin;refine wpList_appH rfl (.tmp 23) (.tmp 27) 32 5 rfl Tryz.infoU8 Tryz.underlying32 rfl (by decide) u m (bv xs) (aO o5) S1.out (.slice (some ⟨w.heap.size,0,none⟩) 1 1) 1 (bv [cx]) aE HR.out (bv_one _) hb1.out.1 hb1.out.2 ?_;intro v2 w2 S3;have S3:=LH S3)
 try simp only [Act.put]
 exact hend _ _ tS (⟨v2,sP0,by rw [bv_append];exact S3.out⟩)
theorem trn_r10(w0:World)(g4:Nat)(cm:Bs)(hm:cm.length<=1000)(u:Value)(L:List Res)(S:Held w0 w (blkR g4 23 (hashA (List.replicate 32 0)) :: rowR 5 1 u cm.length (bv cm) :: L))(hsz:a.tmps.size=31)(o4:Sl a 4 (Pq g4 0))(o5:Sl a 5 (u)):RG1 false 10 Tryz.f82 Q a w fun a' W q'=>(Held w0 W [blkR g4 23 (hashA (shaF cm))])->q':=by
 intro hend
 refine wp_region_lit ?_
 (conv=>arg 4;whnf)
 unfold Sl at o4 o5
 have HR:=LH (rof_any u cm (by omega) w (Rd.of_own (e:=5) (S.at_ (l1:=[_]))))
 have hz3:Hid ((hashA (shaF cm)).size=32):=LH (by rw [hashA_size,shaF_length])
 have HO:=LH (hashA_one (shaF cm))
 have hcz:Hid ((hashA (List.replicate 32 0)).size=32):=LH rfl
 obtain ⟨ch,hch0⟩:∃ ch,Hid (hashA (shaF cm)=ch):=⟨_,LH rfl⟩
 have hch:=hz3
 rw [hch0.out] at HO hch
 clear hz3
 obtain ⟨cz,hcz0⟩:∃ cz,Hid ((hashA (List.replicate 32 0))=cz):=⟨_,LH rfl⟩
 rw [hcz0.out] at S hcz
 rw [hch0.out] at HR
 have S:=LH S
 obtain ⟨Au,cu,nu,rfl⟩:∃ Au nu cu,u=.slice Au nu cu:=by obtain ⟨A',c',h,-,-⟩:=ow_form (show Ow w 5 1 u cm.length (bv cm) from S.out.at_ (l1:=[_]));exact ⟨_,_,_,h⟩
 go_wp2_with fail
 refine HR.out.mono ?_
 rintro r w1 ⟨rfl,k1⟩
 have S1:=LH (S.out.kp k1)
 clear k1
 go_wp2_with (refine wpList_store_blk rfl 23 (.tmp 4) (.tmp 30) rfl g4 (aO o4) ch aE 23 _ (S1.out.at_ (l1:=[])) (by rw [hch.out];exact Tryz.infoHashP) (by rw [hch.out,hcz.out]) HO.out ?_;intro w7 b7 k7;have S7:=LH (Held.setBlk (l1:=[]) S1.out b7 k7);clear b7 k7)
 rw [<- hch0.out] at S7
 try simp only [Act.put]
 exact hend _ _ tS (S7.out.some_of (List.Sublist.cons_cons _ (List.nil_sublist _)))
theorem trn_loop1{Q:Exit->Act->World->Prop}{a:Act}{w0 w:World}(g2 g3 g4:Nat)(ca:Bs)(ha:ca.length=32)(u:Value)(L:List Res)(hz:a.tmps.size=31)(D:a.defers=[])(o2:Sl a 2 (Pq g2 0))(o3:Sl a 3 (Pq g3 0))(o4:Sl a 4 (Pq g4 0))(o5:Sl a 5 u)(o6:Sl a 6 (Nq 0))
 (S:Held w0 w (rowR 5 1 u 1 (bv [1]) :: blkR g2 23 (hashA ca) :: L))
 (hend:∀ (a':Act) (W:World) (v:Value),a'.tmps.size=31->a'.defers=[]->Sl a' 3 (Pq g3 0)->Sl a' 4 (Pq g4 0)->Sl a' 5 v->Held w0 W (rowR 5 1 v 33 (bv (1 :: ca)) :: blkR g2 23 (hashA ca) :: L)->Q .normal a' W):(Code.block 0 (blockOf 0 Tryz.f82)).wp Tryz.prog Q a w:=by
 refine wp_block ?_
 (conv=>arg 2;whnf)
 refine wp_loop (fun a' w'=>∃ (k:Nat) (v:Value),k<=32 ∧ a'.tmps.size=31 ∧ a'.defers=[] ∧ Sl a' 2 (Pq g2 0) ∧ Sl a' 3 (Pq g3 0) ∧ Sl a' 4 (Pq g4 0) ∧ Sl a' 5 v ∧ Sl a' 6 (Nq k) ∧ Held w0 w' (rowR 5 1 v (k+1) (bv (1 :: ca.take k)) :: blkR g2 23 (hashA ca) :: L)) (fun a' _=>32 - (intOf (a'.eval (.tmp 6))).toNat) ⟨0,u,Nat.zero_le _,hz,D,o2,o3,o4,o5,o6,S⟩ ?_
 clear hz D o2 o3 o4 o5 o6 S u
 rintro a1 w1 ⟨k,v,hk,hz,D,o2,o3,o4,o5,o6,S⟩
 have e6:=o6.eval (by rw [hz];decide)
 refine wp_seq (wp_seq (trn_r3 k hz o6 (fun a2 hs2 o10=>?_)))
 have hz2:=hs2.size.trans hz
 have D:=hs2.defers.trans D;have o2:=hs2.q o2;have o3:=hs2.q o3;have o4:=hs2.q o4;have o5:=hs2.q o5;have o6:=hs2.q o6
 by_cases hlt:k < 32
 . refine wcT o10 (wp_skip ?_) (by rw [decide_eq_true (by omega)])
   simp only [Exit.then]
   obtain ⟨cx,hcx⟩:∃ cx,ca[k]?=some cx:=⟨_,List.getElem?_eq_getElem (by omega)⟩
   refine wp_seq (wp_block ?_)
   refine trn_r5 w0 g2 ca ha k hlt cx hcx v (k+1) (by omega) (1 :: ca.take k) (S.at_ (l1:=[_])) _ S hz2 o2 o5 o6 (fun a3 w3 hs3 h3=>?_)
   obtain ⟨v3,o5,S⟩:=h3
   obtain ⟨hz3,D,o2,o3,o4,o6⟩:=kq4 hs3 hz2 D o2 o3 o4 o6
   simp only [Exit.inBlock,Exit.then]
   refine trn_r4 k (by omega) hz3 o6 (fun a4 hs4 o6=>?_)
   have hz4:=hs4.size.trans hz3
   have htk:1 :: ca.take (k+1)=(1 :: ca.take k) ++ [cx]:=by rw [List.take_add_one,hcx];rfl
   rw [<- htk] at S
   refine ⟨⟨k+1,v3,hlt,hz4,hs4.defers.trans D,hs4.q o2,hs4.q o3,hs4.q o4,hs4.q o5,o6,S⟩,?_⟩
   show 32 - (intOf _).toNat < 32 - (intOf _).toNat
   rw [e6,o6.eval (by rw [hz4];decide)]
   simp only [intOf];omega
 . refine wcF o10 (wp_exit ?_) (by rw [decide_eq_false (by omega)])
   simp only [Exit.then,Exit.inBlock]
   obtain rfl:k=32:=by omega
   rw [List.take_of_length_le (by omega)] at S
   exact hend _ _ v hz2 D o3 o4 o5 S
theorem trn_loop2{Q:Exit->Act->World->Prop}{a:Act}{w0 w:World}(g3 g4:Nat)(pre:Bs)(hpre:pre.length=33)(cb:Bs)(hb:cb.length=32)(u:Value)(L:List Res)(hz:a.tmps.size=31)(D:a.defers=[])(o3:Sl a 3 (Pq g3 0))(o4:Sl a 4 (Pq g4 0))(o5:Sl a 5 u)(o7:Sl a 7 (Nq 0))
 (S:Held w0 w (rowR 5 1 u 33 (bv pre) :: blkR g3 23 (hashA cb) :: L))
 (hend:∀ (a':Act) (W:World) (v:Value),a'.tmps.size=31->a'.defers=[]->Sl a' 4 (Pq g4 0)->Sl a' 5 v->Held w0 W (rowR 5 1 v 65 (bv (pre ++ cb)) :: blkR g3 23 (hashA cb) :: L)->Q .normal a' W):(Code.block 2 (blockOf 2 Tryz.f82)).wp Tryz.prog Q a w:=by
 refine wp_block ?_
 (conv=>arg 2;whnf)
 refine wp_loop (fun a' w'=>∃ (k:Nat) (v:Value),k<=32 ∧ a'.tmps.size=31 ∧ a'.defers=[] ∧ Sl a' 3 (Pq g3 0) ∧ Sl a' 4 (Pq g4 0) ∧ Sl a' 5 v ∧ Sl a' 7 (Nq k) ∧ Held w0 w' (rowR 5 1 v (33+k) (bv (pre ++ cb.take k)) :: blkR g3 23 (hashA cb) :: L)) (fun a' _=>32 - (intOf (a'.eval (.tmp 7))).toNat) ⟨0,u,Nat.zero_le _,hz,D,o3,o4,o5,o7,by rw [List.take_zero,List.append_nil];exact S⟩ ?_
 clear hz D o3 o4 o5 o7 S u
 rintro a1 w1 ⟨k,v,hk,hz,D,o3,o4,o5,o7,S⟩
 have e7:=o7.eval (by rw [hz];decide)
 refine wp_seq (wp_seq (trn_r7 k hz o7 (fun a2 hs2 o20=>?_)))
 have hz2:=hs2.size.trans hz
 have D:=hs2.defers.trans D;have o3:=hs2.q o3;have o4:=hs2.q o4;have o5:=hs2.q o5;have o7:=hs2.q o7
 by_cases hlt:k < 32
 . refine wcT o20 (wp_skip ?_) (by rw [decide_eq_true (by omega)])
   simp only [Exit.then]
   obtain ⟨cx,hcx⟩:∃ cx,cb[k]?=some cx:=⟨_,List.getElem?_eq_getElem (by omega)⟩
   refine wp_seq (wp_block ?_)
   refine trn_r9 w0 g3 cb hb k hlt cx hcx v (33+k) (by omega) (pre ++ cb.take k) (S.at_ (l1:=[_])) _ S hz2 o3 o5 o7 (fun a3 w3 hs3 h3=>?_)
   obtain ⟨v3,o5,S⟩:=h3
   obtain ⟨hz3,D,o3,o4,o7⟩:=kq3 hs3 hz2 D o3 o4 o7
   simp only [Exit.inBlock,Exit.then]
   refine trn_r8 k (by omega) hz3 o7 (fun a4 hs4 o7=>?_)
   have hz4:=hs4.size.trans hz3
   have htk:pre ++ cb.take (k+1)=(pre ++ cb.take k) ++ [cx]:=by rw [List.take_add_one,hcx];simp
   rw [<- htk] at S
   refine ⟨⟨k+1,v3,hlt,hz4,hs4.defers.trans D,hs4.q o3,hs4.q o4,hs4.q o5,o7,S⟩,?_⟩
   show 32 - (intOf _).toNat < 32 - (intOf _).toNat
   rw [e7,o7.eval (by rw [hz4];decide)]
   simp only [intOf];omega
 . refine wcF o20 (wp_exit ?_) (by rw [decide_eq_false (by omega)])
   simp only [Exit.then,Exit.inBlock]
   obtain rfl:k=32:=by omega
   rw [List.take_of_length_le (by omega)] at S
   exact hend _ _ v hz2 D o4 o5 S
theorem rnode_any(ca cb:Bs)(ha:ca.length=32)(hb:cb.length=32)(w:World):
 Calls Tryz.prog 82 #[.agg (hashA ca),.agg (hashA cb)] w fun r w'=>r=.returned (.agg (hashA (nodeF ca cb))) ∧ Kp [] w w':=by
 refine calls_fr Tryz.func82 rfl 31 rfl (fun a0 hsz hdf hAr=>?_)
 have hz0:a0.tmps.size=31:=hsz
 have D:=hdf
 have o0:=hAr 0 _ rfl
 have o1:=hAr 1 _ rfl
 refine wp_seq (trn_r0 w _ _ [] (Held.start w) hz0 o0 o1 (fun a1 w1 hs1 h1=>?_))
 obtain ⟨hz1,D,o0,o1⟩:=kq2 hs1 hz0 D o0 o1
 obtain ⟨g2,g3,g4,o2,o3,o4,S⟩:=h1
 refine wp_seq (trn_r1 w _ S hz1 (fun a2 w2 hs2 h2=>?_))
 obtain ⟨hz2,D,o2,o3,o4⟩:=kq3 hs2 hz1 D o2 o3 o4
 obtain ⟨u,o5,S⟩:=h2
 have S:=((((S.pull 1 rfl).pull 2 rfl).pull 3 rfl).pull 3 rfl)
 refine wp_seq (wp_seq (trn_r2 hz2 (fun a3 hs3 o6=>?_)))
 obtain ⟨hz3,D,o2,o3,o4,o5⟩:=kq4 hs3 hz2 D o2 o3 o4 o5
 refine trn_loop1 g2 g3 g4 ca ha u _ hz3 D o2 o3 o4 o5 o6 S (fun a4 w4 v hz4 D o3 o4 o5 S=>?_)
 simp only [Exit.then]
 have S:=((((S.pull 1 rfl).pull 3 rfl).pull 3 rfl).pull 3 rfl)
 refine wp_seq (wp_seq (trn_r6 hz4 (fun a5 hs5 o7=>?_)))
 obtain ⟨hz5,D,o3,o4,o5⟩:=kq3 hs5 hz4 D o3 o4 o5
 refine trn_loop2 g3 g4 (1 :: ca) (by simp [ha]) cb hb v _ hz5 D o3 o4 o5 o7 S (fun a6 w6 v hz6 D o4 o5 S=>?_)
 simp only [Exit.then]
 have S:=((((S.pull 3 rfl).pull 2 rfl).pull 2 rfl).pull 3 rfl)
 have hl65:(1 :: ca ++ cb).length=65:=by simp [ha,hb]
 refine wp_seq (trn_r10 w g4 (1 :: ca ++ cb) (by omega) v _ (by rw [hl65];exact S) hz6 o4 o5 (fun a7 w7 hs7 S=>?_))
 obtain ⟨hz7,D,o4,o5⟩:=kq2 hs7 hz6 D o4 o5
 refine wp_ret ?_
 exact bodyPost_ret (results_cell1 (by rfl) (o4.eval (by rw [hz7];decide)) (S.at_ (l1:=[])) Tryz.underlying23 rfl (by rw [hashA_size,shaF_length];exact Tryz.infoHashP)) D ⟨rfl,S.k⟩
theorem bitLen_log2{x:Nat}(h1:1<=x)(h2:x < 18446744073709551616):Lib.bitLen x=Nat.log2 x+1:=by
 have key:∀ (f x:Nat),1<=x->x < 2 ^ f->Lib.bitLenAux f x=Nat.log2 x+1:=by
  intro f
  induction f with
  |zero=>intro x h1 h2;simp at h2;omega
  |succ f ih=>
   intro x h1 h2
   unfold Lib.bitLenAux
   rw [if_neg (by omega),Nat.log2_def]
   by_cases h:2<=x
   . rw [ih (x / 2) (by omega) (by rw [Nat.pow_succ] at h2;omega),if_pos h]
     omega
   . have:x=1:=by omega
     subst this
     rw [if_neg (by omega)]
     cases f <;> rfl
 exact key 64 x h1 h2
theorem tsp_r0(hsz:a.tmps.size=11):RG0 0 Tryz.f92 Q a w fun a' q'=>Sl a' 2 (Nq 0)->q':=rO
theorem tsp_r2(hsz:a.tmps.size=11):RG0 2 Tryz.f92 Q a w fun a' q'=>Sl a' 2 (Nq 0)->q':=rO
theorem tsp_r1(n:Nat)(hsz:a.tmps.size=11)(o0:Sl a 0 (Nq n)):RG0 1 Tryz.f92 Q a w fun a' q'=>Sl a' 4 (.bool (decide ((n:Int) < 2)))->q':=rO
theorem tsp_r3(n j:Nat)(hj:j<=62)(hn:2<=n)(hn2:n < 9223372036854775808)(hbl:Lib.bitLen (n - 1)=j+1)(hsz:a.tmps.size=11)(o0:Sl a 0 (Nq n)):RG0 3 Tryz.f92 Q a w fun a' q'=>Sl a' 2 (.int .i64 ((2:Int) ^ j))->q':=by
 intro hend
 refine wp_region_lit ?_
 (conv=>arg 4;whnf)
 unfold Sl at o0
 have hw:wrap64 ((n:Int) - 1)=(n:Int) - 1:=by unfold wrap64;omega
 have hw2:wrap64 (((j+1:Nat):Int) - 1)=(j:Int):=by unfold wrap64;omega
 have hp:(2:Int) ^ j<=2 ^ 62:=by exact_mod_cast Nat.pow_le_pow_right (n:=2) (by decide) hj
 have hp0:(0:Int) < 2 ^ j:=Int.pow_pos (by decide)
 have hw3:wrap64 ((2:Int) ^ j)=(2:Int) ^ j:=by unfold wrap64;omega
 clear hp hp0
 have HL:=LH (Tryz.bits_Len64 ((n:Int) - 1) w (by omega) (by omega))
 rw [show ((n:Int) - 1).toNat=n - 1 by omega,hbl] at HL
 clear hbl
 go_wp2_with fail
 refine HL.out.mono ?_
 rintro e w' ⟨rfl,rfl⟩
 go_wp2_with fail
 try simp only [Act.put]
 exact hend _ tS sP
theorem trs_r0(hsz:a.tmps.size=14):RG0 0 Tryz.f81 Q a w fun a' q'=>Sl a' 2 (Nq 0)->q':=rO
theorem trs_r2(hsz:a.tmps.size=14):RG0 2 Tryz.f81 Q a w fun a' q'=>Sl a' 2 (Nq 0)->q':=rO
theorem trs_r1(n:Nat)(hsz:a.tmps.size=14)(o0:Sl a 0 (Nq n)):RG0 1 Tryz.f81 Q a w fun a' q'=>Sl a' 5 (.bool (decide ((n:Int) < 2)))->q':=rO
theorem trs_r3(hsz:a.tmps.size=14):RG0 3 Tryz.f81 Q a w fun a' q'=>Sl a' 3 (Nq 1)->q':=rO
theorem trs_r4(n k:Nat)(hk:k < n)(hn2:n < 9223372036854775808)(hsz:a.tmps.size=14)(o0:Sl a 0 (Nq n))(o3:Sl a 3 (Nq k)):RG0 4 Tryz.f81 Q a w fun a' q'=>Sl a' 10 (.bool (decide ((k:Int) < (n:Int) - (k:Int))))->q':=by
 have hw:wrap64 ((n:Int) - (k:Int))=(n:Int) - (k:Int):=by unfold wrap64;omega
 exact rO
theorem trs_r5(k:Nat)(hk:k < 4611686018427387904)(hsz:a.tmps.size=14)(o3:Sl a 3 (Nq k)):RG0 5 Tryz.f81 Q a w fun a' q'=>Sl a' 3 (Nq (2 * k))->q':=by
 have hw:wrap64 (2 * (k:Int))=2 * (k:Int):=by unfold wrap64;omega
 exact rO
theorem trs_r6(x:Value)(hsz:a.tmps.size=14)(o3:Sl a 3 (x)):RG0 6 Tryz.f81 Q a w fun a' q'=>Sl a' 2 (x)->q':=rO
end
section
open Go.RowKit Go.Shelf
theorem calls_mfr{P:Program}{f:FuncId}{fn:Func}{c:Code}{args:Array Value}{w:World}{R:Ending->World->Prop}(hf:P.funcs[f]?=some fn)(hb:fn.body=some c)(N:Nat)(hN:args.size+(fn.ntmps - args.size)=N)
 (h:∀ a:Act,a.tmps.size=N->a.defers=[]->(∀ i v,args[i]?=some v->Sl a i v)->c.wp P (bodyPostM Fence.wide 3 P fn R) a w):Calls P f args w R:=
 calls_marks hf hb (h _ (by simp only [Array.size_append,Array.size_replicate];exact hN) rfl (fun i v hi=>sl_of (by
  rw [Array.getElem?_append_left (Array.getElem?_eq_some_iff.1 hi).1];exact hi)))
theorem sl_setI{a:Act}{d e:Nat}{v u:Value}{D:List Deferred}(h:Sl a d v)(hne:e ≠ d):Sl { tmps:=a.tmps.setIfInBounds e u,defers:=D } d v:=sl_put1 (u:=u) h hne
theorem sl_newI{a:Act}{e:Nat}{u:Value}{D:List Deferred}:Sl { tmps:=a.tmps.setIfInBounds e u,defers:=D } e u:=by
 intro h
 simp
theorem same_range2{a:Act}{p q:Nat}{u v:Value}{D:List Deferred}(hpq:p ≠ q):∀ a':Act,a'={ tmps:=(a.tmps.setIfInBounds p u).setIfInBounds q v,defers:=D }->a'.tmps.size=a.tmps.size ∧ a'.defers=D ∧ (∀ d x,([p,q].contains d)=false->Sl a d x->Sl a' d x) ∧ Sl a' p u ∧ Sl a' q v:=by
 rintro a' rfl
 refine ⟨by simp,rfl,fun d x hd hs=>?_,?_,?_⟩
 . simp only [List.contains_cons,List.contains_nil,Bool.or_false,Bool.or_eq_false_iff,beq_eq_false_iff_ne,ne_eq] at hd
   exact sl_setI (a:=⟨a.tmps.setIfInBounds p u,D⟩) (sl_setI hs (fun e=>hd.1 e.symm)) (fun e=>hd.2 e.symm)
 . exact sl_setI (a:=⟨a.tmps.setIfInBounds p u,D⟩) (sl_newI (a:=a) (D:=D)) (fun e=>hpq e.symm)
 . exact sl_newI (a:=⟨a.tmps.setIfInBounds p u,D⟩)
theorem same_range1{a:Act}{p:Nat}{u:Value}{D:List Deferred}:∀ a':Act,a'={ tmps:=a.tmps.setIfInBounds p u,defers:=D }->a'.tmps.size=a.tmps.size ∧ a'.defers=D ∧ (∀ d x,([p].contains d)=false->Sl a d x->Sl a' d x) ∧ Sl a' p u:=by
 rintro a' rfl
 refine ⟨by simp,rfl,fun d x hd hs=>?_,sl_newI⟩
 simp only [List.contains_cons,List.contains_nil,Bool.or_false,beq_eq_false_iff_ne,ne_eq] at hd
 exact sl_setI hs (fun e=>hd e.symm)
theorem res_u0{P:Program}{fn:Func}{w:World}{tmps:Array Value}(h:fn.results=#[]):(results fn tmps).run P w=.ok (.tuple #[]) w:=by
 simp [results,h]
theorem res_u1{P:Program}{fn:Func}{w:World}{tmps:Array Value}{u:Nat}{x:Value}(h:fn.results=#[.tmp u])(hx:tmps.getD u undef=x):(results fn tmps).run P w=.ok x w:=by
 simp only [Array.getD_eq_getD_getElem?] at hx
 simp [results,h,hx]
theorem res_u2{P:Program}{fn:Func}{w:World}{tmps:Array Value}{u u2:Nat}{x y:Value}(h:fn.results=#[.tmp u,.tmp u2])(hx:tmps.getD u undef=x)(hy:tmps.getD u2 undef=y):(results fn tmps).run P w=.ok (.tuple #[x,y]) w:=by
 simp only [Array.getD_eq_getD_getElem?] at hx hy
 simp [results,h,hx,hy]
theorem rd_addr{w:World}{A:Option Addr}{s n c:Nat}{xs:List Value}(h:Rd w s (.slice A n c) n xs)(hn:0 < n):∃ ad,A=some ad:=by
 obtain ⟨-,A',c',e,-,-,hA,-⟩:=h
 cases e
 cases A with
 |none=>have:=(hA rfl).1;omega
 |some ad=>exact ⟨ad,rfl⟩
end
section
variable {Q:Exit->Act->World->Prop} {a:Act} {w:World}
open Go.RowKit Go.Shelf
def hsC (l:List (List UInt8)):List Value:=l.flatMap bv
def HsOk (l:List (List UInt8)):Prop:=∀ h ∈ l,h.length=32
theorem hsC_append(a b:List (List UInt8)):hsC (a ++ b)=hsC a ++ hsC b:=by simp [hsC]
theorem hsC_length{l:List (List UInt8)}(h:HsOk l):(hsC l).length=l.length * 32:=by
 induction l with
 |nil=>rfl
 |cons a l ih=>
  have h1:=h a (List.mem_cons_self ..)
  have h2:=ih (fun x hx=>h x (List.mem_cons_of_mem _ hx))
  rw [show hsC (a :: l)=bv a ++ hsC l from rfl,List.length_append,h2,bv_length,h1,List.length_cons]
  omega
theorem hsC_one{l:List (List UInt8)}:∀ u ∈ hsC l,u.oneCell'=true:=by
 intro u hu
 obtain ⟨h,-,hh⟩:=List.mem_flatMap.1 hu
 exact bv_one h u hh
theorem hsC_get:∀ {l:List (List UInt8)} (_:HsOk l) {i j:Nat} {h:List UInt8} {u:Value},l[i]?=some h->(bv h)[j]?=some u->(hsC l)[i * 32+j]?=some u
 |a :: l,hok,0,j,h,u,hi,hj=>by
  cases hi
  rw [show hsC (a :: l)=bv a ++ hsC l from rfl,Nat.zero_mul,Nat.zero_add,List.getElem?_append_left (List.getElem?_eq_some_iff.1 hj).1]
  exact hj
 |a :: l,hok,i+1,j,h,u,hi,hj=>by
  have h1:=hok a (List.mem_cons_self ..)
  rw [show hsC (a :: l)=bv a ++ hsC l from rfl,List.getElem?_append_right (by rw [bv_length,h1];omega),bv_length,h1,show (i+1) * 32+j - 32=i * 32+j by omega]
  exact hsC_get (fun x hx=>hok x (List.mem_cons_of_mem _ hx)) (by simpa using hi) hj
theorem HsOk.take{l:List (List UInt8)}(h:HsOk l)(k:Nat):HsOk (l.take k):=fun x hx=>h x (List.mem_of_mem_take hx)
theorem HsOk.drop{l:List (List UInt8)}(h:HsOk l)(k:Nat):HsOk (l.drop k):=fun x hx=>h x (List.mem_of_mem_drop hx)
theorem rd_hash_at{w:World}{ad:Addr}{n c:Nat}{l:List (List UInt8)}(hok:HsOk l)(h:Rd w 32 (.slice (some ad) n c) n (hsC l)){k:Nat}{x:List UInt8}(hx:l[k]?=some x):∀ j u,(hashA x).toList[j]?=some u->w.cell? ((ad.add (k * 32)).add j)=some u:=fun j u hu=>by
 obtain ⟨-,A',c',e,-,-,-,h5⟩:=h
 cases e
 rw [add_of_add]
 rw [hashA_list] at hu
 exact h5 ad rfl _ u (hsC_get hok hx hu)
theorem elem_hash:Tryz.prog.elem 29=23:=by kernel_rfl
theorem und_hash:Tryz.prog.underlying 29=some (.slice (Tryz.prog.elem 29)):=by rw [elem_hash];exact Tryz.underlying29
theorem size_hash(w:World):(sizeOf 23).run Tryz.prog w=.ok 32 w:=by
 obtain ⟨i0,hi,hz⟩:∃ i,Tryz.prog.info? 23=some i ∧ i.size=32:=by
  have:=Tryz.infoHashP
  cases h:Tryz.prog.info? 23 with
  |none=>rw [h] at this;cases this
  |some i=>rw [h] at this;exact ⟨i,rfl,Option.some.inj this⟩
 rw [<- hz];simp only [sizeOf,typeInfo];simp [hi,go_sem]
theorem cut_hiH(A:Option Addr)(n c k:Nat)(hk:k<=c)(w:World):(Instr.sliceAt 29 (.slice A n c) none (some (.int .i64 (k:Int))) none).run Tryz.prog w=.ok (.slice A k c) w:=by
 rw [run_sliceAt_slice w 29 _ _ _ _ und_hash,run_slice_h w 29 A n c und_hash .i64 k (by omega) (by omega),elem_hash,size_hash]
 simp only [Result.andThen_ok,Int.toNat_natCast]
 congr 1
 by_cases e:c=0
 . simp [sliced,e]
 . cases A with
   |none=>simp [sliced,e]
   |some ad=>simp [sliced,e,Addr.add]
def loH (A:Option Addr) (k c:Nat):Option Addr:=if c=k then A else A.map (·.add (k * 32))
theorem cut_loH(A:Option Addr)(n c k:Nat)(hk:k<=n)(w:World):(Instr.sliceAt 29 (.slice A n c) (some (.int .i64 (k:Int))) none none).run Tryz.prog w=.ok (.slice (loH A k c) (n - k) (c - k)) w:=by
 rw [run_sliceAt_slice w 29 _ _ _ _ und_hash,run_slice_l w 29 A n c und_hash .i64 k (by omega) (by omega),elem_hash,size_hash]
 simp only [Result.andThen_ok,Int.toNat_natCast]
 rfl
theorem cut_lhH(A:Option Addr)(n c lo m:Nat)(l h:Int)(hl:l=lo)(hh:h=lo+m)(hm:lo+m<=n)(hc:n<=c)(w:World):(Instr.sliceAt 29 (.slice A n c) (some (.int .i64 l)) (some (.int .i64 h)) none).run Tryz.prog w=.ok (.slice (loH A lo c) m (c - lo)) w:=by
 subst hl hh
 rw [run_sliceAt_slice w 29 _ _ _ _ und_hash,run_slice_lh w 29 A n c und_hash .i64 .i64 lo ((lo:Int)+(m:Int)) (by omega) (by omega) (by omega),elem_hash,size_hash]
 simp only [Result.andThen_ok,Int.toNat_natCast]
 rw [show ((lo:Int)+(m:Int)).toNat=lo+m from by omega]
 unfold sliced loH
 rw [Nat.add_sub_cancel_left]
theorem rd_hiH{w:World}{A:Option Addr}{n c k:Nat}{l:List (List UInt8)}(hok:HsOk l)(h:Rd w 32 (.slice A n c) n (hsC l))(hn:n=l.length)(hk:k<=n):Rd w 32 (.slice A k c) k (hsC (l.take k)):=by
 subst hn
 have hl:=hsC_length hok
 have hl2:=hsC_length (hok.take k)
 rw [List.length_take,Nat.min_eq_left hk] at hl2
 have he:hsC l=hsC (l.take k) ++ hsC (l.drop k):=by rw [<- hsC_append,List.take_append_drop]
 obtain ⟨h1,A',c',e,h2,h3,h4,h5⟩:=h
 cases e
 refine ⟨hl2,A,c,rfl,by omega,h3,(fun hA=>?_),fun ad had j u hu=>h5 ad had j u ?_⟩
 . have:=h4 hA;omega
 . rw [he,List.getElem?_append_left (List.getElem?_eq_some_iff.1 hu).1]
   exact hu
theorem rd_loH{w:World}{A:Option Addr}{n c k:Nat}{l:List (List UInt8)}(hok:HsOk l)(h:Rd w 32 (.slice A n c) n (hsC l))(hn:n=l.length)(hk:k<=n):Rd w 32 (.slice (loH A k c) (n - k) (c - k)) (n - k) (hsC (l.drop k)):=by
 subst hn
 have hl:=hsC_length hok
 have hl1:=hsC_length (hok.take k)
 have hl2:=hsC_length (hok.drop k)
 rw [List.length_take,Nat.min_eq_left hk] at hl1
 rw [List.length_drop] at hl2
 have he:hsC l=hsC (l.take k) ++ hsC (l.drop k):=by rw [<- hsC_append,List.take_append_drop]
 obtain ⟨h1,A',c',e,h2,h3,h4,h5⟩:=h
 cases e
 refine ⟨hl2,_,c - k,rfl,by omega,by omega,(fun hA=>?_),fun ad had j u hu=>?_⟩
 . unfold loH at hA
   by_cases e:c=k
   . rw [if_pos e] at hA
     have:=h4 hA;omega
   . rw [if_neg e,Option.map_eq_none_iff] at hA
     have:=h4 hA;omega
 . unfold loH at had
   by_cases e:c=k
   . have:=(List.getElem?_eq_some_iff.1 hu).1
     rw [hl2] at this
     omega
   . rw [if_neg e] at had
     obtain ⟨ad0,rfl,rfl⟩:=Option.map_eq_some_iff.1 had
     rw [add_of_add]
     refine h5 ad0 rfl _ u ?_
     rw [he,List.getElem?_append_right (by omega),hl1,show k * 32+j - k * 32=j from by omega]
     exact hu
theorem Tryz.infoHashZ:(Tryz.prog.info? 23).map (fun i=>(i.zero,i.size,i.bytes))=some (some (.agg (hashA (List.replicate 32 0))),32,32):=by kernel_rfl
theorem hsplit_any(n:Nat)(hn:n < 9223372036854775808)(w:World):Calls Tryz.prog 92 #[Nq n] w fun e w'=>e=.returned (Nq (splF n)) ∧ w=w':=by
 refine calls_fr Tryz.func92 rfl 11 rfl (fun a0 hsz hdf hAr=>?_)
 have hz0:a0.tmps.size=11:=hsz
 have D:=hdf
 have o0:=hAr 0 _ rfl
 refine wp_seq (tsp_r0 hz0 (fun a1 hs1 o2=>?_))
 obtain ⟨hz1,D,o0⟩:=kq1 hs1 hz0 D o0
 refine wp_seq (wp_seq (tsp_r1 n hz1 o0 (fun a2 hs2 o4=>?_)))
 obtain ⟨hz2,D,o0,o2⟩:=kq2 hs2 hz1 D o0 o2
 by_cases h2:n < 2
 . refine wcT o4 ?_ (by rw [decide_eq_true (by omega)])
   refine wp_seq (tsp_r2 hz2 (fun a3 hs3 o2=>?_))
   obtain ⟨hz3,D,o0,o4⟩:=kq2 hs3 hz2 D o0 o4
   refine wp_ret ?_
   simp only [Exit.then]
   exact bodyPost_ret (res_u1 (by rfl) (o2.eval (by rw [hz3];decide))) D ⟨by unfold splF;rw [if_pos h2],rfl⟩
 . refine wcF o4 (wp_skip ?_) (by rw [decide_eq_false (by omega)])
   simp only [Exit.then]
   obtain ⟨j,hj⟩:∃ j,Nat.log2 (n - 1)=j:=⟨_,rfl⟩
   have hj62:j<=62:=by
    have:=(Nat.log2_lt (n:=n - 1) (k:=63) (by omega)).2 (by omega)
    omega
   have hb:=bitLen_log2 (x:=n - 1) (by omega) (by omega)
   rw [hj] at hb
   refine wp_seq (tsp_r3 n j hj62 (by omega) hn hb hz2 o0 (fun a3 hs3 o2=>?_))
   obtain ⟨hz3,D,o0,o4⟩:=kq2 hs3 hz2 D o0 o4
   refine wp_ret ?_
   exact bodyPost_ret (res_u1 (by rfl) (o2.eval (by rw [hz3];decide))) D ⟨by rw [splF_two (by omega),hj];push_cast;rfl,rfl⟩
theorem rsplit_any(n:Nat)(hn:n < 9223372036854775808)(w:World):Calls Tryz.prog 81 #[Nq n] w fun e w'=>e=.returned (Nq (splF n)) ∧ w=w':=by
 refine calls_fr Tryz.func81 rfl 14 rfl (fun a0 hsz hdf hAr=>?_)
 have hz0:a0.tmps.size=14:=hsz
 have D:=hdf
 have o0:=hAr 0 _ rfl
 refine wp_seq (trs_r0 hz0 (fun a1 hs1 o2=>?_))
 obtain ⟨hz1,D,o0⟩:=kq1 hs1 hz0 D o0
 refine wp_seq (wp_seq (trs_r1 n hz1 o0 (fun a2 hs2 o5=>?_)))
 obtain ⟨hz2,D,o0,o2⟩:=kq2 hs2 hz1 D o0 o2
 by_cases h2:n < 2
 . refine wcT o5 ?_ (by rw [decide_eq_true (by omega)])
   refine wp_seq (trs_r2 hz2 (fun a3 hs3 o2=>?_))
   obtain ⟨hz3,D,o0,o5⟩:=kq2 hs3 hz2 D o0 o5
   refine wp_ret ?_
   simp only [Exit.then]
   exact bodyPost_ret (res_u1 (by rfl) (o2.eval (by rw [hz3];decide))) D ⟨by unfold splF;rw [if_pos h2],rfl⟩
 . refine wcF o5 (wp_skip ?_) (by rw [decide_eq_false (by omega)])
   simp only [Exit.then]
   refine wp_seq (trs_r3 hz2 (fun a3 hs3 o3=>?_))
   obtain ⟨hz3,D,o0,o2,o5⟩:=kq3 hs3 hz2 D o0 o2 o5
   refine wp_seq (wp_block ?_)
   (conv=>arg 2;whnf)
   refine wp_loop (fun a' w'=>∃ (k j:Nat),k=2 ^ j ∧ k < n ∧ a'.tmps.size=14 ∧ a'.defers=[] ∧ Sl a' 0 (Nq n) ∧ Sl a' 3 (Nq k) ∧ w=w') (fun a' _=>n - (intOf (a'.eval (.tmp 3))).toNat) ⟨1,0,rfl,by omega,hz3,D,o0,o3,rfl⟩ ?_
   clear D o0 o3
   rintro a7 w7 ⟨k,j,hkj,hk,hz7,D,o0,o3,rfl⟩
   have hp:=Nat.two_pow_pos j
   have e3:=o3.eval (by rw [hz7];decide)
   refine wp_seq (wp_seq (trs_r4 n k hk hn hz7 o0 o3 (fun a8 hs8 o10=>?_)))
   obtain ⟨hz8,D,o0,o3⟩:=kq2 hs8 hz7 D o0 o3
   by_cases hlt:(k:Int) < (n:Int) - (k:Int)
   . refine wcT o10 (wp_skip ?_) (by rw [decide_eq_true hlt])
     simp only [Exit.then]
     refine wp_block ?_
     refine trs_r5 k (by omega) hz8 o3 (fun a9 hs9 o3=>?_)
     have hz9:=hs9.size.trans hz8
     simp only [Exit.inBlock,Exit.then]
     refine ⟨⟨2 * k,j+1,by rw [Nat.pow_succ];omega,by omega,hz9,hs9.defers.trans D,hs9.q o0,o3,(by first|exact rfl|trivial)⟩,?_⟩
     show n - (intOf _).toNat < n - (intOf _).toNat
     rw [e3,o3.eval (by rw [hz9];decide)]
     simp only [intOf];omega
   . refine wcF o10 (wp_exit ?_) (by rw [decide_eq_false hlt])
     simp only [Exit.then,Exit.inBlock]
     refine wp_seq (trs_r6 _ hz8 o3 (fun a9 hs9 o2=>?_))
     obtain ⟨hz9,D,o0,o3,o10⟩:=kq3 hs9 hz8 D o0 o3 o10
     refine wp_ret ?_
     exact bodyPost_ret (res_u1 (by rfl) (o2.eval (by rw [hz9];decide))) D ⟨by rw [splF_is (n:=n) (j:=j) (by omega) (by omega),hkj],(by first|exact rfl|exact trivial)⟩
theorem tof_r0(w0:World)(L:List Res)(S:Held w0 w L)(hsz:a.tmps.size=27):RG1 false 0 Tryz.f49 Q a w fun a' W q'=>(∃ g,Sl a' 2 (Pq g 0) ∧ Held w0 W (blkR g 23 (hashA (List.replicate 32 0)) :: L))->q':=by
 intro hend
 refine wp_region_lit ?_
 (conv=>arg 4;whnf)
 have S1:=LH (S.newBlk 23 (hashA (List.replicate 32 0)))
 go_wp2
 try simp only [Act.put]
 exact hend _ _ tS (⟨w.heap.size,sP0,S1.out⟩)
theorem tof_r1(A:Option Addr)(n c:Nat)(hsz:a.tmps.size=27)(o0:Sl a 0 (.slice A n c)):RG0 1 Tryz.f49 Q a w fun a' q'=>Sl a' 3 (Nq n)->q':=rO
theorem tof_r2(x:Value)(hsz:a.tmps.size=27)(o3:Sl a 3 (x)):RG0 2 Tryz.f49 Q a w fun a' q'=>Sl a' 7 (x)->q':=rO
theorem tof_r5(n:Nat)(hsz:a.tmps.size=27)(o7:Sl a 7 (Nq n)):RG0 5 Tryz.f49 Q a w fun a' q'=>Sl a' 19 (.bool ((n:Int) == 0))->q':=rO
theorem tof_r7(n:Nat)(hsz:a.tmps.size=27)(o7:Sl a 7 (Nq n)):RG0 7 Tryz.f49 Q a w fun a' q'=>Sl a' 22 (.bool ((n:Int) == 1))->q':=rO
theorem tof_r6(w0:World)(g2:Nat)(L:List Res)(S:Held w0 w (blkR g2 23 (hashA (List.replicate 32 0)) :: L))(hsz:a.tmps.size=27)(o2:Sl a 2 (Pq g2 0)):RG1 false 6 Tryz.f49 Q a w fun a' W q'=>(Held w0 W (blkR g2 23 (hashA emptyF) :: L))->q':=by
 intro hend
 refine wp_region_lit ?_
 (conv=>arg 4;whnf)
 unfold Sl at o2
 have HR:=LH (hempty_any w)
 have hz3:Hid ((hashA (emptyF)).size=32):=LH (by rw [hashA_size,emptyF_length])
 have HO:=LH (hashA_one (emptyF))
 have hcz:Hid ((hashA (List.replicate 32 0)).size=32):=LH rfl
 obtain ⟨ch,hch0⟩:∃ ch,Hid (hashA (emptyF)=ch):=⟨_,LH rfl⟩
 have hch:=hz3
 rw [hch0.out] at HO hch
 clear hz3
 obtain ⟨cz,hcz0⟩:∃ cz,Hid ((hashA (List.replicate 32 0))=cz):=⟨_,LH rfl⟩
 rw [hcz0.out] at S hcz
 rw [hch0.out] at HR
 have S:=LH S
 go_wp2_with fail
 refine HR.out.mono ?_
 rintro r w1 ⟨rfl,k1⟩
 have S1:=LH (S.out.kp k1)
 clear k1
 go_wp2_with (refine wpList_store_blk rfl 23 (.tmp 2) (.tmp 21) rfl g2 (aO o2) ch aE 23 _ (S1.out.at_ (l1:=[])) (by rw [hch.out];exact Tryz.infoHashP) (by rw [hch.out,hcz.out]) HO.out ?_;intro w7 b7 k7;have S7:=LH (Held.setBlk (l1:=[]) S1.out b7 k7);clear b7 k7)
 rw [<- hch0.out] at S7
 try simp only [Act.put]
 exact hend _ _ tS (S7.out)
theorem tof_r8(w0:World)(g2:Nat)(ad:Addr)(n c:Nat)(hn:0 < n)(h:Bs)(hh:h.length=32)(hc:∀ j u,(hashA h).toList[j]?=some u->w.cell? (ad.add j)=some u)(L:List Res)(S:Held w0 w (blkR g2 23 (hashA (List.replicate 32 0)) :: L))(hsz:a.tmps.size=27)(o0:Sl a 0 (.slice (some ad) n c))(o2:Sl a 2 (Pq g2 0)):RG1 false 8 Tryz.f49 Q a w fun a' W q'=>(Held w0 W (blkR g2 23 (hashA h) :: L))->q':=by
 intro hend
 refine wp_region_lit ?_
 (conv=>arg 4;whnf)
 unfold Sl at o0 o2
 have h0:(0:Int) < (n:Int):=by omega
 have hz3:Hid ((hashA (h)).size=32):=LH (by rw [hashA_size,hh])
 have HO:=LH (hashA_one (h))
 have hcz:Hid ((hashA (List.replicate 32 0)).size=32):=LH rfl
 obtain ⟨ch,hch0⟩:∃ ch,Hid (hashA (h)=ch):=⟨_,LH rfl⟩
 have hch:=hz3
 rw [hch0.out] at HO hch
 clear hz3
 obtain ⟨cz,hcz0⟩:∃ cz,Hid ((hashA (List.replicate 32 0))=cz):=⟨_,LH rfl⟩
 rw [hcz0.out] at S hcz
 have HC:Hid (∀ j u,ch.toList[j]?=some u->w.cell? (ad.add j)=some u):=LH (by rw [<- hch0.out];exact hc)
 clear hc
 have S1:=LH S
 go_wp2_with (first|(refine wpList_load_agg rfl 23 (.tmp 25) rfl ad (by simp [Act.eval,Act.put,hsz,Addr.add]) ch.toList _ HC.out Tryz.underlying23 rfl (by rw [Array.length_toList,hch.out];exact Tryz.infoHashP) ?_)|(refine wpList_store_blk rfl 23 (.tmp 2) (.tmp 26) rfl g2 (aO o2) ch aE 23 _ (S1.out.at_ (l1:=[])) (by rw [hch.out];exact Tryz.infoHashP) (by rw [hch.out,hcz.out]) HO.out ?_;intro w7 b7 k7;have S7:=LH (Held.setBlk (l1:=[]) S1.out b7 k7);clear b7 k7))
 rw [<- hch0.out] at S7
 try simp only [Act.put]
 exact hend _ _ tS (S7.out)
theorem tof_r3(n:Nat)(hn:n < 9223372036854775808)(hsz:a.tmps.size=27)(o3:Sl a 3 (Nq n)):RG0 3 Tryz.f49 Q a w fun a' q'=>Sl a' 4 (Nq (splF n))->q':=by
 intro hend
 refine wp_region_lit ?_
 (conv=>arg 4;whnf)
 unfold Sl at o3
 have HR:=LH (hsplit_any n hn w)
 go_wp2_with fail
 refine HR.out.mono ?_
 rintro e w' ⟨rfl,rfl⟩
 go_wp2_with fail
 try simp only [Act.put]
 exact hend _ tS sP
theorem tof_r4(w0:World)(g2:Nat)(A:Option Addr)(c:Nat)(l:List (List UInt8))(hok:HsOk l)(hl2:2<=l.length)(hlc:l.length<=c)(hspl:0 < splF l.length ∧ splF l.length < l.length)(hva:∀ V,Kp [] w0 V->Rd V 32 (.slice A l.length c) l.length (hsC l))(HO:∀ (V:World) (m:List (List UInt8)) (B:Option Addr) (d:Nat),m.length < l.length->HsOk m->Rd V 32 (.slice B m.length d) m.length (hsC m)->Calls Tryz.prog 49 #[.slice B m.length d] V fun e w'=>e=.returned (.agg (hashA (rootF m))) ∧ Kp [] V w')(L:List Res)(hsz:a.tmps.size=27)(o0:Sl a 0 (.slice A l.length c))(o2:Sl a 2 (Pq g2 0))(o4:Sl a 4 (Nq (splF l.length)))
 (S0:Held w0 w (blkR g2 23 (hashA (List.replicate 32 0)) :: L)):RG1 true 4 Tryz.f49 Q a w fun a' W q'=>Held w0 W (blkR g2 23 (hashA (rootF l)) :: L)->q':=by
 intro hend
 have hap:=pa 4 Tryz.f49
 refine wp_region_sep (Γ:=Unit) (l:=(opsOf 4 Tryz.f49)) 2 [0,1,2,3,4,5,6,7,8,9,11]
  (fun i vs gs=>match i with|0=>vs 0=.slice A l.length c|1=>vs 1=Nq (splF l.length)|2=>vs 2=.slice A (splF l.length) c|3=>vs 3=.agg (hashA (rootF (l.take (splF l.length))))|4=>vs 4=.slice A l.length c|5=>vs 5=Nq (splF l.length)|6=>vs 6=.slice (loH A (splF l.length) c) (l.length - splF l.length) (c - splF l.length)|7=>vs 7=.agg (hashA (rootF (l.drop (splF l.length))))|8=>vs 8=.agg (hashA (rootF l))|_=>True)
  (fun i vs gs=>match i with|9=>[blkR g2 23 (hashA (rootF l))]|10=>[blkR g2 23 (hashA (List.replicate 32 0))]|11=>L|_=>[])
  (fun i=>match i with|9=>[10]|_=>[]) (fun i=>match i with  | _=>[]) S0 (by kernel_rfl) hap (by kernel_rfl) (by kernel_rfl) (fun i=>match i with|0=>[0]|1=>[1]|2=>[2]|3=>[3]|4=>[4]|5=>[5]|6=>[6]|7=>[7]|8=>[8]|_=>[]) (by kernel_rfl) ?_ (by kernel_rfl) ?_ ?_ ?_
 . exact lA
 . exact pA
 . clear S0 hend
   and_intros <;> try intro vs gs A' W LF hA S hR hd hu K hK
   . exact qa1 (eO 0 o0)
   . exact qa1 (eO 4 o4)
   . have hq:=cut_hiH A l.length c (splF l.length) (by omega) W
     exact qa2 (vD 10 0) (vD 11 1)
   . replace hK:=hK default;have e12:=vD 12 2;clear hA o0 o2 o4
     have hlt:(l.take (splF l.length)).length=splF l.length:=by rw [List.length_take];omega
     go_step;have hR:=rd_hiH hok (hva W S.k) rfl (show splF l.length<=l.length by omega)
     have hC:=HO W (l.take (splF l.length)) A c (by omega) (hok.take _) (by rw [hlt];exact hR)
     rw [hlt] at hC
     refine hC.mono ?_
     rintro e w' ⟨rfl,k⟩
     exact hK _ _ (S.kp k) rfl
   . exact qa1 (eO 0 o0)
   . exact qa1 (eO 4 o4)
   . have hq:=cut_loH A l.length c (splF l.length) (by omega) W
     exact qa2 (vD 14 4) (vD 15 5)
   . replace hK:=hK default;have e16:=vD 16 6;clear hA o0 o2 o4
     have hlt:(l.drop (splF l.length)).length=l.length - splF l.length:=List.length_drop
     go_step;have hR:=rd_loH hok (hva W S.k) rfl (show splF l.length<=l.length by omega)
     have hC:=HO W (l.drop (splF l.length)) (loH A (splF l.length) c) (c - splF l.length) (by omega) (hok.drop _) (by rw [hlt];exact hR)
     rw [hlt] at hC
     refine hC.mono ?_
     rintro e w' ⟨rfl,k⟩
     exact hK _ _ (S.kp k) rfl
   . replace hK:=hK default;have e13:=vD 13 3;have e17:=vD 17 7;clear hA o0 o2 o4;go_step
     refine (hnode_any _ _ (rootF_length (hok.take _)) (rootF_length (hok.drop _)) W).mono ?_
     rintro e w' ⟨rfl,k⟩
     exact hK _ _ (S.kp k) (congrArg (fun x=>Value.agg (hashA x)) (rootF_two hl2).symm)
   . replace hK:=hK default;have e2:=eO 2 o2;have e18:=vD 18 8;clear hA o0 o2 o4
     have S1:Held w0 W (blkR g2 23 (hashA (List.replicate 32 0)) :: LF):=S
     refine op_store_blkS (.tmp 2) (.tmp 18) 23 rfl g2 (by simpa [Act.eval] using e2) (hashA (rootF l)) (by simpa [Act.eval] using e18) 23 (hashA (List.replicate 32 0)) S1 (by rw [hashA_size,rootF_length hok];exact Tryz.infoHashP) (by rw [hashA_size,rootF_length hok] <;> rfl) (hashA_one _) ?_
     intro w' S2
     exact hK _ _ S2 trivial
   . trivial
 . intro vs gs W S hp
   have S:Held w0 W (blkR g2 23 (hashA (rootF l)) :: L):=by simpa only [List.flatMap_cons,List.flatMap_nil,List.append_nil,List.nil_append,List.cons_append,List.append_assoc] using S
   rw [putAll_eq]
   exact hend _ W sQ  S
theorem trf_r0(w0:World)(L:List Res)(S:Held w0 w L)(hsz:a.tmps.size=26):RG1 false 0 Tryz.f41 Q a w fun a' W q'=>(∃ g,Sl a' 2 (Pq g 0) ∧ Held w0 W (blkR g 23 (hashA (List.replicate 32 0)) :: L))->q':=by
 intro hend
 refine wp_region_lit ?_
 (conv=>arg 4;whnf)
 have S1:=LH (S.newBlk 23 (hashA (List.replicate 32 0)))
 go_wp2
 try simp only [Act.put]
 exact hend _ _ tS (⟨w.heap.size,sP0,S1.out⟩)
theorem trf_r1(A:Option Addr)(n c:Nat)(hsz:a.tmps.size=26)(o0:Sl a 0 (.slice A n c)):RG0 1 Tryz.f41 Q a w fun a' q'=>Sl a' 6 (.bool ((n:Int) == 0))->q':=rO
theorem trf_r3(A:Option Addr)(n c:Nat)(hsz:a.tmps.size=26)(o0:Sl a 0 (.slice A n c)):RG0 3 Tryz.f41 Q a w fun a' q'=>Sl a' 10 (.bool ((n:Int) == 1))->q':=rO
theorem trf_r2(w0:World)(g2:Nat)(L:List Res)(S:Held w0 w (blkR g2 23 (hashA (List.replicate 32 0)) :: L))(hsz:a.tmps.size=26)(o2:Sl a 2 (Pq g2 0)):RG1 false 2 Tryz.f41 Q a w fun a' W q'=>(Held w0 W (blkR g2 23 (hashA emptyF) :: L))->q':=by
 intro hend
 refine wp_region_lit ?_
 (conv=>arg 4;whnf)
 unfold Sl at o2
 have HR:=LH (rempty_any w)
 have hz3:Hid ((hashA (emptyF)).size=32):=LH (by rw [hashA_size,emptyF_length])
 have HO:=LH (hashA_one (emptyF))
 have hcz:Hid ((hashA (List.replicate 32 0)).size=32):=LH rfl
 obtain ⟨ch,hch0⟩:∃ ch,Hid (hashA (emptyF)=ch):=⟨_,LH rfl⟩
 have hch:=hz3
 rw [hch0.out] at HO hch
 clear hz3
 obtain ⟨cz,hcz0⟩:∃ cz,Hid ((hashA (List.replicate 32 0))=cz):=⟨_,LH rfl⟩
 rw [hcz0.out] at S hcz
 rw [hch0.out] at HR
 have S:=LH S
 go_wp2_with fail
 refine HR.out.mono ?_
 rintro r w1 ⟨rfl,k1⟩
 have S1:=LH (S.out.kp k1)
 clear k1
 go_wp2_with (refine wpList_store_blk rfl 23 (.tmp 2) (.tmp 7) rfl g2 (aO o2) ch aE 23 _ (S1.out.at_ (l1:=[])) (by rw [hch.out];exact Tryz.infoHashP) (by rw [hch.out,hcz.out]) HO.out ?_;intro w7 b7 k7;have S7:=LH (Held.setBlk (l1:=[]) S1.out b7 k7);clear b7 k7)
 rw [<- hch0.out] at S7
 try simp only [Act.put]
 exact hend _ _ tS (S7.out)
theorem trf_r4(w0:World)(g2:Nat)(ad:Addr)(n c:Nat)(hn:0 < n)(h:Bs)(hh:h.length=32)(hc:∀ j u,(hashA h).toList[j]?=some u->w.cell? (ad.add j)=some u)(L:List Res)(S:Held w0 w (blkR g2 23 (hashA (List.replicate 32 0)) :: L))(hsz:a.tmps.size=26)(o0:Sl a 0 (.slice (some ad) n c))(o2:Sl a 2 (Pq g2 0)):RG1 false 4 Tryz.f41 Q a w fun a' W q'=>(Held w0 W (blkR g2 23 (hashA h) :: L))->q':=by
 intro hend
 refine wp_region_lit ?_
 (conv=>arg 4;whnf)
 unfold Sl at o0 o2
 have h0:(0:Int) < (n:Int):=by omega
 have hz3:Hid ((hashA (h)).size=32):=LH (by rw [hashA_size,hh])
 have HO:=LH (hashA_one (h))
 have hcz:Hid ((hashA (List.replicate 32 0)).size=32):=LH rfl
 obtain ⟨ch,hch0⟩:∃ ch,Hid (hashA (h)=ch):=⟨_,LH rfl⟩
 have hch:=hz3
 rw [hch0.out] at HO hch
 clear hz3
 obtain ⟨cz,hcz0⟩:∃ cz,Hid ((hashA (List.replicate 32 0))=cz):=⟨_,LH rfl⟩
 rw [hcz0.out] at S hcz
 have HC:Hid (∀ j u,ch.toList[j]?=some u->w.cell? (ad.add j)=some u):=LH (by rw [<- hch0.out];exact hc)
 clear hc
 have S1:=LH S
 go_wp2_with (first|(refine wpList_load_agg rfl 23 (.tmp 12) rfl ad (by simp [Act.eval,Act.put,hsz,Addr.add]) ch.toList _ HC.out Tryz.underlying23 rfl (by rw [Array.length_toList,hch.out];exact Tryz.infoHashP) ?_)|(refine wpList_store_blk rfl 23 (.tmp 2) (.tmp 13) rfl g2 (aO o2) ch aE 23 _ (S1.out.at_ (l1:=[])) (by rw [hch.out];exact Tryz.infoHashP) (by rw [hch.out,hcz.out]) HO.out ?_;intro w7 b7 k7;have S7:=LH (Held.setBlk (l1:=[]) S1.out b7 k7);clear b7 k7))
 rw [<- hch0.out] at S7
 try simp only [Act.put]
 exact hend _ _ tS (S7.out)
theorem trf_r5(A:Option Addr)(n c:Nat)(hn:n < 9223372036854775808)(hsz:a.tmps.size=26)(o0:Sl a 0 (.slice A n c)):RG0 5 Tryz.f41 Q a w fun a' q'=>Sl a' 3 (Nq (splF n))->q':=by
 intro hend
 refine wp_region_lit ?_
 (conv=>arg 4;whnf)
 unfold Sl at o0
 have HR:=LH (rsplit_any n hn w)
 go_wp2_with fail
 refine HR.out.mono ?_
 rintro e w' ⟨rfl,rfl⟩
 go_wp2_with fail
 try simp only [Act.put]
 exact hend _ tS sP
theorem trf_r6(w0:World)(g2:Nat)(A:Option Addr)(c:Nat)(l:List (List UInt8))(hok:HsOk l)(hl2:2<=l.length)(hlc:l.length<=c)(hspl:0 < splF l.length ∧ splF l.length < l.length)(hva:∀ V,Kp [] w0 V->Rd V 32 (.slice A l.length c) l.length (hsC l))(HO:∀ (V:World) (m:List (List UInt8)) (B:Option Addr) (d:Nat),m.length < l.length->HsOk m->Rd V 32 (.slice B m.length d) m.length (hsC m)->Calls Tryz.prog 41 #[.slice B m.length d] V fun e w'=>e=.returned (.agg (hashA (rootF m))) ∧ Kp [] V w')(L:List Res)(hsz:a.tmps.size=26)(o0:Sl a 0 (.slice A l.length c))(o2:Sl a 2 (Pq g2 0))(o3:Sl a 3 (Nq (splF l.length)))
 (S0:Held w0 w (blkR g2 23 (hashA (List.replicate 32 0)) :: L)):RG1 true 6 Tryz.f41 Q a w fun a' W q'=>Held w0 W (blkR g2 23 (hashA (rootF l)) :: L)->q':=by
 intro hend
 have hap:=pa 6 Tryz.f41
 refine wp_region_sep (Γ:=Unit) (l:=(opsOf 6 Tryz.f41)) 2 [0,1,2,3,4,5,6,7,8,9,11]
  (fun i vs gs=>match i with|0=>vs 0=.slice A l.length c|1=>vs 1=Nq (splF l.length)|2=>vs 2=.slice A (splF l.length) c|3=>vs 3=.agg (hashA (rootF (l.take (splF l.length))))|4=>vs 4=.slice A l.length c|5=>vs 5=Nq (splF l.length)|6=>vs 6=.slice (loH A (splF l.length) c) (l.length - splF l.length) (c - splF l.length)|7=>vs 7=.agg (hashA (rootF (l.drop (splF l.length))))|8=>vs 8=.agg (hashA (rootF l))|_=>True)
  (fun i vs gs=>match i with|9=>[blkR g2 23 (hashA (rootF l))]|10=>[blkR g2 23 (hashA (List.replicate 32 0))]|11=>L|_=>[])
  (fun i=>match i with|9=>[10]|_=>[]) (fun i=>match i with  | _=>[]) S0 (by kernel_rfl) hap (by kernel_rfl) (by kernel_rfl) (fun i=>match i with|0=>[0]|1=>[1]|2=>[2]|3=>[3]|4=>[4]|5=>[5]|6=>[6]|7=>[7]|8=>[8]|_=>[]) (by kernel_rfl) ?_ (by kernel_rfl) ?_ ?_ ?_
 . exact lA
 . exact pA
 . clear S0 hend
   and_intros <;> try intro vs gs A' W LF hA S hR hd hu K hK
   . exact qa1 (eO 0 o0)
   . exact qa1 (eO 3 o3)
   . have hq:=cut_hiH A l.length c (splF l.length) (by omega) W
     exact qa2 (vD 17 0) (vD 18 1)
   . replace hK:=hK default;have e19:=vD 19 2;clear hA o0 o2 o3
     have hlt:(l.take (splF l.length)).length=splF l.length:=by rw [List.length_take];omega
     go_step;have hR:=rd_hiH hok (hva W S.k) rfl (show splF l.length<=l.length by omega)
     have hC:=HO W (l.take (splF l.length)) A c (by omega) (hok.take _) (by rw [hlt];exact hR)
     rw [hlt] at hC
     refine hC.mono ?_
     rintro e w' ⟨rfl,k⟩
     exact hK _ _ (S.kp k) rfl
   . exact qa1 (eO 0 o0)
   . exact qa1 (eO 3 o3)
   . have hq:=cut_loH A l.length c (splF l.length) (by omega) W
     exact qa2 (vD 21 4) (vD 22 5)
   . replace hK:=hK default;have e23:=vD 23 6;clear hA o0 o2 o3
     have hlt:(l.drop (splF l.length)).length=l.length - splF l.length:=List.length_drop
     go_step;have hR:=rd_loH hok (hva W S.k) rfl (show splF l.length<=l.length by omega)
     have hC:=HO W (l.drop (splF l.length)) (loH A (splF l.length) c) (c - splF l.length) (by omega) (hok.drop _) (by rw [hlt];exact hR)
     rw [hlt] at hC
     refine hC.mono ?_
     rintro e w' ⟨rfl,k⟩
     exact hK _ _ (S.kp k) rfl
   . replace hK:=hK default;have e20:=vD 20 3;have e24:=vD 24 7;clear hA o0 o2 o3;go_step
     refine (rnode_any _ _ (rootF_length (hok.take _)) (rootF_length (hok.drop _)) W).mono ?_
     rintro e w' ⟨rfl,k⟩
     exact hK _ _ (S.kp k) (congrArg (fun x=>Value.agg (hashA x)) (rootF_two hl2).symm)
   . replace hK:=hK default;have e2:=eO 2 o2;have e25:=vD 25 8;clear hA o0 o2 o3
     have S1:Held w0 W (blkR g2 23 (hashA (List.replicate 32 0)) :: LF):=S
     refine op_store_blkS (.tmp 2) (.tmp 25) 23 rfl g2 (by simpa [Act.eval] using e2) (hashA (rootF l)) (by simpa [Act.eval] using e25) 23 (hashA (List.replicate 32 0)) S1 (by rw [hashA_size,rootF_length hok];exact Tryz.infoHashP) (by rw [hashA_size,rootF_length hok] <;> rfl) (hashA_one _) ?_
     intro w' S2
     exact hK _ _ S2 trivial
   . trivial
 . intro vs gs W S hp
   have S:Held w0 W (blkR g2 23 (hashA (rootF l)) :: L):=by simpa only [List.flatMap_cons,List.flatMap_nil,List.append_nil,List.nil_append,List.cons_append,List.append_assoc] using S
   rw [putAll_eq]
   exact hend _ W sQ  S
end
section
open Go.RowKit Go.Shelf
theorem tof_n:∀ (N:Nat) (A:Option Addr) (c:Nat) (l:List (List UInt8)) (_:HsOk l) (_:l.length < N) (w:World) (_:Rd w 32 (.slice A l.length c) l.length (hsC l)),
 Calls Tryz.prog 49 #[.slice A l.length c] w fun e w'=>e=.returned (.agg (hashA (rootF l))) ∧ Kp [] w w'
 |0,_,_,l,_,h,_,_=>absurd h (Nat.not_lt_zero _)
 |N+1,A,c,l,hok,hN,w,hv=>by
  have hlen:l.length<=c ∧ c<=maxLen:=by
   obtain ⟨-,A',c',e,h1,h2,-,-⟩:=hv
   cases e
   exact ⟨h1,h2⟩
  have hlm:=hlen.2
  unfold maxLen at hlm
  refine calls_fr Tryz.func49 rfl 27 rfl (fun a0 hsz hdf hAr=>?_)
  have hz0:a0.tmps.size=27:=hsz
  have D:=hdf
  have o0:=hAr 0 _ rfl
  refine wp_seq (tof_r0 w [] (Held.start w) hz0 (fun a1 w1 hs1 h1=>?_))
  obtain ⟨hz1,D,o0⟩:=kq1 hs1 hz0 D o0
  obtain ⟨g2,o2,S⟩:=h1
  refine wp_seq (tof_r1 A l.length c hz1 o0 (fun a2 hs2 o3=>?_))
  obtain ⟨hz2,D,o0,o2⟩:=kq2 hs2 hz1 D o0 o2
  refine wp_seq (tof_r2 _ hz2 o3 (fun a3 hs3 o7=>?_))
  obtain ⟨hz3,D,o0,o2,o3⟩:=kq3 hs3 hz2 D o0 o2 o3
  refine wp_block ?_
  refine wp_seq (tof_r5 l.length hz3 o7 (fun a4 hs4 o19=>?_))
  obtain ⟨hz4,D,o0,o2,o3,o7⟩:=kq4 hs4 hz3 D o0 o2 o3 o7
  by_cases h0:l.length=0
  . have hn:l=[]:=List.length_eq_zero_iff.1 h0
    refine wcT o19 ?_ (by rw [h0];rfl)
    refine wp_seq (tof_r6 w g2 _ S hz4 o2 (fun a5 w9 hs5 S=>?_))
    obtain ⟨hz5,D,o0,o2,o3,o7,o19⟩:=kq5 hs5 hz4 D o0 o2 o3 o7 o19
    subst hn
    refine wp_ret ?_
    try simp only [Exit.inBlock,Exit.then]
    exact bodyPost_ret (results_cell1 (by rfl) (o2.eval (by rw [hz5];decide)) (S.ok (blkR g2 23 (hashA emptyF)) (by simp)) Tryz.underlying23 rfl (by rw [hashA_size,emptyF_length];exact Tryz.infoHashP)) D ⟨rfl,S.k⟩
  . have hne:(((l.length:Nat):Int) == 0)=false:=by rw [beq_eq_false_iff_ne];omega
    refine wcF o19 ?_ (by rw [hne])
    refine wp_seq (tof_r7 l.length hz4 o7 (fun a5 hs5 o22=>?_))
    obtain ⟨hz5,D,o0,o2,o3,o7,o19⟩:=kq5 hs5 hz4 D o0 o2 o3 o7 o19
    by_cases h1':l.length=1
    . obtain ⟨x,hx⟩:∃ x,l=[x]:=List.length_eq_one_iff.1 h1'
      subst hx
      obtain ⟨ad,rfl⟩:=rd_addr hv (by simp)
      have hx32:=hok x (List.mem_cons_self ..)
      have hc:∀ j u,(hashA x).toList[j]?=some u->w1.cell? (ad.add j)=some u:=fun j u hu=>by
       have:=rd_hash_at hok (rd_old hv S.k) (k:=0) rfl j u hu
       rwa [show (ad.add (0 * 32))=ad by simp [Addr.add]] at this
      refine wcT o22 ?_ (by rfl)
      refine wp_seq (tof_r8 w g2 ad 1 c (by decide) x hx32 hc _ S hz5 o0 o2 (fun a6 w9 hs6 S=>?_))
      obtain ⟨hz6,D,o0,o2,o3,o7,o19,o22⟩:=kq6 hs6 hz5 D o0 o2 o3 o7 o19 o22
      refine wp_ret ?_
      try simp only [Exit.inBlock,Exit.then]
      exact bodyPost_ret (results_cell1 (by rfl) (o2.eval (by rw [hz6];decide)) (S.ok (blkR g2 23 (hashA x)) (by simp)) Tryz.underlying23 rfl (by rw [hashA_size,hx32];exact Tryz.infoHashP)) D ⟨rfl,S.k⟩
    . have hne:(((l.length:Nat):Int) == 1)=false:=by rw [beq_eq_false_iff_ne];omega
      have hl2:2<=l.length:=by omega
      refine wcF o22 ?_ (by rw [hne])
      refine wp_seq (tof_r3 l.length (by omega) hz5 o3 (fun a6 hs6 o4=>?_))
      obtain ⟨hz6,D,o0,o2,o3,o7,o19,o22⟩:=kq6 hs6 hz5 D o0 o2 o3 o7 o19 o22
      refine wp_seq (tof_r4 w g2 A c l hok hl2 hlen.1 ⟨splF_pos hl2,splF_lt hl2⟩ (fun V kV=>rd_old hv kV) (fun V m B d h1 h2 h3=>tof_n N B d m h2 (by omega) V h3) _ hz6 o0 o2 o4 S (fun a7 w9 hs7 S=>?_))
      obtain ⟨hz7,D,o0,o2,o3,o7,o19,o22,o4⟩:=kq7 hs7 hz6 D o0 o2 o3 o7 o19 o22 o4
      refine wp_ret ?_
      try simp only [Exit.inBlock,Exit.then]
      exact bodyPost_ret (results_cell1 (by rfl) (o2.eval (by rw [hz7];decide)) (S.ok (blkR g2 23 (hashA (rootF l))) (by simp)) Tryz.underlying23 rfl (by rw [hashA_size,rootF_length hok];exact Tryz.infoHashP)) D ⟨rfl,S.k⟩
theorem tof_any(A:Option Addr)(c:Nat)(l:List (List UInt8))(hok:HsOk l)(w:World)(hv:Rd w 32 (.slice A l.length c) l.length (hsC l)):
 Calls Tryz.prog 49 #[.slice A l.length c] w fun e w'=>e=.returned (.agg (hashA (rootF l))) ∧ Kp [] w w':=tof_n (l.length+1) A c l hok (by omega) w hv
theorem trf_n:∀ (N:Nat) (A:Option Addr) (c:Nat) (l:List (List UInt8)) (_:HsOk l) (_:l.length < N) (w:World) (_:Rd w 32 (.slice A l.length c) l.length (hsC l)),
 Calls Tryz.prog 41 #[.slice A l.length c] w fun e w'=>e=.returned (.agg (hashA (rootF l))) ∧ Kp [] w w'
 |0,_,_,l,_,h,_,_=>absurd h (Nat.not_lt_zero _)
 |N+1,A,c,l,hok,hN,w,hv=>by
  have hlen:l.length<=c ∧ c<=maxLen:=by
   obtain ⟨-,A',c',e,h1,h2,-,-⟩:=hv
   cases e
   exact ⟨h1,h2⟩
  have hlm:=hlen.2
  unfold maxLen at hlm
  refine calls_fr Tryz.func41 rfl 26 rfl (fun a0 hsz hdf hAr=>?_)
  have hz0:a0.tmps.size=26:=hsz
  have D:=hdf
  have o0:=hAr 0 _ rfl
  refine wp_seq (trf_r0 w [] (Held.start w) hz0 (fun a1 w1 hs1 h1=>?_))
  obtain ⟨hz1,D,o0⟩:=kq1 hs1 hz0 D o0
  obtain ⟨g2,o2,S⟩:=h1
  refine wp_seq (wp_seq (trf_r1 A l.length c hz1 o0 (fun a2 hs2 o6=>?_)))
  obtain ⟨hz2,D,o0,o2⟩:=kq2 hs2 hz1 D o0 o2
  by_cases h0:l.length=0
  . have hn:l=[]:=List.length_eq_zero_iff.1 h0
    refine wcT o6 ?_ (by rw [h0];rfl)
    refine wp_seq (trf_r2 w g2 _ S hz2 o2 (fun a3 w9 hs3 S=>?_))
    obtain ⟨hz3,D,o0,o2,o6⟩:=kq3 hs3 hz2 D o0 o2 o6
    subst hn
    refine wp_ret ?_
    try simp only [Exit.inBlock,Exit.then]
    exact bodyPost_ret (results_cell1 (by rfl) (o2.eval (by rw [hz3];decide)) (S.ok (blkR g2 23 (hashA emptyF)) (by simp)) Tryz.underlying23 rfl (by rw [hashA_size,emptyF_length];exact Tryz.infoHashP)) D ⟨rfl,S.k⟩
  . have hne:(((l.length:Nat):Int) == 0)=false:=by rw [beq_eq_false_iff_ne];omega
    refine wcF o6 (wp_skip ?_) (by rw [hne])
    simp only [Exit.then]
    refine wp_seq (wp_seq (trf_r3 A l.length c hz2 o0 (fun a3 hs3 o10=>?_)))
    obtain ⟨hz3,D,o0,o2,o6⟩:=kq3 hs3 hz2 D o0 o2 o6
    by_cases h1':l.length=1
    . obtain ⟨x,hx⟩:∃ x,l=[x]:=List.length_eq_one_iff.1 h1'
      subst hx
      obtain ⟨ad,rfl⟩:=rd_addr hv (by simp)
      have hx32:=hok x (List.mem_cons_self ..)
      have hc:∀ j u,(hashA x).toList[j]?=some u->w1.cell? (ad.add j)=some u:=fun j u hu=>by
       have:=rd_hash_at hok (rd_old hv S.k) (k:=0) rfl j u hu
       rwa [show (ad.add (0 * 32))=ad by simp [Addr.add]] at this
      refine wcT o10 ?_ (by rfl)
      refine wp_seq (trf_r4 w g2 ad 1 c (by decide) x hx32 hc _ S hz3 o0 o2 (fun a4 w9 hs4 S=>?_))
      obtain ⟨hz4,D,o0,o2,o6,o10⟩:=kq4 hs4 hz3 D o0 o2 o6 o10
      refine wp_ret ?_
      try simp only [Exit.inBlock,Exit.then]
      exact bodyPost_ret (results_cell1 (by rfl) (o2.eval (by rw [hz4];decide)) (S.ok (blkR g2 23 (hashA x)) (by simp)) Tryz.underlying23 rfl (by rw [hashA_size,hx32];exact Tryz.infoHashP)) D ⟨rfl,S.k⟩
    . have hne:(((l.length:Nat):Int) == 1)=false:=by rw [beq_eq_false_iff_ne];omega
      have hl2:2<=l.length:=by omega
      refine wcF o10 (wp_skip ?_) (by rw [hne])
      simp only [Exit.then]
      refine wp_seq (trf_r5 A l.length c (by omega) hz3 o0 (fun a4 hs4 o3=>?_))
      obtain ⟨hz4,D,o0,o2,o6,o10⟩:=kq4 hs4 hz3 D o0 o2 o6 o10
      refine wp_seq (trf_r6 w g2 A c l hok hl2 hlen.1 ⟨splF_pos hl2,splF_lt hl2⟩ (fun V kV=>rd_old hv kV) (fun V m B d h1 h2 h3=>trf_n N B d m h2 (by omega) V h3) _ hz4 o0 o2 o3 S (fun a5 w9 hs5 S=>?_))
      obtain ⟨hz5,D,o0,o2,o6,o10,o3⟩:=kq5 hs5 hz4 D o0 o2 o6 o10 o3
      refine wp_ret ?_
      try simp only [Exit.inBlock,Exit.then]
      exact bodyPost_ret (results_cell1 (by rfl) (o2.eval (by rw [hz5];decide)) (S.ok (blkR g2 23 (hashA (rootF l))) (by simp)) Tryz.underlying23 rfl (by rw [hashA_size,rootF_length hok];exact Tryz.infoHashP)) D ⟨rfl,S.k⟩
theorem trf_any(A:Option Addr)(c:Nat)(l:List (List UInt8))(hok:HsOk l)(w:World)(hv:Rd w 32 (.slice A l.length c) l.length (hsC l)):
 Calls Tryz.prog 41 #[.slice A l.length c] w fun e w'=>e=.returned (.agg (hashA (rootF l))) ∧ Kp [] w w':=trf_n (l.length+1) A c l hok (by omega) w hv
end
section
variable {Q:Exit->Act->World->Prop} {a:Act} {w:World}
open Go.RowKit Go.Shelf
theorem fill_hash{cs:Array Value}(hc:cs.size=32):Instr.fill (fun i=>some (i * 32,32)) ((Array.range (1 * 32)).map ((hashA (List.replicate 32 0))[· % (hashA (List.replicate 32 0)).size]!)) [(0,.agg cs)]=some cs:=by
 have hz:((Array.range (1 * 32)).map ((hashA (List.replicate 32 0))[· % (hashA (List.replicate 32 0)).size]!)).size=32:=by simp
 generalize (Array.range (1 * 32)).map ((hashA (List.replicate 32 0))[· % (hashA (List.replicate 32 0)).size]!)=z at *
 have h1:=foldl_place 0 cs.toList 0 z
 have e:cs.zipIdx.foldl (fun r (x:Value × Nat)=>r.setIfInBounds (0+x.2) x.1) z=cs:=by
  rw [show cs.zipIdx.foldl (fun r (x:Value × Nat)=>r.setIfInBounds (0+x.2) x.1) z=(cs.toList.zipIdx 0).foldl (fun r (x:Value × Nat)=>r.setIfInBounds (0+x.2) x.1) z from by rw [<- Array.foldl_toList,Array.toList_zipIdx],h1]
  rw [hz,List.take_of_length_le (l:=cs.toList) (by rw [Array.length_toList,hc];decide),Array.length_toList,hc,List.drop_of_length_le (by rw [Array.length_toList,hz];decide)]
  simp
 unfold Instr.fill
 show (if (decide (cs.size ≠ 32) || decide (0+cs.size > z.size))=true then none else Instr.fill (fun i=>some (i * 32,32)) (cs.zipIdx.foldl (fun r (x:Value × Nat)=>r.setIfInBounds (0+x.2) x.1) z) [])=some cs
 rw [hc,hz,e]
 rfl
theorem op_hash1{o:Oper}{a:Act}{w:World}{K:Act->World->Prop}{Q:Exit->Act->World->Prop}(x:Operand)(ho:o.op=.buildSlice 29 1 #[(0,x)])(cs:Array Value)(hcs:cs.size=32)(hx:a.eval x=.agg cs)
 (h:K (a.put o.dst (.slice (some ⟨w.heap.size,0,none⟩) 1 1)) (w.alloc (.cells cs 23))):o.wp Tryz.prog a w K Q:=by
 obtain ⟨i0,hi,hz,hsize,-⟩:=info_parts Tryz.infoHashZ
 refine wp_buildSlice 29 23 1 #[(0,x)] ho cs i0 _ Tryz.underlying29 hi hz (by rw [hsize];decide) (by rw [hsize];decide) ?_ h
 rw [hsize,show ((#[(0,x)]:Array (Nat × Operand)).map fun (i,x)=>(i,a.eval x)).toList=[(0,.agg cs)] from by simp [hx]]
 exact fill_hash hcs
theorem wpList_hash1{ops:Array Oper}{rest:List Oper}{o:Oper}{a:Act}{w:World}{Q:Exit->Act->World->Prop}(hg:o.guard=none)(x:Operand)(ho:o.op=.buildSlice 29 1 #[(0,x)])(cs:Array Value)(hcs:cs.size=32)(hx:a.eval x=.agg cs)
 (h:wpList Tryz.prog ops Q rest (a.put o.dst (.slice (some ⟨w.heap.size,0,none⟩) 1 1)) (w.alloc (.cells cs 23))):wpList Tryz.prog ops Q (o :: rest) a w:=
 wpList_plain hg fun _ hK=>op_hash1 x ho cs hcs hx (hK _ _ h)
theorem thv_r0(hsz:a.tmps.size=19):RG0 0 Tryz.f48 Q a w fun a' q'=>Sl a' 2 (.slice none 0 0)->q':=rO
theorem thv_r1(hsz:a.tmps.size=19):RG0 1 Tryz.f48 Q a w fun a' q'=>Sl a' 3 (.slice none 0 0)->q':=rO
theorem thv_r2(A:Option Addr)(n c:Nat)(hsz:a.tmps.size=19)(o0:Sl a 0 (.slice A n c)):RG0 2 Tryz.f48 Q a w fun a' q'=>Sl a' 6 (.slice A n c)->Sl a' 7 (Nq n)->Sl a' 8 (Nq 0)->q':=rO
theorem thv_r3(k n:Nat)(hsz:a.tmps.size=19)(o7:Sl a 7 (Nq n))(o8:Sl a 8 (Nq k)):RG0 3 Tryz.f48 Q a w fun a' q'=>Sl a' 9 (.bool (decide (k < n)))->q':=rO
theorem thv_r4(ad:Addr)(k n c:Nat)(hk:k < n)(u:Value)(hu:w.cell? (ad.add k)=some u)(hus:∃ Au nu cu,u=.slice Au nu cu)(hsz:a.tmps.size=19)(o6:Sl a 6 (.slice (some ad) n c))(o8:Sl a 8 (Nq k)):RG0 4 Tryz.f48 Q a w fun a' q'=>Sl a' 5 (u)->q':=by
 have h0:0<=(k:Int):=by omega
 have h1:(k:Int) < (n:Int):=by omega
 obtain ⟨Au,nu,cu,rfl⟩:=hus
 exact rO
theorem thv_r6(k:Nat)(hk:k < 9223372036854775807)(hsz:a.tmps.size=19)(o8:Sl a 8 (Nq k)):RG0 6 Tryz.f48 Q a w fun a' q'=>Sl a' 8 (Nq (k+1))->q':=by
 have hw:wrap64 ((k:Int)+1)=(k:Int)+1:=by unfold wrap64;omega
 exact rO
theorem thv_r7(x:Value)(hsz:a.tmps.size=19)(o3:Sl a 3 (x)):RG0 7 Tryz.f48 Q a w fun a' q'=>Sl a' 2 (x)->q':=rO
theorem thv_r5(w0:World)(u:Value)(m:Nat)(hm:m<=1000000)(xs:List Value)(A:Option Addr)(c:Nat)(e:Bs)(he:e.length<=140737488355200)(hr:Rd w 1 (.slice A e.length c) e.length (bv e))(L:List Res)(S:Held w0 w (rowR 23 32 u m xs :: L))(hsz:a.tmps.size=19)(o3:Sl a 3 (u))(o5:Sl a 5 (.slice A e.length c)):RG1 false 5 Tryz.f48 Q a w fun a' W q'=>(∃ v,Sl a' 3 v ∧ Held w0 W (rowR 23 32 v (m+1) (xs ++ bv (leafF e)) :: L))->q':=by
 intro hend
 refine wp_region_lit ?_
 (conv=>arg 4;whnf)
 unfold Sl at o3 o5
 have HR:=LH (hleaf_any A c e he w hr)
 clear hr he
 have S:=LH S
 have hb1:Hid (m+1<=maxLen ∧ (m+1) * 32<=140737488355328):=LH (by unfold maxLen;omega)
 clear hm
 have hch:Hid ((hashA (leafF e)).size=32):=LH (by rw [hashA_size,leafF_length])
 have HO:=LH (hashA_one (leafF e))
 have hch9:Hid ((hashA (leafF e)).toList=bv (leafF e)):=LH rfl
 generalize hashA (leafF e)=ch at *
 obtain ⟨nl,hnl⟩:∃ nl,Hid (e.length=nl):=⟨_,LH rfl⟩
 rw [hnl.out] at o5 HR
 go_wp2_with fail
 refine HR.out.mono ?_
 rintro r w1 ⟨rfl,k1⟩
 have S2:=LH ((S.out.kp k1).alloc (.cells ch 23))
 clear k1
 have HN:=LH (Rd.of_own (ow_new w1 23 32 1 ch (by rw [hch.out]) (by decide)))
 go_wp2_with (first
  |(refine wpList_hash1 rfl (.tmp 14) rfl ch hch.out aE ?_)
  |(at_builtin;refine wpList_appH rfl (.tmp 12) (.tmp 15) 29 23 rfl Tryz.infoHashZ Tryz.underlying29 rfl (by decide) u m xs aE S2.out (.slice (some ⟨w1.heap.size,0,none⟩) 1 1) 1 ch.toList aE HN.out HO.out hb1.out.1 hb1.out.2 ?_;intro v2 w2 S3;have S3:=LH S3))
 try simp only [Act.put]
 exact hend _ _ tS (⟨v2,sP0,by rw [<- hch9.out];exact S3.out⟩)
theorem trv_r0(hsz:a.tmps.size=20):RG0 0 Tryz.f42 Q a w fun a' q'=>Sl a' 2 (.slice none 0 0)->q':=rO
theorem trv_r1(hsz:a.tmps.size=20):RG0 1 Tryz.f42 Q a w fun a' q'=>Sl a' 3 (.slice none 0 0)->q':=rO
theorem trv_r2(hsz:a.tmps.size=20):RG0 2 Tryz.f42 Q a w fun a' q'=>Sl a' 4 (Nq 0)->q':=rO
theorem trv_r3(A:Option Addr)(n c k:Nat)(hsz:a.tmps.size=20)(o0:Sl a 0 (.slice A n c))(o4:Sl a 4 (Nq k)):RG0 3 Tryz.f42 Q a w fun a' q'=>Sl a' 8 (.bool (decide (k < n)))->q':=rO
theorem trv_r4(k:Nat)(hk:k < 9223372036854775807)(hsz:a.tmps.size=20)(o4:Sl a 4 (Nq k)):RG0 4 Tryz.f42 Q a w fun a' q'=>Sl a' 4 (Nq (k+1))->q':=by
 have hw:wrap64 ((k:Int)+1)=(k:Int)+1:=by unfold wrap64;omega
 exact rO
theorem trv_r6(x:Value)(hsz:a.tmps.size=20)(o3:Sl a 3 (x)):RG0 6 Tryz.f42 Q a w fun a' q'=>Sl a' 2 (x)->q':=rO
theorem trv_r5(w0:World)(u:Value)(m:Nat)(hm:m<=1000000)(xs:List Value)(A:Option Addr)(c:Nat)(e:Bs)(he:e.length<=140737488355200)(hr:Rd w 1 (.slice A e.length c) e.length (bv e))(ad:Addr)(k n d:Nat)(hk:k < n)(hu:w.cell? (ad.add k)=some (.slice A e.length c))(L:List Res)(S:Held w0 w (rowR 23 32 u m xs :: L))(hsz:a.tmps.size=20)(o0:Sl a 0 (.slice (some ad) n d))(o3:Sl a 3 (u))(o4:Sl a 4 (Nq k)):RG1 false 5 Tryz.f42 Q a w fun a' W q'=>(∃ v,Sl a' 3 v ∧ Held w0 W (rowR 23 32 v (m+1) (xs ++ bv (leafF e)) :: L))->q':=by
 intro hend
 refine wp_region_lit ?_
 (conv=>arg 4;whnf)
 unfold Sl at o0 o3 o4
 have HR:=LH (rleaf_any A c e he w hr)
 clear hr he
 have S:=LH S
 have hb1:Hid (m+1<=maxLen ∧ (m+1) * 32<=140737488355328):=LH (by unfold maxLen;omega)
 clear hm
 have hch:Hid ((hashA (leafF e)).size=32):=LH (by rw [hashA_size,leafF_length])
 have HO:=LH (hashA_one (leafF e))
 have hch9:Hid ((hashA (leafF e)).toList=bv (leafF e)):=LH rfl
 generalize hashA (leafF e)=ch at *
 obtain ⟨nl,hnl⟩:∃ nl,Hid (e.length=nl):=⟨_,LH rfl⟩
 have h0:0<=(k:Int):=by omega
 have h1:(k:Int) < (n:Int):=by omega
 rw [hnl.out] at hu HR
 go_wp2_with fail
 refine HR.out.mono ?_
 rintro r w1 ⟨rfl,k1⟩
 have S2:=LH ((S.out.kp k1).alloc (.cells ch 23))
 clear k1
 have HN:=LH (Rd.of_own (ow_new w1 23 32 1 ch (by rw [hch.out]) (by decide)))
 go_wp2_with (first
  |(refine wpList_hash1 rfl (.tmp 16) rfl ch hch.out aE ?_)
  |(at_builtin;refine wpList_appH rfl (.tmp 11) (.tmp 17) 29 23 rfl Tryz.infoHashZ Tryz.underlying29 rfl (by decide) u m xs aE S2.out (.slice (some ⟨w1.heap.size,0,none⟩) 1 1) 1 ch.toList aE HN.out HO.out hb1.out.1 hb1.out.2 ?_;intro v2 w2 S3;have S3:=LH S3))
 try simp only [Act.put]
 exact hend _ _ tS (⟨v2,sP0,by rw [<- hch9.out];exact S3.out⟩)
end
section
open Go.RowKit Go.Shelf
theorem hsC_leaf{ls:List (List UInt8)}{k:Nat}{e:List UInt8}(h:ls[k]?=some e):hsC ((ls.take (k+1)).map leafF)=hsC ((ls.take k).map leafF) ++ bv (leafF e):=by
 rw [List.take_add_one,h]
 simp [hsC]
theorem leaves_ok(ls:List (List UInt8)):HsOk (ls.map leafF):=by
 intro h hh
 obtain ⟨e,-,rfl⟩:=List.mem_map.1 hh
 exact leafF_length e
theorem hleaves_any(x:Value)(ls:List (List UInt8))(hn:ls.length<=1000000)(hb:∀ e ∈ ls,e.length<=140737488355200)(w:World)(hx:Txs w x ls):
 Calls Tryz.prog 48 #[x] w fun r w'=>∃ v,r=.returned v ∧ Held w w' [rowR 23 32 v ls.length (hsC (ls.map leafF))]:=by
 obtain ⟨A,c,rfl,-,-⟩:=hx.open_
 refine calls_fr Tryz.func48 rfl 19 rfl (fun a0 hsz hdf hAr=>?_)
 have hz0:a0.tmps.size=19:=hsz
 have D:=hdf
 have o0:=hAr 0 _ rfl
 refine wp_seq (thv_r0 hz0 (fun a1 hs1 o2=>?_))
 obtain ⟨hz1,D,o0⟩:=kq1 hs1 hz0 D o0
 refine wp_seq (thv_r1 hz1 (fun a2 hs2 o3=>?_))
 obtain ⟨hz2,D,o0⟩:=kq1 hs2 hz1 D o0
 have S:=(Held.start w).rownew (World.ownsRow_nil _ _ _ _:Ow w 23 32 (.slice none 0 0) 0 []) (Kp.refl [] w) (fun g hg=>by cases hg)
 refine wp_seq (wp_seq (thv_r2 A ls.length c hz2 o0 (fun a3 hs3 o6 o7 o8=>?_)))
 obtain ⟨hz3,D,o0,o3⟩:=kq2 hs3 hz2 D o0 o3
 refine wp_block ?_
 (conv=>arg 2;whnf)
 refine wp_loop (fun a' w'=>∃ (k:Nat) (v:Value),k<=ls.length ∧ a'.tmps.size=19 ∧ a'.defers=[] ∧ Sl a' 3 (v) ∧ Sl a' 6 (.slice A ls.length c) ∧ Sl a' 7 (Nq (ls.length)) ∧ Sl a' 8 (Nq k) ∧ Held w w' [rowR 23 32 v k (hsC ((ls.take k).map leafF))]) (fun a' _=>ls.length - (intOf (a'.eval (.tmp 8))).toNat) ⟨0,_,Nat.zero_le _,hz3,D,o3,o6,o7,o8,S⟩ ?_
 iterate 9 (try clear o0)
 iterate 9 (try clear o3)
 iterate 9 (try clear o4)
 iterate 9 (try clear o6)
 iterate 9 (try clear o7)
 iterate 9 (try clear o8)
 iterate 9 (try clear S)
 iterate 9 (try clear D)
 rintro a7 w7 ⟨k,v,hk,hz7,D,o3,o6,o7,o8,S⟩
 have e8:=o8.eval (by rw [hz7];decide)
 refine wp_seq (thv_r3 k ls.length hz7 o7 o8 (fun a8 hs8 o9=>?_))
 obtain ⟨hz8,D,o3,o6,o7,o8⟩:=kq4 hs8 hz7 D o3 o6 o7 o8
 by_cases hlt:k < ls.length
 . refine wp_seq (wcT o9 (wp_skip ?_) (by rw [decide_eq_true hlt]))
   simp only [Exit.then]
   obtain ⟨e,he⟩:∃ e,ls[k]?=some e:=⟨_,List.getElem?_eq_getElem hlt⟩
   obtain ⟨ad,rfl⟩:∃ ad,A=some ad:=by
    obtain ⟨A',c',e1,h1,-⟩:=hx.open_
    injection e1 with e1
    obtain ⟨ad,h2⟩:=h1 (by omega)
    exact ⟨ad,e1.trans h2⟩
   obtain ⟨Ae,ce,hce,hre⟩:=(hx.kp0 S.k).at_ hlt
   rw [(List.getElem?_eq_some_iff.1 he).2] at hce hre
   have hbe:=hb e (List.mem_of_getElem? he)
   refine wp_seq (wp_block ?_)
   refine wp_seq (thv_r4 ad k ls.length c hlt _ hce ⟨_,_,_,rfl⟩ hz8 o6 o8 (fun a9 hs9 o5=>?_))
   obtain ⟨hz9,D,o3,o6,o7,o8⟩:=kq4 hs9 hz8 D o3 o6 o7 o8
   refine thv_r5 w v k (by omega) _ Ae ce e hbe hre [] S hz9 o3 o5 (fun a10 w10 hs10 h10=>?_)
   obtain ⟨v2,o3,S2⟩:=h10
   obtain ⟨hz10,D,o6,o7,o8⟩:=kq3 hs10 hz9 D o6 o7 o8
   rw [<- hsC_leaf he] at S2
   simp only [Exit.inBlock,Exit.then]
   refine thv_r6 k (by omega) hz10 o8 (fun a11 hs11 o8=>?_)
   have hz11:=hs11.size.trans hz10
   refine ⟨⟨k+1,v2,hlt,hz11,hs11.defers.trans D,hs11.q o3,hs11.q o6,hs11.q o7,o8,S2⟩,?_⟩
   show ls.length - (intOf _).toNat < ls.length - (intOf _).toNat
   rw [e8,o8.eval (by rw [hz11];decide)]
   simp only [intOf];omega
 . refine wp_seq (wcF o9 (wp_exit ?_) (by rw [decide_eq_false hlt]))
   simp only [Exit.then,Exit.inBlock]
   obtain rfl:k=ls.length:=by omega
   rw [List.take_length] at S
   refine wp_seq (thv_r7 _ hz8 o3 (fun a9 hs9 o2=>?_))
   obtain ⟨hz9,D,o3,o6,o7,o8,o9⟩:=kq5 hs9 hz8 D o3 o6 o7 o8 o9
   refine wp_ret ?_
   exact bodyPost_ret (res_u1 (by rfl) (o2.eval (by rw [hz9];decide))) D ⟨v,rfl,S⟩
theorem rleaves_any(x:Value)(ls:List (List UInt8))(hn:ls.length<=1000000)(hb:∀ e ∈ ls,e.length<=140737488355200)(w:World)(hx:Txs w x ls):
 Calls Tryz.prog 42 #[x] w fun r w'=>∃ v,r=.returned v ∧ Held w w' [rowR 23 32 v ls.length (hsC (ls.map leafF))]:=by
 obtain ⟨A,c,rfl,-,-⟩:=hx.open_
 refine calls_fr Tryz.func42 rfl 20 rfl (fun a0 hsz hdf hAr=>?_)
 have hz0:a0.tmps.size=20:=hsz
 have D:=hdf
 have o0:=hAr 0 _ rfl
 refine wp_seq (trv_r0 hz0 (fun a1 hs1 o2=>?_))
 obtain ⟨hz1,D,o0⟩:=kq1 hs1 hz0 D o0
 refine wp_seq (trv_r1 hz1 (fun a2 hs2 o3=>?_))
 obtain ⟨hz2,D,o0⟩:=kq1 hs2 hz1 D o0
 have S:=(Held.start w).rownew (World.ownsRow_nil _ _ _ _:Ow w 23 32 (.slice none 0 0) 0 []) (Kp.refl [] w) (fun g hg=>by cases hg)
 refine wp_seq (wp_seq (trv_r2 hz2 (fun a3 hs3 o4=>?_)))
 obtain ⟨hz3,D,o0,o3⟩:=kq2 hs3 hz2 D o0 o3
 refine wp_block ?_
 (conv=>arg 2;whnf)
 refine wp_loop (fun a' w'=>∃ (k:Nat) (v:Value),k<=ls.length ∧ a'.tmps.size=20 ∧ a'.defers=[] ∧ Sl a' 0 (.slice A ls.length c) ∧ Sl a' 3 (v) ∧ Sl a' 4 (Nq k) ∧ Held w w' [rowR 23 32 v k (hsC ((ls.take k).map leafF))]) (fun a' _=>ls.length - (intOf (a'.eval (.tmp 4))).toNat) ⟨0,_,Nat.zero_le _,hz3,D,o0,o3,o4,S⟩ ?_
 iterate 9 (try clear o0)
 iterate 9 (try clear o3)
 iterate 9 (try clear o4)
 iterate 9 (try clear o6)
 iterate 9 (try clear o7)
 iterate 9 (try clear o8)
 iterate 9 (try clear S)
 iterate 9 (try clear D)
 rintro a7 w7 ⟨k,v,hk,hz7,D,o0,o3,o4,S⟩
 have e4:=o4.eval (by rw [hz7];decide)
 refine wp_seq (wp_seq (trv_r3 A ls.length c k hz7 o0 o4 (fun a8 hs8 o8=>?_)))
 obtain ⟨hz8,D,o0,o3,o4⟩:=kq3 hs8 hz7 D o0 o3 o4
 by_cases hlt:k < ls.length
 . refine wcT o8 (wp_skip ?_) (by rw [decide_eq_true hlt])
   simp only [Exit.then]
   obtain ⟨e,he⟩:∃ e,ls[k]?=some e:=⟨_,List.getElem?_eq_getElem hlt⟩
   obtain ⟨ad,rfl⟩:∃ ad,A=some ad:=by
    obtain ⟨A',c',e1,h1,-⟩:=hx.open_
    injection e1 with e1
    obtain ⟨ad,h2⟩:=h1 (by omega)
    exact ⟨ad,e1.trans h2⟩
   obtain ⟨Ae,ce,hce,hre⟩:=(hx.kp0 S.k).at_ hlt
   rw [(List.getElem?_eq_some_iff.1 he).2] at hce hre
   have hbe:=hb e (List.mem_of_getElem? he)
   refine wp_seq (wp_block ?_)
   refine trv_r5 w v k (by omega) _ Ae ce e hbe hre ad k ls.length c hlt hce [] S hz8 o0 o3 o4 (fun a10 w10 hs10 h10=>?_)
   obtain ⟨v2,o3,S2⟩:=h10
   obtain ⟨hz10,D,o0,o4⟩:=kq2 hs10 hz8 D o0 o4
   rw [<- hsC_leaf he] at S2
   simp only [Exit.inBlock,Exit.then]
   refine trv_r4 k (by omega) hz10 o4 (fun a11 hs11 o4=>?_)
   have hz11:=hs11.size.trans hz10
   refine ⟨⟨k+1,v2,hlt,hz11,hs11.defers.trans D,hs11.q o0,hs11.q o3,o4,S2⟩,?_⟩
   show ls.length - (intOf _).toNat < ls.length - (intOf _).toNat
   rw [e4,o4.eval (by rw [hz11];decide)]
   simp only [intOf];omega
 . refine wcF o8 (wp_exit ?_) (by rw [decide_eq_false hlt])
   simp only [Exit.then,Exit.inBlock]
   obtain rfl:k=ls.length:=by omega
   rw [List.take_length] at S
   refine wp_seq (trv_r6 _ hz8 o3 (fun a9 hs9 o2=>?_))
   obtain ⟨hz9,D,o0,o3,o4,o8⟩:=kq4 hs9 hz8 D o0 o3 o4 o8
   refine wp_ret ?_
   exact bodyPost_ret (res_u1 (by rfl) (o2.eval (by rw [hz9];decide))) D ⟨v,rfl,S⟩
end
section
variable {Q:Exit->Act->World->Prop} {a:Act} {w:World}
open Go.RowKit Go.Shelf
def rgC (l:List (Nat × Nat)):List Value:=l.flatMap fun r=>[.int .i64 (r.1:Int),.int .i64 (r.2:Int)]
theorem rgC_append(a b:List (Nat × Nat)):rgC (a ++ b)=rgC a ++ rgC b:=by simp [rgC]
theorem rgC_one(l:List (Nat × Nat)):∀ u ∈ rgC l,u.oneCell'=true:=by
 intro u hu
 obtain ⟨r,-,h⟩:=List.mem_flatMap.1 hu
 simp at h
 rcases h with rfl|rfl <;> rfl
theorem rgC_get:∀ {l:List (Nat × Nat)} {i:Nat} {r:Nat × Nat},l[i]?=some r->(rgC l)[i * 2]?=some (.int .i64 (r.1:Int)) ∧ (rgC l)[i * 2+1]?=some (.int .i64 (r.2:Int))
 |x :: ys,0,y,h=>by
  cases h
  exact ⟨rfl,rfl⟩
 |x :: ys,i+1,y,h=>by
  have:=rgC_get (l:=ys) (i:=i) (r:=y) h
  rw [show (i+1) * 2=i * 2+1+1 by omega]
  exact this
theorem splF_self(n:Nat):splF n<=n:=by
 by_cases h:2<=n
 . exact Nat.le_of_lt (splF_lt h)
 . unfold splF
   rw [if_pos (by omega)]
   omega
theorem Tryz.infoRangeZ:(Tryz.prog.info? 176).map (fun i=>(i.zero,i.size,i.bytes))=some (some (.agg #[.int .i64 0,.int .i64 0]),2,16):=by kernel_rfl
theorem Tryz.infoRange:(Tryz.prog.info? 176).map (·.size)=some 2:=by kernel_rfl
theorem cst_r0(f n t m:Nat)(ht:Hid (t=f+n ∧ m=f+splF n ∧ f+n < 9223372036854775808))(hsz:a.tmps.size=53)(o0:Sl a 0 (Nq f))(o1:Sl a 1 (Nq t)):RG0 0 Tryz.f128 Q a w fun a' q'=>Sl a' 9 (Nq m)->q':=by
 intro hend
 refine wp_region_lit ?_
 (conv=>arg 4;whnf)
 unfold Sl at o0 o1
 have HR:=LH (hsplit_any n (by have:=ht.out;omega) w)
 have hw:wrap64 ((t:Int) - (f:Int))=(n:Int):=by have:=ht.out;unfold wrap64;omega
 have hs:=LH (splF_self n)
 obtain ⟨k,hk⟩:∃ k,Hid (splF n=k):=⟨_,LH rfl⟩
 rw [hk.out] at HR hs ht
 have hw2:wrap64 ((f:Int)+(k:Int))=(m:Int):=by have:=hs.out;have:=ht.out;unfold wrap64;omega
 go_wp2_with fail
 refine HR.out.mono ?_
 rintro e w' ⟨rfl,rfl⟩
 go_wp2_with fail
 try simp only [Act.put]
 exact hend _ tS sP
theorem cst_r3(g3:Nat)(x z:Int)(hb:Blk w g3 2 #[.int .i64 x])(hsz:a.tmps.size=53)(o1:Sl a 1 (.int .i64 z))(o3:Sl a 3 (Pq g3 0)):RG0 3 Tryz.f128 Q a w fun a' q'=>Sl a' 26 (.bool (x == z))->q':=by
 have c0:w.cell? ⟨g3,0,none⟩=some (.int .i64 x):=hb.cell 0
 exact rO
theorem cst_r4(b:Bool)(hsz:a.tmps.size=53)(o2:Sl a 2 (.bool b)):RG0 4 Tryz.f128 Q a w fun a' q'=>Sl a' 31 (.bool (!b))->q':=rO
theorem cst_r6(g3:Nat)(x z:Int)(hb:Blk w g3 2 #[.int .i64 x])(hsz:a.tmps.size=53)(o3:Sl a 3 (Pq g3 0))(o9:Sl a 9 (.int .i64 z)):RG0 6 Tryz.f128 Q a w fun a' q'=>Sl a' 38 (.bool (decide (x<=z)))->q':=by
 have c0:w.cell? ⟨g3,0,none⟩=some (.int .i64 x):=hb.cell 0
 exact rO
theorem cst_r5(w0:World)(gO q:Nat)(hq:q<=1000000)(u:Value)(xs:List Value)(za zb:Int)(L:List Res)(S:Held w0 w (rowR 176 2 u q xs :: blkR gO 164 #[u] :: L))(hsz:a.tmps.size=53)(o0:Sl a 0 (.int .i64 za))(o1:Sl a 1 (.int .i64 zb))(o4:Sl a 4 (Pq gO 0)):RG1 false 5 Tryz.f128 Q a w fun a' W q'=>(∃ v,Held w0 W (rowR 176 2 v (q+1) (xs ++ [.int .i64 za,.int .i64 zb]) :: blkR gO 164 #[v] :: L))->q':=by
 intro hend
 refine wp_region_lit ?_
 (conv=>arg 4;whnf)
 unfold Sl at o0 o1 o4
 obtain ⟨Au,cu,rfl,-,-⟩:=ow_form (S.at_ (l1:=[]))
 have c0:w.cell? ⟨gO,0,none⟩=some (.slice Au q cu):=(show Blk w gO 164 _ from S.at_ (l1:=[_])).cell 0
 have S1:=LH (S.alloc (.cells #[.int .i64 za,.int .i64 zb] 176))
 have HN:=LH (Rd.of_own (ow_new w 176 2 1 #[.int .i64 za,.int .i64 zb] rfl (by decide)))
 have hb1:Hid (q+1<=maxLen ∧ (q+1) * 16<=140737488355328):=LH (by unfold maxLen;omega)
 clear S hq
 go_wp2_with (at_builtin;refine wpList_appH rfl (.tmp 32) (.tmp 36) 164 176 rfl Tryz.infoRangeZ Tryz.underlying164 rfl (by decide) (.slice Au q cu) q xs aE S1.out (.slice (some ⟨w.heap.size,0,none⟩) 1 1) 1 [.int .i64 za,.int .i64 zb] aE HN.out (by intro x hx;simp at hx;rcases hx with rfl|rfl <;> rfl) hb1.out.1 hb1.out.2 ?_;intro v2 w2 S3;obtain ⟨A2,c2,hv2,-,-⟩:=ow_form (show Ow w2 176 2 v2 (q+1) _ from S3.at_ (l1:=[]));subst hv2;have c33:w2.cell? ⟨gO,0,none⟩=some (.slice Au q cu):=(show Blk w2 gO 164 _ from S3.at_ (l1:=[_])).cell 0;have f33:=(show Blk w2 gO 164 _ from S3.at_ (l1:=[_])).frozen 0;have S4:=LH (S3.set (l1:=[_]) 0 (.slice A2 (q+1) c2));clear S3)
 try simp only [Act.put]
 exact hend _ _ tS (⟨_,S4.out⟩)
theorem cst_r8(w0:World)(gO q:Nat)(hq:q<=1000000)(u:Value)(xs:List Value)(za zb:Int)(L:List Res)(S:Held w0 w (rowR 176 2 u q xs :: blkR gO 164 #[u] :: L))(hsz:a.tmps.size=53)(o1:Sl a 1 (.int .i64 zb))(o4:Sl a 4 (Pq gO 0))(o9:Sl a 9 (.int .i64 za)):RG1 false 8 Tryz.f128 Q a w fun a' W q'=>(∃ v,Held w0 W (rowR 176 2 v (q+1) (xs ++ [.int .i64 za,.int .i64 zb]) :: blkR gO 164 #[v] :: L))->q':=by
 intro hend
 refine wp_region_lit ?_
 (conv=>arg 4;whnf)
 unfold Sl at o1 o4 o9
 obtain ⟨Au,cu,rfl,-,-⟩:=ow_form (S.at_ (l1:=[]))
 have c0:w.cell? ⟨gO,0,none⟩=some (.slice Au q cu):=(show Blk w gO 164 _ from S.at_ (l1:=[_])).cell 0
 have S1:=LH (S.alloc (.cells #[.int .i64 za,.int .i64 zb] 176))
 have HN:=LH (Rd.of_own (ow_new w 176 2 1 #[.int .i64 za,.int .i64 zb] rfl (by decide)))
 have hb1:Hid (q+1<=maxLen ∧ (q+1) * 16<=140737488355328):=LH (by unfold maxLen;omega)
 clear S hq
 go_wp2_with (at_builtin;refine wpList_appH rfl (.tmp 47) (.tmp 51) 164 176 rfl Tryz.infoRangeZ Tryz.underlying164 rfl (by decide) (.slice Au q cu) q xs aE S1.out (.slice (some ⟨w.heap.size,0,none⟩) 1 1) 1 [.int .i64 za,.int .i64 zb] aE HN.out (by intro x hx;simp at hx;rcases hx with rfl|rfl <;> rfl) hb1.out.1 hb1.out.2 ?_;intro v2 w2 S3;obtain ⟨A2,c2,hv2,-,-⟩:=ow_form (show Ow w2 176 2 v2 (q+1) _ from S3.at_ (l1:=[]));subst hv2;have c33:w2.cell? ⟨gO,0,none⟩=some (.slice Au q cu):=(show Blk w2 gO 164 _ from S3.at_ (l1:=[_])).cell 0;have f33:=(show Blk w2 gO 164 _ from S3.at_ (l1:=[_])).frozen 0;have S4:=LH (S3.set (l1:=[_]) 0 (.slice A2 (q+1) c2));clear S3)
 try simp only [Act.put]
 exact hend _ _ tS (⟨_,S4.out⟩)
theorem cst_r2(w0:World)(gO q:Nat)(hq:q<=1000000)(u:Value)(xs:List Value)(za zb:Int)(L:List Res)(S:Held w0 w (rowR 176 2 u q xs :: blkR gO 164 #[u] :: L))(hsz:a.tmps.size=53)(o0:Sl a 0 (.int .i64 za))(o4:Sl a 4 (Pq gO 0))(o9:Sl a 9 (.int .i64 zb)):RG1 false 2 Tryz.f128 Q a w fun a' W q'=>(∃ v,Held w0 W (rowR 176 2 v (q+1) (xs ++ [.int .i64 za,.int .i64 zb]) :: blkR gO 164 #[v] :: L))->q':=by
 intro hend
 refine wp_region_lit ?_
 (conv=>arg 4;whnf)
 unfold Sl at o0 o4 o9
 obtain ⟨Au,cu,rfl,-,-⟩:=ow_form (S.at_ (l1:=[]))
 have c0:w.cell? ⟨gO,0,none⟩=some (.slice Au q cu):=(show Blk w gO 164 _ from S.at_ (l1:=[_])).cell 0
 have S1:=LH (S.alloc (.cells #[.int .i64 za,.int .i64 zb] 176))
 have HN:=LH (Rd.of_own (ow_new w 176 2 1 #[.int .i64 za,.int .i64 zb] rfl (by decide)))
 have hb1:Hid (q+1<=maxLen ∧ (q+1) * 16<=140737488355328):=LH (by unfold maxLen;omega)
 clear S hq
 go_wp2_with (at_builtin;refine wpList_appH rfl (.tmp 20) (.tmp 24) 164 176 rfl Tryz.infoRangeZ Tryz.underlying164 rfl (by decide) (.slice Au q cu) q xs aE S1.out (.slice (some ⟨w.heap.size,0,none⟩) 1 1) 1 [.int .i64 za,.int .i64 zb] aE HN.out (by intro x hx;simp at hx;rcases hx with rfl|rfl <;> rfl) hb1.out.1 hb1.out.2 ?_;intro v2 w2 S3;obtain ⟨A2,c2,hv2,-,-⟩:=ow_form (show Ow w2 176 2 v2 (q+1) _ from S3.at_ (l1:=[]));subst hv2;have c33:w2.cell? ⟨gO,0,none⟩=some (.slice Au q cu):=(show Blk w2 gO 164 _ from S3.at_ (l1:=[_])).cell 0;have f33:=(show Blk w2 gO 164 _ from S3.at_ (l1:=[_])).frozen 0;have S4:=LH (S3.set (l1:=[_]) 0 (.slice A2 (q+1) c2));clear S3)
 try simp only [Act.put]
 exact hend _ _ tS (⟨_,S4.out⟩)
theorem cst_r7(g3 g4 g5:Nat)(za zb:Int)(b:Bool)(R:World->Prop)(hb:Blk w g5 188 #[.func (.func 128) #[] #[Pq g3 0,Pq g4 0,Pq g5 0]])(HC0:Calls Tryz.prog 128 #[.int .i64 za,.int .i64 zb,.bool b,Pq g3 0,Pq g4 0,Pq g5 0] w fun e w'=>e=.returned (.tuple #[]) ∧ R w')(hsz:a.tmps.size=53)(o0:Sl a 0 (.int .i64 za))(o2:Sl a 2 (.bool b))(o5:Sl a 5 (Pq g5 0))(o9:Sl a 9 (.int .i64 zb)):RG1 false 7 Tryz.f128 Q a w fun a' W q'=>(R W)->q':=by
 intro hend
 refine wp_region_lit ?_
 (conv=>arg 4;whnf)
 unfold Sl at o0 o2 o5 o9
 have HC:=LH HC0
 clear HC0
 have c0:w.cell? ⟨g5,0,none⟩=some (.func (.func 128) #[] #[Pq g3 0,Pq g4 0,Pq g5 0]):=hb.cell 0
 clear hb
 go_wp2_with fail
 refine HC.out.mono ?_
 rintro e w1 ⟨rfl,r1⟩
 have r1:=LH r1
 go_wp2_with fail
 try simp only [Act.put]
 exact hend _ _ tS (r1.out)
theorem cst_r1(g3 g4 g5:Nat)(za zb:Int)(R:World->Prop)(hb:Blk w g5 188 #[.func (.func 128) #[] #[Pq g3 0,Pq g4 0,Pq g5 0]])(HC0:Calls Tryz.prog 128 #[.int .i64 za,.int .i64 zb,.bool false,Pq g3 0,Pq g4 0,Pq g5 0] w fun e w'=>e=.returned (.tuple #[]) ∧ R w')(hsz:a.tmps.size=53)(o1:Sl a 1 (.int .i64 zb))(o5:Sl a 5 (Pq g5 0))(o9:Sl a 9 (.int .i64 za)):RG1 false 1 Tryz.f128 Q a w fun a' W q'=>(R W)->q':=by
 intro hend
 refine wp_region_lit ?_
 (conv=>arg 4;whnf)
 unfold Sl at o1 o5 o9
 have HC:=LH HC0
 clear HC0
 have c0:w.cell? ⟨g5,0,none⟩=some (.func (.func 128) #[] #[Pq g3 0,Pq g4 0,Pq g5 0]):=hb.cell 0
 clear hb
 go_wp2_with fail
 refine HC.out.mono ?_
 rintro e w1 ⟨rfl,r1⟩
 have r1:=LH r1
 go_wp2_with fail
 try simp only [Act.put]
 exact hend _ _ tS (r1.out)
end
section
open Go.RowKit Go.Shelf
theorem cst_any(g3 g4 g5:Nat)(w0:World)(L:List Res):∀ (fu fr m n:Nat) (whole:Bool) (u:Value) (xs:List (Nat × Nat)) (w:World),1<=m->m<=n->n<=2 ^ fu->fr+n < 9223372036854775808->xs.length+fu<=900000->
 Held w0 w (rowR 176 2 u (xs).length (rgC (xs)) :: blkR g4 164 #[u] :: blkR g3 2 #[Nq (fr+m)] :: blkR g5 188 #[.func (.func 128) #[] #[Pq g3 0,Pq g4 0,Pq g5 0]] :: L)->
 Calls Tryz.prog 128 #[.int .i64 (fr:Int),Nq (fr+n),.bool whole,Pq g3 0,Pq g4 0,Pq g5 0] w fun e w'=>e=.returned (.tuple #[]) ∧ ∃ u',Held w0 w' (rowR 176 2 u' (xs ++ stepsN (fu+1) m fr n whole).length (rgC (xs ++ stepsN (fu+1) m fr n whole)) :: blkR g4 164 #[u'] :: blkR g3 2 #[Nq (fr+m)] :: blkR g5 188 #[.func (.func 128) #[] #[Pq g3 0,Pq g4 0,Pq g5 0]] :: L)
 |fu,fr,m,n,whole,u,xs,w,h1,hm,hf,hn,hx,S=>by
  refine calls_fr Tryz.func128 rfl 53 rfl (fun a0 hsz hdf hAr=>?_)
  have hz0:a0.tmps.size=53:=hsz
  have D:=hdf
  have o0:=hAr 0 _ rfl
  have o1:=hAr 1 _ rfl
  have o2:=hAr 2 _ rfl
  have o3:=hAr 3 _ rfl
  have o4:=hAr 4 _ rfl
  have o5:=hAr 5 _ rfl
  refine wp_seq (cst_r0 fr n (fr+n) (fr+splF n) (LH ⟨rfl,rfl,hn⟩) hz0 o0 o1 (fun a1 hs1 o9=>?_))
  obtain ⟨hz1,D,o0,o1,o2,o3,o4,o5⟩:=kq6 hs1 hz0 D o0 o1 o2 o3 o4 o5
  refine wp_block ?_
  refine wp_seq (cst_r3 g3 ((fr+m:Nat):Int) ((fr+n:Nat):Int) (S.at_ (l1:=[_,_])) hz1 o1 o3 (fun a2 hs2 o26=>?_))
  obtain ⟨hz2,D,o0,o1,o2,o3,o4,o5,o9⟩:=kq7 hs2 hz1 D o0 o1 o2 o3 o4 o5 o9
  by_cases he:m=n
  . subst he
    refine wcT o26 ?_ (by simp)
    refine wp_seq (cst_r4 whole hz2 o2 (fun a3 hs3 o31=>?_))
    obtain ⟨hz3,D,o0,o1,o2,o3,o4,o5,o9,o26⟩:=kq8 hs3 hz2 D o0 o1 o2 o3 o4 o5 o9 o26
    cases whole
    . refine wcT o31 ?_
      refine cst_r5 w0 g4 xs.length (by omega) u (rgC xs) fr ((fr+m:Nat):Int) _ S hz3 o0 o1 o4 (fun a4 w4 hs4 h4=>?_)
      obtain ⟨v,S⟩:=h4
      try simp only [Exit.inBlock,Exit.then]
      refine ⟨hs4.defers.trans D,_,res_u0 (by rfl),rfl,v,?_⟩
      rw [stepsN_succ,if_pos rfl,if_neg (by decide),rgC_append,List.length_append]
      exact S
    . refine wcF o31 (wp_skip ?_)
      try simp only [Exit.inBlock,Exit.then]
      refine ⟨D,_,res_u0 (by rfl),rfl,u,?_⟩
      rw [stepsN_succ,if_pos rfl,if_pos rfl,List.append_nil]
      exact S
  . have hq:(((fr+m:Nat):Int) == ((fr+n:Nat):Int))=false:=by rw [beq_eq_false_iff_ne];omega
    refine wcF o26 ?_ (by rw [hq])
    obtain ⟨fu,rfl⟩:∃ fu',fu=fu'+1:=by
     cases fu with
     |zero=>simp at hf;omega
     |succ fu=>exact ⟨fu,rfl⟩
    have h2:2<=n:=by omega
    have hk1:=splF_pos h2
    have hk2:=splF_lt h2
    obtain ⟨d1,d2⟩:=Deep.next (f:=fu) hf h2
    refine wp_seq (cst_r6 g3 ((fr+m:Nat):Int) ((fr+splF n:Nat):Int) (S.at_ (l1:=[_,_])) hz2 o3 o9 (fun a3 hs3 o38=>?_))
    obtain ⟨hz3,D,o0,o1,o2,o3,o4,o5,o9,o26⟩:=kq8 hs3 hz2 D o0 o1 o2 o3 o4 o5 o9 o26
    by_cases hk:m<=splF n
    . skip
      refine wcT o38 ?_ (by rw [decide_eq_true (by omega)])
      have HC:=cst_any g3 g4 g5 w0 L fu fr m (splF n) whole u xs w h1 hk d1 (by omega) (by omega) S
      refine wp_seq (cst_r7 g3 g4 g5 fr ((fr+splF n:Nat):Int) whole _ (S.at_ (l1:=[_,_,_])) HC hz3 o0 o2 o5 o9 (fun a4 w4 hs4 h4=>?_))
      obtain ⟨v,S⟩:=h4
      obtain ⟨hz4,D,o0,o1,o4,o9⟩:=kq4 hs4 hz3 D o0 o1 o4 o9
      have hl:=stepsN_length (fu+1) m fr (splF n) whole
      refine cst_r8 w0 g4 (xs ++ stepsN (fu+1) m fr (splF n) whole).length (by rw [List.length_append];omega) v _ ((fr+splF n:Nat):Int) ((fr+n:Nat):Int) _ S hz4 o1 o4 o9 (fun a5 w5 hs5 h5=>?_)
      obtain ⟨v5,S⟩:=h5
      try simp only [Exit.inBlock,Exit.then]
      refine ⟨hs5.defers.trans D,_,res_u0 (by rfl),rfl,v5,?_⟩
      rw [stepsN_succ,if_neg he,if_pos hk,<- List.append_assoc,rgC_append,List.length_append]
      exact S
    . have hm':fr+m=(fr+splF n)+(m - splF n):=by omega
      refine wcF o38 ?_ (by rw [decide_eq_false (by omega)])
      have hn':fr+n=(fr+splF n)+(n - splF n):=by omega
      have S':=S
      rw [hm'] at S
      have HC:=cst_any g3 g4 g5 w0 L fu (fr+splF n) (m - splF n) (n - splF n) false u xs w (by omega) (by omega) d2 (by omega) (by omega) S
      rw [<- hn',<- hm'] at HC
      refine wp_seq (cst_r1 g3 g4 g5 ((fr+splF n:Nat):Int) ((fr+n:Nat):Int) _ (S.at_ (l1:=[_,_,_])) HC hz3 o1 o5 o9 (fun a4 w4 hs4 h4=>?_))
      obtain ⟨v,S⟩:=h4
      obtain ⟨hz4,D,o0,o1,o4,o9⟩:=kq4 hs4 hz3 D o0 o1 o4 o9
      have hl:=stepsN_length (fu+1) (m - splF n) (fr+splF n) (n - splF n) false
      refine cst_r2 w0 g4 (xs ++ stepsN (fu+1) (m - splF n) (fr+splF n) (n - splF n) false).length (by rw [List.length_append];omega) v _ fr ((fr+splF n:Nat):Int) _ S hz4 o0 o4 o9 (fun a5 w5 hs5 h5=>?_)
      obtain ⟨v5,S⟩:=h5
      try simp only [Exit.inBlock,Exit.then]
      refine ⟨hs5.defers.trans D,_,res_u0 (by rfl),rfl,v5,?_⟩
      rw [stepsN_succ,if_neg he,if_neg hk,<- List.append_assoc,rgC_append,List.length_append]
      exact S
end
section
variable {Q:Exit->Act->World->Prop} {a:Act} {w:World}
open Go.RowKit Go.Shelf
def stF (m n:Int):List (Nat × Nat):=if m<=0 ∨ n < m then [] else stepsF m.toNat n.toNat
theorem stF_no{m n:Int}(h:m<=0 ∨ n < m):stF m n=[]:=if_pos h
theorem stF_yes{m n:Nat}(h1:1<=m)(h2:m<=n):stF m n=stepsN 65 m 0 n true:=by unfold stF stepsF;rw [if_neg (by omega)];simp
theorem stF_length(m n:Int):(stF m n).length<=65:=by
 unfold stF
 split
 . simp
 . exact stepsN_length _ _ _ _ _
theorem ctS_r0(w0:World)(z:Int)(L:List Res)(S:Held w0 w L)(hsz:a.tmps.size=22)(o0:Sl a 0 (.int .i64 z)):RG1 false 0 Tryz.f116 Q a w fun a' W q'=>(∃ g,Sl a' 2 (Pq g 0) ∧ Held w0 W (blkR g 2 #[.int .i64 z] :: L))->q':=by
 intro hend
 refine wp_region_lit ?_
 (conv=>arg 4;whnf)
 unfold Sl at o0
 have S1:=LH (S.newBlk 2 #[.int .i64 z])
 go_wp2
 try simp only [Act.put]
 exact hend _ _ tS (⟨w.heap.size,sP0,S1.out⟩)
theorem ctS_r1N(z y:Int)(hz:z < 0)(gz:Nat)(hb:Blk w gz 2 #[.int .i64 z])(hsz:a.tmps.size=22)(o1:Sl a 1 (.int .i64 y))(o2:Sl a 2 (Pq gz 0)):RG1 false 1 Tryz.f116 Q a w fun a' W q'=>Kp [] w W->Sl a' 14 (.bool true)->q':=by
 intro hend
 have hap:=pa 1 Tryz.f116
 refine wp_region_invS (l:=(opsOf 1 Tryz.f116)) (fun i v W=>match i with|0=>v=.int .i64 z|1=>v=.bool true|2=>v=.bool true|6=>v=.bool true|_=>True) hap ?_ ?_ ?_
 . exact fun _ _ _ _ h _=>h
 . and_intros <;> try (intro vs A' W hA hW hd hu K hK;try (refine wpOp_free _ rfl rfl ?_;conv=>arg 2;whnf))
   . have c0:W.cell? ⟨gz,0,none⟩=some (.int .i64 z):=(hb.k0 hW).cell 0
     exact qa1 (eO 2 o2)
   . have e8:=vD 8 0;clear hA hd hu o1 o2;go_step
     exact hK _ _ kR (by first|rfl|(refine congrArg Value.bool ?_;simp;omega)|(refine congrArg Value.bool ?_;simp [hz];done))
   . exact qa1 (vD 9 1)
   . exact qS 2 false (vD 10 2)
   . exact qS 2 false (vD 10 2)
   . exact qS 2 false (vD 10 2)
   . exact qa2 (vD 10 2) (eU 13 5)
   . trivial
 . intro vs W hW hp
   rw [putAll_eq]
   exact hend _ W sQ hW (sW (hp 6 sB))
theorem ctS_r1Y(z y:Int)(hz:¬ z < 0)(gz:Nat)(hb:Blk w gz 2 #[.int .i64 z])(hsz:a.tmps.size=22)(o1:Sl a 1 (.int .i64 y))(o2:Sl a 2 (Pq gz 0)):RG1 false 1 Tryz.f116 Q a w fun a' W q'=>Kp [] w W->Sl a' 14 (.bool (decide (y < z)))->q':=by
 intro hend
 have hap:=pa 1 Tryz.f116
 refine wp_region_invS (l:=(opsOf 1 Tryz.f116)) (fun i v W=>match i with|0=>v=.int .i64 z|1=>v=.bool false|2=>v=.bool false|3=>v=.int .i64 z|4=>v=.int .i64 y|5=>v=.bool (decide (y < z))|6=>v=.bool (decide (y < z))|_=>True) hap ?_ ?_ ?_
 . exact fun _ _ _ _ h _=>h
 . and_intros <;> try (intro vs A' W hA hW hd hu K hK;try (refine wpOp_free _ rfl rfl ?_;conv=>arg 2;whnf))
   . have c0:W.cell? ⟨gz,0,none⟩=some (.int .i64 z):=(hb.k0 hW).cell 0
     exact qa1 (eO 2 o2)
   . have e8:=vD 8 0;clear hA hd hu o1 o2;go_step
     exact hK _ _ kR (by first|rfl|(refine congrArg Value.bool ?_;simp;omega)|(refine congrArg Value.bool ?_;simp [hz];done))
   . exact qa1 (vD 9 1)
   . refine qG 2 (vD 10 2) ?_;(conv=>arg 2;whnf)
     have c0:W.cell? ⟨gz,0,none⟩=some (.int .i64 z):=(hb.k0 hW).cell 0
     exact qa1 (eO 2 o2)
   . exact gq1 2 (vD 10 2) (eO 1 o1)
   . exact gq2 2 (vD 10 2) (vD 11 3) (vD 12 4)
   . exact qa2 (vD 10 2) (vD 13 5)
   . trivial
 . intro vs W hW hp
   rw [putAll_eq]
   exact hend _ W sQ hW (sW (hp 6 sB))
theorem ctS_r2(hsz:a.tmps.size=22):RG0 2 Tryz.f116 Q a w fun a' q'=>Sl a' 4 (.slice none 0 0)->Sl a' 5 (.int .i64 (4:Int))->q':=rO
theorem ctS_r4(hsz:a.tmps.size=22):RG0 4 Tryz.f116 Q a w fun a' q'=>Sl a' 4 (.slice none 0 0)->Sl a' 5 (.int .i64 (0:Int))->q':=rO
theorem ctS_r3(g2:Nat)(z:Int)(hb:Blk w g2 2 #[.int .i64 z])(hsz:a.tmps.size=22)(o2:Sl a 2 (Pq g2 0)):RG0 3 Tryz.f116 Q a w fun a' q'=>Sl a' 16 (.bool (z == 0))->q':=by
 have c0:w.cell? ⟨g2,0,none⟩=some (.int .i64 z):=hb.cell 0
 exact rO
theorem ctS_r5(w0:World)(L:List Res)(S:Held w0 w L)(hsz:a.tmps.size=22):RG1 false 5 Tryz.f116 Q a w fun a' W q'=>(∃ g,Sl a' 6 (Pq g 0) ∧ Held w0 W (blkR g 164 #[.slice none 0 0] :: L))->q':=by
 intro hend
 refine wp_region_lit ?_
 (conv=>arg 4;whnf)
 have S1:=LH (S.newBlk 164 #[.slice none 0 0])
 go_wp2
 try simp only [Act.put]
 exact hend _ _ tS (⟨w.heap.size,sP0,S1.out⟩)
theorem ctS_r6(w0:World)(L:List Res)(S:Held w0 w L)(hsz:a.tmps.size=22):RG1 false 6 Tryz.f116 Q a w fun a' W q'=>(∃ g,Sl a' 7 (Pq g 0) ∧ Held w0 W (blkR g 188 #[.nilFunc] :: L))->q':=by
 intro hend
 refine wp_region_lit ?_
 (conv=>arg 4;whnf)
 have S1:=LH (S.newBlk 188 #[.nilFunc])
 go_wp2
 try simp only [Act.put]
 exact hend _ _ tS (⟨w.heap.size,sP0,S1.out⟩)
theorem ctS_r7(w0:World)(g2 g6 g7:Nat)(L:List Res)(S:Held w0 w (blkR g7 188 #[.nilFunc] :: L))(hsz:a.tmps.size=22)(o2:Sl a 2 (Pq g2 0))(o6:Sl a 6 (Pq g6 0))(o7:Sl a 7 (Pq g7 0)):RG1 false 7 Tryz.f116 Q a w fun a' W q'=>(Held w0 W (blkR g7 188 #[.func (.func 128) #[] #[Pq g2 0,Pq g6 0,Pq g7 0]] :: L))->q':=by
 intro hend
 refine wp_region_lit ?_
 (conv=>arg 4;whnf)
 unfold Sl at o2 o6 o7
 have S:=LH S
 obtain ⟨c1,c2,c3⟩:=Blk.c1 (S.out.at_ (l1:=[]))
 have S1:=LH (S.out.set (l1:=[]) 0 (.func (.func 128) #[] #[Pq g2 0,Pq g6 0,Pq g7 0]))
 go_wp2_with fail
 try simp only [Act.put]
 exact hend _ _ tS (S1.out)
theorem ctS_r8(g2 g6 g7:Nat)(y:Int)(R:World->Prop)(hb:Blk w g7 188 #[.func (.func 128) #[] #[Pq g2 0,Pq g6 0,Pq g7 0]])(HC0:Calls Tryz.prog 128 #[.int .i64 0,.int .i64 y,.bool true,Pq g2 0,Pq g6 0,Pq g7 0] w fun e w'=>e=.returned (.tuple #[]) ∧ R w')(hsz:a.tmps.size=22)(o1:Sl a 1 (.int .i64 y))(o7:Sl a 7 (Pq g7 0)):RG1 false 8 Tryz.f116 Q a w fun a' W q'=>(R W)->q':=by
 intro hend
 refine wp_region_lit ?_
 (conv=>arg 4;whnf)
 unfold Sl at o1 o7
 have HC:=LH HC0
 clear HC0
 have c0:w.cell? ⟨g7,0,none⟩=some (.func (.func 128) #[] #[Pq g2 0,Pq g6 0,Pq g7 0]):=hb.cell 0
 clear hb
 go_wp2_with fail
 refine HC.out.mono ?_
 rintro e w1 ⟨rfl,r1⟩
 have r1:=LH r1
 go_wp2_with fail
 try simp only [Act.put]
 exact hend _ _ tS (r1.out)
theorem ctS_r9(g6:Nat)(u:Value)(hus:∃ A n c,u=.slice A n c)(hb:Blk w g6 164 #[u])(hsz:a.tmps.size=22)(o6:Sl a 6 (Pq g6 0)):RG0 9 Tryz.f116 Q a w fun a' q'=>Sl a' 4 (u)->Sl a' 5 (.int .i64 (0:Int))->q':=by
 obtain ⟨A,n,c,rfl⟩:=hus
 have c0:w.cell? ⟨g6,0,none⟩=some (.slice A n c):=hb.cell 0
 exact rO
theorem csteps_any(m n:Int)(hn:n < 9223372036854775808)(w:World):Calls Tryz.prog 116 #[.int .i64 m,.int .i64 n] w fun e w'=>∃ v,e=.returned (.tuple #[v,.int .i64 (if m < 0 ∨ n < m then 4 else 0)]) ∧ Held w w' [rowR 176 2 v (stF m n).length (rgC (stF m n))]:=by
 refine calls_fr Tryz.func116 rfl 22 rfl (fun a0 hsz hdf hAr=>?_)
 have hz0:a0.tmps.size=22:=hsz
 have D:=hdf
 have o0:=hAr 0 _ rfl
 have o1:=hAr 1 _ rfl
 refine wp_seq (ctS_r0 w m [] (Held.start w) hz0 o0 (fun a1 w1 hs1 h1=>?_))
 obtain ⟨hz1,D,o0,o1⟩:=kq2 hs1 hz0 D o0 o1
 obtain ⟨g2,o2,S⟩:=h1
 by_cases hm:m < 0
 . skip
   refine wp_seq (wp_seq (ctS_r1N m n hm g2 (S.at_ (l1:=[])) hz1 o1 o2 (fun a2 w2 hs2 k2 o14=>?_)))
   obtain ⟨hz2,D,o1,o2⟩:=kq2 hs2 hz1 D o1 o2
   refine wcT o14 ?_
   refine wp_seq (ctS_r2 hz2 (fun a3 hs3 o4 o5=>?_))
   obtain ⟨hz3,D,o1,o2,o14⟩:=kq3 hs3 hz2 D o1 o2 o14
   refine wp_ret ?_
   try simp only [Exit.then]
   exact bodyPost_ret (res_u2 (by rfl) (o4.eval (by rw [hz3];decide)) (o5.eval (by rw [hz3];decide))) D ⟨.slice none 0 0,by rw [if_pos (Or.inl hm)],by rw [stF_no (by omega)];exact ((Held.start w).kp (S.k.trans k2 (by simp))).rownew (World.ownsRow_nil _ _ _ _:Ow _ 176 2 (.slice none 0 0) 0 []) (Kp.refl [] _) (fun g hg=>by cases hg)⟩
 . skip
   refine wp_seq (wp_seq (ctS_r1Y m n hm g2 (S.at_ (l1:=[])) hz1 o1 o2 (fun a2 w2 hs2 k2 o14=>?_)))
   obtain ⟨hz2,D,o1,o2⟩:=kq2 hs2 hz1 D o1 o2
   have S:=S.kp k2
   by_cases hmn:n < m
   . refine wcT o14 ?_ (by rw [decide_eq_true hmn])
     refine wp_seq (ctS_r2 hz2 (fun a3 hs3 o4 o5=>?_))
     obtain ⟨hz3,D,o1,o2,o14⟩:=kq3 hs3 hz2 D o1 o2 o14
     refine wp_ret ?_
     try simp only [Exit.then]
     exact bodyPost_ret (res_u2 (by rfl) (o4.eval (by rw [hz3];decide)) (o5.eval (by rw [hz3];decide))) D ⟨.slice none 0 0,by rw [if_pos (Or.inr hmn)],by rw [stF_no (by omega)];exact ((Held.start w).kp S.k).rownew (World.ownsRow_nil _ _ _ _:Ow _ 176 2 (.slice none 0 0) 0 []) (Kp.refl [] _) (fun g hg=>by cases hg)⟩
   . refine wcF o14 (wp_skip ?_) (by rw [decide_eq_false hmn])
     simp only [Exit.then]
     refine wp_seq (wp_seq (ctS_r3 g2 m (S.at_ (l1:=[])) hz2 o2 (fun a3 hs3 o16=>?_)))
     obtain ⟨hz3,D,o1,o2,o14⟩:=kq3 hs3 hz2 D o1 o2 o14
     by_cases h0:m=0
     . refine wcT o16 ?_ (by rw [h0];rfl)
       refine wp_seq (ctS_r4 hz3 (fun a4 hs4 o4 o5=>?_))
       obtain ⟨hz4,D,o1,o2,o14,o16⟩:=kq4 hs4 hz3 D o1 o2 o14 o16
       refine wp_ret ?_
       try simp only [Exit.then]
       exact bodyPost_ret (res_u2 (by rfl) (o4.eval (by rw [hz4];decide)) (o5.eval (by rw [hz4];decide))) D ⟨.slice none 0 0,by rw [if_neg (by omega)],by rw [stF_no (by omega)];exact ((Held.start w).kp S.k).rownew (World.ownsRow_nil _ _ _ _:Ow _ 176 2 (.slice none 0 0) 0 []) (Kp.refl [] _) (fun g hg=>by cases hg)⟩
     . have hq:(m == 0)=false:=by rw [beq_eq_false_iff_ne];exact h0
       refine wcF o16 (wp_skip ?_) (by rw [hq])
       simp only [Exit.then]
       obtain ⟨mN,rfl⟩:=Int.eq_ofNat_of_zero_le (show 0<=m by omega)
       obtain ⟨nN,rfl⟩:=Int.eq_ofNat_of_zero_le (show 0<=n by omega)
       refine wp_seq (ctS_r5 w _ S hz3 (fun a4 w4 hs4 h4=>?_))
       obtain ⟨hz4,D,o1,o2,o14,o16⟩:=kq4 hs4 hz3 D o1 o2 o14 o16
       obtain ⟨g6,o6,S⟩:=h4
       refine wp_seq (ctS_r6 w _ S hz4 (fun a5 w5 hs5 h5=>?_))
       obtain ⟨hz5,D,o1,o2,o6⟩:=kq3 hs5 hz4 D o1 o2 o6
       obtain ⟨g7,o7,S⟩:=h5
       refine wp_seq (ctS_r7 w g2 g6 g7 _ S hz5 o2 o6 o7 (fun a6 w6 hs6 S=>?_))
       obtain ⟨hz6,D,o1,o2,o6,o7⟩:=kq4 hs6 hz5 D o1 o2 o6 o7
       have S:=S.rownew (World.ownsRow_nil _ _ _ _:Ow w6 176 2 (.slice none 0 0) 0 []) (Kp.refl [] w6) (fun g hg=>by cases hg)
       have S:Held w w6 (rowR 176 2 (.slice none 0 0) ([]:List (Nat × Nat)).length (rgC []) :: blkR g6 164 #[.slice none 0 0] :: blkR g2 2 #[Nq (0+mN)] :: blkR g7 188 #[.func (.func 128) #[] #[Pq g2 0,Pq g6 0,Pq g7 0]] :: []):=by
        rw [Nat.zero_add]
        exact (((S.pull 1 rfl).pull 3 rfl).pull 3 rfl).pull 3 rfl
       have HC:=cst_any g2 g6 g7 w [] 64 0 mN nN true _ [] w6 (by omega) (by omega) (by omega) (by omega) (by decide) S
       rw [Nat.zero_add nN] at HC
       refine wp_seq (ctS_r8 g2 g6 g7 (nN:Int) _ (S.at_ (l1:=[_,_,_])) HC hz6 o1 o7 (fun a7 w7 hs7 h7=>?_))
       obtain ⟨hz7,D,o1,o2,o6,o7⟩:=kq4 hs7 hz6 D o1 o2 o6 o7
       obtain ⟨u,S⟩:=h7
       obtain ⟨Au,cu,hu,-,-⟩:=ow_form (S.at_ (l1:=[]))
       refine wp_seq (ctS_r9 g6 u ⟨_,_,_,hu⟩ (S.at_ (l1:=[_])) hz7 o6 (fun a8 hs8 o4 o5=>?_))
       obtain ⟨hz8,D,o1,o2,o6,o7⟩:=kq4 hs8 hz7 D o1 o2 o6 o7
       refine wp_ret ?_
       refine bodyPost_ret (res_u2 (by rfl) (o4.eval (by rw [hz8];decide)) (o5.eval (by rw [hz8];decide))) D ⟨u,by rw [if_neg (by omega)],?_⟩
       rw [stF_yes (by omega) (by omega)]
       rw [List.nil_append] at S
       exact S.some_of (List.Sublist.cons_cons _ (List.nil_sublist _))
theorem cSz_r0(hsz:a.tmps.size=17):RG0 0 Tryz.f107 Q a w fun a' q'=>Sl a' 4 (.int .i64 (0:Int))->Sl a' 5 (.int .i64 (0:Int))->q':=rO
theorem cSz_r1(m n x:Int)(q:Nat)(R:Value->World->Prop)(HC0:Calls Tryz.prog 116 #[.int .i64 m,.int .i64 n] w fun e w'=>∃ v,e=.returned (.tuple #[v,.int .i64 x]) ∧ R v w')(hsz:a.tmps.size=17)(o0:Sl a 0 (.int .i64 m))(o1:Sl a 1 (.int .i64 n)):RG1 false 1 Tryz.f107 Q a w fun a' W q'=>(∃ v,Sl a' 6 v ∧ Sl a' 7 (.int .i64 x) ∧ R v W)->q':=by
 intro hend
 refine wp_region_lit ?_
 (conv=>arg 4;whnf)
 unfold Sl at o0 o1
 have HC:=LH HC0
 clear HC0
 go_wp2_with fail
 refine HC.out.mono ?_
 rintro e w1 ⟨v,rfl,r1⟩
 have r1:=LH r1
 go_wp2_with fail
 try simp only [Act.put]
 exact hend _ _ tS (⟨v,sP0,sP0,r1.out⟩)
theorem cSz_r2(A:Option Addr)(n c:Nat)(x:Int)(hsz:a.tmps.size=17)(o6:Sl a 6 (.slice A n c))(o7:Sl a 7 (.int .i64 x)):RG0 2 Tryz.f107 Q a w fun a' q'=>Sl a' 4 (Nq n)->Sl a' 5 (.int .i64 x)->q':=rO
theorem csize_any(m n:Int)(hn:n < 9223372036854775808)(w:World):Calls Tryz.prog 107 #[.int .i64 m,.int .i64 n] w fun e w'=>e=.returned (.tuple #[.int .i64 (((stF m n).length:Nat):Int),.int .i64 (if m < 0 ∨ n < m then 4 else 0)]) ∧ Kp [] w w':=by
 refine calls_fr Tryz.func107 rfl 17 rfl (fun a0 hsz hdf hAr=>?_)
 have hz0:a0.tmps.size=17:=hsz
 have D:=hdf
 have o0:=hAr 0 _ rfl
 have o1:=hAr 1 _ rfl
 refine wp_seq (cSz_r0 hz0 (fun a1 hs1 o4 o5=>?_))
 obtain ⟨hz1,D,o0,o1⟩:=kq2 hs1 hz0 D o0 o1
 refine wp_seq (cSz_r1 m n _ 0 _ (csteps_any m n hn w) hz1 o0 o1 (fun a2 w2 hs2 h2=>?_))
 obtain ⟨hz2,D,o0,o1⟩:=kq2 hs2 hz1 D o0 o1
 obtain ⟨v,o6,o7,S⟩:=h2
 obtain ⟨A,c,rfl,-,-⟩:=ow_form (S.at_ (l1:=[]))
 refine wp_seq (cSz_r2 A _ c _ hz2 o6 o7 (fun a3 hs3 o4 o5=>?_))
 obtain ⟨hz3,D,o6,o7⟩:=kq2 hs3 hz2 D o6 o7
 refine wp_ret ?_
 exact bodyPost_ret (res_u2 (by rfl) (o4.eval (by rw [hz3];decide)) (o5.eval (by rw [hz3];decide))) D ⟨rfl,S.k⟩
end
end Go.Proofs.YtmkfopmdingaoaaGreatDoor
