/- Several texts in one: SigC, Txs3, SigD, RshA, ShaG, ShaH, RshB, RshC. -/
import Derived.Test.YtmkfopmdingaoaaGreatDoorP3
set_option linter.unusedVariables false
set_option linter.unusedSimpArgs false
set_option maxRecDepth 100000
set_option maxHeartbeats 8000000
namespace Go.Proofs.YtmkfopmdingaoaaGreatDoor
section
variable {Q:Exit->Act->World->Prop} {a:Act} {w:World}
open Go.RowKit
theorem Rd.of_hash{w:World}{g:Nat}{t:TypeId}{h:List UInt8}(hb:Blk w g t (hashA h)){n:Nat}(hn:h.length=n)(hm:h.length<=1000:=by omega):Rd w 1 (.slice (some ⟨g,0,none⟩) n n) n (bv h):=by
 subst hn
 have:=bytes_rd hb 0 (Nat.zero_le _) hm
 simpa using this
theorem txf_one{w:World}{g n:Nat}{t:TypeId}{u:Value}{h:List UInt8}(hb:Blk w g t #[u])(hr:Rd w 1 u n (bv h)):TxF w (.slice (some ⟨g,0,none⟩) 1 1) [u] [h]:=by
 have hn:n=h.length:=by
  have:=hr.1
  rw [bv_length] at this
  omega
 subst hn
 refine ⟨⟨rfl,_,_,rfl,Nat.le_refl _,by unfold maxLen;omega,(fun h=>by cases h),fun ad had j v hv=>?_⟩,fun i hi=>?_⟩
 . cases had
   rcases j with _|j
   . cases hv
     exact hb.cell 0
   . cases hv
 . obtain rfl:i=0:=by simpa using hi
   exact ⟨u,rfl,hr⟩
theorem ssumv_any(w0:World)(L:List Res)(ad:Addr)(u:Value)(s:Bs)(hs0:s.length < 1152921504606846976)(w:World)(S:Held w0 w L)(HX:∀ V,Held w0 V L->V.cell? ad=some u ∧ Rd V 1 u s.length (bv s)):
 Calls Tryz.prog 120 #[.slice (some ad) 1 1] w fun e w'=>e=.returned (.agg (hashA (shaF s))) ∧ Held w0 w' L:=by
 obtain ⟨A,c,rfl⟩:=rd_form (HX w S).2
 have HX:=LH HX
 have hs:=LH hs0
 clear hs0
 have S0:=LH (S.newBlk 23 (hashA (List.replicate 32 0)))
 clear S
 go_enter Tryz.func120,Tryz.ntmps120
 go_wp2_with fail
 refine (snew_any w0 _ _ S0.out).mono ?_
 rintro e w2 ⟨g,rfl,S2⟩
 have S2:=LH S2
 generalize w.heap.size=g2 at *
 clear S0
 go_wp2_with fail
 go_loopw [5,9] (fun _ i wr=>∃ (k:Nat) (st:List Nat) (blk:Bs),k<=1 ∧ i=.int .i64 (k:Int) ∧ Hid (Und (if k=0 then [] else s) st blk) ∧ Held w0 wr (blkR g 214 (shaC st blk (if k=0 then [] else s).length) :: blkR g2 23 (hashA (List.replicate 32 0)) :: L)) (fun _ i _=>1 - (intOf i).toNat)
 case atStart=>exact ⟨0,hF,List.replicate 64 0,by omega,rfl,LH Und.new,S2.out⟩
 case round=>
  clear S2
  obtain ⟨k,st,blk,hk,rfl,HU,S⟩:=hrel
  have S:=LH S
  rcases (by omega:k=0 ∨ k=1) with rfl|rfl
  . have hc:=(HX.out wr S.out.drop.drop).1
    have HR:=LH (take_any w0 g [] s st blk HU.out (by have:=hs.out;simp;omega) _ _ wr (fun V cs SV=>(HX.out V SV.drop.drop).2) S.out)
    generalize s.length=sl at *
    clear hk
    go_wp2_with fail
    refine HR.out.mono ?_
    rintro e w4 ⟨rfl,st2,blk2,U4,S4⟩
    rw [List.nil_append] at U4 S4
    have U4:=LH U4
    have S4:=LH S4
    go_wp2
    go_roundw
    case rel=>exact ⟨1,st2,blk2,by omega,rfl,U4,S4.out⟩
    case measure=>simp [intOf]
  . have HR:=LH (ssum_any w0 g s st blk HU.out hs.out _ wr S.out)
    have hO:=LH (hashA_one (shaF s))
    have hsz1:Hid ((hashA (shaF s)).size=32):=LH (by rw [hashA_size,shaF_length])
    obtain ⟨ch,hch⟩:∃ ch,Hid (hashA (shaF s)=ch):=⟨_,LH rfl⟩
    rw [hch.out] at HR hO hsz1
    go_wp2_with fail
    refine HR.out.mono ?_
    rintro e w4 ⟨rfl,S4⟩
    have S4:=LH S4
    go_wp2_with (refine wpList_store_blk rfl 23 (.tmp 2) (.tmp 18) rfl g2 (by simp [Act.eval]) ch (by simp [Act.eval]) 23 _ (S4.out.at_ (l1:=[_])) (by rw [hsz1.out];exact Tryz.infoHashP) (by rw [hsz1.out];rfl) hO.out ?_;intro w5 b5 k5;have S5:=LH (Held.setBlk (l1:=[_]) S4.out b5 k5);clear b5 k5)
    refine bodyPost_ret (results_cell1 (by rfl) rfl (S5.out.at_ (l1:=[_])) Tryz.underlying23 rfl (by rw [hsz1.out];exact Tryz.infoHashP)) rfl ?_
    exact ⟨by rw [hch.out],S5.out.drop.drop⟩
theorem op_copy_blk{P:Program}{w:World}{o:Oper}{a:Act}{K:Act->World->Prop}{Q:Exit->Act->World->Prop}(d s:Operand)(dT sT:TypeId)
 (ho:o.op=.call { callee:=.builtin .copy,args:=#[d,s],argTypes:=#[dT,sT] }) (elem:TypeId) (hu:P.underlying dT=some (.slice elem)) (hsz:(P.info? elem).map (·.size)=some 1)
 (g off dLen dCap:Nat) (hd:a.eval d=.slice (some ⟨g,off,none⟩) dLen dCap) (y:Value) (hs:a.eval s=y) (n:Nat) (xs:List Value) (hr:Rd w 1 y n xs)
 (t:TypeId) (cur:Array Value) (hb:Blk w g t cur) (hfit:off+dLen<=cur.size) (h1:∀ v ∈ xs,v.oneCell'=true) (m:Nat) (hm:min n dLen=m)
 (h:∀ w',Blk w' g t (splice cur.toList off (xs.take dLen)).toArray->Kp [g] w w'->K (a.put o.dst (goInt (m:Int))) w'):o.wp P a w K Q:=by
 subst hm
 obtain ⟨hl,A,c,rfl,h2,h3,hA,hc⟩:=hr
 by_cases h0:min n dLen=0
 . have hrun:=run_copy_none (P:=P) w dT sT o.type elem (some ⟨g,off,none⟩) A dLen dCap n c hu hsz h0
   have e:xs.take dLen=[]:=by
    apply List.eq_nil_of_length_eq_zero
    rw [List.length_take];omega
   have:=h w (by rw [e];simpa [splice] using hb) kR
   rw [h0] at this
   refine op_runs (v:=goInt 0) (w':=w) ?_ this
   simp [execOp,ho,resolve,invoke,builtin,hd,hs,hrun,Result.andThen]
 . rcases A with _|ad
   . have:=hA rfl;omega
   . have hcl:(xs.take dLen).length=min n dLen:=by rw [List.length_take];omega
     have hrun:=run_copy_row (P:=P) w dT sT o.type elem g off dLen dCap ad n c cur t (xs.take dLen) hu hsz hb (by rw [hcl]) (fun j v hv=>hc ad rfl j v (by
      rw [List.getElem?_take] at hv
      split at hv
      . exact hv
      . cases hv)) (by rw [hcl];omega) (fun v hv=>h1 v (List.mem_of_mem_take hv))
     have hblk:=setRow_blk (cs:=(cur.toList.take off ++ (xs.take dLen) ++ cur.toList.drop (off+(xs.take dLen).length)).toArray) hb
     refine op_runs (v:=goInt ((xs.take dLen).length:Int)) (w':=w.setRow g (cur.toList.take off ++ (xs.take dLen) ++ cur.toList.drop (off+(xs.take dLen).length)).toArray) ?_ ?_
     rotate_left
     . have:=h _ (by
        unfold splice
        rw [<- List.append_assoc]
        exact hblk.1) hblk.2
       rw [<- hcl] at this
       exact this
     . simp [execOp,ho,resolve,invoke,builtin,hd,hs,hrun,Result.andThen]
theorem mac_r0(w0:World)(L:List Res)(S:Held w0 w L)(hsz:a.tmps.size=27):RG1 false 0 Tryz.f101 Q a w fun a' W q'=>(∃ g,Sl a' 4 (Pq g 0) ∧ Held w0 W (blkR g 23 (hashA (List.replicate 32 0)) :: L))->q':=by
 intro hend
 refine wp_region_lit ?_
 (conv=>arg 4;whnf)
 have S0:=LH (S.newBlk 23 (hashA (List.replicate 32 0)))
 go_wp2
 try simp only [Act.put]
 exact hend _ _ tS (⟨w.heap.size,sP0,S0.out⟩)
theorem mac_r1(w0:World)(L:List Res)(S:Held w0 w L)(hsz:a.tmps.size=27):RG1 false 1 Tryz.f101 Q a w fun a' W q'=>(∃ g,Sl a' 5 (Pq g 0) ∧ Held w0 W (blkR g 181 (hashA (List.replicate 64 0)) :: L))->q':=by
 intro hend
 refine wp_region_lit ?_
 (conv=>arg 4;whnf)
 have S0:=LH (S.newBlk 181 (hashA (List.replicate 64 0)))
 go_wp2
 try simp only [Act.put]
 exact hend _ _ tS (⟨w.heap.size,sP0,S0.out⟩)
theorem mac_r2(A:Option Addr)(n c:Nat)(hsz:a.tmps.size=27)(o0:Sl a 0 (.slice A n c)):RG0 2 Tryz.f101 Q a w fun a' q'=>Sl a' 10 (.bool (decide (64 < n)))->q':=rO
theorem mac_r3(w0:World)(A:Option Addr)(c:Nat)(s:Bs)(hs:s.length < 1152921504606846976)(L:List Res)(HX:∀ V,Held w0 V L->Rd V 1 (.slice A s.length c) s.length (bv s))(S:Held w0 w L)(hsz:a.tmps.size=27)(o0:Sl a 0 (.slice A s.length c)):RG1 false 3 Tryz.f101 Q a w fun a' W q'=>(∃ g,Sl a' 6 (Pq g 0) ∧ Held w0 W (blkR g 23 (hashA (shaF s)) :: L))->q':=by
 intro hend
 refine wp_region_lit ?_
 (conv=>arg 4;whnf)
 unfold Sl at o0
 have S:=LH S
 have S1:=LH (S.out.newBlk 32 #[.slice A s.length c])
 have HR:=LH (ssumv_any w0 _ ⟨w.heap.size,0,none⟩ (.slice A s.length c) s hs _ S1.out (fun V SV=>⟨(SV.at_ (l1:=[])).cell 0,HX V SV.drop⟩))
 clear HX hs
 obtain ⟨nl,hnl⟩:∃ nl,s.length=nl:=⟨_,rfl⟩
 rw [hnl] at o0 S1 HR
 have hO:=LH (hashA_one (shaF s))
 have hsz1:Hid ((hashA (shaF s)).size=32):=LH (by rw [hashA_size,shaF_length])
 obtain ⟨ch,hch⟩:∃ ch,Hid (hashA (shaF s)=ch):=⟨_,LH rfl⟩
 rw [hch.out] at HR hO hsz1
 clear hnl
 go_wp2_with fail
 refine HR.out.mono ?_
 rintro e w4 ⟨rfl,S4⟩
 have S4:=LH (S4.drop.newBlk 23 (hashA (List.replicate 32 0)))
 go_wp2_with (refine wpList_store_blk rfl 23 (.tmp 6) (.tmp 13) rfl w4.heap.size aE ch aE 23 _ (S4.out.at_ (l1:=[])) (by rw [hsz1.out];exact Tryz.infoHashP) (by rw [hsz1.out];rfl) hO.out ?_;intro w5 b5 k5;have S5:=LH (Held.setBlk (l1:=[]) S4.out b5 k5);clear b5 k5)
 rw [<- hch.out] at S5
 try simp only [Act.put]
 exact hend _ _ tS (⟨_,sP0,S5.out⟩)
theorem mac_r4(w0:World)(g5 g6:Nat)(h:Bs)(hh:h.length=32)(L:List Res)(hsz:a.tmps.size=27)(o5:Sl a 5 (Pq g5 0))(o6:Sl a 6 (Pq g6 0))
 (S0:Held w0 w (blkR g5 181 (hashA (List.replicate 64 0)) :: blkR g6 23 (hashA h) :: L)):RG1 true 4 Tryz.f101 Q a w fun a' W q'=>Held w0 W (blkR g5 181 (splice (hashA (List.replicate 64 0)).toList 0 (bv h)).toArray :: blkR g6 23 (hashA h) :: L)->q':=by
 intro hend
 have hap:=pa 4 Tryz.f101
 refine wp_region_sep (Γ:=Unit) (l:=(opsOf 4 Tryz.f101)) 3 [0,1,2,4,5]
  (fun i vs gs=>match i with|0=>vs 0=.slice (some ⟨g5,0,none⟩) 64 64|1=>vs 1=.slice (some ⟨g6,0,none⟩) 32 32|_=>True)
  (fun i vs gs=>match i with|2=>[blkR g5 181 (splice (hashA (List.replicate 64 0)).toList 0 (bv h)).toArray]|3=>[blkR g5 181 (hashA (List.replicate 64 0))]|4=>[blkR g6 23 (hashA h)]|5=>L|_=>[])
  (fun i=>match i with|2=>[3]|_=>[]) (fun i=>match i with|2=>[4]|_=>[]) S0 (by kernel_rfl) hap (by kernel_rfl) (by kernel_rfl) (fun i=>match i with|0=>[0]|1=>[1]|_=>[]) (by kernel_rfl) ?_ (by kernel_rfl) ?_ ?_ ?_
 . intro s vs vs' gs gs' h
   iterate 6 (rcases s with _|s;· (first|exact ⟨rfl,id⟩|(simp only [List.mem_cons,List.not_mem_nil,or_false,forall_eq] at h;simp [h])))
   exact ⟨rfl,id⟩
 . simp only [List.range,List.range.loop,List.flatMap_cons,List.flatMap_nil,List.append_nil]
   exact List.Perm.refl _
 . clear S0 hend
   refine ⟨?_,?_,?_,trivial⟩ <;> intro vs gs A' W LF hA S hR hd hu K hK
   . exact qa1 (eO 5 o5)
   . exact qa1 (eO 6 o6)
   . replace hK:=hK default;have e14:=vD 14 0;have e15:=vD 15 1;clear hA o5 o6
     have S1:Held w0 W (blkR g5 181 (hashA (List.replicate 64 0)) :: LF):=S
     refine op_copy_blk (.tmp 14) (.tmp 15) 32 32 rfl 5 Tryz.underlying32 (by kernel_rfl) g5 0 64 64 (by simpa [Act.eval] using e14) _ (by simpa [Act.eval] using e15) 32 (bv h) (Rd.of_hash (S1.ok (blkR g6 23 (hashA h)) (List.mem_cons_of_mem _ (hR 4 (List.mem_singleton.2 rfl) _ (List.mem_singleton.2 rfl)))) hh) 181 _ (S1.at_ (l1:=[])) (by rw [hashA_size];exact Nat.le_refl _) (bv_one h) 32 rfl (fun w' hbk k=>hK _ _ ?_ trivial)
     rw [List.take_of_length_le (by rw [bv_length];omega)] at hbk
     exact Held.setBlk (l1:=[]) S1 hbk k
 . intro vs gs W S hp
   have S:Held w0 W (blkR g5 181 (splice (hashA (List.replicate 64 0)).toList 0 (bv h)).toArray :: blkR g6 23 (hashA h) :: L):=by simpa only [List.flatMap_cons,List.flatMap_nil,List.append_nil,List.nil_append,List.cons_append,List.append_assoc] using S
   rw [putAll_eq]
   exact hend _ W sQ  S
theorem mac_r5(w0:World)(g5:Nat)(A:Option Addr)(c:Nat)(s:Bs)(L:List Res)(hr:Rd w 1 (.slice A s.length c) s.length (bv s))(S:Held w0 w (blkR g5 181 (hashA (List.replicate 64 0)) :: L))(hsz:a.tmps.size=27)(o0:Sl a 0 (.slice A s.length c))(o5:Sl a 5 (Pq g5 0)):RG1 false 5 Tryz.f101 Q a w fun a' W q'=>(Held w0 W (blkR g5 181 (splice (hashA (List.replicate 64 0)).toList 0 ((bv s).take 64)).toArray :: L))->q':=by
 intro hend
 refine wp_region_lit ?_
 (conv=>arg 4;whnf)
 unfold Sl at o0 o5
 have S:=LH S
 have Hr:=LH hr
 clear hr
 obtain ⟨ll,hll⟩:∃ ll,s.length=ll:=⟨_,rfl⟩
 have HLL:=LH hll
 rw [hll] at o0 Hr
 clear hll
 obtain ⟨mm,hmm⟩:∃ mm,min ll 64=mm:=⟨_,rfl⟩
 have HM:=LH hmm
 clear hmm
 go_wp2_with (refine wpList_copy_blk rfl (.tmp 17) (.tmp 18) 32 32 rfl 5 Tryz.underlying32 (by kernel_rfl) g5 0 64 64 aE _ aE ll (bv s) Hr.out 181 _ (S.out.at_ (l1:=[])) (by rw [hashA_size];exact Nat.le_refl _) (bv_one s) mm HM.out ?_;intro w2 b2 k2;have S2:=LH (Held.setBlk (l1:=[]) S.out b2 k2);clear b2 k2)
 try simp only [Act.put]
 exact hend _ _ tS (S2.out)
theorem mac_r6(w0:World)(g5:Nat)(key:Bs)(hk:key.length=64)(x:Value)(vs:List Value)(ls:List (List UInt8))(A:Option Addr)(c:Nat)(hx:x=.slice A ls.length c)(hsum:64+ls.flatten.length < 1152921504606846976)(L:List Res)(HX:∀ V,Held w0 V (blkR g5 181 (hashA key) :: L)->TxF V x vs ls)(S:Held w0 w (blkR g5 181 (hashA key) :: L))(hsz:a.tmps.size=27)(o1:Sl a 1 (.slice A ls.length c))(o5:Sl a 5 (Pq g5 0)):RG1 false 6 Tryz.f101 Q a w fun a' W q'=>(∃ g,Sl a' 7 (Pq g 0) ∧ Held w0 W (blkR g 23 (hashA (shaF (turned key 54 ++ ls.flatten))) :: blkR g5 181 (hashA key) :: L))->q':=by
 intro hend
 refine wp_region_lit ?_
 (conv=>arg 4;whnf)
 unfold Sl at o1 o5
 have S:=LH S
 have HR:=LH (hashed_any w0 _ key hk 54 x vs ls hsum w S.out HX)
 rw [hx] at HR
 have Hk:=LH hk
 clear HX hsum hx hk
 obtain ⟨nl,hnl⟩:∃ nl,ls.length=nl:=⟨_,rfl⟩
 rw [hnl] at o1 HR
 have hO:=LH (hashA_one (shaF (turned key 54 ++ ls.flatten)))
 have hsz1:Hid ((hashA (shaF (turned key 54 ++ ls.flatten))).size=32):=LH (by rw [hashA_size,shaF_length])
 obtain ⟨ch,hch⟩:∃ ch,Hid (hashA (shaF (turned key 54 ++ ls.flatten))=ch):=⟨_,LH rfl⟩
 have hkz:Hid ((hashA key).size=64):=LH (by rw [hashA_size,Hk.out])
 obtain ⟨ck,hck⟩:∃ ck,Hid (hashA key=ck):=⟨_,LH rfl⟩
 rw [hch.out] at HR hO hsz1
 rw [hck.out] at HR S hkz
 clear hnl
 go_wp2_with (refine wpList_load_blk rfl 181 (.tmp 5) rfl g5 (aO o5) 181 _ (S.out.at_ (l1:=[])) _ Tryz.underlying181 rfl (by rw [hkz.out];exact Tryz.info64u8s) ?_)
 refine HR.out.mono ?_
 rintro e w4 ⟨rfl,S4⟩
 have S4:=LH (S4.newBlk 23 (hashA (List.replicate 32 0)))
 go_wp2_with (refine wpList_store_blk rfl 23 (.tmp 7) (.tmp 22) rfl w4.heap.size aE ch aE 23 _ (S4.out.at_ (l1:=[])) (by rw [hsz1.out];exact Tryz.infoHashP) (by rw [hsz1.out];rfl) hO.out ?_;intro w5 b5 k5;have S5:=LH (Held.setBlk (l1:=[]) S4.out b5 k5);clear b5 k5)
 rw [<- hch.out,<- hck.out] at S5
 try simp only [Act.put]
 exact hend _ _ tS (⟨_,sP0,S5.out⟩)
theorem mac_r7(w0:World)(g5 g7 g4:Nat)(key h:Bs)(hk:key.length=64)(hh:h.length=32)(L:List Res)(hsz:a.tmps.size=27)(o4:Sl a 4 (Pq g4 0))(o5:Sl a 5 (Pq g5 0))(o7:Sl a 7 (Pq g7 0))
 (S0:Held w0 w (blkR g4 23 (hashA (List.replicate 32 0)) :: blkR g5 181 (hashA key) :: blkR g7 23 (hashA h) :: L))
 (hend:∀ (a':Act) (vs:Nat->Value) (gs:Nat->Nat) (W:World),Same a a' [23,24,25,26]->Held w0 W (blkR (gs 2) 32 #[.slice (some ⟨g7,0,none⟩) 32 32] :: blkR g4 23 (hashA (shaF (turned key 92 ++ h))) :: blkR g5 181 (hashA key) :: blkR g7 23 (hashA h) :: L)->Q .normal a' W):(Code.region 7 (opsOf 7 Tryz.f101).toArray true).wp Tryz.prog Q a w:=by
 have hap:=pa 7 Tryz.f101
 refine wp_region_sep (Γ:=Nat) (l:=(opsOf 7 Tryz.f101)) 4 [0,1,2,3,4,6,7,8]
  (fun i vs gs=>match i with|0=>vs 0=.agg (hashA key)|1=>vs 1=.slice (some ⟨g7,0,none⟩) 32 32|2=>vs 2=.slice (some ⟨gs 2,0,none⟩) 1 1|3=>vs 3=.agg (hashA (shaF (turned key 92 ++ h)))|_=>True)
  (fun i vs gs=>match i with|2=>[blkR (gs 2) 32 #[.slice (some ⟨g7,0,none⟩) 32 32]]|4=>[blkR g4 23 (hashA (shaF (turned key 92 ++ h)))]|5=>[blkR g4 23 (hashA (List.replicate 32 0))]|6=>[blkR g5 181 (hashA key)]|7=>[blkR g7 23 (hashA h)]|8=>L|_=>[])
  (fun i=>match i with|4=>[5]|_=>[]) (fun i=>match i with|0=>[6]|3=>[2,7]|_=>[]) S0 (by kernel_rfl) hap (by kernel_rfl) (by kernel_rfl) (fun i=>match i with|0=>[0]|1=>[1]|2=>[2]|3=>[3]|_=>[]) (by kernel_rfl) ?_ (by kernel_rfl) ?_ ?_ ?_
 . intro s vs vs' gs gs' h
   iterate 9 (rcases s with _|s;· (first|exact ⟨rfl,id⟩|(simp only [List.mem_cons,List.not_mem_nil,or_false,forall_eq] at h;simp [h])))
   exact ⟨rfl,id⟩
 . simp only [List.range,List.range.loop,List.flatMap_cons,List.flatMap_nil,List.append_nil]
   exact List.Perm.refl _
 . clear S0 hend
   and_intros <;> try intro vs gs A' W LF hA S hR hd hu K hK
   . exact ldA (hashA key) (eO 5 o5) (Blk.agg (show Blk W g5 181 (hashA key) from S.ok (blkR g5 181 (hashA key)) (hR 6 (List.mem_singleton.2 rfl) _ (List.mem_singleton.2 rfl)))) Tryz.underlying181 (by rw [hashA_size,hk];exact Tryz.info64u8s)
   . exact qa1 (eO 7 o7)
   . have e24:=vD 24 1;clear hA o4 o5 o7;go_step
     exact hK W.heap.size _ _ (S.newBlk _ _) rfl
   . replace hK:=hK default;have e23:=vD 23 0;have e25:=vD 25 2;clear hA o4 o5 o7;generalize hca:hashA key=ca at *
     go_step
     rw [<- hca]
     have h2:blkR (gs 2) 32 #[.slice (some ⟨g7,0,none⟩) 32 32] ∈ LF:=hR 2 (List.mem_cons_self ..) _ (List.mem_singleton.2 rfl)
     have h7:blkR g7 23 (hashA h) ∈ LF:=hR 7 (List.mem_cons_of_mem _ (List.mem_singleton.2 rfl)) _ (List.mem_singleton.2 rfl)
     refine (hashed_any w0 LF key hk 92 (.slice (some ⟨gs 2,0,none⟩) 1 1) [.slice (some ⟨g7,0,none⟩) 32 32] [h] (by simp [hh]) _ S (fun V SV=>?_)).mono ?_
     . exact txf_one (SV.ok _ h2) (Rd.of_hash (SV.ok _ h7) hh)
     rintro e w' ⟨rfl,Sq⟩
     rw [show [h].flatten=h from by simp]
     exact hK _ _ Sq rfl
   . replace hK:=hK default;have e4:=eO 4 o4;have e26:=vD 26 3;clear hA o4 o5 o7
     have S1:Held w0 W (blkR g4 23 (hashA (List.replicate 32 0)) :: LF):=S
     refine op_store_part (.tmp 4) (.tmp 26) 23 rfl g4 0 (by simpa [Act.eval] using e4) (hashA (shaF (turned key 92 ++ h))) (by simpa [Act.eval] using e26) 23 _ (S1.at_ (l1:=[])) (by rw [hashA_size,shaF_length];exact Tryz.infoHashP) (by rw [hashA_size,shaF_length];exact Nat.le_refl _) (hashA_one _) (fun w' hbk k=>hK undef _ ?_ trivial)
     rw [set_all _ _ (by rw [hashA_size,hashA_size,shaF_length];rfl)] at hbk
     exact Held.setBlk (l1:=[]) S1 hbk k
   . trivial
 . intro vs gs W S hp
   have S:Held w0 W (blkR (gs 2) 32 #[.slice (some ⟨g7,0,none⟩) 32 32] :: blkR g4 23 (hashA (shaF (turned key 92 ++ h))) :: blkR g5 181 (hashA key) :: blkR g7 23 (hashA h) :: L):=by simpa only [List.flatMap_cons,List.flatMap_nil,List.append_nil,List.nil_append,List.cons_append,List.append_assoc] using S
   rw [putAll_eq]
   exact hend _ vs gs W sQ  S
end
section
open Go.RowKit
theorem key_splice{h:List UInt8}(hl:h.length<=64):(splice (hashA (List.replicate 64 0)).toList 0 (bv h)).toArray=hashA (h ++ List.replicate (64 - h.length) 0):=by
 unfold splice hashA
 congr 1
 rw [List.take_zero,List.nil_append,Nat.zero_add,bv_length,bv_append]
 congr 1
 show (bv (List.replicate 64 0)).drop _=_
 unfold bv
 rw [List.map_replicate,List.map_replicate,List.drop_replicate]
theorem mac_any(w0:World)(L:List Res)(A:Option Addr)(c:Nat)(sec:Bs)(hs:sec.length < 1152921504606846976)(x:Value)(vs:List Value)(ls:List (List UInt8))(hsum:64+ls.flatten.length < 1152921504606846976)(w:World)(S:Held w0 w L)
 (HS:∀ V,Held w0 V L->Rd V 1 (.slice A sec.length c) sec.length (bv sec)) (HX:∀ V,Held w0 V L->TxF V x vs ls):
 Calls Tryz.prog 101 #[.slice A sec.length c,x] w fun e w'=>e=.returned (.agg (hashA (macF sec ls.flatten))) ∧ Held w0 w' L:=by
 obtain ⟨Ax,cx,hx,-,-⟩:=(show Txs w x ls from ⟨vs,HX w S⟩).open_
 refine calls_fr Tryz.func101 rfl 27 rfl (fun a0 hsz hdf hAr=>?_)
 have hz0:a0.tmps.size=27:=hsz
 have D:=hdf
 have o0:=hAr 0 _ rfl
 have o1:Sl a0 1 (.slice Ax ls.length cx):=by rw [<- hx];exact hAr 1 _ rfl
 refine wp_seq (mac_r0 w0 _ S hz0 (fun a1 w1 hs1 h=>?_))
 obtain ⟨hz1,D,o0,o1⟩:=kq2 hs1 hz0 D o0 o1
 obtain ⟨g4,o4,S⟩:=h
 refine wp_seq (mac_r1 w0 _ S hz1 (fun a2 w2 hs2 h=>?_))
 obtain ⟨hz2,D,o0,o1,o4⟩:=kq3 hs2 hz1 D o0 o1 o4
 obtain ⟨g5,o5,S⟩:=h
 refine wp_seq (wp_seq (mac_r2 A sec.length c hz2 o0 (fun a3 hs3 o10=>?_)))
 obtain ⟨hz3,D,o0,o1,o4,o5⟩:=kq4 hs3 hz2 D o0 o1 o4 o5
 have tail:∀ (a3:Act) (w3:World),a3.tmps.size=27->a3.defers=[]->Sl a3 1 (.slice Ax ls.length cx)->Sl a3 4 (Pq g4 0)->Sl a3 5 (Pq g5 0)->Held w0 w3 (blkR g5 181 (hashA (key64 sec)) :: blkR g4 23 (hashA (List.replicate 32 0)) :: L)->
  (tailOf 2 Tryz.f101).wp Tryz.prog (bodyPost Tryz.prog Tryz.f101 fun e w'=>e=.returned (.agg (hashA (macF sec ls.flatten))) ∧ Held w0 w' L) a3 w3:=by
  intro a3 w3 hz3 D o1 o4 o5 S
  refine wp_seq (mac_r6 w0 g5 _ (key64_length sec) x vs ls Ax cx hx hsum _ (fun V SV=>HX V SV.drop.drop) S hz3 o1 o5 (fun a4 w4 hs4 h=>?_))
  obtain ⟨hz4,D,o1,o4,o5⟩:=kq3 hs4 hz3 D o1 o4 o5
  obtain ⟨g7,o7,S⟩:=h
  have S:=S.perm ((List.Perm.cons _ (List.Perm.swap _ _ _)).trans ((List.Perm.swap _ _ _).trans (List.Perm.cons _ (List.Perm.swap _ _ _))))
  refine wp_seq (mac_r7 w0 g5 g7 g4 _ _ (key64_length sec) (shaF_length _) _ hz4 o4 o5 o7 S (fun a5 vs5 gs5 w5 hs5 S=>?_))
  obtain ⟨hz5,D,o1,o4,o5,o7⟩:=kq4 hs5 hz4 D o1 o4 o5 o7
  refine wp_ret (bodyPost_ret (results_cell1 (by rfl) (o4.eval (by rw [hz5];decide)) (S.at_ (l1:=[_])) Tryz.underlying23 rfl (by rw [hashA_size,shaF_length];exact Tryz.infoHashP)) D ⟨rfl,?_⟩)
  exact S.drop.drop.drop.drop
 by_cases hlt:64 < sec.length
 . refine wcT o10 ?_ (by rw [decide_eq_true hlt])
   refine wp_seq (mac_r3 w0 A c sec hs _ (fun V SV=>HS V SV.drop.drop) S hz3 o0 (fun a4 w4 hs4 h=>?_))
   obtain ⟨hz4,D,o0,o1,o4,o5,o10⟩:=kq5 hs4 hz3 D o0 o1 o4 o5 o10
   obtain ⟨g6,o6,S⟩:=h
   have S:=S.perm (List.Perm.swap _ _ _)
   refine mac_r4 w0 g5 g6 _ (shaF_length sec) _ hz4 o5 o6 S (fun a5 w5 hs5 S=>?_)
   obtain ⟨hz5,D,o0,o1,o4,o5,o10,o6⟩:=kq6 hs5 hz4 D o0 o1 o4 o5 o10 o6
   rw [key_splice (by rw [shaF_length];omega)] at S
   have ek:shaF sec ++ List.replicate (64 - (shaF sec).length) 0=key64 sec:=by unfold key64;rw [if_pos hlt]
   rw [ek] at S
   exact tail _ _ hz5 D o1 o4 o5 (S.dropAt (l1:=[_]))
 . refine wcF o10 ?_ (by rw [decide_eq_false hlt])
   refine mac_r5 w0 g5 A c sec _ (HS _ S.drop.drop) S hz3 o0 o5 (fun a4 w4 hs4 S=>?_)
   obtain ⟨hz4,D,o0,o1,o4,o5⟩:=kq4 hs4 hz3 D o0 o1 o4 o5
   rw [List.take_of_length_le (by rw [bv_length];omega),key_splice (by omega)] at S
   have ek:sec ++ List.replicate (64 - sec.length) 0=key64 sec:=by unfold key64;rw [if_neg hlt]
   rw [ek] at S
   exact tail _ _ hz4 D o1 o4 o5 S
end
section
variable {Q:Exit->Act->World->Prop} {a:Act} {w:World}
open Go.RowKit
theorem be4_bv(x:Nat):(#[Value.int .u8 ((x / 16777216 % 256:Nat):Int),.int .u8 ((x / 65536 % 256:Nat):Int),.int .u8 ((x / 256 % 256:Nat):Int),.int .u8 ((x % 256:Nat):Int)]:Array Value).toList=bv (be 4 x):=by
 simp only [be_succ,be_zero,bv_cons,bv_nil,UInt8.toNat_ofNat']
 simp
def undL (st:List Nat) (n:Nat) (v:Value):List Value:=u32L st ++ [.int .i64 (n:Int),v]
def undA (st:List Nat) (n:Nat) (v:Value):Array Value:=(undL st n v).toArray
theorem Tryz.infoUnder:(Tryz.prog.info? 207).map (·.size)=some 10:=by kernel_rfl
section
variable {st:List Nat} {n:Nat} {v:Value}
theorem undA_size(hs:st.length=8):(undA st n v).size=10:=by simp [undA,undL,u32L_length,hs]
theorem undA_len(hs:st.length=8):(undA st n v)[8]?=some (.int .i64 (n:Int)):=by
 simp only [undA,List.getElem?_toArray,undL]
 rw [List.getElem?_append_right (by rw [u32L_length];omega),u32L_length,hs];rfl
theorem undA_rest(hs:st.length=8):(undA st n v)[9]?=some v:=by
 simp only [undA,List.getElem?_toArray,undL]
 rw [List.getElem?_append_right (by rw [u32L_length];omega),u32L_length,hs];rfl
theorem undA_setLen(hs:st.length=8)(m:Nat):(undA st n v).setIfInBounds 8 (.int .i64 (m:Int))=undA st m v:=by
 unfold undA undL
 rw [List.setIfInBounds_toArray,List.set_append_right _ _ (by rw [u32L_length];omega),u32L_length,hs];rfl
theorem undA_setRest(hs:st.length=8)(u:Value):(undA st n v).setIfInBounds 9 u=undA st n u:=by
 unfold undA undL
 rw [List.setIfInBounds_toArray,List.set_append_right _ _ (by rw [u32L_length];omega),u32L_length,hs];rfl
theorem undA_state(hs:st.length=8)(st':List Nat)(hs':st'.length=8):((undA st n v).toList.take 0 ++ (u32A st').toList ++ (undA st n v).toList.drop (0+(u32A st').size)).toArray=undA st' n v:=by
 rw [u32A_size,hs']
 unfold undA undL
 rw [List.toList_toArray,List.take_zero,List.nil_append,Nat.zero_add,List.drop_left' (by rw [u32L_length,hs])]
 rfl
theorem und_stateAt{w:World}{g:Nat}{t:TypeId}(h:Blk w g t (undA st n v))(hs:st.length=8):∀ j u,(u32A st).toList[j]?=some u->w.cell? ((⟨g,0,none⟩:Addr).add j)=some u:=by
 intro j u hu
 have hj:j < 8:=by
  have:=(List.getElem?_eq_some_iff.1 hu).1
  simpa [u32A,u32L,hs] using this
 refine h.agg j u ?_
 simp only [undA,List.toList_toArray,undL]
 rw [List.getElem?_append_left (by rw [u32L_length];omega)]
 exact hu
theorem undA_one(hv:v.oneCell'=true):∀ u,u ∈ (undA st n v).toList->u.oneCell'=true:=by
 intro u hu
 simp only [undA,List.toList_toArray,undL,List.mem_append,List.mem_cons,List.not_mem_nil,or_false] at hu
 rcases hu with hu|rfl|rfl
 . exact u32L_one st u hu
 . rfl
 . exact hv
end
theorem rnew_any(w:World):Calls Tryz.prog 141 #[] w fun e w'=>e=.returned (.agg (undA hF 0 (.slice none 0 0))) ∧ Kp [] w w':=by
 have S0:=LH ((Held.start w).newBlk 207 (undA (List.replicate 8 0) 0 (.slice none 0 0)))
 have HB:Hid (Tryz.prog.built 207 [(0,.agg (u32A hF))]=some (undA hF 0 (.slice none 0 0))):=LH (by kernel_rfl)
 have hO:=LH (undA_one (st:=hF) (n:=0) (v:=.slice none 0 0) rfl)
 have hZ:Hid ((undA hF 0 (.slice none 0 0)).size=10):=LH (undA_size rfl)
 obtain ⟨ch,hch⟩:∃ ch,Hid (undA hF 0 (.slice none 0 0)=ch):=⟨_,LH rfl⟩
 obtain ⟨ca,hca⟩:∃ ca,Hid (u32A hF=ca):=⟨_,LH rfl⟩
 rw [hch.out] at HB hO hZ ⊢
 rw [hca.out] at HB
 have hf:=LH (rfirst_any)
 rw [hca.out] at hf
 go_enter Tryz.func141,Tryz.ntmps141
 go_wp2_with fail
 refine (hf.out _).mono ?_
 rintro e w' ⟨rfl,k1⟩
 have S1:=LH (S0.out.kp k1)
 clear k1 S0
 go_wp2_with (first
  |(refine wpList_buildC rfl 207 _ rfl [(0,.agg ca)] (by simp [Act.eval,Act.put]) _ HB.out ?_)
  |(refine wpList_store_blk rfl 207 (.tmp 0) (.tmp 2) rfl w.heap.size (by simp [Act.eval,Act.put]) ch (by simp [Act.eval,Act.put]) 207 _ (S1.out.at_ (l1:=[])) (by rw [hZ.out];exact Tryz.infoUnder) (by rw [hZ.out];rfl) hO.out ?_;intro w5 b5 k5;have S5:=LH (Held.setBlk (l1:=[]) S1.out b5 k5);clear b5 k5))
 refine bodyPost_ret (results_cell1 (by rfl) rfl (S5.out.at_ (l1:=[])) Tryz.underlying207 rfl (by rw [hZ.out];exact Tryz.infoUnder)) rfl ?_
 exact ⟨rfl,S5.out.k⟩
theorem reight_any(w0:World)(L:List Res)(N:Nat)(w:World)(S:Held w0 w L):Calls Tryz.prog 156 #[.int .u64 (N:Int)] w fun e w'=>∃ v,e=.returned v ∧ Held w0 w' (rowR 5 1 v 8 (bv (be 8 N)) :: L):=by
 have S:=LH S
 go_enter Tryz.func156,Tryz.ntmps156
 go_wp2
 go_loopw [3,4] (fun v z wr=>∃ r:Nat,r<=8 ∧ z=.int .i64 (56 - 8 * (r:Int)) ∧ Held w0 wr (rowR 5 1 v ((be 8 N).take r).length (bv ((be 8 N).take r)) :: L)) (fun _ z _=>(intOf z+8).toNat)
 case atStart=>exact ⟨0,by omega,rfl,S.out.rownew (World.ownsRow_nil _ _ _ _) (Kp.refl [] _) (by simp [Value.ownBlock])⟩
 case round=>
  clear S
  obtain ⟨r,hr,rfl,S⟩:=hrel
  obtain ⟨A,c,rfl,-,-⟩:=ow_form (S.at_ (l1:=[]))
  have S:=LH S
  by_cases hlt:r < 8
  . have e6:(56 - 8 * (r:Int))=(((56 - 8 * r:Nat)):Int):=by omega
    have e7:(56 - 8 * (r:Int)) - 8=56 - 8 * ((r+1:Nat):Int):=by omega
    have hw:wrap64 (((56 - 8 * r:Nat):Int) - 8)=56 - 8 * ((r+1:Nat):Int):=by unfold wrap64;omega
    have hbv:Hid (((N:Int) / 2 ^ (56 - 8 * r)) % 256=((UInt8.ofNat (N / 2 ^ (56 - 8 * r))).toNat:Int)):=LH (by rw [UInt8.toNat_ofNat',Int.natCast_emod,Int.natCast_ediv,Int.natCast_pow];rfl)
    have hge:(0:Int)<=((56 - 8 * r:Nat):Int):=by omega
    have Hn:=LH (be8_take N r hlt)
    have hxl:((be 8 N).take r).length<=8:=by rw [List.length_take];omega
    generalize UInt8.ofNat (N / 2 ^ (56 - 8 * r))=b at *
    have hbv:=hbv.out
    rw [e6]
    have e8:56 - 8 * ((r+1:Nat):Int)=((56 - 8 * r:Nat):Int) - 8:=by omega
    rw [e8] at hw
    generalize hz:((56 - 8 * r:Nat):Int) - 8=z2 at *
    have Hz:Hid (z2=56 - 8 * ((r+1:Nat):Int)):=LH (by omega)
    clear e6 e7 e8 hz
    generalize hxs:(be 8 N).take r=xs at *
    have S1:=LH (S.out.alloc (.cells #[.int .u8 (b.toNat:Int)] 5))
    have HR:=LH (rd_lit wr 5 #[.int .u8 (b.toNat:Int)] [b] rfl (by simp))
    have Hxs:=LH hxs
    clear hxs S
    generalize hq:56 - 8 * r=q at *
    have hmin:min q 64=q:=by omega
    have Hq:=LH hq
    clear hq
    go_wp2_with (at_builtin;refine app_held [] rfl (.tmp 9) (.tmp 14) rfl (.slice A xs.length c) xs (by simp [Act.eval]) S1.out (.slice (some ⟨wr.heap.size,0,none⟩) 1 1) [b] (by simp [Act.eval]) HR.out (by simp;omega) ?_;intro v2 w2 S2;have S2:=LH S2;obtain ⟨A2,c2,hv2,_,_⟩:=ow_form (S2.out.at_ (l1:=[]));subst hv2)
    go_roundw
    case rel=>
     refine ⟨r+1,by omega,congrArg (Value.int .i64) (by have:=Hq.out;omega),?_⟩
     rw [Hn.out]
     have:=S2.out
     rw [show (xs ++ [b]).length=xs.length+1 from by simp] at this ⊢
     exact this
    case measure=>
     have:=Hq.out
     simp [intOf];omega
  . obtain rfl:r=8:=by omega
    have e8:(56 - 8 * ((8:Nat):Int))=-8:=by omega
    rw [e8]
    go_wp2
    go_ret
    have e:=S.out
    rw [List.take_of_length_le (by simp),be_length] at e
    exact ⟨_,rfl,by simpa using e⟩
def dsWd:List Nat:=[3,4,5,6,7,8,9,10,11,12,13,14,15,16,17,18,19,20,21,22,23,24,25,26,27,28,29,30]
theorem rwd_r0(w0:World)(st:List Nat)(L:List Res)(S:Held w0 w L)(hsz:a.tmps.size=32)(o0:Sl a 0 (.agg (u32A st))):RG1 false 0 Tryz.f157 Q a w fun a' W q'=>(∃ g,Sl a' 1 (Pq g 0) ∧ Held w0 W (blkR g 205 (u32A st) :: L))->q':=by
 intro hend
 refine wp_region_lit ?_
 (conv=>arg 4;whnf)
 unfold Sl at o0
 have S0:=LH (S.newBlk 205 (u32A st))
 generalize hca:u32A st=ca at *
 go_wp2
 try simp only [Act.put]
 exact hend _ _ tS (⟨w.heap.size,sP0,S0.out⟩)
theorem rwd_r1(hsz:a.tmps.size=32):RG0 1 Tryz.f157 Q a w fun a' q'=>Sl a' 3 (.slice none 0 0)->q':=rO
theorem rwd_r2(hsz:a.tmps.size=32):RG0 2 Tryz.f157 Q a w fun a' q'=>Sl a' 4 (Nq 0)->q':=rO
theorem rwd_r3(k:Nat)(hsz:a.tmps.size=32)(o4:Sl a 4 (.int .i64 (k:Int))):RG0 3 Tryz.f157 Q a w fun a' q'=>Sl a' 6 (.bool (decide ((k:Int) < 8)))->q':=rO
theorem rwd_r4(k:Nat)(hk:k < 8)(hsz:a.tmps.size=32)(o4:Sl a 4 (.int .i64 (k:Int))):RG0 4 Tryz.f157 Q a w fun a' q'=>Sl a' 4 (Nq (k+1))->q':=rO
theorem rwd_r6(A:Option Addr)(n c:Nat)(hsz:a.tmps.size=32)(o3:Sl a 3 (.slice A n c)):RG0 6 Tryz.f157 Q a w fun a' q'=>Sl a' 2 (.slice A n c)->q':=rO
theorem rwd_r5(w0:World)(g1 k x n c:Nat)(A:Option Addr)(st:List Nat)(l:Bs)(hk:k < 8)(hx:st[k]?=some x)(hn:n+4<=1000)(L:List Res)(hsz:a.tmps.size=32)(o1:Sl a 1 (Pq g1 0))(o3:Sl a 3 (.slice A n c))(o4:Sl a 4 (.int .i64 (k:Int)))
 (S0:Held w0 w (L ++ (rowR 5 1 (.slice A n c) n (bv l) :: blkR g1 205 (u32A st) :: []))):RG2 5 Tryz.f157 Q a w fun a' vs gs W q'=>Sl a' 30 (vs 21)->(∃ A c,vs 21=.slice A (n+4) c)->Sl a' 3 (vs 21)->Held w0 W (rowR 5 1 (vs 20) 4 (bv (be 4 x)) :: rowR 5 1 (vs 21) (n+4) (bv l ++ bv (be 4 x)) :: L ++ (blkR g1 205 (u32A st) :: []))->q':=by
 intro hend
 have hap:=pa 5 Tryz.f157
 refine wp_region_sep (Γ:=Unit) (l:=(opsOf 5 Tryz.f157)) 3 [0,1,2,3,4,5,6,7,8,9,10,11,12,13,14,15,16,17,18,19,20,21,22,23,25]
  (fun i vs gs=>match i with|0=>vs 0=.slice A n c|1=>vs 1=.int .i64 (k:Int)|2=>vs 2=.pointer (some ⟨g1,k,none⟩)|3=>vs 3=.int .u32 ((x:Nat):Int)|4=>vs 4=.int .u32 ((x / 16777216:Nat):Int)|5=>vs 5=.int .u8 ((x / 16777216 % 256:Nat):Int)|6=>vs 6=.int .i64 (k:Int)|7=>vs 7=.pointer (some ⟨g1,k,none⟩)|8=>vs 8=.int .u32 ((x:Nat):Int)|9=>vs 9=.int .u32 ((x / 65536:Nat):Int)|10=>vs 10=.int .u8 ((x / 65536 % 256:Nat):Int)|11=>vs 11=.int .i64 (k:Int)|12=>vs 12=.pointer (some ⟨g1,k,none⟩)|13=>vs 13=.int .u32 ((x:Nat):Int)|14=>vs 14=.int .u32 ((x / 256:Nat):Int)|15=>vs 15=.int .u8 ((x / 256 % 256:Nat):Int)|16=>vs 16=.int .i64 (k:Int)|17=>vs 17=.pointer (some ⟨g1,k,none⟩)|18=>vs 18=.int .u32 ((x:Nat):Int)|19=>vs 19=.int .u8 ((x % 256:Nat):Int)|21=>∃ A c,vs 21=.slice A (n+4) c|22=>vs 22=vs 21|_=>True)
  (fun i vs gs=>match i with|20=>[rowR 5 1 (vs 20) 4 (bv (be 4 x))]|21=>[rowR 5 1 (vs 21) (n+4) (bv l ++ bv (be 4 x))]|23=>L|24=>[rowR 5 1 (.slice A n c) n (bv l)]|25=>[blkR g1 205 (u32A st)]|_=>[])
  (fun i=>match i with|21=>[24]|_=>[]) (fun i=>match i with|3=>[25]|8=>[25]|13=>[25]|18=>[25]|21=>[20]|_=>[]) S0 (by kernel_rfl) hap (by kernel_rfl) (by kernel_rfl) (fun i=>match i with|0=>[0]|1=>[1]|2=>[2]|3=>[3]|4=>[4]|5=>[5]|6=>[6]|7=>[7]|8=>[8]|9=>[9]|10=>[10]|11=>[11]|12=>[12]|13=>[13]|14=>[14]|15=>[15]|16=>[16]|17=>[17]|18=>[18]|19=>[19]|20=>[20]|21=>[21]|22=>[21,22]|_=>[]) (by kernel_rfl) ?_ (by kernel_rfl) ?_ ?_ ?_
 . exact lA
 . simp only [List.range,List.range.loop,List.flatMap_cons,List.flatMap_nil,List.append_nil]
   exact List.Perm.refl _
 . clear S0 hend
   and_intros <;> try intro vs gs A' W LF hA S hR hd hu K hK
   . have e3:=eU 3 22
     rw [show vs 22=.slice A n c from (hu 22 _ rfl (by kernel_rfl)).trans (o3.eval (sH 3 hsz rfl))] at e3
     exact qa0
   . exact qa1 (eO 4 o4)
   . have h0:0<=(k:Int):=by omega
     have h1:(k:Int) < 8:=by omega
     exact qa2 (eO 1 o1) (vD 10 1)
   . have c0:=u32_cell (S.ok (blkR g1 205 (u32A st)) (hR 25 (List.mem_singleton.2 rfl) _ (List.mem_singleton.2 rfl))) k x hx
     exact qa1 (vD 11 2)
   . replace hK:=hK default;have e12:=vD 12 3;clear hA o1 o3 o4;go_step
     exact hK _ _ S (congrArg (Value.int .u32) (by first|omega|rfl))
   . replace hK:=hK default;have e13:=vD 13 4;clear hA o1 o3 o4;go_step
     exact hK _ _ S (congrArg (Value.int .u8) (by first|omega|rfl))
   . exact qa1 (eO 4 o4)
   . have h0:0<=(k:Int):=by omega
     have h1:(k:Int) < 8:=by omega
     exact qa2 (eO 1 o1) (vD 15 6)
   . have c0:=u32_cell (S.ok (blkR g1 205 (u32A st)) (hR 25 (List.mem_singleton.2 rfl) _ (List.mem_singleton.2 rfl))) k x hx
     exact qa1 (vD 16 7)
   . replace hK:=hK default;have e17:=vD 17 8;clear hA o1 o3 o4;go_step
     exact hK _ _ S (congrArg (Value.int .u32) (by first|omega|rfl))
   . replace hK:=hK default;have e18:=vD 18 9;clear hA o1 o3 o4;go_step
     exact hK _ _ S (congrArg (Value.int .u8) (by first|omega|rfl))
   . exact qa1 (eO 4 o4)
   . have h0:0<=(k:Int):=by omega
     have h1:(k:Int) < 8:=by omega
     exact qa2 (eO 1 o1) (vD 20 11)
   . have c0:=u32_cell (S.ok (blkR g1 205 (u32A st)) (hR 25 (List.mem_singleton.2 rfl) _ (List.mem_singleton.2 rfl))) k x hx
     exact qa1 (vD 21 12)
   . replace hK:=hK default;have e22:=vD 22 13;clear hA o1 o3 o4;go_step
     exact hK _ _ S (congrArg (Value.int .u32) (by first|omega|rfl))
   . replace hK:=hK default;have e23:=vD 23 14;clear hA o1 o3 o4;go_step
     exact hK _ _ S (congrArg (Value.int .u8) (by first|omega|rfl))
   . exact qa1 (eO 4 o4)
   . have h0:0<=(k:Int):=by omega
     have h1:(k:Int) < 8:=by omega
     exact qa2 (eO 1 o1) (vD 25 16)
   . have c0:=u32_cell (S.ok (blkR g1 205 (u32A st)) (hR 25 (List.mem_singleton.2 rfl) _ (List.mem_singleton.2 rfl))) k x hx
     exact qa1 (vD 26 17)
   . replace hK:=hK default;have e27:=vD 27 18;clear hA o1 o3 o4;go_step
     exact hK _ _ S (congrArg (Value.int .u8) (by first|omega|rfl))
   . replace hK:=hK default;have e14:=vD 14 5;have e19:=vD 19 10;have e24:=vD 24 15;have e28:=vD 28 19;clear hA o1 o3 o4;generalize hb0:((x / 16777216 % 256:Nat):Int)=b0 at e14
     generalize hb1:((x / 65536 % 256:Nat):Int)=b1 at e19
     generalize hb2:((x / 256 % 256:Nat):Int)=b2 at e24
     generalize hb3:((x % 256:Nat):Int)=b3 at e28
     go_step;subst hb0 hb1 hb2 hb3
     have S2:=S.rownew (ow_new W 5 1 4 #[.int .u8 ((x / 16777216 % 256:Nat):Int),.int .u8 ((x / 65536 % 256:Nat):Int),.int .u8 ((x / 256 % 256:Nat):Int),.int .u8 ((x % 256:Nat):Int)] rfl (by decide)) ((Kp.refl [] W).alloc _) (fun g hg=>Nat.le_of_eq (Option.some.inj hg))
     rw [be4_bv x] at S2
     exact hK _ _ S2 trivial
   . replace hK:=hK default;have e9:=vD 9 0;have e29:=eU 29 20;clear hA o1 o3 o4;refine op_app (.tmp 9) (.tmp 29) 32 5 rfl Tryz.infoU8 Tryz.underlying32 rfl (by decide) (.slice A n c) n (bv l) (by simpa [Act.eval] using e9) S (vs 20) 4 (bv (be 4 x)) (by simpa [Act.eval] using e29) (rd_of_row (e:=5) S (List.mem_cons_of_mem _ (hR 20 (List.mem_singleton.2 rfl) _ (List.mem_singleton.2 rfl)))) (bv_one _) (by unfold maxLen;omega) (by omega) (fun v' w' S'=>hK v' w' S' ?_)
     obtain ⟨A1,c1,hv,_,_⟩:=ow_form (S'.at_ (l1:=[]))
     exact ⟨A1,c1,hv⟩
   . replace hK:=hK default
     have f21:∃ A c,vs 21=.slice A (n+4) c:=hd 21 (by kernel_rfl);have e30:=eU 30 21;clear hA o1 o3 o4
     obtain ⟨A1,c1,hv⟩:=f21
     rw [hv] at e30
     go_step
     rw [<- hv]
     exact hK _ _ S rfl
   . trivial
 . intro vs gs W S hp
   have S:Held w0 W (rowR 5 1 (vs 20) 4 (bv (be 4 x)) :: rowR 5 1 (vs 21) (n+4) (bv l ++ bv (be 4 x)) :: L ++ (blkR g1 205 (u32A st) :: [])):=by simpa only [List.flatMap_cons,List.flatMap_nil,List.append_nil,List.nil_append,List.cons_append,List.append_assoc] using S
   rw [putAll_eq]
   exact hend _ vs gs W sQ sX (hp 21 sB) (sW (hp 22 sB)) S
theorem rwords_any(w0:World)(L:List Res)(st:List Nat)(hs:st.length=8)(w:World)(S:Held w0 w L):Calls Tryz.prog 157 #[.agg (u32A st)] w fun e w'=>∃ v,e=.returned v ∧ Held w0 w' (rowR 5 1 v 32 (bv (st.flatMap (be 4))) :: L):=by
 refine calls_fr Tryz.func157 rfl 32 rfl (fun a0 hsz hdf hAr=>?_)
 have hz0:a0.tmps.size=32:=hsz
 have D:=hdf
 have o0:=hAr 0 _ rfl
 refine wp_seq (rwd_r0 w0 st _ S hz0 o0 (fun a1 w1 hs1 h=>?_))
 obtain ⟨hz1,D⟩:=kq0 hs1 hz0 D
 obtain ⟨g1,o1,S⟩:=h
 refine wp_seq (rwd_r1 hz1 (fun a2 hs2 o3=>?_))
 obtain ⟨hz2,D,o1⟩:=kq1 hs2 hz1 D o1
 refine wp_seq (wp_seq (rwd_r2 hz2 (fun a3 hs3 o4=>?_)))
 obtain ⟨hz3,D,o1,o3⟩:=kq2 hs3 hz2 D o1 o3
 refine wp_block ?_
 (conv=>arg 2;whnf)
 refine wp_loop (fun a' w'=>∃ (k:Nat) (A:Option Addr) (c:Nat),k<=8 ∧ Same a3 a' dsWd ∧ Sl a' 4 (.int .i64 (k:Int)) ∧ Sl a' 3 (.slice A (4 * k) c) ∧ Held w0 w' (rowR 5 1 (.slice A (4 * k) c) (4 * k) (bv ((st.take k).flatMap (be 4))) :: blkR g1 205 (u32A st) :: L)) (fun a' _=>8 - (intOf (a'.eval (.tmp 4))).toNat) ⟨0,none,0,by omega,Same.refl _ _,o4,o3,S.rownew (World.ownsRow_nil _ _ _ _) (Kp.refl [] _) (by simp [Value.ownBlock])⟩ ?_
 clear o4 o3 S
 rintro b1 w3 ⟨k,A,c,hk,T,o4,o3,S⟩
 have hz1:=T.size.trans hz3
 have o1:=T.keep 1 _ (by decide) o1
 have eCtr:=o4.eval (by rw [hz1];decide)
 refine wp_seq (wp_seq (rwd_r3 k hz1 o4 (fun a2 hs2 o6=>?_)))
 obtain ⟨hz2,-,o1,o3,o4⟩:=kq3 hs2 hz1 rfl o1 o3 o4
 have T:=T.trans hs2
 by_cases hlt:k < 8
 . refine wcT o6 (wp_skip ?_) (by rw [decide_eq_true (by omega)])
   obtain ⟨x,hx⟩:∃ x,st[k]?=some x:=⟨_,List.getElem?_eq_getElem (by omega)⟩
   refine wp_seq (wp_block ?_)
   refine rwd_r5 w0 g1 k x (4 * k) c A st _ hlt hx (by omega) L hz2 o1 o3 o4 (S.perm (List.perm_append_comm (l₁:=[_,_]) (l₂:=L))) (fun a3 vs gs w4 hs3 o30 h3 o3 S=>?_)
   obtain ⟨hz3,-,o1,o4,o6⟩:=kq3 hs3 hz2 rfl o1 o4 o6
   have T:=T.trans hs3
   obtain ⟨A2,c2,hv⟩:=h3
   rw [hv] at o3 S
   have S:=S.dropAt (l1:=[])
   refine rwd_r4 k hlt hz3 o4 (fun a4 hs4 o4=>?_)
   obtain ⟨hz4,-,o1,o6,o3⟩:=kq3 hs4 hz3 rfl o1 o6 o3
   have T:=T.trans hs4
   have e1:bv ((st.take k).flatMap (be 4)) ++ bv (be 4 x)=bv ((st.take (k+1)).flatMap (be 4)):=by
    rw [<- bv_append,List.take_add_one,hx,Option.toList_some,List.flatMap_append,List.flatMap_cons,List.flatMap_nil,List.append_nil]
   rw [e1] at S
   have S:=S.perm ((List.perm_append_comm (l₁:=[_]) (l₂:=L)).cons _ |>.symm) 
   refine ⟨⟨k+1,A2,c2,by omega,T.more (by decide +kernel),o4,o3,S⟩,?_⟩
   show 8 - (intOf _).toNat < 8 - (intOf _).toNat
   rw [eCtr,o4.eval (by rw [hz4];decide)]
   simp [intOf];omega
 . obtain rfl:k=8:=by omega
   refine wcF o6 (wp_exit ?_) (by rw [decide_eq_false (by omega)])
   refine wp_seq (rwd_r6 A _ c hz2 o3 (fun a5 hs5 o2=>?_))
   have hz5:=hs5.size.trans hz2
   have D5:=hs5.defers.trans (T.defers.trans D)
   refine wp_ret (bodyPost_ret (results_tmp rfl _ _ _) D5 ?_)
   refine ⟨_,by rw [show a5.tmps.getD 2 undef=_ from o2.eval (by rw [hz5];decide)],?_⟩
   rw [List.take_of_length_le (by omega)] at S
   exact S.dropAt (l1:=[_])
end
section
variable {Q:Exit->Act->World->Prop} {a:Act} {w:World}
open Go.RowKit
theorem rblk_r2(hsz:a.tmps.size=209):RG0 2 Tryz.f155 Q a w fun a' q'=>Sl a' 6 (Nq 0)->q':=rO
theorem rblk_r3(k:Nat)(hsz:a.tmps.size=209)(o6:Sl a 6 (.int .i64 (k:Int))):RG0 3 Tryz.f155 Q a w fun a' q'=>Sl a' 23 (.bool (decide ((k:Int) < 16)))->q':=rO
theorem rblk_r5(hsz:a.tmps.size=209):RG0 5 Tryz.f155 Q a w fun a' q'=>Sl a' 7 (Nq 0)->q':=rO
theorem rblk_r6(k:Nat)(hsz:a.tmps.size=209)(o7:Sl a 7 (.int .i64 (k:Int))):RG0 6 Tryz.f155 Q a w fun a' q'=>Sl a' 27 (.bool (decide ((k:Int) < 4)))->q':=rO
theorem rblk_r7(k:Nat)(hk:k < 4)(hsz:a.tmps.size=209)(o7:Sl a 7 (.int .i64 (k:Int))):RG0 7 Tryz.f155 Q a w fun a' q'=>Sl a' 7 (Nq (k+1))->q':=rO
theorem rblk_r4(k:Nat)(hk:k < 16)(hsz:a.tmps.size=209)(o6:Sl a 6 (.int .i64 (k:Int))):RG0 4 Tryz.f155 Q a w fun a' q'=>Sl a' 6 (Nq (k+1))->q':=rO
theorem rblk_r9(hsz:a.tmps.size=209):RG0 9 Tryz.f155 Q a w fun a' q'=>Sl a' 8 (Nq 16)->q':=rO
theorem rblk_r10(k:Nat)(hsz:a.tmps.size=209)(o8:Sl a 8 (.int .i64 (k:Int))):RG0 10 Tryz.f155 Q a w fun a' q'=>Sl a' 46 (.bool (decide ((k:Int) < 64)))->q':=rO
theorem rblk_r11(k:Nat)(hk:k < 64)(hsz:a.tmps.size=209)(o8:Sl a 8 (.int .i64 (k:Int))):RG0 11 Tryz.f155 Q a w fun a' q'=>Sl a' 8 (Nq (k+1))->q':=rO
theorem rblk_r16(hsz:a.tmps.size=209):RG0 16 Tryz.f155 Q a w fun a' q'=>Sl a' 19 (Nq 0)->q':=rO
theorem rblk_r17(k:Nat)(hsz:a.tmps.size=209)(o19:Sl a 19 (.int .i64 (k:Int))):RG0 17 Tryz.f155 Q a w fun a' q'=>Sl a' 115 (.bool (decide ((k:Int) < 64)))->q':=rO
theorem rblk_r18(k:Nat)(hk:k < 64)(hsz:a.tmps.size=209)(o19:Sl a 19 (.int .i64 (k:Int))):RG0 18 Tryz.f155 Q a w fun a' q'=>Sl a' 19 (Nq (k+1))->q':=rO
theorem rblk_r0(w0:World)(st:List Nat)(L:List Res)(S:Held w0 w L)(hsz:a.tmps.size=209)(o0:Sl a 0 (.agg (u32A st))):RG1 false 0 Tryz.f155 Q a w fun a' W q'=>(∃ g2 g4,Sl a' 2 (Pq g2 0) ∧ Sl a' 4 (Pq g4 0) ∧ Held w0 W (blkR g4 205 (u32A (List.replicate 8 0)) :: blkR g2 205 (u32A st) :: L))->q':=by
 intro hend
 refine wp_region_lit ?_
 (conv=>arg 4;whnf)
 unfold Sl at o0
 have S0:=LH ((S.newBlk 205 (u32A st)).newBlk 205 (u32A (List.replicate 8 0)))
 simp only [World.size_alloc] at S0
 generalize hca:u32A st=ca at *
 go_wp2
 try simp only [Act.put]
 exact hend _ _ tS (⟨w.heap.size,w.heap.size+1,sP0,sP0,S0.out⟩)
theorem rblk_r1(w0:World)(L:List Res)(S:Held w0 w L)(hsz:a.tmps.size=209):RG1 false 1 Tryz.f155 Q a w fun a' W q'=>(∃ g5,Sl a' 5 (Pq g5 0) ∧ Held w0 W (blkR g5 226 (u32A (List.replicate 64 0)) :: L))->q':=by
 intro hend
 refine wp_region_lit ?_
 (conv=>arg 4;whnf)
 have S0:=LH (S.newBlk 226 (u32A (List.replicate 64 0)))
 go_wp2
 try simp only [Act.put]
 exact hend _ _ tS (⟨w.heap.size,sP0,S0.out⟩)
theorem rblk_r20(v0 v1 v2:Nat)(h0:Hid (v0 < 4294967296))(h1:Hid (v1 < 4294967296))(h2:Hid (v2 < 4294967296))(hsz:a.tmps.size=209)(o11:Sl a 11 (.int .u32 ((v0:Nat):Int)))(o12:Sl a 12 (.int .u32 ((v1:Nat):Int)))(o13:Sl a 13 (.int .u32 ((v2:Nat):Int))):RG1 false 20 Tryz.f155 Q a w fun a' W q'=>Sl a' 21 (.int .u32 ((rY v0 v1 v2:Nat):Int))->(Kp [] w W)->q':=by
 intro hend
 refine wp_region_lit ?_
 (conv=>arg 4;whnf)
 unfold Sl at o11 o12 o13
 have x1:=LH (u32_x (rotr v0 2) (rotr v0 13) (rotr_lt h0.out) (rotr_lt h0.out))
 have x2:=LH (u32_x (rotr v0 2 ^^^ rotr v0 13) (rotr v0 22) (xor_lt (rotr_lt h0.out) (rotr_lt h0.out)) (rotr_lt h0.out))
 have a1:=LH (u32_and_nat v0 v1 h0.out h1.out)
 have a2:=LH (u32_and_nat v0 v2 h0.out h2.out)
 have a3:=LH (u32_and_nat v1 v2 h1.out h2.out)
 have x3:=LH (u32_x (v0 &&& v1) (v0 &&& v2) (and_lt h0.out) (and_lt h0.out))
 have x4:=LH (u32_x ((v0 &&& v1) ^^^ (v0 &&& v2)) (v1 &&& v2) (xor_lt (and_lt h0.out) (and_lt h0.out)) (and_lt h1.out))
 have HR:=LH (fun V n (hn:rotK n)=>rrot_any v0 n n rfl h0.out hn V)
 have hy:Hid ((((bS0 v0:Nat):Int)+((maj v0 v1 v2:Nat):Int)) % 4294967296=((rY v0 v1 v2:Nat):Int)):=LH (by unfold rY;omega)
 generalize hr2:rotr v0 2=r2 at *
 generalize hr13:rotr v0 13=r13 at *
 generalize hr22:rotr v0 22=r22 at *
 go_wp2_with fail
 refine (HR.out _ 2 (by unfold rotK;omega)).mono ?_
 rintro e w1 ⟨rfl,k1⟩
 rw [hr2]
 go_wp2_with fail
 refine (HR.out _ 13 (by unfold rotK;omega)).mono ?_
 rintro e w2 ⟨rfl,k2⟩
 rw [hr13]
 go_wp2_with fail
 refine (HR.out _ 22 (by unfold rotK;omega)).mono ?_
 rintro e w3 ⟨rfl,k3⟩
 rw [hr22]
 go_wp2
 have hb:bits .xor .u32 (bits .xor .u32 (r2:Int) (r13:Int)) (r22:Int)=((bS0 v0:Nat):Int):=by rw [x1.out,x2.out];unfold bS0;rw [hr2,hr13,hr22]
 have hm:bits .xor .u32 (bits .xor .u32 (bits .and .u32 (v0:Int) (v1:Int)) (bits .and .u32 (v0:Int) (v2:Int))) (bits .and .u32 (v1:Int) (v2:Int))=((maj v0 v1 v2:Nat):Int):=by rw [a1.out,a2.out,a3.out,x3.out,x4.out];rfl
 rw [hb,hm,hy.out]
 try simp only [Act.put]
 exact hend _ _ tS sP (((k1.trans k2 (by simp)).trans k3 (by simp)))
theorem rblk_r21(v4 v5 v6:Nat)(hsz:a.tmps.size=209)(o15:Sl a 15 (.int .u32 ((v4:Nat):Int)))(o16:Sl a 16 (.int .u32 ((v5:Nat):Int)))(o17:Sl a 17 (.int .u32 ((v6:Nat):Int))):RG0 21 Tryz.f155 Q a w fun a' q'=>Sl a' 16 (.int .u32 ((v4:Nat):Int))->Sl a' 17 (.int .u32 ((v5:Nat):Int))->Sl a' 18 (.int .u32 ((v6:Nat):Int))->q':=rO
theorem rblk_r22(v3 x:Nat)(hsz:a.tmps.size=209)(o14:Sl a 14 (.int .u32 ((v3:Nat):Int)))(o20:Sl a 20 (.int .u32 ((x:Nat):Int))):RG0 22 Tryz.f155 Q a w fun a' q'=>Sl a' 15 (.int .u32 (((v3+x) % 4294967296:Nat):Int))->q':=rO
theorem rblk_r23(v0 v1 v2:Nat)(hsz:a.tmps.size=209)(o11:Sl a 11 (.int .u32 ((v0:Nat):Int)))(o12:Sl a 12 (.int .u32 ((v1:Nat):Int)))(o13:Sl a 13 (.int .u32 ((v2:Nat):Int))):RG0 23 Tryz.f155 Q a w fun a' q'=>Sl a' 12 (.int .u32 ((v0:Nat):Int))->Sl a' 13 (.int .u32 ((v1:Nat):Int))->Sl a' 14 (.int .u32 ((v2:Nat):Int))->q':=rO
theorem rblk_r24(x y:Nat)(hsz:a.tmps.size=209)(o20:Sl a 20 (.int .u32 ((x:Nat):Int)))(o21:Sl a 21 (.int .u32 ((y:Nat):Int))):RG0 24 Tryz.f155 Q a w fun a' q'=>Sl a' 11 (.int .u32 (((x+y) % 4294967296:Nat):Int))->q':=rO
theorem rblk_r25(w0:World)(g2 g4 s0 s1 s2 s3 s4 s5 s6 s7 v0 v1 v2 v3 v4 v5 v6 v7:Nat)(c4:List Nat)(h4l:c4.length=8)(L1 L2:List Res)(S:Held w0 w (blkR g4 205 (u32A c4) :: (L1 ++ blkR g2 205 (u32A [s0,s1,s2,s3,s4,s5,s6,s7]) :: L2)))(hsz:a.tmps.size=209)(o2:Sl a 2 (Pq g2 0))(o4:Sl a 4 (Pq g4 0))(o11:Sl a 11 (.int .u32 ((v0:Nat):Int)))(o12:Sl a 12 (.int .u32 ((v1:Nat):Int)))(o13:Sl a 13 (.int .u32 ((v2:Nat):Int)))(o14:Sl a 14 (.int .u32 ((v3:Nat):Int)))(o15:Sl a 15 (.int .u32 ((v4:Nat):Int)))(o16:Sl a 16 (.int .u32 ((v5:Nat):Int)))(o17:Sl a 17 (.int .u32 ((v6:Nat):Int)))(o18:Sl a 18 (.int .u32 ((v7:Nat):Int))):RG1 false 25 Tryz.f155 Q a w fun a' W q'=>(Held w0 W (blkR g4 205 (u32A [(s0+v0) % 4294967296,(s1+v1) % 4294967296,(s2+v2) % 4294967296,(s3+v3) % 4294967296,(s4+v4) % 4294967296,(s5+v5) % 4294967296,(s6+v6) % 4294967296,(s7+v7) % 4294967296]) :: (L1 ++ blkR g2 205 (u32A [s0,s1,s2,s3,s4,s5,s6,s7]) :: L2)))->q':=by
 intro hend
 refine wp_region_lit ?_
 (conv=>arg 4;whnf)
 unfold Sl at o2 o4 o11 o12 o13 o14 o15 o16 o17 o18
 have H4:=LH h4l
 clear h4l
 have S:=LH S
 have c0:=u32_cell (S.out.at_ (l1:=_ :: L1)) 0 s0 rfl
 have c1:=u32_cell (S.out.at_ (l1:=_ :: L1)) 1 s1 rfl
 have c2:=u32_cell (S.out.at_ (l1:=_ :: L1)) 2 s2 rfl
 have c3:=u32_cell (S.out.at_ (l1:=_ :: L1)) 3 s3 rfl
 have c4:=u32_cell (S.out.at_ (l1:=_ :: L1)) 4 s4 rfl
 have c5:=u32_cell (S.out.at_ (l1:=_ :: L1)) 5 s5 rfl
 have c6:=u32_cell (S.out.at_ (l1:=_ :: L1)) 6 s6 rfl
 have c7:=u32_cell (S.out.at_ (l1:=_ :: L1)) 7 s7 rfl
 go_wp2_with (first
  |(refine wpList_buildC rfl 205 _ rfl (at0N (u32L [(s0+v0) % 4294967296,(s1+v1) % 4294967296,(s2+v2) % 4294967296,(s3+v3) % 4294967296,(s4+v4) % 4294967296,(s5+v5) % 4294967296,(s6+v6) % 4294967296,(s7+v7) % 4294967296]) 0) ?_ _ (Tryz.built8 _ _ _ _ _ _ _ _) ?_;simp [Act.eval,Act.put,hsz,at0N,u32L])
  |(refine wpList_store_blk rfl 205 (.tmp 4) (.tmp 208) rfl g4 (aO o4) (u32A [(s0+v0) % 4294967296,(s1+v1) % 4294967296,(s2+v2) % 4294967296,(s3+v3) % 4294967296,(s4+v4) % 4294967296,(s5+v5) % 4294967296,(s6+v6) % 4294967296,(s7+v7) % 4294967296]) aE 205 _ (S.out.at_ (l1:=[])) (by rw [u32A_size];exact Tryz.info8w) (by rw [u32A_size,u32A_size,H4.out];rfl) (u32A_one _) ?_;intro w2 b2 k2;have S2:=LH (Held.setBlk (l1:=[]) S.out b2 k2);clear b2 k2))
 try simp only [Act.put]
 exact hend _ _ tS (S2.out)
theorem rblk_r12(j g5 x:Nat)(L:List Nat)(hlt:j < 48)(HX:L[j+1]?=some x)(HXl:x < 4294967296)(HW:Hid (∀ V,Kp [] w V->∀ i x:Nat,L[i]?=some x->V.cell? ⟨g5,i,none⟩=some (.int .u32 (x:Int))))(hsz:a.tmps.size=209)(o5:Sl a 5 (Pq g5 0))(o8:Sl a 8 (Nq (j+16))):RG1 true 12 Tryz.f155 Q a w fun a' W q'=>Kp [] w.drew W->Sl a' 9 (.int .u32 ((sg0 x:Nat):Int))->q':=by
 intro hend
 have hap:=pa 12 Tryz.f155
 refine wp_region_inv (l:=(opsOf 12 Tryz.f155)) (fun i v W=>match i with|0=>v=Nq (j+16)|1=>v=Nq (j+1)|2=>v=.pointer (some ⟨g5,j+1,none⟩)|3=>v=.int .u32 ((x:Nat):Int)|4=>v=.int .u32 ((rotr x 7:Nat):Int)|5=>v=Nq (j+16)|6=>v=Nq (j+1)|7=>v=.pointer (some ⟨g5,j+1,none⟩)|8=>v=.int .u32 ((x:Nat):Int)|9=>v=.int .u32 ((rotr x 18:Nat):Int)|10=>v=.int .u32 (((rotr x 7) ^^^ (rotr x 18):Nat):Int)|11=>v=Nq (j+16)|12=>v=Nq (j+1)|13=>v=.pointer (some ⟨g5,j+1,none⟩)|14=>v=.int .u32 ((x:Nat):Int)|15=>v=.int .u32 ((x / 8:Nat):Int)|16=>v=.int .u32 ((sg0 x:Nat):Int)|17=>v=.int .u32 ((sg0 x:Nat):Int)|_=>True) (by kernel_rfl) hap (by kernel_rfl) ?_ ?_ ?_
 . exact fun _ _ _ _ h _=>h
 . and_intros <;> try intro vs A' W hA hW hd K hK
   . exact qa1 (eO 8 o8)
   . have e49:=vD 49 0;clear hA hd o5 o8;go_step
     exact hK _ _ kR (congrArg (Value.int .i64) (by first|omega|(unfold wrap64;omega)))
   . have h0:0<=(j:Int)+1:=by omega
     have h1:(j:Int)+1 < 64:=by omega
     exact qa2 (eO 5 o5) (vD 50 1)
   . have c0:=HW.out W ((Kp.refl [] _).drew.trans hW (by simp)) (j+1) x HX
     exact qa1 (vD 51 2)
   . have e52:=vD 52 3;clear hA hd o5 o8;go_step
     refine (rrot_any x 7 7 rfl HXl (by unfold rotK;omega) W).mono ?_
     rintro e w' ⟨rfl,kq⟩
     exact hK _ _ kq rfl
   . exact qa1 (eO 8 o8)
   . have e54:=vD 54 5;clear hA hd o5 o8;go_step
     exact hK _ _ kR (congrArg (Value.int .i64) (by first|omega|(unfold wrap64;omega)))
   . have h0:0<=(j:Int)+1:=by omega
     have h1:(j:Int)+1 < 64:=by omega
     exact qa2 (eO 5 o5) (vD 55 6)
   . have c0:=HW.out W ((Kp.refl [] _).drew.trans hW (by simp)) (j+1) x HX
     exact qa1 (vD 56 7)
   . have e57:=vD 57 8;clear hA hd o5 o8;go_step
     refine (rrot_any x 18 18 rfl HXl (by unfold rotK;omega) W).mono ?_
     rintro e w' ⟨rfl,kq⟩
     exact hK _ _ kq rfl
   . have e53:=vD 53 4;have e58:=vD 58 9;clear hA hd o5 o8;go_step
     exact hK _ _ kR (congrArg (Value.int .u32) (u32_x _ _ (rotr_lt HXl) (rotr_lt HXl)))
   . exact qa1 (eO 8 o8)
   . have e60:=vD 60 11;clear hA hd o5 o8;go_step
     exact hK _ _ kR (congrArg (Value.int .i64) (by first|omega|(unfold wrap64;omega)))
   . have h0:0<=(j:Int)+1:=by omega
     have h1:(j:Int)+1 < 64:=by omega
     exact qa2 (eO 5 o5) (vD 61 12)
   . have c0:=HW.out W ((Kp.refl [] _).drew.trans hW (by simp)) (j+1) x HX
     exact qa1 (vD 62 13)
   . have e63:=vD 63 14;clear hA hd o5 o8;go_step
     exact hK _ _ kR (congrArg (Value.int .u32) (by first|omega|rfl))
   . have e59:=vD 59 10;have e64:=vD 64 15;clear hA hd o5 o8;go_step
     exact hK _ _ kR (congrArg (Value.int .u32) (u32_x _ _ (xor_lt (rotr_lt HXl) (rotr_lt HXl)) (div_lt HXl)))
   . exact qa1 (vD 65 16)
   . trivial
 . intro vs W hW hp
   rw [putAll_eq]
   exact hend _ W sQ hW (sW (hp 17 sB))
theorem rblk_r13(j g5 x:Nat)(L:List Nat)(hlt:j < 48)(HX:L[j+14]?=some x)(HXl:x < 4294967296)(HW:Hid (∀ V,Kp [] w V->∀ i x:Nat,L[i]?=some x->V.cell? ⟨g5,i,none⟩=some (.int .u32 (x:Int))))(hsz:a.tmps.size=209)(o5:Sl a 5 (Pq g5 0))(o8:Sl a 8 (Nq (j+16))):RG1 true 13 Tryz.f155 Q a w fun a' W q'=>Kp [] w.drew W->Sl a' 10 (.int .u32 ((sg1 x:Nat):Int))->q':=by
 intro hend
 have hap:=pa 13 Tryz.f155
 refine wp_region_inv (l:=(opsOf 13 Tryz.f155)) (fun i v W=>match i with|0=>v=Nq (j+16)|1=>v=Nq (j+14)|2=>v=.pointer (some ⟨g5,j+14,none⟩)|3=>v=.int .u32 ((x:Nat):Int)|4=>v=.int .u32 ((rotr x 17:Nat):Int)|5=>v=Nq (j+16)|6=>v=Nq (j+14)|7=>v=.pointer (some ⟨g5,j+14,none⟩)|8=>v=.int .u32 ((x:Nat):Int)|9=>v=.int .u32 ((rotr x 19:Nat):Int)|10=>v=.int .u32 (((rotr x 17) ^^^ (rotr x 19):Nat):Int)|11=>v=Nq (j+16)|12=>v=Nq (j+14)|13=>v=.pointer (some ⟨g5,j+14,none⟩)|14=>v=.int .u32 ((x:Nat):Int)|15=>v=.int .u32 ((x / 1024:Nat):Int)|16=>v=.int .u32 ((sg1 x:Nat):Int)|17=>v=.int .u32 ((sg1 x:Nat):Int)|_=>True) (by kernel_rfl) hap (by kernel_rfl) ?_ ?_ ?_
 . exact fun _ _ _ _ h _=>h
 . and_intros <;> try intro vs A' W hA hW hd K hK
   . exact qa1 (eO 8 o8)
   . have e66:=vD 66 0;clear hA hd o5 o8;go_step
     exact hK _ _ kR (congrArg (Value.int .i64) (by first|omega|(unfold wrap64;omega)))
   . have h0:0<=(j:Int)+14:=by omega
     have h1:(j:Int)+14 < 64:=by omega
     exact qa2 (eO 5 o5) (vD 67 1)
   . have c0:=HW.out W ((Kp.refl [] _).drew.trans hW (by simp)) (j+14) x HX
     exact qa1 (vD 68 2)
   . have e69:=vD 69 3;clear hA hd o5 o8;go_step
     refine (rrot_any x 17 17 rfl HXl (by unfold rotK;omega) W).mono ?_
     rintro e w' ⟨rfl,kq⟩
     exact hK _ _ kq rfl
   . exact qa1 (eO 8 o8)
   . have e71:=vD 71 5;clear hA hd o5 o8;go_step
     exact hK _ _ kR (congrArg (Value.int .i64) (by first|omega|(unfold wrap64;omega)))
   . have h0:0<=(j:Int)+14:=by omega
     have h1:(j:Int)+14 < 64:=by omega
     exact qa2 (eO 5 o5) (vD 72 6)
   . have c0:=HW.out W ((Kp.refl [] _).drew.trans hW (by simp)) (j+14) x HX
     exact qa1 (vD 73 7)
   . have e74:=vD 74 8;clear hA hd o5 o8;go_step
     refine (rrot_any x 19 19 rfl HXl (by unfold rotK;omega) W).mono ?_
     rintro e w' ⟨rfl,kq⟩
     exact hK _ _ kq rfl
   . have e70:=vD 70 4;have e75:=vD 75 9;clear hA hd o5 o8;go_step
     exact hK _ _ kR (congrArg (Value.int .u32) (u32_x _ _ (rotr_lt HXl) (rotr_lt HXl)))
   . exact qa1 (eO 8 o8)
   . have e77:=vD 77 11;clear hA hd o5 o8;go_step
     exact hK _ _ kR (congrArg (Value.int .i64) (by first|omega|(unfold wrap64;omega)))
   . have h0:0<=(j:Int)+14:=by omega
     have h1:(j:Int)+14 < 64:=by omega
     exact qa2 (eO 5 o5) (vD 78 12)
   . have c0:=HW.out W ((Kp.refl [] _).drew.trans hW (by simp)) (j+14) x HX
     exact qa1 (vD 79 13)
   . have e80:=vD 80 14;clear hA hd o5 o8;go_step
     exact hK _ _ kR (congrArg (Value.int .u32) (by first|omega|rfl))
   . have e76:=vD 76 10;have e81:=vD 81 15;clear hA hd o5 o8;go_step
     exact hK _ _ kR (congrArg (Value.int .u32) (u32_x _ _ (xor_lt (rotr_lt HXl) (rotr_lt HXl)) (div_lt HXl)))
   . exact qa1 (vD 82 16)
   . trivial
 . intro vs W hW hp
   rw [putAll_eq]
   exact hend _ W sQ hW (sW (hp 17 sB))
theorem rblk_r14(w0:World)(j g5 x y m c m0:Nat)(L:List Nat)(R:List Res)(hlt:j < 48)(HA:L[j]?=some m)(HC:L[j+9]?=some c)(HM:L[j+16]?=some m0)(hsz:a.tmps.size=209)(o5:Sl a 5 (Pq g5 0))(o8:Sl a 8 (Nq (j+16)))(o9:Sl a 9 (.int .u32 ((x:Nat):Int)))(o10:Sl a 10 (.int .u32 ((y:Nat):Int)))
 (S0:Held w0 w (blkR g5 226 (u32A L) :: R)):RG1 true 14 Tryz.f155 Q a w fun a' W q'=>Held w0 W (blkR g5 226 (u32A (L.set (j+16) ((m+x+c+y) % 4294967296))) :: R)->q':=by
 intro hend
 have hap:=pa 14 Tryz.f155
 refine wp_region_sep (Γ:=Unit) (l:=(opsOf 14 Tryz.f155)) 2 [0,1,2,3,4,5,6,7,8,9,10,11,12,13,14,15,17]
  (fun i vs gs=>match i with|0=>vs 0=Nq (j+16)|1=>vs 1=Nq (j+16)|2=>vs 2=Nq j|3=>vs 3=.pointer (some ⟨g5,j,none⟩)|4=>vs 4=.int .u32 ((m:Nat):Int)|5=>vs 5=.int .u32 ((x:Nat):Int)|6=>vs 6=.int .u32 (((m+x) % 4294967296:Nat):Int)|7=>vs 7=Nq (j+16)|8=>vs 8=Nq (j+9)|9=>vs 9=.pointer (some ⟨g5,j+9,none⟩)|10=>vs 10=.int .u32 ((c:Nat):Int)|11=>vs 11=.int .u32 (((m+x+c) % 4294967296:Nat):Int)|12=>vs 12=.int .u32 ((y:Nat):Int)|13=>vs 13=.int .u32 (((m+x+c+y) % 4294967296:Nat):Int)|14=>vs 14=.pointer (some ⟨g5,j+16,none⟩)|_=>True)
  (fun i vs gs=>match i with|15=>[blkR g5 226 (u32A (L.set (j+16) ((m+x+c+y) % 4294967296)))]|16=>[blkR g5 226 (u32A L)]|17=>R|_=>[])
  (fun i=>match i with|15=>[16]|_=>[]) (fun i=>match i with|4=>[16]|10=>[16]|_=>[]) S0 (by kernel_rfl) hap (by kernel_rfl) (by kernel_rfl) (fun i=>match i with|0=>[0]|1=>[1]|2=>[2]|3=>[3]|4=>[4]|5=>[5]|6=>[6]|7=>[7]|8=>[8]|9=>[9]|10=>[10]|11=>[11]|12=>[12]|13=>[13]|14=>[14]|_=>[]) (by kernel_rfl) ?_ (by kernel_rfl) ?_ ?_ ?_
 . intro s vs vs' gs gs' h
   iterate 18 (rcases s with _|s;· (first|exact ⟨rfl,id⟩|(simp only [List.mem_cons,List.not_mem_nil,or_false,forall_eq] at h;simp [h])))
   exact ⟨rfl,id⟩
 . simp only [List.range,List.range.loop,List.flatMap_cons,List.flatMap_nil,List.append_nil]
   exact List.Perm.refl _
 . clear S0 hend
   and_intros <;> try intro vs gs A' W LF hA S hR hd hu K hK
   . exact qa1 (eO 8 o8)
   . exact qa1 (eO 8 o8)
   . replace hK:=hK default;have e84:=vD 84 1;clear hA o5 o8 o9 o10;go_step
     exact hK _ _ S (congrArg (Value.int .i64) (by first|omega|(unfold wrap64;omega)))
   . have h0:0<=(j:Int):=by omega
     have h1:(j:Int) < 64:=by omega
     exact qa2 (eO 5 o5) (vD 85 2)
   . have c0:=u32_cell (S.ok (blkR g5 226 (u32A L)) (hR 16 (List.mem_singleton.2 rfl) _ (List.mem_singleton.2 rfl))) (j) (m) HA
     exact qa1 (vD 86 3)
   . exact qa1 (eO 9 o9)
   . replace hK:=hK default;have e87:=vD 87 4;have e88:=vD 88 5;clear hA o5 o8 o9 o10;go_step
     exact hK _ _ S (congrArg (Value.int .u32) (by first|omega|rfl))
   . exact qa1 (eO 8 o8)
   . replace hK:=hK default;have e90:=vD 90 7;clear hA o5 o8 o9 o10;go_step
     exact hK _ _ S (congrArg (Value.int .i64) (by first|omega|(unfold wrap64;omega)))
   . have h0:0<=(j:Int)+9:=by omega
     have h1:(j:Int)+9 < 64:=by omega
     exact qa2 (eO 5 o5) (vD 91 8)
   . have c0:=u32_cell (S.ok (blkR g5 226 (u32A L)) (hR 16 (List.mem_singleton.2 rfl) _ (List.mem_singleton.2 rfl))) (j+9) (c) HC
     exact qa1 (vD 92 9)
   . replace hK:=hK default;have e89:=vD 89 6;have e93:=vD 93 10;clear hA o5 o8 o9 o10;go_step
     exact hK _ _ S (congrArg (Value.int .u32) (by first|omega|rfl))
   . exact qa1 (eO 10 o10)
   . replace hK:=hK default;have e94:=vD 94 11;have e95:=vD 95 12;clear hA o5 o8 o9 o10;go_step
     exact hK _ _ S (congrArg (Value.int .u32) (by first|omega|rfl))
   . have h0:0<=(j:Int)+16:=by omega
     have h1:(j:Int)+16 < 64:=by omega
     exact qa2 (eO 5 o5) (vD 83 0)
   . replace hK:=hK default;have e97:=vD 97 14;have e96:=vD 96 13;clear hA o5 o8 o9 o10
     have S1:Held w0 W (blkR g5 226 (u32A L) :: LF):=S
     have q1:=u32_cell (S1.at_ (l1:=[])) (j+16) _ (HM)
     have q2:=(S1.at_ (l1:=[])).frozen (j+16)
     have q3:=(S1.at_ (l1:=[])).lt
     go_step;have S2:=S1.set (l1:=[]) (j+16) (.int .u32 (((m+x+c+y) % 4294967296:Nat):Int))
     rw [u32A_set] at S2
     exact hK undef _ S2 trivial
   . trivial
 . intro vs gs W S hp
   have S:Held w0 W (blkR g5 226 (u32A (L.set (j+16) ((m+x+c+y) % 4294967296))) :: R):=by simpa only [List.flatMap_cons,List.flatMap_nil,List.append_nil,List.nil_append,List.cons_append,List.append_assoc] using S
   rw [putAll_eq]
   exact hend _ W sQ  S
theorem rblk_r8(w0:World)(k r q g5 m c n0 cb:Nat)(ad:Addr)(L:List Nat)(R:List Res)(hlt:k < 16)(hi:r < 4)(hq:Hid (q=4 * k+r))(hn:q < n0)(HM:L[k]?=some m)(hc:c < 256)(HB:Hid (∀ V,Kp [] w0 V->V.cell? (ad.add q)=some (.int .u8 (c:Int))))(hsz:a.tmps.size=209)(o1:Sl a 1 (.slice (some ad) n0 cb))(o5:Sl a 5 (Pq g5 0))(o6:Sl a 6 (Nq k))(o7:Sl a 7 (Nq r))
 (S0:Held w0 w (blkR g5 226 (u32A L) :: R)):RG1 true 8 Tryz.f155 Q a w fun a' W q'=>Held w0 W (blkR g5 226 (u32A (L.set k ((m * 256+c) % 4294967296))) :: R)->q':=by
 intro hend
 have hap:=pa 8 Tryz.f155
 refine wp_region_sep (Γ:=Unit) (l:=(opsOf 8 Tryz.f155)) 2 [0,1,2,3,4,5,6,7,8,9,10,11,12,13,14,15,17]
  (fun i vs gs=>match i with|0=>vs 0=Nq k|1=>vs 1=Nq k|2=>vs 2=.pointer (some ⟨g5,k,none⟩)|3=>vs 3=.int .u32 ((m:Nat):Int)|4=>vs 4=.int .u32 ((m * 256 % 4294967296:Nat):Int)|5=>vs 5=.slice (some ad) n0 cb|6=>vs 6=Nq k|7=>vs 7=Nq (4 * k)|8=>vs 8=Nq r|9=>vs 9=Nq q|10=>vs 10=.pointer (some (ad.add q))|11=>vs 11=.int .u8 ((c:Nat):Int)|12=>vs 12=.int .u32 ((c:Nat):Int)|13=>vs 13=.int .u32 (((m * 256+c) % 4294967296:Nat):Int)|14=>vs 14=.pointer (some ⟨g5,k,none⟩)|_=>True)
  (fun i vs gs=>match i with|15=>[blkR g5 226 (u32A (L.set k ((m * 256+c) % 4294967296)))]|16=>[blkR g5 226 (u32A L)]|17=>R|_=>[])
  (fun i=>match i with|15=>[16]|_=>[]) (fun i=>match i with|3=>[16]|_=>[]) S0 (by kernel_rfl) hap (by kernel_rfl) (by kernel_rfl) (fun i=>match i with|0=>[0]|1=>[1]|2=>[2]|3=>[3]|4=>[4]|5=>[5]|6=>[6]|7=>[7]|8=>[8]|9=>[9]|10=>[10]|11=>[11]|12=>[12]|13=>[13]|14=>[14]|_=>[]) (by kernel_rfl) ?_ (by kernel_rfl) ?_ ?_ ?_
 . intro s vs vs' gs gs' h
   iterate 18 (rcases s with _|s;· (first|exact ⟨rfl,id⟩|(simp only [List.mem_cons,List.not_mem_nil,or_false,forall_eq] at h;simp [h])))
   exact ⟨rfl,id⟩
 . simp only [List.range,List.range.loop,List.flatMap_cons,List.flatMap_nil,List.append_nil]
   exact List.Perm.refl _
 . clear S0 hend
   and_intros <;> try intro vs gs A' W LF hA S hR hd hu K hK
   . exact qa1 (eO 6 o6)
   . exact qa1 (eO 6 o6)
   . have h0:0<=(k:Int):=by omega
     have h1:(k:Int) < 64:=by omega
     exact qa2 (eO 5 o5) (vD 31 1)
   . have c0:=u32_cell (S.ok (blkR g5 226 (u32A L)) (hR 16 (List.mem_singleton.2 rfl) _ (List.mem_singleton.2 rfl))) k m HM
     exact qa1 (vD 32 2)
   . replace hK:=hK default;have e33:=vD 33 3;clear hA o1 o5 o6 o7;go_step
     exact hK _ _ S (congrArg (Value.int .u32) (by first|omega|rfl))
   . exact qa1 (eO 1 o1)
   . exact qa1 (eO 6 o6)
   . replace hK:=hK default;have e36:=vD 36 6;clear hA o1 o5 o6 o7;go_step
     exact hK _ _ S (congrArg (Value.int .i64) (by first|omega|(unfold wrap64;omega)))
   . exact qa1 (eO 7 o7)
   . replace hK:=hK default;have e37:=vD 37 7;have e38:=vD 38 8;clear hA o1 o5 o6 o7;go_step;have hq:=hq.out
     exact hK _ _ S (congrArg (Value.int .i64) (by first|omega|(unfold wrap64;omega)))
   . have h0:0<=(q:Int):=by omega
     have h1:(q:Int) < n0:=by omega
     exact qa2 (vD 35 5) (vD 39 9)
   . have c0:=HB.out W S.k
     exact qa1 (vD 40 10)
   . exact qa1 (vD 41 11)
   . replace hK:=hK default;have e34:=vD 34 4;have e42:=vD 42 12;clear hA o1 o5 o6 o7;go_step
     exact hK _ _ S (congrArg (Value.int .u32) (by first|omega|rfl))
   . have h0:0<=(k:Int):=by omega
     have h1:(k:Int) < 64:=by omega
     exact qa2 (eO 5 o5) (vD 30 0)
   . replace hK:=hK default;have e44:=vD 44 14;have e43:=vD 43 13;clear hA o1 o5 o6 o7
     have S1:Held w0 W (blkR g5 226 (u32A L) :: LF):=S
     have q1:=u32_cell (S1.at_ (l1:=[])) (k) _ (HM)
     have q2:=(S1.at_ (l1:=[])).frozen (k)
     have q3:=(S1.at_ (l1:=[])).lt
     go_step;have S2:=S1.set (l1:=[]) (k) (.int .u32 (((m * 256+c) % 4294967296:Nat):Int))
     rw [u32A_set] at S2
     exact hK undef _ S2 trivial
   . trivial
 . intro vs gs W S hp
   have S:Held w0 W (blkR g5 226 (u32A (L.set k ((m * 256+c) % 4294967296))) :: R):=by simpa only [List.flatMap_cons,List.flatMap_nil,List.append_nil,List.nil_append,List.cons_append,List.append_assoc] using S
   rw [putAll_eq]
   exact hend _ W sQ  S
theorem rblk_r15(g2 s0 s1 s2 s3 s4 s5 s6 s7:Nat)(HV:Hid (∀ V,Kp [] w V->∀ i x:Nat,[s0,s1,s2,s3,s4,s5,s6,s7][i]?=some x->V.cell? ⟨g2,i,none⟩=some (.int .u32 (x:Int))))(hsz:a.tmps.size=209)(o2:Sl a 2 (Pq g2 0)):RG1 true 15 Tryz.f155 Q a w fun a' W q'=>Kp [] w.drew W->Sl a' 11 (.int .u32 ((s0:Nat):Int))->Sl a' 12 (.int .u32 ((s1:Nat):Int))->Sl a' 13 (.int .u32 ((s2:Nat):Int))->Sl a' 14 (.int .u32 ((s3:Nat):Int))->Sl a' 15 (.int .u32 ((s4:Nat):Int))->Sl a' 16 (.int .u32 ((s5:Nat):Int))->Sl a' 17 (.int .u32 ((s6:Nat):Int))->Sl a' 18 (.int .u32 ((s7:Nat):Int))->q':=by
 intro hend
 have hap:=pa 15 Tryz.f155
 refine wp_region_inv (l:=(opsOf 15 Tryz.f155)) (fun i v W=>match i with|0=>v=Pq g2 0|1=>v=.int .u32 ((s0:Nat):Int)|2=>v=Pq g2 1|3=>v=.int .u32 ((s1:Nat):Int)|4=>v=Pq g2 2|5=>v=.int .u32 ((s2:Nat):Int)|6=>v=Pq g2 3|7=>v=.int .u32 ((s3:Nat):Int)|8=>v=Pq g2 4|9=>v=.int .u32 ((s4:Nat):Int)|10=>v=Pq g2 5|11=>v=.int .u32 ((s5:Nat):Int)|12=>v=Pq g2 6|13=>v=.int .u32 ((s6:Nat):Int)|14=>v=Pq g2 7|15=>v=.int .u32 ((s7:Nat):Int)|16=>v=.int .u32 ((s0:Nat):Int)|17=>v=.int .u32 ((s1:Nat):Int)|18=>v=.int .u32 ((s2:Nat):Int)|19=>v=.int .u32 ((s3:Nat):Int)|20=>v=.int .u32 ((s4:Nat):Int)|21=>v=.int .u32 ((s5:Nat):Int)|22=>v=.int .u32 ((s6:Nat):Int)|23=>v=.int .u32 ((s7:Nat):Int)|_=>True) (by kernel_rfl) hap (by kernel_rfl) ?_ ?_ ?_
 . exact fun _ _ _ _ h _=>h
 . and_intros <;> try intro vs A' W hA hW hd K hK
   . exact qa1 (eO 2 o2)
   . have c0:=HV.out W ((Kp.refl [] _).drew.trans hW (by simp)) 0 s0 rfl
     exact qa1 (vD 98 0)
   . exact qa1 (eO 2 o2)
   . have c0:=HV.out W ((Kp.refl [] _).drew.trans hW (by simp)) 1 s1 rfl
     exact qa1 (vD 100 2)
   . exact qa1 (eO 2 o2)
   . have c0:=HV.out W ((Kp.refl [] _).drew.trans hW (by simp)) 2 s2 rfl
     exact qa1 (vD 102 4)
   . exact qa1 (eO 2 o2)
   . have c0:=HV.out W ((Kp.refl [] _).drew.trans hW (by simp)) 3 s3 rfl
     exact qa1 (vD 104 6)
   . exact qa1 (eO 2 o2)
   . have c0:=HV.out W ((Kp.refl [] _).drew.trans hW (by simp)) 4 s4 rfl
     exact qa1 (vD 106 8)
   . exact qa1 (eO 2 o2)
   . have c0:=HV.out W ((Kp.refl [] _).drew.trans hW (by simp)) 5 s5 rfl
     exact qa1 (vD 108 10)
   . exact qa1 (eO 2 o2)
   . have c0:=HV.out W ((Kp.refl [] _).drew.trans hW (by simp)) 6 s6 rfl
     exact qa1 (vD 110 12)
   . exact qa1 (eO 2 o2)
   . have c0:=HV.out W ((Kp.refl [] _).drew.trans hW (by simp)) 7 s7 rfl
     exact qa1 (vD 112 14)
   . exact qa1 (vD 99 1)
   . exact qa1 (vD 101 3)
   . exact qa1 (vD 103 5)
   . exact qa1 (vD 105 7)
   . exact qa1 (vD 107 9)
   . exact qa1 (vD 109 11)
   . exact qa1 (vD 111 13)
   . exact qa1 (vD 113 15)
   . trivial
 . intro vs W hW hp
   rw [putAll_eq]
   exact hend _ W sQ hW (sW (hp 16 sB)) (sW (hp 17 sB)) (sW (hp 18 sB)) (sW (hp 19 sB)) (sW (hp 20 sB)) (sW (hp 21 sB)) (sW (hp 22 sB)) (sW (hp 23 sB))
theorem rblk_r19(k g5 kk wk v4 v5 v6 v7:Nat)(h4:v4 < 4294967296)(h5:v5 < 4294967296)(h6:v6 < 4294967296)(hk:k < 64)(HK:Hid (∀ V,Calls Tryz.prog 164 #[.int .i64 (k:Int)] V fun e w'=>e=.returned (.int .u32 (kk:Int)) ∧ Kp [] V w'))(HWt:Hid (∀ V,Kp [] w V->V.cell? ⟨g5,k,none⟩=some (.int .u32 (wk:Int))))(hsz:a.tmps.size=209)(o5:Sl a 5 (Pq g5 0))(o15:Sl a 15 (.int .u32 ((v4:Nat):Int)))(o16:Sl a 16 (.int .u32 ((v5:Nat):Int)))(o17:Sl a 17 (.int .u32 ((v6:Nat):Int)))(o18:Sl a 18 (.int .u32 ((v7:Nat):Int)))(o19:Sl a 19 (Nq k)):RG1 true 19 Tryz.f155 Q a w fun a' W q'=>Kp [] w.drew W->Sl a' 20 (.int .u32 ((rX v4 v5 v6 v7 kk wk:Nat):Int))->q':=by
 intro hend
 have hap:=pa 19 Tryz.f155
 refine wp_region_inv (l:=(opsOf 19 Tryz.f155)) (fun i v W=>match i with|0=>v=.int .u32 ((v7:Nat):Int)|1=>v=.int .u32 ((v4:Nat):Int)|2=>v=.int .u32 ((rotr v4 6:Nat):Int)|3=>v=.int .u32 ((v4:Nat):Int)|4=>v=.int .u32 ((rotr v4 11:Nat):Int)|5=>v=.int .u32 (((rotr v4 6) ^^^ (rotr v4 11):Nat):Int)|6=>v=.int .u32 ((v4:Nat):Int)|7=>v=.int .u32 ((rotr v4 25:Nat):Int)|8=>v=.int .u32 ((bS1 v4:Nat):Int)|9=>v=.int .u32 (((v7+bS1 v4) % 4294967296:Nat):Int)|10=>v=.int .u32 ((v4:Nat):Int)|11=>v=.int .u32 ((v5:Nat):Int)|12=>v=.int .u32 ((v4 &&& v5:Nat):Int)|13=>v=.int .u32 ((v4:Nat):Int)|14=>v=.int .u32 ((not32 v4:Nat):Int)|15=>v=.int .u32 ((v6:Nat):Int)|16=>v=.int .u32 (((not32 v4) &&& v6:Nat):Int)|17=>v=.int .u32 ((cho v4 v5 v6:Nat):Int)|18=>v=.int .u32 (((v7+bS1 v4+cho v4 v5 v6) % 4294967296:Nat):Int)|19=>v=Nq k|20=>v=.int .u32 ((kk:Nat):Int)|21=>v=.int .u32 (((v7+bS1 v4+cho v4 v5 v6+kk) % 4294967296:Nat):Int)|22=>v=Nq k|23=>v=.pointer (some ⟨g5,k,none⟩)|24=>v=.int .u32 ((wk:Nat):Int)|25=>v=.int .u32 ((rX v4 v5 v6 v7 kk wk:Nat):Int)|26=>v=.int .u32 ((rX v4 v5 v6 v7 kk wk:Nat):Int)|_=>True) (by kernel_rfl) hap (by kernel_rfl) ?_ ?_ ?_
 . exact fun _ _ _ _ h _=>h
 . and_intros <;> try intro vs A' W hA hW hd K hK
   . exact qa1 (eO 18 o18)
   . exact qa1 (eO 15 o15)
   . have e119:=vD 119 1;clear hA hd o5 o15 o16 o17 o18 o19;go_step
     refine (rrot_any v4 6 6 rfl h4 (by unfold rotK;omega) W).mono ?_
     rintro e w' ⟨rfl,kq⟩
     exact hK _ _ kq rfl
   . exact qa1 (eO 15 o15)
   . have e121:=vD 121 3;clear hA hd o5 o15 o16 o17 o18 o19;go_step
     refine (rrot_any v4 11 11 rfl h4 (by unfold rotK;omega) W).mono ?_
     rintro e w' ⟨rfl,kq⟩
     exact hK _ _ kq rfl
   . have e120:=vD 120 2;have e122:=vD 122 4;clear hA hd o5 o15 o16 o17 o18 o19;go_step
     exact hK _ _ kR (congrArg (Value.int .u32) (u32_x _ _ (rotr_lt h4) (rotr_lt h4)))
   . exact qa1 (eO 15 o15)
   . have e124:=vD 124 6;clear hA hd o5 o15 o16 o17 o18 o19;go_step
     refine (rrot_any v4 25 25 rfl h4 (by unfold rotK;omega) W).mono ?_
     rintro e w' ⟨rfl,kq⟩
     exact hK _ _ kq rfl
   . have e123:=vD 123 5;have e125:=vD 125 7;clear hA hd o5 o15 o16 o17 o18 o19;go_step
     exact hK _ _ kR (congrArg (Value.int .u32) (u32_x _ _ (xor_lt (rotr_lt h4) (rotr_lt h4)) (rotr_lt h4)))
   . have e118:=vD 118 0;have e126:=vD 126 8;clear hA hd o5 o15 o16 o17 o18 o19;go_step
     exact hK _ _ kR (congrArg (Value.int .u32) (by first|omega|rfl))
   . exact qa1 (eO 15 o15)
   . exact qa1 (eO 16 o16)
   . have e128:=vD 128 10;have e129:=vD 129 11;clear hA hd o5 o15 o16 o17 o18 o19;go_step
     exact hK _ _ kR (congrArg (Value.int .u32) (u32_and_nat _ _ h4 h5))
   . exact qa1 (eO 15 o15)
   . have e131:=vD 131 13;clear hA hd o5 o15 o16 o17 o18 o19;go_step
     exact hK _ _ kR (congrArg (Value.int .u32) (u32_not v4 h4))
   . exact qa1 (eO 17 o17)
   . have e132:=vD 132 14;have e133:=vD 133 15;clear hA hd o5 o15 o16 o17 o18 o19;go_step
     exact hK _ _ kR (congrArg (Value.int .u32) (u32_and_nat _ _ (not32_lt' v4) h6))
   . have e130:=vD 130 12;have e134:=vD 134 16;clear hA hd o5 o15 o16 o17 o18 o19;go_step
     exact hK _ _ kR (congrArg (Value.int .u32) (u32_x _ _ (and_lt h4) (and_lt (not32_lt' v4))))
   . have e127:=vD 127 9;have e135:=vD 135 17;clear hA hd o5 o15 o16 o17 o18 o19;go_step
     exact hK _ _ kR (congrArg (Value.int .u32) (by first|omega|rfl))
   . exact qa1 (eO 19 o19)
   . have e137:=vD 137 19;clear hA hd o5 o15 o16 o17 o18 o19;go_step
     refine (HK.out W).mono ?_
     rintro e w' ⟨rfl,kq⟩
     exact hK _ _ kq rfl
   . have e136:=vD 136 18;have e138:=vD 138 20;clear hA hd o5 o15 o16 o17 o18 o19;go_step
     exact hK _ _ kR (congrArg (Value.int .u32) (by first|omega|rfl))
   . exact qa1 (eO 19 o19)
   . have h0:0<=(k:Int):=by omega
     have h1:(k:Int) < 64:=by omega
     exact qa2 (eO 5 o5) (vD 140 22)
   . have c0:=HWt.out W ((Kp.refl [] _).drew.trans hW (by simp))
     exact qa1 (vD 141 23)
   . have e139:=vD 139 21;have e142:=vD 142 24;clear hA hd o5 o15 o16 o17 o18 o19;go_step
     exact hK _ _ kR (congrArg (Value.int .u32) (by unfold rX;omega))
   . exact qa1 (vD 143 25)
   . trivial
 . intro vs W hW hp
   rw [putAll_eq]
   exact hend _ W sQ hW (sW (hp 26 sB))
end
section
open Go.RowKit
def dsRA:List Nat:=[7,26,27,28,29,30,31,32,33,34,35,36,37,38,39,40,41,42,43,44]
def dsR1:List Nat:=[6,7,22,23,24,25,26,27,28,29,30,31,32,33,34,35,36,37,38,39,40,41,42,43,44]
def dsR2:List Nat:=[8,9,10,45,46,47,48,49,50,51,52,53,54,55,56,57,58,59,60,61,62,63,64,65,66,67,68,69,70,71,72,73,74,75,76,77,78,79,80,81,82,83,84,85,86,87,88,89,90,91,92,93,94,95,96,97]
def dsR3:List Nat:=[11,12,13,14,15,16,17,18,19,20,21,114,115,116,117,118,119,120,121,122,123,124,125,126,127,128,129,130,131,132,133,134,135,136,137,138,139,140,141,142,143,144,145,146,147,148,149,150,151,152,153,154,155,156,157,158,159,160,161,162,163,164,165,166,167,168,169,170,171,172,173,174,175]
theorem rblk_lA{Q:Exit->Act->World->Prop}{a:Act}{w0 w:World}(b:Bs)(n0 cb:Nat)(ad:Addr)(hn0:64<=n0)(hbl:64<=b.length)(HB:∀ V,Kp [] w0 V->∀ j,j < 64->V.cell? (ad.add j)=some (.int .u8 ((b.getD j 0).toNat:Int)))(k g5:Nat)(hlt:k < 16)(l:List Nat)(hl:l.length=k)(R:List Res)(hsz:a.tmps.size=209)
 (o1:Sl a 1 (.slice (some ad) n0 cb)) (o5:Sl a 5 (Pq g5 0)) (o6:Sl a 6 (.int .i64 (k:Int))) (o7:Sl a 7 (Nq 0))
 (S:Held w0 w (blkR g5 226 (u32A (pz l)) :: R))
 (hend:∀ a' W,Same a a' dsRA->Held w0 W (blkR g5 226 (u32A (pz (l ++ [num ((b.drop (4 * k)).take 4)]))) :: R)->Q .normal a' W):
 (Code.block 2 (blockOf 2 Tryz.f155)).wp Tryz.prog Q a w:=by
 have hpl:(pz l).length=64:=pz_length (by omega)
 have h00:(pz l).set k (num ((b.drop (4 * k)).take 0))=pz l:=by
  refine List.ext_getElem? fun j=>?_
  by_cases hj:j=k
  . subst hj
    rw [List.getElem?_set_self (by omega)]
    unfold pz
    rw [List.getElem?_append_right (by omega),hl,Nat.sub_self,List.getElem?_replicate,if_pos (by omega)]
    simp [num]
  . rw [List.getElem?_set_ne (fun h=>hj h.symm)]
 refine wp_block ?_
 (conv=>arg 2;whnf)
 refine wp_loop (fun a' w'=>∃ r:Nat,r<=4 ∧ Same a a' dsRA ∧ Sl a' 7 (.int .i64 (r:Int)) ∧ Held w0 w' (blkR g5 226 (u32A ((pz l).set k (num ((b.drop (4 * k)).take r)))) :: R)) (fun a' _=>4 - (intOf (a'.eval (.tmp 7))).toNat) ⟨0,by omega,Same.refl _ _,o7,by rw [h00];exact S⟩ ?_
 clear o7 S
 rintro a1 w1 ⟨r,hr,T,o7,S⟩
 have o1:=T.keep 1 _ (by decide) o1
 have o5:=T.keep 5 _ (by decide) o5
 have o6:=T.keep 6 _ (by decide) o6
 have hz1:=T.size.trans hsz
 have eCtr:=o7.eval (by rw [hz1];decide)
 refine wp_seq (wp_seq (rblk_r6 r hz1 o7 (fun a2 hs2 o27=>?_)))
 obtain ⟨hz2,-,o1,o5,o6,o7⟩:=kq4 hs2 hz1 rfl o1 o5 o6 o7
 have T:=T.trans hs2
 by_cases hlt4:r < 4
 . refine wcT o27 (wp_skip ?_) (by rw [decide_eq_true (by omega)])
   refine wp_seq (wp_block ?_)
   have hq:4 * k+r < b.length:=by omega
   have hc:=(b.getD (4 * k+r) 0).toNat_lt
   have hnum:num ((b.drop (4 * k)).take (r+1))=256 * num ((b.drop (4 * k)).take r)+(b.getD (4 * k+r) 0).toNat:=by
    have e:(b.drop (4 * k))[r]?=some (b.getD (4 * k+r) 0):=by
     rw [List.getElem?_drop,List.getD_eq_getElem?_getD,List.getElem?_eq_getElem hq];rfl
    rw [List.take_add_one,e]
    exact num_snoc _ _
   have hlt2:num ((b.drop (4 * k)).take r) < 16777216:=by
    have:=num4_lt ((b.drop (4 * k)).take 3)
    have h3:∀ j,j<=3->num ((b.drop (4 * k)).take j) < 256 ^ j:=by
     intro j
     induction j with
     |zero=>intro _;simp [num]
     |succ j ih=>
      intro hj
      have hjl:j < (b.drop (4 * k)).length:=by rw [List.length_drop];omega
      have:=ih (by omega)
      have hb:=((b.drop (4 * k))[j]).toNat_lt
      rw [List.take_add_one,List.getElem?_eq_getElem hjl,show (some (b.drop (4 * k))[j]).toList=[(b.drop (4 * k))[j]] from rfl,num_snoc,Nat.pow_succ]
      omega
    have:=h3 r (by omega)
    have h4:256 ^ r<=256 ^ 3:=Nat.pow_le_pow_right (by decide) (by omega)
    omega
   refine rblk_r8 w0 k r (4 * k+r) g5 _ _ n0 cb ad _ R hlt hlt4 (LH rfl) (by omega) (List.getElem?_set_self (by omega)) hc (LH (fun V kk=>HB V kk _ (by omega))) hz2 o1 o5 o6 o7 S (fun a3 w2 hs3 S=>?_)
   obtain ⟨hz3,-,o1,o5,o6,o7,o27⟩:=kq5 hs3 hz2 rfl o1 o5 o6 o7 o27
   have T:=T.trans hs3
   rw [List.set_set,show (num ((b.drop (4 * k)).take r) * 256+(b.getD (4 * k+r) 0).toNat) % 4294967296=num ((b.drop (4 * k)).take (r+1)) from by rw [hnum];omega] at S
   refine rblk_r7 r hlt4 hz3 o7 (fun a4 hs4 o7=>?_)
   obtain ⟨hz4,-,o1,o5,o6,o27⟩:=kq4 hs4 hz3 rfl o1 o5 o6 o27
   have T:=T.trans hs4
   refine ⟨⟨r+1,by omega,T.more (by decide +kernel),o7,S⟩,?_⟩
   show 4 - (intOf (a4.eval (.tmp 7))).toNat < 4 - (intOf (a1.eval (.tmp 7))).toNat
   rw [eCtr,o7.eval (by rw [hz4];decide)]
   simp [intOf];omega
 . obtain rfl:r=4:=by omega
   refine wcF o27 (wp_exit ?_) (by rw [decide_eq_false (by omega)])
   have e:(pz l).set k (num ((b.drop (4 * k)).take 4))=pz (l ++ [num ((b.drop (4 * k)).take 4)]):=by rw [<- pz_next (by omega),hl]
   rw [e] at S
   exact hend _ _ (T.more (by decide +kernel)) S
theorem rblk_l1{Q:Exit->Act->World->Prop}{a:Act}{w0 w:World}(b:Bs)(n0 cb:Nat)(ad:Addr)(hn0:64<=n0)(hbl:64<=b.length)(HB:∀ V,Kp [] w0 V->∀ j,j < 64->V.cell? (ad.add j)=some (.int .u8 ((b.getD j 0).toNat:Int)))(g5:Nat)(R:List Res)(hsz:a.tmps.size=209)
 (o1:Sl a 1 (.slice (some ad) n0 cb)) (o5:Sl a 5 (Pq g5 0)) (o6:Sl a 6 (Nq 0))
 (S:Held w0 w (blkR g5 226 (u32A (List.replicate 64 0)) :: R))
 (hend:∀ a' W,Same a a' dsR1->Held w0 W (blkR g5 226 (u32A (pz (wsN b 16))) :: R)->Q .normal a' W):
 (Code.block 0 (blockOf 0 Tryz.f155)).wp Tryz.prog Q a w:=by
 refine wp_block ?_
 (conv=>arg 2;whnf)
 refine wp_loop (fun a' w'=>∃ k:Nat,k<=16 ∧ Same a a' dsR1 ∧ Sl a' 6 (.int .i64 (k:Int)) ∧ Held w0 w' (blkR g5 226 (u32A (pz (wsN b k))) :: R)) (fun a' _=>16 - (intOf (a'.eval (.tmp 6))).toNat) ⟨0,by omega,Same.refl _ _,o6,S⟩ ?_
 clear o6 S
 rintro a1 w1 ⟨k,hk,T,o6,S⟩
 have o1:=T.keep 1 _ (by decide) o1
 have o5:=T.keep 5 _ (by decide) o5
 have hz1:=T.size.trans hsz
 have eCtr:=o6.eval (by rw [hz1];decide)
 refine wp_seq (wp_seq (rblk_r3 k hz1 o6 (fun a2 hs2 o23=>?_)))
 obtain ⟨hz2,-,o1,o5,o6⟩:=kq3 hs2 hz1 rfl o1 o5 o6
 have T:=T.trans hs2
 by_cases hlt:k < 16
 . refine wcT o23 (wp_skip ?_) (by rw [decide_eq_true (by omega)])
   refine wp_seq (wp_block ?_)
   refine wp_seq (rblk_r5 hz2 (fun a3 hs3 o7=>?_))
   obtain ⟨hz3,-,o1,o5,o6,o23⟩:=kq4 hs3 hz2 rfl o1 o5 o6 o23
   have T:=T.trans hs3
   refine rblk_lA b n0 cb ad hn0 hbl HB k g5 hlt _ (wsN_length b k) R hz3 o1 o5 o6 o7 S (fun a4 w2 hs4 S=>?_)
   obtain ⟨hz4,-,o1,o5,o6,o23⟩:=kq4 hs4 hz3 rfl o1 o5 o6 o23
   have T:=T.trans hs4
   rw [<- wsN_next16 b hlt] at S
   refine rblk_r4 k hlt hz4 o6 (fun a5 hs5 o6=>?_)
   obtain ⟨hz5,-,o1,o5,o23⟩:=kq3 hs5 hz4 rfl o1 o5 o23
   have T:=T.trans hs5
   refine ⟨⟨k+1,by omega,T.more (by decide +kernel),o6,S⟩,?_⟩
   show 16 - (intOf (a5.eval (.tmp 6))).toNat < 16 - (intOf (a1.eval (.tmp 6))).toNat
   rw [eCtr,o6.eval (by rw [hz5];decide)]
   simp [intOf];omega
 . obtain rfl:k=16:=by omega
   refine wcF o23 (wp_exit ?_) (by rw [decide_eq_false (by omega)])
   exact hend _ _ (T.more (by decide +kernel)) S
theorem rblk_l2{Q:Exit->Act->World->Prop}{a:Act}{w0 w:World}(b:Bs)(g5:Nat)(R:List Res)(hsz:a.tmps.size=209)
 (o5:Sl a 5 (Pq g5 0)) (o8:Sl a 8 (Nq 16))
 (S:Held w0 w (blkR g5 226 (u32A (pz (wsN b 16))) :: R))
 (hend:∀ a' W,Same a a' dsR2->Held w0 W (blkR g5 226 (u32A (wsN b 64)) :: R)->Q .normal a' W):
 (Code.block 4 (blockOf 4 Tryz.f155)).wp Tryz.prog Q a w:=by
 refine wp_block ?_
 (conv=>arg 2;whnf)
 refine wp_loop (fun a' w'=>∃ k:Nat,16<=k ∧ k<=64 ∧ Same a a' dsR2 ∧ Sl a' 8 (.int .i64 (k:Int)) ∧ Held w0 w' (blkR g5 226 (u32A (pz (wsN b k))) :: R)) (fun a' _=>64 - (intOf (a'.eval (.tmp 8))).toNat) ⟨16,by omega,by omega,Same.refl _ _,o8,S⟩ ?_
 clear o8 S
 rintro a1 w1 ⟨n,hn16,hn,T,o8,S⟩
 have o5:=T.keep 5 _ (by decide) o5
 have hz1:=T.size.trans hsz
 have eCtr:=o8.eval (by rw [hz1];decide)
 refine wp_seq (wp_seq (rblk_r10 n hz1 o8 (fun a2 hs2 o46=>?_)))
 obtain ⟨hz2,-,o5,o8⟩:=kq2 hs2 hz1 rfl o5 o8
 have T:=T.trans hs2
 by_cases hlt:n < 64
 . refine wcT o46 (wp_skip ?_) (by rw [decide_eq_true (by omega)])
   obtain ⟨j,rfl⟩:∃ j,n=j+16:=⟨n - 16,by omega⟩
   have HWl:=wsN_lt b (j+16)
   have HWn:=wsN_length b (j+16)
   have Hnx:=wsN_next48 b j
   generalize hl:wsN b (j+16)=l at *
   have hpl:(pz l).length=64:=pz_length (by omega)
   have HA:(pz l)[j]?=some (l.getD j 0):=pz_at (getD_at (by omega))
   have HC:(pz l)[j+9]?=some (l.getD (j+9) 0):=pz_at (getD_at (by omega))
   have HX:(pz l)[j+1]?=some (l.getD (j+1) 0):=pz_at (getD_at (by omega))
   have HY:(pz l)[j+14]?=some (l.getD (j+14) 0):=pz_at (getD_at (by omega))
   have HM:(pz l)[j+16]?=some ((pz l).getD (j+16) 0):=getD_at (by omega)
   have HXl:=getD_lt HWl (j+1)
   have HYl:=getD_lt HWl (j+14)
   have HE:∀ x,(pz l).set (j+16) x=pz (l ++ [x]):=fun x=>by rw [<- HWn];exact pz_next (by omega) x
   generalize l.getD j 0=v at *
   generalize l.getD (j+9) 0=c at *
   generalize l.getD (j+1) 0=x at *
   generalize l.getD (j+14) 0=y at *
   refine wp_seq (wp_block ?_)
   refine wp_seq (rblk_r12 j g5 x (pz l) (by omega) HX HXl (LH (fun V kk i x h=>u32_cell ((S.at_ (l1:=[])).kp kk (by simp)) i x h)) hz2 o5 o8 (fun a3 W3 hs3 k3 o9=>?_))
   obtain ⟨hz3,-,o5,o8,o46⟩:=kq3 hs3 hz2 rfl o5 o8 o46
   have T:=T.trans hs3
   have S:=S.kp ((Kp.refl [] _).drew.trans k3 (by simp))
   refine wp_seq (rblk_r13 j g5 y (pz l) (by omega) HY HYl (LH (fun V kk i x h=>u32_cell ((S.at_ (l1:=[])).kp kk (by simp)) i x h)) hz3 o5 o8 (fun a4 W4 hs4 k4 o10=>?_))
   obtain ⟨hz4,-,o5,o8,o46,o9⟩:=kq4 hs4 hz3 rfl o5 o8 o46 o9
   have T:=T.trans hs4
   have S:=S.kp ((Kp.refl [] _).drew.trans k4 (by simp))
   refine rblk_r14 w0 j g5 _ _ v c _ (pz l) R (by omega) HA HC HM hz4 o5 o8 o9 o10 S (fun a5 W5 hs5 S=>?_)
   obtain ⟨hz5,-,o5,o8,o46,o9,o10⟩:=kq5 hs5 hz4 rfl o5 o8 o46 o9 o10
   have T:=T.trans hs5
   rw [HE] at S
   refine rblk_r11 (j+16) hlt hz5 o8 (fun a6 hs6 o8=>?_)
   obtain ⟨hz6,-,o5,o46,o9,o10⟩:=kq4 hs6 hz5 rfl o5 o46 o9 o10
   have T:=T.trans hs6
   refine ⟨⟨j+16+1,by omega,by omega,T.more (by decide +kernel),o8,?_⟩,?_⟩
   . rw [Hnx]
     exact S
   . show 64 - (intOf (a6.eval (.tmp 8))).toNat < 64 - (intOf (a1.eval (.tmp 8))).toNat
     rw [eCtr,o8.eval (by rw [hz6];decide)]
     simp [intOf];omega
 . obtain rfl:n=64:=by omega
   refine wcF o46 (wp_exit ?_) (by rw [decide_eq_false (by omega)])
   rw [pz_full (wsN_length b 64)] at S
   exact hend _ _ (T.more (by decide +kernel)) S
theorem rblk_l3{Q:Exit->Act->World->Prop}{a:Act}{w0 w:World}(st ws:List Nat)(hst:Ws st)(hsl:st.length=8)(hwl:ws.length=64)(g5:Nat)(R:List Res)(hsz:a.tmps.size=209)
 (o5:Sl a 5 (Pq g5 0)) (o19:Sl a 19 (Nq 0)) (o11:Sl a 11 (.int .u32 ((st.getD 0 0:Nat):Int))) (o12:Sl a 12 (.int .u32 ((st.getD 1 0:Nat):Int))) (o13:Sl a 13 (.int .u32 ((st.getD 2 0:Nat):Int))) (o14:Sl a 14 (.int .u32 ((st.getD 3 0:Nat):Int))) (o15:Sl a 15 (.int .u32 ((st.getD 4 0:Nat):Int))) (o16:Sl a 16 (.int .u32 ((st.getD 5 0:Nat):Int))) (o17:Sl a 17 (.int .u32 ((st.getD 6 0:Nat):Int))) (o18:Sl a 18 (.int .u32 ((st.getD 7 0:Nat):Int)))
 (S:Held w0 w (blkR g5 226 (u32A ws) :: R))
 (hend:∀ a' W,Same a a' dsR3->Sl a' 11 (.int .u32 (((rnds st ws 64).getD 0 0:Nat):Int))->Sl a' 12 (.int .u32 (((rnds st ws 64).getD 1 0:Nat):Int))->Sl a' 13 (.int .u32 (((rnds st ws 64).getD 2 0:Nat):Int))->Sl a' 14 (.int .u32 (((rnds st ws 64).getD 3 0:Nat):Int))->Sl a' 15 (.int .u32 (((rnds st ws 64).getD 4 0:Nat):Int))->Sl a' 16 (.int .u32 (((rnds st ws 64).getD 5 0:Nat):Int))->Sl a' 17 (.int .u32 (((rnds st ws 64).getD 6 0:Nat):Int))->Sl a' 18 (.int .u32 (((rnds st ws 64).getD 7 0:Nat):Int))->Held w0 W (blkR g5 226 (u32A ws) :: R)->Q .normal a' W):
 (Code.block 6 (blockOf 6 Tryz.f155)).wp Tryz.prog Q a w:=by
 refine wp_block ?_
 (conv=>arg 2;whnf)
 refine wp_loop (fun a' w'=>∃ k:Nat,k<=64 ∧ Same a a' dsR3 ∧ Sl a' 19 (.int .i64 (k:Int)) ∧ (Sl a' 11 (.int .u32 (((rnds st ws k).getD 0 0:Nat):Int)) ∧ Sl a' 12 (.int .u32 (((rnds st ws k).getD 1 0:Nat):Int)) ∧ Sl a' 13 (.int .u32 (((rnds st ws k).getD 2 0:Nat):Int)) ∧ Sl a' 14 (.int .u32 (((rnds st ws k).getD 3 0:Nat):Int)) ∧ Sl a' 15 (.int .u32 (((rnds st ws k).getD 4 0:Nat):Int)) ∧ Sl a' 16 (.int .u32 (((rnds st ws k).getD 5 0:Nat):Int)) ∧ Sl a' 17 (.int .u32 (((rnds st ws k).getD 6 0:Nat):Int)) ∧ Sl a' 18 (.int .u32 (((rnds st ws k).getD 7 0:Nat):Int))) ∧ Held w0 w' (blkR g5 226 (u32A ws) :: R)) (fun a' _=>64 - (intOf (a'.eval (.tmp 19))).toNat) ⟨0,by omega,Same.refl _ _,o19,⟨o11,o12,o13,o14,o15,o16,o17,o18⟩,S⟩ ?_
 clear o19 S o11 o12 o13 o14 o15 o16 o17 o18
 rintro a1 w1 ⟨k,hk,T,o19,⟨o11,o12,o13,o14,o15,o16,o17,o18⟩,S⟩
 have o5:=T.keep 5 _ (by decide) o5
 have hz1:=T.size.trans hsz
 have eCtr:=o19.eval (by rw [hz1];decide)
 refine wp_seq (wp_seq (rblk_r17 k hz1 o19 (fun a2 hs2 o115=>?_)))
 obtain ⟨hz2,-,o5,o11,o12,o13,o14,o15,o16,o17,o18,o19⟩:=kq10 hs2 hz1 rfl o5 o11 o12 o13 o14 o15 o16 o17 o18 o19
 have T:=T.trans hs2
 by_cases hlt:k < 64
 . refine wcT o115 (wp_skip ?_) (by rw [decide_eq_true (by omega)])
   have hv:=rnds_length st ws k
   have hvl:=rnds_lt hst ws k
   have Hnext:rnds st ws (k+1)=rnd (rnds st ws k) (kT.getD k 0) (ws.getD k 0):=rfl
   obtain ⟨v0,v1,v2,v3,v4,v5,v6,v7,hvv⟩:=list8 (hv.trans hsl)
   rw [hvv] at hvl Hnext o11 o12 o13 o14 o15 o16 o17 o18
   simp only [List.getD_cons_zero,List.getD_cons_succ] at o11 o12 o13 o14 o15 o16 o17 o18
   have HWt:∀ W,Kp [] w1 W->∀ V,Kp [] W V->V.cell? ⟨g5,k,none⟩=some (.int .u32 ((ws.getD k 0:Nat):Int)):=fun W k1 V k2=>u32_cell ((S.at_ (l1:=[])).kp (k1.trans k2 (by simp)) (by simp)) k _ (getD_at (by rw [hwl];exact hlt))
   have HK:∀ V,Calls Tryz.prog 164 #[.int .i64 (k:Int)] V fun e w'=>e=.returned (.int .u32 ((kT.getD k 0:Nat):Int)) ∧ Kp [] V w':=fun V=>rk_any k hlt V
   generalize kT.getD k 0=kk at *
   generalize ws.getD k 0=wk at *
   refine wp_seq (wp_block ?_)
   refine wp_seq (rblk_r19 k g5 kk wk v4 v5 v6 v7 (hvl _ (by simp)) (hvl _ (by simp)) (hvl _ (by simp)) hlt (LH HK) (LH (HWt w1 kR)) hz2 o5 o15 o16 o17 o18 o19 (fun a3 W3 hs3 k3 o20=>?_))
   obtain ⟨hz3,-,o5,o11,o12,o13,o14,o15,o16,o17,o18,o19,o115⟩:=kq11 hs3 hz2 rfl o5 o11 o12 o13 o14 o15 o16 o17 o18 o19 o115
   have T:=T.trans hs3
   have S:=S.kp ((Kp.refl [] _).drew.trans k3 (by simp))
   refine wp_seq (rblk_r20 v0 v1 v2 (LH (hvl _ (by simp))) (LH (hvl _ (by simp))) (LH (hvl _ (by simp))) hz3 o11 o12 o13 (fun a4 W4 hs4 o21 k4=>?_))
   obtain ⟨hz4,-,o5,o11,o12,o13,o14,o15,o16,o17,o18,o19,o115,o20⟩:=kq12 hs4 hz3 rfl o5 o11 o12 o13 o14 o15 o16 o17 o18 o19 o115 o20
   have T:=T.trans hs4
   have S:=S.kp k4
   refine wp_seq (rblk_r21 v4 v5 v6 hz4 o15 o16 o17 (fun a5 hs5 o16 o17 o18=>?_))
   obtain ⟨hz5,-,o5,o11,o12,o13,o14,o15,o19,o115,o20,o21⟩:=kq10 hs5 hz4 rfl o5 o11 o12 o13 o14 o15 o19 o115 o20 o21
   have T:=T.trans hs5
   refine wp_seq (rblk_r22 v3 _ hz5 o14 o20 (fun a6 hs6 o15=>?_))
   obtain ⟨hz6,-,o5,o11,o12,o13,o14,o16,o17,o18,o19,o115,o20,o21⟩:=kq12 hs6 hz5 rfl o5 o11 o12 o13 o14 o16 o17 o18 o19 o115 o20 o21
   have T:=T.trans hs6
   refine wp_seq (rblk_r23 v0 v1 v2 hz6 o11 o12 o13 (fun a7 hs7 o12 o13 o14=>?_))
   obtain ⟨hz7,-,o5,o11,o15,o16,o17,o18,o19,o115,o20,o21⟩:=kq10 hs7 hz6 rfl o5 o11 o15 o16 o17 o18 o19 o115 o20 o21
   have T:=T.trans hs7
   refine rblk_r24 _ _ hz7 o20 o21 (fun a8 hs8 o11=>?_)
   obtain ⟨hz8,-,o5,o12,o13,o14,o15,o16,o17,o18,o19,o115,o20,o21⟩:=kq12 hs8 hz7 rfl o5 o12 o13 o14 o15 o16 o17 o18 o19 o115 o20 o21
   have T:=T.trans hs8
   refine rblk_r18 k hlt hz8 o19 (fun a9 hs9 o19=>?_)
   obtain ⟨hz9,-,o5,o11,o12,o13,o14,o15,o16,o17,o18,o115,o20,o21⟩:=kq12 hs9 hz8 rfl o5 o11 o12 o13 o14 o15 o16 o17 o18 o115 o20 o21
   have T:=T.trans hs9
   refine ⟨⟨k+1,by omega,T.more (by decide +kernel),o19,?_,S⟩,?_⟩
   . rw [Hnext]
     exact ⟨o11,o12,o13,o14,o15,o16,o17,o18⟩
   . show 64 - (intOf (a9.eval (.tmp 19))).toNat < 64 - (intOf (a1.eval (.tmp 19))).toNat
     rw [eCtr,o19.eval (by rw [hz9];decide)]
     simp [intOf];omega
 . obtain rfl:k=64:=by omega
   refine wcF o115 (wp_exit ?_) (by rw [decide_eq_false (by omega)])
   exact hend _ _ (T.more (by decide +kernel)) o11 o12 o13 o14 o15 o16 o17 o18 S
theorem rblock_any(st:List Nat)(hst:Ws st)(hsl:st.length=8)(b:Bs)(hbl:b.length=64)(v:Value)(w:World)(hv:Rd w 1 v 64 (bv b)):Calls Tryz.prog 155 #[.agg (u32A st),v] w fun e w'=>e=.returned (.agg (u32A (blkF st b))) ∧ Kp [] w w':=by
 obtain ⟨hl,A,cb,rfl,h1,h2,hA,hc⟩:=id hv
 rcases A with _|ad
 . have:=hA rfl;omega
 have HB:∀ V,Kp [] w V->∀ j,j < 64->V.cell? (ad.add j)=some (.int .u8 ((b.getD j 0).toNat:Int)):=fun V kk j hj=>by
  obtain ⟨_,A',c',he,_,_,_,hc'⟩:=rd_old hv kk
  cases he
  refine hc' ad rfl j _ ?_
  rw [bv_get,List.getD_eq_getElem?_getD,List.getElem?_eq_getElem (by omega)]
  rfl
 refine calls_fr Tryz.func155 rfl 209 rfl (fun a0 hsz hdf hAr=>?_)
 have hz0:a0.tmps.size=209:=hsz
 have o0:=hAr 0 _ rfl
 have o1:=hAr 1 _ rfl
 have D:=hdf
 refine wp_seq (rblk_r0 w st [] (Held.start w) hz0 o0 (fun a1 w1 hs1 h=>?_))
 obtain ⟨hz1,D,o0,o1⟩:=kq2 hs1 hz0 D o0 o1
 obtain ⟨g2,g4,o2,o4,S⟩:=h
 refine wp_seq (rblk_r1 w _ S hz1 (fun a2 w2 hs2 h=>?_))
 obtain ⟨hz2,D,o1,o2,o4⟩:=kq3 hs2 hz1 D o1 o2 o4
 obtain ⟨g5,o5,S⟩:=h
 refine wp_seq (wp_seq (rblk_r2 hz2 (fun a3 hs3 o6=>?_)))
 obtain ⟨hz3,D,o1,o2,o4,o5⟩:=kq4 hs3 hz2 D o1 o2 o4 o5
 refine rblk_l1 b 64 cb ad (by omega) (by omega) HB g5 _ hz3 o1 o5 o6 S (fun a4 w4 hs4 S=>?_)
 obtain ⟨hz4,D,o2,o4,o5⟩:=kq3 hs4 hz3 D o2 o4 o5
 refine wp_seq (wp_seq (rblk_r9 hz4 (fun a5 hs5 o8=>?_)))
 obtain ⟨hz5,D,o2,o4,o5⟩:=kq3 hs5 hz4 D o2 o4 o5
 refine rblk_l2 b g5 _ hz5 o5 o8 S (fun a6 w6 hs6 S=>?_)
 obtain ⟨hz6,D,o2,o4,o5⟩:=kq3 hs6 hz5 D o2 o4 o5
 obtain ⟨s0,s1,s2,s3,s4,s5,s6,s7,hss⟩:=list8 hsl
 have hst':=hst
 rw [hss] at S
 refine wp_seq (rblk_r15 g2 s0 s1 s2 s3 s4 s5 s6 s7 (LH (fun V kk i x h=>u32_cell ((S.at_ (l1:=[_,_])).kp kk (by simp)) i x h)) hz6 o2 (fun a7 w7 hs7 k7 o11 o12 o13 o14 o15 o16 o17 o18=>?_))
 obtain ⟨hz7,D,o2,o4,o5⟩:=kq3 hs7 hz6 D o2 o4 o5
 have S:=S.kp ((Kp.refl [] _).drew.trans k7 (by simp))
 refine wp_seq (wp_seq (rblk_r16 hz7 (fun a8 hs8 o19=>?_)))
 obtain ⟨hz8,D,o2,o4,o5,o11,o12,o13,o14,o15,o16,o17,o18⟩:=kq11 hs8 hz7 D o2 o4 o5 o11 o12 o13 o14 o15 o16 o17 o18
 rw [<- hss] at S
 refine rblk_l3 st (wsN b 64) hst hsl (wsN_length b 64) g5 _ hz8 o5 o19 (by rw [hss];exact o11) (by rw [hss];exact o12) (by rw [hss];exact o13) (by rw [hss];exact o14) (by rw [hss];exact o15) (by rw [hss];exact o16) (by rw [hss];exact o17) (by rw [hss];exact o18) S (fun a9 w9 hs9 o11 o12 o13 o14 o15 o16 o17 o18 S=>?_)
 obtain ⟨hz9,D,o2,o4,o5⟩:=kq3 hs9 hz8 D o2 o4 o5
 have hrl:=(rnds_length st (wsN b 64) 64).trans hsl
 have hblk:blkF st b=List.zipWith (fun x y=>(x+y) % 4294967296) (rnds st (wsN b 64) 64) st:=rfl
 obtain ⟨v0,v1,v2,v3,v4,v5,v6,v7,hvv⟩:=list8 hrl
 rw [hvv] at o11 o12 o13 o14 o15 o16 o17 o18 hblk
 simp only [List.getD_cons_zero,List.getD_cons_succ] at o11 o12 o13 o14 o15 o16 o17 o18
 rw [hss] at S hblk
 have S:=S.perm (List.Perm.swap _ _ _)
 refine wp_seq (rblk_r25 w g2 g4 s0 s1 s2 s3 s4 s5 s6 s7 v0 v1 v2 v3 v4 v5 v6 v7 (List.replicate 8 0) rfl [_] _ S hz9 o2 o4 o11 o12 o13 o14 o15 o16 o17 o18 (fun a10 w10 hs10 S=>?_))
 obtain ⟨hz10,D,o2,o4,o5,o11,o12,o13,o14,o15,o16,o17,o18⟩:=kq11 hs10 hz9 D o2 o4 o5 o11 o12 o13 o14 o15 o16 o17 o18
 have hfin:[(s0+v0) % 4294967296,(s1+v1) % 4294967296,(s2+v2) % 4294967296,(s3+v3) % 4294967296,(s4+v4) % 4294967296,(s5+v5) % 4294967296,(s6+v6) % 4294967296,(s7+v7) % 4294967296]=blkF st b:=by
  rw [hss,hblk]
  simp only [List.zipWith_cons_cons,List.zipWith_nil_left,Nat.add_comm]
 rw [hfin] at S
 refine wp_ret (bodyPost_ret (results_cell1 (by rfl) (o4.eval (by rw [hz10];decide)) (S.at_ (l1:=[])) Tryz.underlying205 rfl (by rw [u32A_size,blkF_length,hsl];exact Tryz.info8w)) D ⟨rfl,S.k⟩)
end
section
variable {Q:Exit->Act->World->Prop} {a:Act} {w:World}
open Go.RowKit
theorem rtk_r0(w0:World)(st:List Nat)(n:Nat)(v:Value)(hs:st.length=8)(hv:v.oneCell'=true)(L:List Res)(S:Held w0 w L)(hsz:a.tmps.size=31)(o0:Sl a 0 (.agg (undA st n v))):RG1 false 0 Tryz.f142 Q a w fun a' W q'=>(∃ g2 g4,Sl a' 2 (Pq g2 0) ∧ Sl a' 4 (Pq g4 0) ∧ Held w0 W (blkR g4 207 (undA (List.replicate 8 0) 0 (.slice none 0 0)) :: blkR g2 207 (undA st n v) :: L))->q':=by
 intro hend
 refine wp_region_lit ?_
 (conv=>arg 4;whnf)
 unfold Sl at o0
 have S0:=LH ((S.newBlk 207 (undA st n v)).newBlk 207 (undA (List.replicate 8 0) 0 (.slice none 0 0)))
 simp only [World.size_alloc] at S0
 generalize hca:undA st n v=ca at *
 go_wp2
 try simp only [Act.put]
 exact hend _ _ tS (⟨w.heap.size,w.heap.size+1,sP0,sP0,S0.out⟩)
theorem rtk_r1(w0:World)(g2 n:Nat)(st:List Nat)(hs:st.length=8)(Ar Ax:Option Addr)(cr cx:Nat)(r l:Bs)(hl:r.length+l.length<=140737488355328)(L:List Res)(HRr:∀ V L',Held w0 V (L' ++ blkR g2 207 (undA st n (.slice Ar r.length cr)) :: L)->Rd V 1 (.slice Ar r.length cr) r.length (bv r))(HRx:∀ V L',Held w0 V (L' ++ blkR g2 207 (undA st n (.slice Ar r.length cr)) :: L)->Rd V 1 (.slice Ax l.length cx) l.length (bv l))(S:Held w0 w (blkR g2 207 (undA st n (.slice Ar r.length cr)) :: L))(hsz:a.tmps.size=31)(o1:Sl a 1 (.slice Ax l.length cx))(o2:Sl a 2 (Pq g2 0)):RG1 false 1 Tryz.f142 Q a w fun a' W q'=>(∃ A c,Sl a' 5 (.slice A (r ++ l).length c) ∧ Held w0 W (rowR 5 1 (.slice A (r ++ l).length c) (r ++ l).length (bv (r ++ l)) :: blkR g2 207 (undA st n (.slice Ar r.length cr)) :: L))->q':=by
 intro hend
 refine wp_region_lit ?_
 (conv=>arg 4;whnf)
 unfold Sl at o1 o2
 have c9:w.cell? ⟨g2,9,none⟩=some (.slice Ar r.length cr):=by rw [(S.at_ (l1:=[])).cell];exact undA_rest hs
 have S:=LH S
 have HRr:=LH HRr
 have HRx:=LH HRx
 have Hl:=LH hl
 clear hl hs
 obtain ⟨nr,hnr⟩:∃ nr,r.length=nr:=⟨_,rfl⟩
 obtain ⟨nl,hnl⟩:∃ nl,l.length=nl:=⟨_,rfl⟩
 have Hnr:=LH hnr
 have Hnl:=LH hnl
 rw [hnr] at c9
 rw [hnl] at o1
 clear hnr hnl
 go_wp2_with (at_builtin;first
  |(refine app_new rfl (.const (.slice none 0 0)) (.tmp 7) rfl rfl S.out (.slice Ar nr cr) r (by simp [Act.eval,hsz]) (by rw [<- Hnr.out];exact HRr.out w [] S.out) (by have:=Hl.out;omega) ?_;intro v1 w1 S1;have S1:=LH S1;obtain ⟨A1,c1,hv1,_,_⟩:=ow_form (S1.out.at_ (l1:=[]));subst hv1)
  |(refine app_held [] rfl (.tmp 8) (.tmp 9) rfl (.slice A1 r.length c1) r (by simp [Act.eval,hsz]) S1.out (.slice Ax nl cx) l (by simp [Act.eval,hsz]) (by rw [<- Hnl.out];exact HRx.out w1 [_] S1.out) Hl.out ?_;intro v2 w2 S2;have S2:=LH S2;obtain ⟨A2,c2,hv2,_,_⟩:=ow_form (S2.out.at_ (l1:=[]));subst hv2))
 try simp only [Act.put]
 exact hend _ _ tS (⟨A2,c2,sP0,S2.out⟩)
theorem rtk_r2(A:Option Addr)(n c:Nat)(hsz:a.tmps.size=31)(o5:Sl a 5 (.slice A n c)):RG0 2 Tryz.f142 Q a w fun a' q'=>Sl a' 13 (.bool (decide (64<=n)))->q':=rO
theorem rtk_r4(A A1:Option Addr)(n m c c1:Nat)(hr:∀ w,(Instr.sliceAt 32 (.slice A n c) (some (.int .i64 (64:Int))) none none).run Tryz.prog w=.ok (.slice A1 m c1) w)(hsz:a.tmps.size=31)(o5:Sl a 5 (.slice A n c)):RG0 4 Tryz.f142 Q a w fun a' q'=>Sl a' 5 (.slice A1 m c1)->q':=rO
theorem rtk_r5(w0:World)(g2 n k c:Nat)(A:Option Addr)(st:List Nat)(v:Value)(hs:st.length=8)(hn:n+k < 9223372036854775808)(L:List Res)(S:Held w0 w (blkR g2 207 (undA st n v) :: L))(hsz:a.tmps.size=31)(o1:Sl a 1 (.slice A k c))(o2:Sl a 2 (Pq g2 0)):RG1 false 5 Tryz.f142 Q a w fun a' W q'=>(Held w0 W (blkR g2 207 (undA st (n+k) v) :: L))->q':=by
 intro hend
 refine wp_region_lit ?_
 (conv=>arg 4;whnf)
 unfold Sl at o1 o2
 have c1:w.cell? ⟨g2,8,none⟩=some (.int .i64 (n:Int)):=by rw [(S.at_ (l1:=[])).cell];exact undA_len hs
 have c2:=(S.at_ (l1:=[])).frozen 8
 have S2:Hid (Held w0 (w.setCell ⟨g2,8,none⟩ (Nq (n+k))) _):=LH (S.set (l1:=[]) 8 (Nq (n+k)))
 rw [undA_setLen hs] at S2
 have hw:=LH (show wrap64 ((n:Int)+(k:Int))=((n+k:Nat):Int) from by unfold wrap64;omega)
 clear S hs hn
 go_wp2
 rw [hw.out]
 try simp only [Act.put]
 exact hend _ _ tS (S2.out)
theorem rtk_r6(w0:World)(g2 n m c:Nat)(A:Option Addr)(st:List Nat)(v:Value)(hs:st.length=8)(L:List Res)(S:Held w0 w (blkR g2 207 (undA st n v) :: L))(hsz:a.tmps.size=31)(o2:Sl a 2 (Pq g2 0))(o5:Sl a 5 (.slice A m c)):RG1 false 6 Tryz.f142 Q a w fun a' W q'=>(Held w0 W (blkR g2 207 (undA st n (.slice A m c)) :: L))->q':=by
 intro hend
 refine wp_region_lit ?_
 (conv=>arg 4;whnf)
 unfold Sl at o2 o5
 have c1:w.cell? ⟨g2,9,none⟩=some v:=by rw [(S.at_ (l1:=[])).cell];exact undA_rest hs
 have c2:=(S.at_ (l1:=[])).frozen 9
 have S2:Hid (Held w0 (w.setCell ⟨g2,9,none⟩ (.slice A m c)) _):=LH (S.set (l1:=[]) 9 (.slice A m c))
 rw [undA_setRest hs] at S2
 clear S hs
 go_wp2
 try simp only [Act.put]
 exact hend _ _ tS (S2.out)
theorem rtk_r7(w0:World)(g2 g4 n m c:Nat)(A:Option Addr)(st:List Nat)(hs:st.length=8)(L1 L2:List Res)(S:Held w0 w (blkR g2 207 (undA st n (.slice A m c)) :: (L1 ++ blkR g4 207 (undA (List.replicate 8 0) 0 (.slice none 0 0)) :: L2)))(hsz:a.tmps.size=31)(o2:Sl a 2 (Pq g2 0))(o4:Sl a 4 (Pq g4 0)):RG1 false 7 Tryz.f142 Q a w fun a' W q'=>(Held w0 W (blkR g2 207 (undA st n (.slice A m c)) :: (L1 ++ blkR g4 207 (undA st n (.slice A m c)) :: L2)))->q':=by
 intro hend
 refine wp_region_lit ?_
 (conv=>arg 4;whnf)
 unfold Sl at o2 o4
 have S:=LH S
 have hz:=LH (undA_size (n:=n) (v:=.slice A m c) hs)
 have hO:=LH (undA_one (st:=st) (n:=n) (v:=.slice A m c) rfl)
 obtain ⟨ch,hch⟩:∃ ch,Hid (undA st n (.slice A m c)=ch):=⟨_,LH rfl⟩
 rw [hch.out] at S hz hO
 clear hs
 go_wp2_with (first
  |(refine wpList_load_blk rfl 207 (.tmp 2) rfl g2 (aO o2) 207 _ (S.out.at_ (l1:=[])) _ Tryz.underlying207 rfl (by rw [hz.out];exact Tryz.infoUnder) ?_)
  |(refine wpList_store_blk rfl 207 (.tmp 4) (.tmp 30) rfl g4 (aO o4) ch aE 207 _ (S.out.at_ (l1:=_ :: L1)) (by rw [hz.out];exact Tryz.infoUnder) (by rw [hz.out];rfl) hO.out ?_;intro w7 b7 k7;have S7:=LH (Held.setBlk (l1:=_ :: L1) S.out b7 k7);clear b7 k7))
 rw [<- hch.out] at S7
 try simp only [Act.put]
 exact hend _ _ tS (S7.out)
theorem rtk_r3(w0:World)(g2 n m c c1:Nat)(A A1:Option Addr)(st:List Nat)(v:Value)(b:Bs)(hs:st.length=8)(hst:Ws st)(hb:b.length=64)(hr:∀ w,(Instr.sliceAt 32 (.slice A m c) none (some (.int .i64 (64:Int))) none).run Tryz.prog w=.ok (.slice A1 64 c1) w)(L:List Res)(r0:Res)(hr0:r0 ∈ L)(HB:∀ V,r0.ok V->Rd V 1 (.slice A1 64 c1) 64 (bv b))(hsz:a.tmps.size=31)(o2:Sl a 2 (Pq g2 0))(o5:Sl a 5 (.slice A m c))
 (S0:Held w0 w (blkR g2 207 (undA st n v) :: L)):RG1 true 3 Tryz.f142 Q a w fun a' W q'=>Held w0 W (blkR g2 207 (undA (blkF st b) n v) :: L)->q':=by
 intro hend
 have hap:=pa 3 Tryz.f142
 refine wp_region_sep (Γ:=Unit) (l:=(opsOf 3 Tryz.f142)) 3 [0,1,2,3,4,5,6,7,9]
  (fun i vs gs=>match i with|0=>vs 0=Pq g2 0|1=>vs 1=.agg (u32A st)|2=>vs 2=.slice A m c|3=>vs 3=.slice A1 64 c1|4=>vs 4=.agg (u32A (blkF st b))|5=>vs 5=Pq g2 0|_=>True)
  (fun i vs gs=>match i with|6=>[blkR g2 207 (undA (blkF st b) n v)]|8=>[blkR g2 207 (undA st n v)]|9=>L|_=>[])
  (fun i=>match i with|6=>[8]|_=>[]) (fun i=>match i with|1=>[8]|4=>[8,9]|_=>[]) S0 (by kernel_rfl) hap (by kernel_rfl) (by kernel_rfl) (fun i=>match i with|0=>[0]|1=>[1]|2=>[2]|3=>[3]|4=>[4]|5=>[5]|_=>[]) (by kernel_rfl) ?_ (by kernel_rfl) ?_ ?_ ?_
 . intro s vs vs' gs gs' h
   iterate 10 (rcases s with _|s;· (first|exact ⟨rfl,id⟩|(simp only [List.mem_cons,List.not_mem_nil,or_false,forall_eq] at h;simp [h])))
   exact ⟨rfl,id⟩
 . simp only [List.range,List.range.loop,List.flatMap_cons,List.flatMap_nil,List.append_nil]
   exact List.Perm.refl _
 . clear S0 hend
   and_intros <;> try intro vs gs A' W LF hA S hR hd hu K hK
   . exact qa1 (eO 2 o2)
   . exact ldA (u32A st) (vD 14 0) (und_stateAt (show Blk W g2 207 (undA st n v) from S.ok (blkR g2 207 (undA st n v)) (hR 8 (List.mem_singleton.2 rfl) _ (List.mem_singleton.2 rfl))) hs) Tryz.underlying205 (by rw [u32A_size,hs];exact Tryz.info8w)
   . exact qa1 (eO 5 o5)
   . have hr:=hr W
     exact qa1 (vD 16 2)
   . replace hK:=hK default;have e15:=vD 15 1;have e17:=vD 17 3;clear hA o2 o5;generalize hca:u32A st=ca at *
     go_step
     rw [<- hca]
     refine (rblock_any st hst hs b hb _ _ (HB W (S.ok r0 (hR 9 (List.mem_cons_of_mem _ (List.mem_singleton.2 rfl)) r0 hr0)))).mono ?_
     rintro e w' ⟨rfl,kq⟩
     exact hK _ _ (S.kp kq) rfl
   . exact qa1 (eO 2 o2)
   . replace hK:=hK default;have e19:=vD 19 5;have e18:=vD 18 4;clear hA o2 o5
     have S1:Held w0 W (blkR g2 207 (undA st n v) :: LF):=S
     refine op_store_part (.tmp 19) (.tmp 18) 205 rfl g2 0 (by simpa [Act.eval] using e19) (u32A (blkF st b)) (by simpa [Act.eval] using e18) 207 _ (S1.at_ (l1:=[])) (by rw [u32A_size,blkF_length,hs];exact Tryz.info8w) (by rw [u32A_size,blkF_length,hs,undA_size hs];omega) (u32A_one _) (fun w' hbk k=>hK undef _ ?_ trivial)
     rw [undA_state hs _ ((blkF_length _ _).trans hs)] at hbk
     exact Held.setBlk (l1:=[]) S1 hbk k
   . trivial
 . intro vs gs W S hp
   have S:Held w0 W (blkR g2 207 (undA (blkF st b) n v) :: L):=by simpa only [List.flatMap_cons,List.flatMap_nil,List.append_nil,List.nil_append,List.cons_append,List.append_assoc] using S
   rw [putAll_eq]
   exact hend _ W sQ  S
def dsTkR:List Nat:=[5,11,12,13,14,15,16,17,18,19,20,21]
def TkPost (w0:World) (L:List Res) (st:List Nat) (n:Nat) (a:Bs) (k:Nat) (e:Ending) (w':World):Prop:=
 ∃ A c v,e=.returned (.agg (undA (fB st a (a.length / 64)) (n+k) (.slice A (a.length % 64) c))) ∧ Held w0 w' (rowR 5 1 v a.length (bv a) :: L) ∧ ∀ V,(rowR 5 1 v a.length (bv a)).ok V->Rd V 1 (.slice A (a.length % 64) c) (a.length % 64) (bv (a.drop (64 * (a.length / 64))))
theorem rtake_any(w0:World)(L:List Res)(st:List Nat)(n:Nat)(hs:st.length=8)(hst:Ws st)(Ar Ax:Option Addr)(cr cx:Nat)(r l:Bs)(hl:r.length+l.length<=140737488355328)(hn:n+l.length < 9223372036854775808)(w:World)(S:Held w0 w L)
 (HRr:∀ V L',Held w0 V (L' ++ L)->Rd V 1 (.slice Ar r.length cr) r.length (bv r)) (HRx:∀ V L',Held w0 V (L' ++ L)->Rd V 1 (.slice Ax l.length cx) l.length (bv l)):
 Calls Tryz.prog 142 #[.agg (undA st n (.slice Ar r.length cr)),.slice Ax l.length cx] w (TkPost w0 L st n (r ++ l) l.length):=by
 refine calls_fr Tryz.func142 rfl 31 rfl (fun a0 hsz hdf hAr=>?_)
 have hz0:a0.tmps.size=31:=hsz
 have D:=hdf
 have o0:=hAr 0 _ rfl
 have o1:=hAr 1 _ rfl
 refine wp_seq (rtk_r0 w0 st n (.slice Ar r.length cr) hs rfl _ S hz0 o0 (fun a1 w1 hs1 h=>?_))
 obtain ⟨hz1,D,o1⟩:=kq1 hs1 hz0 D o1
 obtain ⟨g2,g4,o2,o4,S⟩:=h
 have S:=S.perm (List.Perm.swap _ _ _)
 refine wp_seq (rtk_r1 w0 g2 n st hs Ar Ax cr cx r l hl (blkR g4 207 (undA (List.replicate 8 0) 0 (.slice none 0 0)) :: L) (fun V L' SV=>HRr V (L' ++ [_,_]) (by rw [List.append_assoc];exact SV)) (fun V L' SV=>HRx V (L' ++ [_,_]) (by rw [List.append_assoc];exact SV)) S hz1 o1 o2 (fun a2 w2 hs2 h=>?_))
 obtain ⟨hz2,D,o1,o2,o4⟩:=kq3 hs2 hz1 D o1 o2 o4
 obtain ⟨A0,c0,o5,S⟩:=h
 have S:=S.perm (List.Perm.swap _ _ _)
 obtain ⟨al,hal⟩:∃ al,r ++ l=al:=⟨_,rfl⟩
 rw [hal] at S o5 ⊢
 obtain ⟨N,hN⟩:∃ N,al.length=N:=⟨_,rfl⟩
 obtain ⟨row,hrow⟩:∃ row,rowR 5 1 (.slice A0 al.length c0) al.length (bv al)=row:=⟨_,rfl⟩
 have hR0:∀ V,row.ok V->Rd V 1 (.slice A0 al.length c0) al.length (bv al):=fun V h=>by rw [<- hrow] at h;exact Rd.of_own h
 rw [hrow] at S
 refine wp_seq (wp_block ?_)
 (conv=>arg 2;whnf)
 refine wp_loop (fun a' w'=>∃ (q:Nat) (A:Option Addr) (c m:Nat),64 * q+m=al.length ∧ Same a2 a' dsTkR ∧ Sl a' 5 (.slice A m c) ∧ (∀ V,row.ok V->Rd V 1 (.slice A m c) m (bv (al.drop (64 * q)))) ∧ Held w0 w' (blkR g2 207 (undA (fB st al q) n (.slice Ar r.length cr)) :: row :: blkR g4 207 (undA (List.replicate 8 0) 0 (.slice none 0 0)) :: L)) (fun a' _=>lenV (a'.eval (.tmp 5))) ⟨0,A0,c0,al.length,by omega,Same.refl _ _,o5,fun V h=>hR0 V h,S⟩ ?_
 clear o5 S hR0
 rintro a1 w3 ⟨q,A,c,m,hm,T,o5,HB,S⟩
 have hz1:=T.size.trans hz2
 have o1:=T.keep 1 _ (by decide) o1
 have o2:=T.keep 2 _ (by decide) o2
 have o4:=T.keep 4 _ (by decide) o4
 have eCtr:=o5.eval (by rw [hz1];decide)
 refine wp_seq (wp_seq (rtk_r2 A m c hz1 o5 (fun a2 hs2 o13=>?_)))
 obtain ⟨hz2,-,o1,o2,o4,o5⟩:=kq4 hs2 hz1 rfl o1 o2 o4 o5
 have T:=T.trans hs2
 by_cases hlt:64<=m
 . refine wcT o13 (wp_skip ?_) (by rw [decide_eq_true hlt])
   have hrow0:row ∈ (row :: blkR g4 207 (undA (List.replicate 8 0) 0 (.slice none 0 0)) :: L):=List.mem_cons_self ..
   obtain ⟨hlm,A',c',he,hmc,-⟩:=HB w3 (S.ok row (List.mem_cons_of_mem _ hrow0))
   cases he
   have hdl:(al.drop (64 * q)).length=m:=by rw [List.length_drop];omega
   obtain ⟨A1,c1,run1,rd1,-⟩:=cut_hi A m c 64 64 rfl hlt hmc
   obtain ⟨A2,c2,run2,rd2,-⟩:=cut_lo A m c 64 (m - 64) 64 rfl (by omega)
   have hs':=fB_length hs al q
   have hb64:((al.drop (64 * q)).take 64).length=64:=by rw [List.length_take];omega
   refine wp_block ?_
   refine wp_seq (rtk_r3 w0 g2 n m c c1 A A1 (fB st al q) (.slice Ar r.length cr) ((al.drop (64 * q)).take 64) hs' (fB_lt hst al q) hb64 run1 _ row hrow0 (fun V hV=>by have:=rd1 V _ (HB V hV);simpa using this) hz2 o2 o5 S (fun a3 w4 hs3 S=>?_))
   obtain ⟨hz3,-,o1,o2,o4,o5,o13⟩:=kq5 hs3 hz2 rfl o1 o2 o4 o5 o13
   have T:=T.trans hs3
   refine rtk_r4 A A2 m (m - 64) c c2 run2 hz3 o5 (fun a4 hs4 o5=>?_)
   obtain ⟨hz4,-,o1,o2,o4,o13⟩:=kq4 hs4 hz3 rfl o1 o2 o4 o13
   have T:=T.trans hs4
   refine ⟨⟨q+1,A2,c2,m - 64,by omega,T.more (by decide +kernel),o5,fun V hV=>?_,S⟩,?_⟩
   . have:=rd2 V _ (HB V hV)
     rw [List.drop_drop,List.take_of_length_le (by rw [List.length_drop];omega)] at this
     rw [show 64 * (q+1)=64 * q+64 from by omega]
     exact this
   . show lenV _ < lenV _
     rw [eCtr,o5.eval (by rw [hz4];decide)]
     show m - 64 < m
     omega
 . refine wcF o13 (wp_exit ?_) (by rw [decide_eq_false hlt])
   have D2:=T.defers.trans D
   have hq:q=al.length / 64:=by omega
   have hmm:m=al.length % 64:=by omega
   have hs':=fB_length hs al q
   refine wp_seq (rtk_r5 w0 g2 n l.length cx Ax _ _ hs' hn _ S hz2 o1 o2 (fun a3 w5 hs3 S=>?_))
   obtain ⟨hz3,-,o1,o2,o4,o5⟩:=kq4 hs3 hz2 rfl o1 o2 o4 o5
   have D2:=hs3.defers.trans D2
   refine wp_seq (rtk_r6 w0 g2 _ m c A _ _ hs' _ S hz3 o2 o5 (fun a4 w6 hs4 S=>?_))
   obtain ⟨hz4,-,o1,o2,o4,o5⟩:=kq4 hs4 hz3 rfl o1 o2 o4 o5
   have D2:=hs4.defers.trans D2
   refine wp_seq (rtk_r7 w0 g2 g4 _ m c A _ hs' [_] _ S hz4 o2 o4 (fun a5 w7 hs5 S=>?_))
   obtain ⟨hz5,-,o1,o2,o4,o5⟩:=kq4 hs5 hz4 rfl o1 o2 o4 o5
   have D2:=hs5.defers.trans D2
   refine wp_ret (bodyPost_ret (results_cell1 (by rfl) (o4.eval (by rw [hz5];decide)) (S.at_ (l1:=[_,_])) Tryz.underlying207 rfl (by rw [undA_size hs'];exact Tryz.infoUnder)) D2 ?_)
   subst hq hmm
   refine ⟨A,c,_,rfl,?_,fun V hV=>HB V (by rw [<- hrow];exact hV)⟩
   have S:=S.drop.dropAt (l1:=[_])
   rw [<- hrow] at S
   exact S
end
section
variable {Q:Exit->Act->World->Prop} {a:Act} {w:World}
open Go.RowKit
theorem ren_r0(w0:World)(st:List Nat)(n:Nat)(v:Value)(L:List Res)(S:Held w0 w L)(hsz:a.tmps.size=35)(o0:Sl a 0 (.agg (undA st n v))):RG1 false 0 Tryz.f143 Q a w fun a' W q'=>(∃ g1 g2,Sl a' 1 (Pq g1 0) ∧ Sl a' 2 (Pq g2 0) ∧ Held w0 W (blkR g2 23 (hashA (List.replicate 32 0)) :: blkR g1 207 (undA st n v) :: L))->q':=by
 intro hend
 refine wp_region_lit ?_
 (conv=>arg 4;whnf)
 unfold Sl at o0
 have S0:=LH ((S.newBlk 207 (undA st n v)).newBlk 23 (hashA (List.replicate 32 0)))
 simp only [World.size_alloc] at S0
 generalize hca:undA st n v=ca at *
 go_wp2
 try simp only [Act.put]
 exact hend _ _ tS (⟨w.heap.size,w.heap.size+1,sP0,sP0,S0.out⟩)
theorem ren_r1(g n:Nat)(cs:Array Value)(hc:cs[8]?=some (.int .i64 (n:Int)))(hb:Blk w g 207 cs)(hn:n < 1152921504606846976)(hsz:a.tmps.size=35)(o1:Sl a 1 (Pq g 0)):RG0 1 Tryz.f143 Q a w fun a' q'=>Sl a' 3 (.int .u64 ((8 * n:Nat):Int))->q':=by
 intro hend
 refine wp_region_lit ?_
 (conv=>arg 4;whnf)
 unfold Sl at o1
 have c1:w.cell? ⟨g,8,none⟩=some (.int .i64 (n:Int)):=by rw [hb.cell];exact hc
 have hw:=LH (show ((n:Int) * 8) % 18446744073709551616=((8 * n:Nat):Int) from by omega)
 have hn:=LH hn
 clear hb hc
 go_wp2
 first|rw [hw.out]|skip
 try simp only [Act.put]
 exact hend _ tS sP
theorem ren_r2(w0:World)(L:List Res)(S:Held w0 w L)(hsz:a.tmps.size=35):RG1 false 2 Tryz.f143 Q a w fun a' W q'=>(∃ A c,Sl a' 4 (.slice A 1 c) ∧ Held w0 W (rowR 5 1 (.slice A 1 c) 1 (bv [128]) :: L))->q':=by
 intro hend
 refine wp_region_lit ?_
 (conv=>arg 4;whnf)
 have S1:=LH (S.rownew (ow_new w 5 1 1 #[.int .u8 128] rfl (by decide)) ((Kp.refl [] w).alloc _) (fun g hg=>Nat.le_of_eq (Option.some.inj hg)))
 go_wp2
 try simp only [Act.put]
 exact hend _ _ tS (⟨_,_,sP0,S1.out⟩)
theorem ren_r3(g m p cm cp:Nat)(Am Ap:Option Addr)(cs:Array Value)(hc:cs[9]?=some (.slice Am m cm))(hb:Blk w g 207 cs)(hm:m < 1000)(hp:p < 1000)(hsz:a.tmps.size=35)(o1:Sl a 1 (Pq g 0))(o4:Sl a 4 (.slice Ap p cp)):RG0 3 Tryz.f143 Q a w fun a' q'=>Sl a' 19 (.bool ((((m+p+8) % 64:Nat):Int) != 0))->q':=by
 intro hend
 refine wp_region_lit ?_
 (conv=>arg 4;whnf)
 unfold Sl at o1 o4
 have c1:w.cell? ⟨g,9,none⟩=some (.slice Am m cm):=by rw [hb.cell];exact hc
 have hw1:wrap64 ((m:Int)+(p:Int))=(m:Int)+(p:Int):=by unfold wrap64;omega
 have hw2:wrap64 ((m:Int)+(p:Int)+8)=((m+p+8:Nat):Int):=by unfold wrap64;omega
 have ht:Int.tmod ((m+p+8:Nat):Int) 64=(((m+p+8) % 64:Nat):Int):=rfl
 obtain ⟨q,hq⟩:∃ q,(m+p+8) % 64=q:=⟨_,rfl⟩
 rw [hq] at ht hend
 obtain ⟨s,hs⟩:∃ s,m+p+8=s:=⟨_,rfl⟩
 rw [hs] at ht hw2
 clear hb hc hq hs hm hp
 go_wp2_with fail
 try simp only [Act.put]
 exact hend _ tS sP
theorem ren_r4(w0:World)(A:Option Addr)(c:Nat)(xs:Bs)(hx:xs.length<=1000)(L:List Res)(S:Held w0 w (rowR 5 1 (.slice A xs.length c) xs.length (bv xs) :: L))(hsz:a.tmps.size=35)(o4:Sl a 4 (.slice A xs.length c)):RG1 false 4 Tryz.f143 Q a w fun a' W q'=>(∃ A c,Sl a' 4 (.slice A (xs ++ [0]).length c) ∧ Held w0 W (rowR 5 1 (.slice A (xs ++ [0]).length c) (xs ++ [0]).length (bv (xs ++ [0])) :: L))->q':=by
 intro hend
 refine wp_region_lit ?_
 (conv=>arg 4;whnf)
 unfold Sl at o4
 have S1:=LH (S.alloc (.cells #[.int .u8 0] 5))
 have HR:=LH (rd_lit w 5 #[.int .u8 0] [0] rfl (by simp))
 have Hx:=LH hx
 clear S hx
 obtain ⟨nx,hnx⟩:∃ nx,xs.length=nx:=⟨_,rfl⟩
 have Hnx:=LH hnx
 rw [hnx] at o4
 clear hnx
 go_wp2_with (at_builtin;refine app_held [] rfl (.tmp 20) (.tmp 21) rfl (.slice A nx c) xs (by simp [Act.eval,hsz]) (by rw [<- Hnx.out];exact S1.out) (.slice (some ⟨w.heap.size,0,none⟩) 1 1) [0] (by simp [Act.eval,hsz]) HR.out (by have:=Hx.out;simp;omega) ?_;intro v2 w2 S2;have S2:=LH S2;obtain ⟨A2,c2,hv2,_,_⟩:=ow_form (S2.out.at_ (l1:=[]));subst hv2)
 try simp only [Act.put]
 exact hend _ _ tS (⟨A2,c2,sP0,S2.out⟩)
theorem ren_r5(w0:World)(g1 n N cx cr:Nat)(Ax Ar:Option Addr)(st:List Nat)(xs r:Bs)(v:Value)(hv:v=.slice Ar r.length cr)(hs:st.length=8)(hst:Ws st)(hx:xs.length<=1000)(hr1:r.length<=1000)(hn:n < 1152921504606846976)(L:List Res)(r0:Res)(hr0:r0 ∈ L)(HB:∀ V,r0.ok V->Rd V 1 v r.length (bv r))(hsz:a.tmps.size=35)(o1:Sl a 1 (Pq g1 0))(o3:Sl a 3 (.int .u64 (N:Int)))(o4:Sl a 4 (.slice Ax xs.length cx))
 (S0:Held w0 w (rowR 5 1 (.slice Ax xs.length cx) xs.length (bv xs) :: blkR g1 207 (undA st n v) :: L))
 (hend:∀ (a':Act) (vs:Nat->Value) (gs:Nat->(Option Addr × Nat × Value)) (W:World),Same a a' [23,24,25,26,27,28]->Held w0 W (rowR 5 1 (vs 3) 8 (bv (be 8 N)) :: rowR 5 1 (vs 4) (xs ++ be 8 N).length (bv (xs ++ be 8 N)) :: rowR 5 1 (gs 5).2.2 (r ++ (xs ++ be 8 N)).length (bv (r ++ (xs ++ be 8 N))) :: blkR g1 207 (undA (fB st (r ++ (xs ++ be 8 N)) ((r ++ (xs ++ be 8 N)).length / 64)) (n+(xs ++ be 8 N).length) (.slice (gs 5).1 ((r ++ (xs ++ be 8 N)).length % 64) (gs 5).2.1)) :: L)->Q .normal a' W):(Code.region 5 (opsOf 5 Tryz.f143).toArray true).wp Tryz.prog Q a w:=by
 have hap:=pa 5 Tryz.f143
 refine wp_region_sep (Γ:=(Option Addr × Nat × Value)) (l:=(opsOf 5 Tryz.f143)) 3 [0,1,2,3,4,5,6,9]
  (fun i vs gs=>match i with|0=>vs 0=.agg (undA st n v)|1=>vs 1=.slice Ax xs.length cx|2=>vs 2=.int .u64 (N:Int)|3=>∃ A c,vs 3=.slice A 8 c|4=>∃ A c,vs 4=.slice A (xs ++ be 8 N).length c|5=>vs 5=.agg (undA (fB st (r ++ (xs ++ be 8 N)) ((r ++ (xs ++ be 8 N)).length / 64)) (n+(xs ++ be 8 N).length) (.slice (gs 5).1 ((r ++ (xs ++ be 8 N)).length % 64) (gs 5).2.1))|_=>True)
  (fun i vs gs=>match i with|3=>[rowR 5 1 (vs 3) 8 (bv (be 8 N))]|4=>[rowR 5 1 (vs 4) (xs ++ be 8 N).length (bv (xs ++ be 8 N))]|5=>[rowR 5 1 (gs 5).2.2 (r ++ (xs ++ be 8 N)).length (bv (r ++ (xs ++ be 8 N)))]|6=>[blkR g1 207 (undA (fB st (r ++ (xs ++ be 8 N)) ((r ++ (xs ++ be 8 N)).length / 64)) (n+(xs ++ be 8 N).length) (.slice (gs 5).1 ((r ++ (xs ++ be 8 N)).length % 64) (gs 5).2.1))]|7=>[rowR 5 1 (.slice Ax xs.length cx) xs.length (bv xs)]|8=>[blkR g1 207 (undA st n v)]|9=>L|_=>[])
  (fun i=>match i with|4=>[7]|6=>[8]|_=>[]) (fun i=>match i with|0=>[8]|4=>[3]|5=>[4,9]|_=>[]) S0 (by kernel_rfl) hap (by kernel_rfl) (by kernel_rfl) (fun i=>match i with|0=>[0]|1=>[1]|2=>[2]|3=>[3]|4=>[4]|5=>[5]|6=>[5]|_=>[]) (by kernel_rfl) ?_ (by kernel_rfl) ?_ ?_ ?_
 . intro s vs vs' gs gs' h
   iterate 10 (rcases s with _|s;· (first|exact ⟨rfl,id⟩|(simp only [List.mem_cons,List.not_mem_nil,or_false,forall_eq] at h;simp [h])))
   exact ⟨rfl,id⟩
 . simp only [List.range,List.range.loop,List.flatMap_cons,List.flatMap_nil,List.append_nil]
   exact List.Perm.refl _
 . clear S0 hend
   and_intros <;> try intro vs gs A' W LF hA S hR hd hu K hK
   . exact ldA (undA st n v) (eO 1 o1) (Blk.agg (show Blk W g1 207 (undA st n v) from S.ok (blkR g1 207 (undA st n v)) (hR 8 (List.mem_singleton.2 rfl) _ (List.mem_singleton.2 rfl)))) Tryz.underlying207 (by rw [undA_size hs];exact Tryz.infoUnder)
   . exact qa1 (eO 4 o4)
   . exact qa1 (eO 3 o3)
   . replace hK:=hK default;have e25:=vD 25 2;clear hA o1 o3 o4;go_step
     refine (reight_any w0 LF N _ S).mono ?_
     rintro e w' ⟨u,rfl,S2⟩
     obtain ⟨A1,c1,hu,_,_⟩:=ow_form (S2.at_ (l1:=[]))
     exact hK _ _ S2 ⟨A1,c1,hu⟩
   . replace hK:=hK default;have e24:=vD 24 1
     have f3:∃ A c,vs 3=.slice A 8 c:=hd 3 (by kernel_rfl);have e26:=eU 26 3;clear hA o1 o3 o4;have h3:=rd_of_row (e:=5) S (List.mem_cons_of_mem _ (hR 3 (List.mem_singleton.2 rfl) _ (List.mem_singleton.2 rfl)))
     refine op_app (.tmp 24) (.tmp 26) 32 5 rfl Tryz.infoU8 Tryz.underlying32 rfl (by decide) (.slice Ax xs.length cx) xs.length (bv xs) (by simpa [Act.eval] using e24) S (vs 3) 8 (bv (be 8 N)) (by simpa [Act.eval] using e26) h3 (bv_one _) (by unfold maxLen;omega) (by omega) (fun v' w' S'=>?_)
     rw [<- bv_append,show xs.length+8=(xs ++ be 8 N).length from by simp] at S'
     obtain ⟨A1,c1,hu,_,_⟩:=ow_form (S'.at_ (l1:=[]))
     exact hK v' w' S' ⟨A1,c1,hu⟩
   . have e23:=vD 23 0
     have f4:∃ A c,vs 4=.slice A (xs ++ be 8 N).length c:=hd 4 (by kernel_rfl);have e27:=eU 27 4;clear hA o1 o3 o4
     obtain ⟨A1,c1,hq⟩:=f4
     rw [hq] at e27
     have h4:rowR 5 1 (vs 4) (xs ++ be 8 N).length (bv (xs ++ be 8 N)) ∈ LF:=hR 4 (List.mem_cons_self ..) _ (List.mem_singleton.2 rfl)
     have h9:r0 ∈ LF:=hR 9 (List.mem_cons_of_mem _ (List.mem_singleton.2 rfl)) r0 hr0
     rw [hq] at h4
     have HT:=rtake_any w0 LF st n hs hst Ar A1 cr c1 r (xs ++ be 8 N) (by simp;omega) (by simp;omega) W S (fun V L' SV=>by have:=HB V (SV.ok r0 (List.mem_append_right _ h9));rw [hv] at this;exact this) (fun V L' SV=>Rd.of_own (SV.ok _ (List.mem_append_right _ h4)))
     rw [<- hv] at HT
     generalize hca:undA st n v=ca at *
     generalize hln:(xs ++ be 8 N).length=ln at *
     go_step;refine HT.mono ?_
     rintro e w' ⟨A2,c2,u,rfl,S2,H2⟩
     subst hln
     exact hK (A2,c2,u) _ _ S2 rfl
   . have e1:=eO 1 o1;have e28:=vD 28 5;clear hA o1 o3 o4
     have S1:Held w0 W (blkR g1 207 (undA st n v) :: LF):=S
     have hsz2:(undA (fB st (r ++ (xs ++ be 8 N)) ((r ++ (xs ++ be 8 N)).length / 64)) (n+(xs ++ be 8 N).length) (.slice (gs 5).1 ((r ++ (xs ++ be 8 N)).length % 64) (gs 5).2.1)).size=10:=undA_size (fB_length hs _ _)
     refine op_store_part (.tmp 1) (.tmp 28) 207 rfl g1 0 (by simpa [Act.eval] using e1) (undA (fB st (r ++ (xs ++ be 8 N)) ((r ++ (xs ++ be 8 N)).length / 64)) (n+(xs ++ be 8 N).length) (.slice (gs 5).1 ((r ++ (xs ++ be 8 N)).length % 64) (gs 5).2.1)) (by simpa [Act.eval] using e28) 207 _ (S1.at_ (l1:=[])) (by rw [hsz2];exact Tryz.infoUnder) (by rw [hsz2,undA_size hs];exact Nat.le_refl _) (undA_one rfl) (fun w' hbk k=>hK default undef _ ?_ trivial)
     rw [set_all _ _ (by rw [hsz2,undA_size hs])] at hbk
     exact Held.setBlk (l1:=[]) S1 hbk k
   . trivial
 . intro vs gs W S hp
   have S:Held w0 W (rowR 5 1 (vs 3) 8 (bv (be 8 N)) :: rowR 5 1 (vs 4) (xs ++ be 8 N).length (bv (xs ++ be 8 N)) :: rowR 5 1 (gs 5).2.2 (r ++ (xs ++ be 8 N)).length (bv (r ++ (xs ++ be 8 N))) :: blkR g1 207 (undA (fB st (r ++ (xs ++ be 8 N)) ((r ++ (xs ++ be 8 N)).length / 64)) (n+(xs ++ be 8 N).length) (.slice (gs 5).1 ((r ++ (xs ++ be 8 N)).length % 64) (gs 5).2.1)) :: L):=by simpa only [List.flatMap_cons,List.flatMap_nil,List.append_nil,List.nil_append,List.cons_append,List.append_assoc] using S
   rw [putAll_eq]
   exact hend _ vs gs W sQ  S
theorem ren_r6(w0:World)(L:List Res)(S:Held w0 w L)(hsz:a.tmps.size=35):RG1 false 6 Tryz.f143 Q a w fun a' W q'=>(∃ g,Sl a' 5 (Pq g 0) ∧ Held w0 W (blkR g 23 (hashA (List.replicate 32 0)) :: L))->q':=by
 intro hend
 refine wp_region_lit ?_
 (conv=>arg 4;whnf)
 have S0:=LH (S.newBlk 23 (hashA (List.replicate 32 0)))
 go_wp2
 try simp only [Act.put]
 exact hend _ _ tS (⟨w.heap.size,sP0,S0.out⟩)
theorem ren_r7(w0:World)(g1 g5 n:Nat)(st:List Nat)(v:Value)(hs:st.length=8)(L:List Res)(hsz:a.tmps.size=35)(o1:Sl a 1 (Pq g1 0))(o5:Sl a 5 (Pq g5 0))
 (S0:Held w0 w (blkR g5 23 (hashA (List.replicate 32 0)) :: blkR g1 207 (undA st n v) :: L)):RG2 7 Tryz.f143 Q a w fun a' vs gs W q'=>Held w0 W (rowR 5 1 (vs 3) 32 (bv (st.flatMap (be 4))) :: blkR g5 23 (hashA (st.flatMap (be 4))) :: blkR g1 207 (undA st n v) :: L)->q':=by
 intro hend
 have hap:=pa 7 Tryz.f143
 refine wp_region_sep (Γ:=Unit) (l:=(opsOf 7 Tryz.f143)) 3 [0,1,2,3,4,6,7]
  (fun i vs gs=>match i with|0=>vs 0=.slice (some ⟨g5,0,none⟩) 32 32|1=>vs 1=Pq g1 0|2=>vs 2=.agg (u32A st)|3=>∃ A c,vs 3=.slice A 32 c|_=>True)
  (fun i vs gs=>match i with|3=>[rowR 5 1 (vs 3) 32 (bv (st.flatMap (be 4)))]|4=>[blkR g5 23 (hashA (st.flatMap (be 4)))]|5=>[blkR g5 23 (hashA (List.replicate 32 0))]|6=>[blkR g1 207 (undA st n v)]|7=>L|_=>[])
  (fun i=>match i with|4=>[5]|_=>[]) (fun i=>match i with|2=>[6]|4=>[3]|_=>[]) S0 (by kernel_rfl) hap (by kernel_rfl) (by kernel_rfl) (fun i=>match i with|0=>[0]|1=>[1]|2=>[2]|3=>[3]|_=>[]) (by kernel_rfl) ?_ (by kernel_rfl) ?_ ?_ ?_
 . intro s vs vs' gs gs' h
   iterate 8 (rcases s with _|s;· (first|exact ⟨rfl,id⟩|(simp only [List.mem_cons,List.not_mem_nil,or_false,forall_eq] at h;simp [h])))
   exact ⟨rfl,id⟩
 . simp only [List.range,List.range.loop,List.flatMap_cons,List.flatMap_nil,List.append_nil]
   exact List.Perm.refl _
 . clear S0 hend
   and_intros <;> try intro vs gs A' W LF hA S hR hd hu K hK
   . exact qa1 (eO 5 o5)
   . exact qa1 (eO 1 o1)
   . exact ldA (u32A st) (vD 30 1) (und_stateAt (show Blk W g1 207 (undA st n v) from S.ok (blkR g1 207 (undA st n v)) (hR 6 (List.mem_singleton.2 rfl) _ (List.mem_singleton.2 rfl))) hs) Tryz.underlying205 (by rw [u32A_size,hs];exact Tryz.info8w)
   . replace hK:=hK default;have e31:=vD 31 2;clear hA o1 o5;generalize hca:u32A st=ca at *
     go_step
     rw [<- hca]
     refine (rwords_any w0 LF st hs _ S).mono ?_
     rintro e w' ⟨u,rfl,S2⟩
     obtain ⟨A1,c1,hu,_,_⟩:=ow_form (S2.at_ (l1:=[]))
     exact hK _ _ S2 ⟨A1,c1,hu⟩
   . replace hK:=hK default;have e29:=vD 29 0
     have f3:∃ A c,vs 3=.slice A 32 c:=hd 3 (by kernel_rfl);have e32:=eU 32 3;clear hA o1 o5
     have S1:Held w0 W (blkR g5 23 (hashA (List.replicate 32 0)) :: LF):=S
     have h3:=rd_of_row (e:=5) S1 (List.mem_cons_of_mem _ (hR 3 (List.mem_singleton.2 rfl) _ (List.mem_singleton.2 rfl)))
     have hfl:(st.flatMap (be 4)).length=32:=by rw [flat4,hs]
     refine op_copy_blk (.tmp 29) (.tmp 32) 32 32 rfl 5 Tryz.underlying32 (by kernel_rfl) g5 0 32 32 (by simpa [Act.eval] using e29) _ (by simpa [Act.eval] using e32) 32 (bv (st.flatMap (be 4))) h3 23 _ (S1.at_ (l1:=[])) (by rw [hashA_size];exact Nat.le_refl _) (bv_one _) 32 rfl (fun w' hbk k=>hK _ _ ?_ trivial)
     rw [List.take_of_length_le (by rw [bv_length];omega),show (splice (hashA (List.replicate 32 0)).toList 0 (bv (st.flatMap (be 4)))).toArray=hashA (st.flatMap (be 4)) from by unfold splice;rw [List.take_zero,List.nil_append,List.drop_of_length_le (by rw [bv_length,hfl];exact Nat.le_refl _),List.append_nil];rfl] at hbk
     exact Held.setBlk (l1:=[]) S1 hbk k
   . trivial
 . intro vs gs W S hp
   have S:Held w0 W (rowR 5 1 (vs 3) 32 (bv (st.flatMap (be 4))) :: blkR g5 23 (hashA (st.flatMap (be 4))) :: blkR g1 207 (undA st n v) :: L):=by simpa only [List.flatMap_cons,List.flatMap_nil,List.append_nil,List.nil_append,List.cons_append,List.append_assoc] using S
   rw [putAll_eq]
   exact hend _ vs gs W sQ  S
theorem ren_r8(w0:World)(g5 g2:Nat)(cs c2:Bs)(hl:cs.length=32)(h2:c2.length=32)(L1 L2 L3:List Res)(S:Held w0 w (L1 ++ blkR g5 23 (hashA cs) :: (L2 ++ blkR g2 23 (hashA c2) :: L3)))(hsz:a.tmps.size=35)(o2:Sl a 2 (Pq g2 0))(o5:Sl a 5 (Pq g5 0)):RG1 false 8 Tryz.f143 Q a w fun a' W q'=>(Held w0 W ((L1 ++ blkR g5 23 (hashA cs) :: L2) ++ blkR g2 23 (hashA cs) :: L3))->q':=by
 intro hend
 refine wp_region_lit ?_
 (conv=>arg 4;whnf)
 unfold Sl at o2 o5
 have S:=LH S
 have HL:=LH hl
 have H2:=LH h2
 clear hl h2
 have S':Hid (Held w0 w ((L1 ++ blkR g5 23 (hashA cs) :: L2) ++ blkR g2 23 (hashA c2) :: L3)):=LH (by have:=S.out;simpa [List.append_assoc] using this)
 go_wp2_with (first
  |(refine wpList_load_blk rfl 23 (.tmp 5) rfl g5 (aO o5) 23 _ S.out.at_ _ Tryz.underlying23 rfl (by rw [hashA_size,HL.out];exact Tryz.infoHashP) ?_)
  |(refine wpList_store_blk rfl 23 (.tmp 2) (.tmp 34) rfl g2 (aO o2) (hashA cs) aE 23 _ S'.out.at_ (by rw [hashA_size,HL.out];exact Tryz.infoHashP) (by rw [hashA_size,hashA_size,HL.out,H2.out]) (hashA_one cs) ?_;intro w7 b7 k7;have S7:=LH (Held.setBlk S'.out b7 k7);clear b7 k7))
 try simp only [Act.put]
 exact hend _ _ tS (S7.out)
def dsEn:List Nat:=[4,11,12,13,14,15,16,17,18,19,20,21,22]
def padB (j:Nat):List UInt8:=128 :: List.replicate j 0
theorem padB_length(j:Nat):(padB j).length=1+j:=by unfold padB;simp;omega
theorem padB_next(j:Nat):padB j ++ [0]=padB (j+1):=by unfold padB;rw [List.cons_append,<- List.replicate_succ']
theorem padR(m r j:Nat)(hr:r=m % 64):((r+(1+j)+8) % 64=0) ↔ ((m+1+j) % 64=56):=by omega
theorem rend_any(w0:World)(L:List Res)(m:Bs)(hm:m.length < 1152921504606846976)(A:Option Addr)(c:Nat)(r0:Res)(hr0:r0 ∈ L)(w:World)(S:Held w0 w L)
 (HB:∀ V,r0.ok V->Rd V 1 (.slice A (m.length % 64) c) (m.length % 64) (bv (m.drop (64 * (m.length / 64))))):
 Calls Tryz.prog 143 #[.agg (undA (shaN m (m.length / 64)) m.length (.slice A (m.length % 64) c))] w fun e w'=>e=.returned (.agg (hashA (shaF m))) ∧ Held w0 w' L:=by
 have hs:=shaN_length m (m.length / 64)
 have hst:=shaN_lt m (m.length / 64)
 obtain ⟨rr,hrr⟩:∃ rr,m.drop (64 * (m.length / 64))=rr:=⟨_,rfl⟩
 have hrl:rr.length=m.length % 64:=by rw [<- hrr,List.length_drop];omega
 have hr64:rr.length < 64:=by omega
 rw [hrr,<- hrl] at HB
 rw [<- hrl]
 refine calls_fr Tryz.func143 rfl 35 rfl (fun a0 hsz hdf hAr=>?_)
 have hz0:a0.tmps.size=35:=hsz
 have D:=hdf
 have o0:=hAr 0 _ rfl
 refine wp_seq (ren_r0 w0 _ _ _ _ S hz0 o0 (fun a1 w1 hs1 h=>?_))
 obtain ⟨hz1,D⟩:=kq0 hs1 hz0 D
 obtain ⟨g1,g2,o1,o2,S⟩:=h
 have S:=S.perm (List.Perm.swap _ _ _)
 refine wp_seq (ren_r1 g1 _ _ (undA_len hs) (S.at_ (l1:=[])) hm hz1 o1 (fun a2 hs2 o3=>?_))
 obtain ⟨hz2,D,o1,o2⟩:=kq2 hs2 hz1 D o1 o2
 refine wp_seq (ren_r2 w0 _ S hz2 (fun a3 w3 hs3 h=>?_))
 obtain ⟨hz3,D,o1,o2,o3⟩:=kq3 hs3 hz2 D o1 o2 o3
 obtain ⟨Ap,cp,o4,S⟩:=h
 refine wp_seq (wp_block ?_)
 (conv=>arg 2;whnf)
 refine wp_loop (fun a' w'=>∃ (j:Nat) (Ap:Option Addr) (cp:Nat),j<=padZ m.length ∧ Same a3 a' dsEn ∧ Sl a' 4 (.slice Ap (padB j).length cp) ∧ Held w0 w' (rowR 5 1 (.slice Ap (padB j).length cp) (padB j).length (bv (padB j)) :: blkR g1 207 (undA (shaN m (m.length / 64)) m.length (.slice A rr.length c)) :: blkR g2 23 (hashA (List.replicate 32 0)) :: L)) (fun a' _=>65 - lenV (a'.eval (.tmp 4))) ⟨0,Ap,cp,by omega,Same.refl _ _,o4,S⟩ ?_
 clear o4 S
 rintro a1 w1 ⟨j,Ap,cp,hj,T,o4,S⟩
 have hz1:=T.size.trans hz3
 have o1:=T.keep 1 _ (by decide) o1
 have o2:=T.keep 2 _ (by decide) o2
 have o3:=T.keep 3 _ (by decide) o3
 have eCtr:=o4.eval (by rw [hz1];decide)
 have hpl:=padB_length j
 have hpz:=(padZ_spec m.length).2
 have hiff:=padR m.length rr.length j hrl
 refine wp_seq (wp_seq (ren_r3 g1 rr.length _ c cp A Ap _ (undA_rest hs) (S.at_ (l1:=[_])) (by omega) (by rw [hpl];omega) hz1 o1 o4 (fun a2 hs2 o19=>?_)))
 obtain ⟨hz2,-,o1,o2,o3,o4⟩:=kq4 hs2 hz1 rfl o1 o2 o3 o4
 have T:=T.trans hs2
 rw [hpl] at o19
 by_cases hlt:(rr.length+(1+j)+8) % 64=0
 . refine wcF o19 (wp_exit ?_) (by rw [hlt];rfl)
   obtain rfl:=padZ_end _ _ (hiff.1 hlt) hj
   have D2:=T.defers.trans D
   refine wp_seq (ren_r5 w0 g1 m.length (8 * m.length) cp c Ap A _ (padB (padZ m.length)) rr (.slice A rr.length c) rfl hs hst (by rw [hpl];omega) (by omega) hm (blkR g2 23 (hashA (List.replicate 32 0)) :: L) r0 (List.mem_cons_of_mem _ hr0) HB hz2 o1 o3 o4 S (fun a3 vs5 gs5 w5 hs3 S=>?_))
   obtain ⟨hz3,-,o1,o2⟩:=kq2 hs3 hz2 rfl o1 o2
   have D2:=hs3.defers.trans D2
   have hal:m ++ (padB (padZ m.length) ++ be 8 (8 * m.length))=pad m:=by unfold pad padB;rfl
   have hpm:=pad_mod m
   have hpl2:(pad m).length=64 * (m.length / 64)+(rr ++ (padB (padZ m.length) ++ be 8 (8 * m.length))).length:=by
    rw [<- hal]
    simp only [List.length_append]
    omega
   have hst2:fB (shaN m (m.length / 64)) (rr ++ (padB (padZ m.length) ++ be 8 (8 * m.length))) ((rr ++ (padB (padZ m.length) ++ be 8 (8 * m.length))).length / 64)=shaN (pad m) ((pad m).length / 64):=by
    rw [<- hrr,fB_go (by omega),hal,hrr]
    congr 1
    omega
   rw [hst2] at S
   have hs2:=shaN_length (pad m) ((pad m).length / 64)
   refine wp_seq (ren_r6 w0 _ S hz3 (fun a4 w6 hs4 h=>?_))
   obtain ⟨hz4,-,o1,o2⟩:=kq2 hs4 hz3 rfl o1 o2
   have D2:=hs4.defers.trans D2
   obtain ⟨g5,o5,S⟩:=h
   have S:=S.perm (List.Perm.cons _ (List.perm_middle (l₁:=[_,_,_])))
   refine wp_seq (ren_r7 w0 g1 g5 _ _ _ hs2 _ hz4 o1 o5 S (fun a5 vs7 gs7 w7 hs5 S=>?_))
   obtain ⟨hz5,-,o1,o2,o5⟩:=kq3 hs5 hz4 rfl o1 o2 o5
   have D2:=hs5.defers.trans D2
   have ef:(shaN (pad m) ((pad m).length / 64)).flatMap (be 4)=shaF m:=rfl
   rw [ef] at S
   refine wp_seq (ren_r8 w0 g5 g2 _ _ (shaF_length m) rfl [_] [_,_,_,_] _ S hz5 o2 o5 (fun a6 w8 hs6 S=>?_))
   obtain ⟨hz6,-,o1,o2,o5⟩:=kq3 hs6 hz5 rfl o1 o2 o5
   have D2:=hs6.defers.trans D2
   refine wp_ret (bodyPost_ret (results_cell1 (by rfl) (o2.eval (by rw [hz6];decide)) (S.at_ (l1:=[_,_,_,_,_,_])) Tryz.underlying23 rfl (by rw [hashA_size,shaF_length];exact Tryz.infoHashP)) D2 ⟨rfl,?_⟩)
   exact S.drop.drop.drop.drop.drop.drop.drop
 . refine wcT o19 (wp_skip ?_) (by rw [bne_iff_ne.2 (by omega)])
   have hjl:=padZ_le _ _ (fun h=>hlt (hiff.2 h)) hj
   refine wp_block ?_
   refine ren_r4 w0 Ap cp _ (by rw [hpl];omega) _ S hz2 o4 (fun a3 w4 hs3 h=>?_)
   obtain ⟨hz3,-,o1,o2,o3⟩:=kq3 hs3 hz2 rfl o1 o2 o3
   have T:=T.trans hs3
   obtain ⟨A2,c2,o4,S⟩:=h
   rw [padB_next] at o4 S
   refine ⟨⟨j+1,A2,c2,hjl,T.more (by decide +kernel),o4,S⟩,?_⟩
   show 65 - lenV _ < 65 - lenV _
   rw [eCtr,o4.eval (by rw [hz3];decide)]
   show 65 - (padB (j+1)).length < 65 - (padB j).length
   rw [padB_length,padB_length]
   omega
theorem rsha_any(w0:World)(L:List Res)(A:Option Addr)(c:Nat)(m:Bs)(hm:m.length<=140737488355328)(w:World)(S:Held w0 w L)(HX:∀ V L',Held w0 V (L' ++ L)->Rd V 1 (.slice A m.length c) m.length (bv m)):
 Calls Tryz.prog 124 #[.slice A m.length c] w fun e w'=>e=.returned (.agg (hashA (shaF m))) ∧ Held w0 w' L:=by
 have HX:=LH HX
 have S0:=LH (S.newBlk 23 (hashA (List.replicate 32 0)))
 clear S
 have HT:Hid (∀ V,Held w0 V (blkR w.heap.size 23 (hashA (List.replicate 32 0)) :: L)->Calls Tryz.prog 142 #[.agg (undA hF 0 (.slice none 0 0)),.slice A m.length c] V (TkPost w0 (blkR w.heap.size 23 (hashA (List.replicate 32 0)) :: L) hF 0 m m.length)):=LH (fun V SV=>rtake_any w0 _ hF 0 rfl hF_lt none A 0 c [] m (by simpa using hm) (by omega) V SV (fun V' L' _=>Rd.nil _ _) (fun V' L' SV'=>HX.out V' (L' ++ [_]) (by rw [List.append_assoc];exact SV')))
 generalize hg2:w.heap.size=g2 at *
 obtain ⟨ch,hch⟩:∃ ch,Hid (undA hF 0 (.slice none 0 0)=ch):=⟨_,LH rfl⟩
 have HN:=LH rnew_any
 rw [hch.out] at HT HN
 have hO:=LH (hashA_one (shaF m))
 have hsz1:Hid ((hashA (shaF m)).size=32):=LH (by rw [hashA_size,shaF_length])
 have HE:Hid (∀ V A c v,Held w0 V (rowR 5 1 v m.length (bv m) :: blkR g2 23 (hashA (List.replicate 32 0)) :: L)->(∀ V,(rowR 5 1 v m.length (bv m)).ok V->Rd V 1 (.slice A (m.length % 64) c) (m.length % 64) (bv (m.drop (64 * (m.length / 64)))))->
  Calls Tryz.prog 143 #[.agg (undA (fB hF m (m.length / 64)) (0+m.length) (.slice A (m.length % 64) c))] V fun e w'=>e=.returned (.agg (hashA (shaF m))) ∧ Held w0 w' (rowR 5 1 v m.length (bv m) :: blkR g2 23 (hashA (List.replicate 32 0)) :: L)):=LH (fun V A c v SV HB=>by
  rw [fB_hF,Nat.zero_add]
  exact rend_any w0 _ m (by omega) A c _ (List.mem_cons_self ..) V SV HB)
 obtain ⟨cq,hcq⟩:∃ cq,Hid (hashA (shaF m)=cq):=⟨_,LH rfl⟩
 rw [hcq.out] at HE hO hsz1 ⊢
 generalize hln:m.length=ml at *
 go_enter Tryz.func124,Tryz.ntmps124
 go_wp2_with fail
 refine (HN.out _).mono ?_
 rintro e w2 ⟨rfl,k2⟩
 have S2:=LH (S0.out.kp k2)
 clear k2
 go_wp2_with fail
 refine (HT.out _ S2.out).mono ?_
 rintro e w3 ⟨A3,c3,v3,rfl,S3,H3⟩
 rw [hln] at S3 H3
 have HE3:=LH (HE.out w3 A3 c3 v3 S3 H3)
 clear S3 H3
 obtain ⟨cu,hcu⟩:∃ cu,undA (fB hF m (ml / 64)) (0+ml) (.slice A3 (ml % 64) c3)=cu:=⟨_,rfl⟩
 rw [hln,hcu]
 rw [hcu] at HE3
 clear hcu
 go_wp2_with fail
 refine HE3.out.mono ?_
 rintro e w4 ⟨rfl,S4⟩
 have S4:=LH S4
 go_wp2_with (refine wpList_store_blk rfl 23 (.tmp 2) (.tmp 6) rfl g2 (by simp [Act.eval,Act.put]) cq (by simp [Act.eval,Act.put]) 23 _ (S4.out.at_ (l1:=[_])) (by rw [hsz1.out];exact Tryz.infoHashP) (by rw [hsz1.out];rfl) hO.out ?_;intro w5 b5 k5;have S5:=LH (Held.setBlk (l1:=[_]) S4.out b5 k5);clear b5 k5)
 refine bodyPost_ret (results_cell1 (by rfl) rfl (S5.out.at_ (l1:=[_])) Tryz.underlying23 rfl (by rw [hsz1.out];exact Tryz.infoHashP)) rfl ?_
 exact ⟨rfl,S5.out.drop.drop⟩
end
end Go.Proofs.YtmkfopmdingaoaaGreatDoor
