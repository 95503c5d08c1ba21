/- Several texts in one: ShaL, ShaO, ShaP, CrcF, CrcG, CrcH, CrcI, CrcM2, WireT, RecA, RecB, WireU, Conv, WireV, PtK, PtJ, WireW, WireX, WireY, WireZ, WireAA, WireAB, WireBA, WireBB, WireBC, WireBD, WireBE, WireBF, WireBG, WireBH, EntM, EntA, EntB, WList, EntC, EntD, EntE, EntR, PtR, Keep, Full, PtL, WireBI, Guard, PtS, PtH, PtEq, PtP, PtReads, PtPuts, RecV, RecW, PtTurned, PtCmp, PtCmq, PtCmr, PtLast, SigM, SigA, SigB, SigC, Txs3, SigD, RshA, ShaG. -/
import Derived.Laws.Bits128
import Derived.Lib.SlBytesConst
import Derived.Laws.Tables
import Derived.Laws.Cover3
import Derived.DeepKeys
import Derived.Laws.StructEq
import Derived.Lib.Bytealg
import Derived.Test.YtmkfopmdingaoaaGreatDoorP2
set_option linter.unusedVariables false
set_option linter.unusedSimpArgs false
set_option maxRecDepth 100000
set_option maxHeartbeats 8000000
open Go.Proofs.Tryz
namespace Go.Proofs.YtmkfopmdingaoaaGreatDoor
section
open Go.RowKit
theorem yI(g:Nat)(cs:Array Value)(hc:cs[73]?=some (.bool true))(w:World)(hb:aM w g 214 cs):Calls prog 148 #[Pq g 0] w fun e w'=>e=.returned (.bool false) ∧ w=w':=by
 have c1:w.cell? ⟨g,73,none⟩=some (.bool true):=by rw [hb.cell];exact hc
 clear hb hc;go_enter func148,ntmps148;go_wp2
 go_ret
 exact ⟨rfl,rfl⟩
theorem bDd:prog.built 214 [(0,.agg (aW hF)),(3,.bool true)]=some (cV hF (List.replicate 64 0) 0):=by kernel_rfl
theorem uT(w0 w:World)(L:List Res)(S:Held w0 w L):Calls prog 133 #[] w fun e w'=>∃ g,e=.returned (Pq g 0) ∧ Held w0 w' (aB g 214 (cV hF (List.replicate 64 0) 0) :: L):=by
 have S:=LH S;have HB:=LH bDd;obtain ⟨cs,hcs⟩:∃ cs,Hid (cV hF (List.replicate 64 0) 0=cs):=⟨_,LH rfl⟩;rw [hcs.out] at HB ⊢;go_enter func133,ntmps133;go_wp2_with fail
 refine (aB2 _).mono ?_;rintro e w' ⟨rfl,k1⟩;have S1:=LH ((S.out.kp k1).newBlk 214 cs);clear k1;obtain ⟨ca,hca⟩:∃ ca,Hid (aW hF=ca):=⟨_,LH rfl⟩;rw [hca.out] at HB ⊢;go_wp2_with (refine bR rfl 214 _ rfl [(0,.agg ca),(3,.bool true)] (by simp [Act.eval]) _ HB.out ?_)
 go_ret
 exact ⟨_,rfl,S1.out⟩
theorem aFr{cs x:List UInt8}{o:Nat}(c:UInt8)(h:o+x.length < cs.length):(pH cs o x).set (o+x.length) c=pH cs o (x ++ [c]):=by
 unfold pH;have h1:(cs.take o ++ x).length=o+x.length:=by rw [List.length_append,List.length_take];omega
 rw [List.set_append_right _ _ (by omega),h1,Nat.sub_self,List.drop_eq_getElem_cons h,List.set_cons_zero,List.length_append,List.length_singleton];simp [Nat.add_assoc]
theorem aFf(W k:Nat)(h:k < 4):(be 4 W).take (k+1)=(be 4 W).take k ++ [UInt8.ofNat (W / 2 ^ (24 - 8 * k))]:=by
 rcases (by omega:k=0 ∨ k=1 ∨ k=2 ∨ k=3) with rfl|rfl|rfl|rfl <;> rfl
theorem aNm(w0:World)(g:Nat)(t:TypeId)(cs:Bs)(o n c W:Nat)(hn:4<=n)(ho:o+4<=cs.length)(L:List Res)(w:World)(S:Held w0 w (aB g t (aA cs) :: L)):
 Calls prog 149 #[.slice (some ⟨g,o,none⟩) n c,.int .u32 (W:Int)] w fun e w'=>e=.returned (.tuple #[]) ∧ Held w0 w' (aB g t (aA (pH cs o (be 4 W))) :: L):=by
 have S:=LH S;go_enter func149,ntmps149;go_wp2
 go_loopw [4,5] (fun _ i wr=>∃ k:Nat,k<=4 ∧ i=.int .i64 (k:Int) ∧ Held w0 wr (aB g t (aA (pH cs o ((be 4 W).take k))) :: L)) (fun _ i _=>4 - (intOf i).toNat)
 case atStart=>
  refine ⟨0,by omega,rfl,?_⟩;have e:pH cs o ((be 4 W).take 0)=cs:=by unfold pH;simp
  rw [e];exact S.out
 case round=>
  clear S;obtain ⟨k,hk,rfl,S⟩:=hrel;have S:=LH S;have hxl:((be 4 W).take k).length=k:=by rw [List.length_take,fY];omega
  by_cases hlt:k < 4
  . have hw:(pH cs o ((be 4 W).take k)).length=cs.length:=kY (by omega)
    have hb:(pH cs o ((be 4 W).take k))[o+k]?=some ((pH cs o ((be 4 W).take k)).getD (o+k) 0):=by
     rw [List.getD_eq_getElem?_getD,List.getElem?_eq_getElem (by omega)];rfl
    have q1:wr.cell? ⟨g,o+k,none⟩=some (.int .u8 (((pH cs o ((be 4 W).take k)).getD (o+k) 0).toNat:Int)):=by
     rw [(S.out.at_ (l1:=[])).cell];simp only [aA,List.getElem?_toArray];rw [iA,hb]
     rfl
    have q2:=(S.out.at_ (l1:=[])).frozen (o+k);have S2:Hid (Held w0 (wr.setCell ⟨g,o+k,none⟩ (.int .u8 ((UInt8.ofNat (W / 2 ^ (24 - 8 * k))).toNat:Int))) _):=LH (S.out.set (l1:=[]) (o+k) (.int .u8 ((UInt8.ofNat (W / 2 ^ (24 - 8 * k))).toNat:Int)));rw [wB,show o+k=o+((be 4 W).take k).length from by rw [hxl],aFr _ (by omega),<- aFf W k hlt,hxl] at S2;generalize (pH cs o ((be 4 W).take k)).getD (o+k) 0=old at *;clear hw hb hxl S;have hki:(k:Int) < n:=by omega
    generalize hv:(UInt8.ofNat (W / 2 ^ (24 - 8 * k))).toNat=v at *;have hv2:Hid (v=W / 2 ^ (24 - 8 * k) % 256):=LH (by rw [<- hv];simp);clear hv;have add0:((⟨g,o,none⟩:Addr).add k)=⟨g,o+k,none⟩:=by unfold Addr.add;split <;> simp_all
    have h0:0<=(24:Int) - 8 * (k:Int):=by omega
    rcases (by omega:k=0 ∨ k=1 ∨ k=2 ∨ k=3) with rfl|rfl|rfl|rfl
    all_goals
     simp only [Nat.add_zero,Nat.mul_zero,Nat.mul_one,Nat.reduceMul,Nat.reduceSub,Nat.reducePow,Nat.sub_self,Nat.pow_zero,Nat.div_one,Nat.sub_zero] at q1 q2 hv2 S2;go_wp2
     first
      |rw [show (W:Int) / 16777216 % 256=(v:Int) from by have:=hv2.out;omega]
      |rw [show (W:Int) / 65536 % 256=(v:Int) from by have:=hv2.out;omega]
      |rw [show (W:Int) / 256 % 256=(v:Int) from by have:=hv2.out;omega]
      |rw [show (W:Int) % 256=(v:Int) from by have:=hv2.out;omega]
     go_roundw
     case rel=>exact ⟨_,(by omega:_+1<=4),by go_num,S2.out⟩
     case measure=>simp [intOf]
  . obtain rfl:k=4:=by omega
    go_wp2
    go_end0
    refine ⟨rfl,?_⟩;have:=S.out
    rwa [List.take_of_length_le (by simp)] at this
end
section
variable {Q:Exit->Act->World->Prop} {a:Act} {w:World}
open Go.RowKit
theorem uW{P:Program}(w:World)(t e:TypeId)(n:Nat)(h:List Nat)(kd:IntKind)(z:Int)(k x:Nat)(hz:z=k)(hx:h[k]?=some x)(hn:h.length=n)(hu:P.underlying t=some (.array n e))(he:P.underlying e=some (.int .u32))(hc:(P.info? e).map (·.size)=some 1):
 (Instr.index t (.agg (aW h)) (.int kd z)).run P w=.ok (.int .u32 (x:Int)) w:=by
 subst hz;have hk:=(List.getElem?_eq_some_iff.1 hx).1
 have hag:(isAgg e).run P w=.ok false w:=by
  unfold isAgg;rw [Sem.run_bind,run_underlying he w]
  rfl
 cases hq:P.info? e with
 |none=>simp [hq] at hc
 |some i=>
  have hs:i.size=1:=by simpa [hq] using hc
  have hg:(aW h)[k]?=some (.int .u32 (x:Int)):=by rw [show (aW h)[k]?=(gL h)[k]? from by simp [aW],tP,hx];rfl
  have hb:¬ ((k:Int) < 0 ∨ (n:Int)<=k):=by omega
  have hb2:0<=(k:Int) ∧ (k:Int) < n:=by omega
  simp [Instr.index,Sem.run_bind,run_underlying hu w,asIntOf,part,hag,sizeOf,typeInfo,hq,hs,hg]
  intro;omega
theorem bCr:prog.arrayLen 23=32:=by kernel_rfl
theorem bD6(g:Nat)(w:World)(k:Nat)(z:Int)(hz:z=k)(hk:k < 32):(Instr.sliceAt 23 (Pq g 0) (some (.int .i64 z)) none none).run prog w=.ok (.slice (some ⟨g,k,none⟩) (32 - k) (32 - k)) w:=by
 subst hz;obtain ⟨i0,hi,hz0,hz1,hz2⟩:=info_parts bC2;rw [run_sliceAt_array_l w 23 ⟨g,0,none⟩ (by kernel_rfl) .i64 (k:Int) (by omega) (by rw [bCr];omega),bCr,show prog.elem 23=5 from by kernel_rfl];have e:(⟨g,0,none⟩:Addr).add (k * 1)=⟨g,k,none⟩:=by unfold Addr.add;split <;> simp <;> omega
 simp only [sizeOf,typeInfo,hi,hz1,Sem.run_bind,Sem.run_pure,Result.andThen,run_program,slicedAt,Int.toNat_natCast,e];rw [if_neg (by omega)]
theorem aRf(w0:World)(L:List Res)(S:Held w0 w L)(hsz:a.tmps.size=52):bC false 0 f135 Q a w fun a' W q'=>(∃ g,Sl a' 2 (Pq g 0) ∧ Held w0 W (aB g 23 (aA (List.replicate 32 0)) :: L))->q':=by
 refine bU fun hend=>?_;have S0:=LH (S.newBlk 23 (aA (List.replicate 32 0)));go_wp2
 try simp only [Act.put]
 exact hend _ _ tS (⟨w.heap.size,cH,S0.out⟩)
theorem bA8(w0:World)(L:List Res)(S:Held w0 w L)(hsz:a.tmps.size=52):bC false 1 f135 Q a w fun a' W q'=>(∃ g,Sl a' 3 (Pq g 0) ∧ Held w0 W (aB g 23 (aA (List.replicate 32 0)) :: L))->q':=by
 refine bU fun hend=>?_;have S0:=LH (S.newBlk 23 (aA (List.replicate 32 0)));go_wp2
 try simp only [Act.put]
 exact hend _ _ tS (⟨w.heap.size,cH,S0.out⟩)
theorem aP3(g:Nat)(cs:Array Value)(hc:cs[73]?=some (.bool true))(hb:aM w g 214 cs)(hsz:a.tmps.size=52)(o0:Sl a 0 (Pq g 0)):bK 2 f135 Q a w fun a' q'=>Sl a' 10 (.bool false)->q':=by
 refine jG fun hend=>?_;unfold Sl at o0;have HR:=LH (yI g cs hc w hb);clear hb hc;go_wp2_with fail
 refine HR.out.mono ?_;rintro e w' ⟨rfl,rfl⟩;go_wp2
 try simp only [Act.put]
 exact hend _ tS sP
theorem aTt(w0:World)(g n:Nat)(st:List Nat)(blk:Bs)(hs:st.length=8)(hb:blk.length=64)(L1 L2:List Res)(S:Held w0 w (L1 ++ aB g 214 (cV st blk n) :: L2))(hsz:a.tmps.size=52)(o0:Sl a 0 (Pq g 0)):bC false 4 f135 Q a w fun a' W q'=>(∃ g4,Sl a' 4 (Pq g4 0) ∧ Held w0 W (aB g4 214 (cV st blk n) :: (L1 ++ aB g 214 (cV st blk n) :: L2)))->q':=by
 refine bU fun hend=>?_;unfold Sl at o0;have S:=LH S;have HS:=LH hs;have HB:=LH hb;clear hs hb;obtain ⟨cs,hcs⟩:∃ cs,Hid (cV st blk n=cs):=⟨_,LH rfl⟩;have hz:=LH (pQ (n:=n) HS.out HB.out);have h1:=LH (aFt st blk n);rw [hcs.out] at S hz h1
 go_wp2_with (first
  |(refine aQ rfl 214 (.tmp 13) rfl g (aO o0) 214 _ S.out.at_ _ underlying214 rfl (by rw [hz.out];exact bCu) ?_)
  |(refine aD rfl 214 (.tmp 4) (.tmp 14) rfl w.heap.size aE cs aE 214 _ (aM.new w 214 _) (by rw [hz.out];exact bCu) (by rw [hz.out];rfl) h1.out ?_;intro w7 b7 k7;have S7:=LH (Held.setBlk (l1:=[]) (S.out.newBlk 214 _) b7 k7);clear b7 k7))
 rw [<- hcs.out] at S7
 try simp only [Act.put]
 exact hend _ _ tS (⟨_,cH,S7.out⟩)
theorem aVc(g n:Nat)(cs:Array Value)(hc:cs[72]?=some (.int .i64 (n:Int)))(hb:aM w g 214 cs)(hn:n < 1152921504606846976)(hsz:a.tmps.size=52)(o0:Sl a 0 (Pq g 0)):bK 5 f135 Q a w fun a' q'=>Sl a' 5 (.int .u64 ((8 * n:Nat):Int))->q':=by
 refine jG fun hend=>?_;unfold Sl at o0;have c1:w.cell? ⟨g,72,none⟩=some (.int .i64 (n:Int)):=by rw [hb.cell];exact hc
 have hw:=LH (show ((n:Int) * 8) % 18446744073709551616=((8 * n:Nat):Int) from by omega);have hn:=LH hn;clear hb hc;go_wp2
 first|rw [hw.out]|skip
 try simp only [Act.put]
 exact hend _ tS sP
theorem aYb(w0:World)(g4:Nat)(m:Bs)(st:List Nat)(blk:Bs)(hU:Und m st blk)(hm:m.length+1 < 4611686018427387904)(L:List Res)(S:Held w0 w (aB g4 214 (cV st blk m.length) :: L))(hsz:a.tmps.size=52)(o4:Sl a 4 (Pq g4 0)):bC false 6 f135 Q a w fun a' W q'=>(∃ st' blk',Und (m ++ [128]) st' blk' ∧ Held w0 W (aB g4 214 (cV st' blk' (m ++ [128]).length) :: L))->q':=by
 refine bU fun hend=>?_;unfold Sl at o4;have S:=LH S;have hU:=LH hU;have Hm:=LH hm;clear hm;go_wp2_with fail
 refine (jW w0 g4 m [128] st blk hU.out (by simp;exact Hm.out) _ (aG 5 1 (.slice (some ⟨w.heap.size,0,none⟩) 1 1) 1 (bv [128]) :: L) _ (fun V cs SV=>Rd.of_own (SV.at_ (l1:=[_]))) ?_).mono ?_
 . refine (Held.perm ?_ (List.Perm.swap _ _ _));exact S.out.rownew (cZ w 5 1 1 #[.int .u8 128] rfl (by decide)) ((Kp.refl [] w).alloc _) (fun g hg=>Nat.le_of_eq (Option.some.inj hg))
 rintro e w2 ⟨rfl,st2,blk2,U2,S2⟩;have S2:=LH (S2.dropAt (l1:=[_]));go_wp2
 try simp only [Act.put]
 exact hend _ _ tS (⟨st2,blk2,U2,S2.out⟩)
theorem aXq(w0:World)(g4:Nat)(m:Bs)(st:List Nat)(blk:Bs)(hU:Und m st blk)(hm:m.length+1 < 4611686018427387904)(L:List Res)(S:Held w0 w (aB g4 214 (cV st blk m.length) :: L))(hsz:a.tmps.size=52)(o4:Sl a 4 (Pq g4 0)):bC false 8 f135 Q a w fun a' W q'=>(∃ st' blk',Und (m ++ [0]) st' blk' ∧ Held w0 W (aB g4 214 (cV st' blk' (m ++ [0]).length) :: L))->q':=by
 refine bU fun hend=>?_;unfold Sl at o4;have S:=LH S;have hU:=LH hU;have Hm:=LH hm;clear hm;go_wp2_with fail
 refine (jW w0 g4 m [0] st blk hU.out (by simp;exact Hm.out) _ (aG 5 1 (.slice (some ⟨w.heap.size,0,none⟩) 1 1) 1 (bv [0]) :: L) _ (fun V cs SV=>Rd.of_own (SV.at_ (l1:=[_]))) ?_).mono ?_
 . refine (Held.perm ?_ (List.Perm.swap _ _ _));exact S.out.rownew (cZ w 5 1 1 #[.int .u8 0] rfl (by decide)) ((Kp.refl [] w).alloc _) (fun g hg=>Nat.le_of_eq (Option.some.inj hg))
 rintro e w2 ⟨rfl,st2,blk2,U2,S2⟩;have S2:=LH (S2.dropAt (l1:=[_]));go_wp2
 try simp only [Act.put]
 exact hend _ _ tS (⟨st2,blk2,U2,S2.out⟩)
theorem aNk(w0:World)(g4:Nat)(m:Bs)(st:List Nat)(blk:Bs)(b:UInt8)(hU:Und m st blk)(hm:m.length+1 < 4611686018427387904)(L:List Res)(S:Held w0 w (aB g4 214 (cV st blk m.length) :: L))(N i:Nat)(hi:i<=56)(hb:b=UInt8.ofNat (N / 2 ^ i))(hsz:a.tmps.size=52)(o4:Sl a 4 (Pq g4 0))(o5:Sl a 5 (.int .u64 (N:Int)))(o6:Sl a 6 (.int .i64 (i:Int))):bC false 12 f135 Q a w fun a' W q'=>(∃ st' blk',Und (m ++ [b]) st' blk' ∧ Held w0 W (aB g4 214 (cV st' blk' (m ++ [b]).length) :: L))->q':=by
 refine bU fun hend=>?_;unfold Sl at o4 o5 o6;have S:=LH S;have hU:=LH hU;have Hm:=LH hm;clear hm;have hbv:Hid (((N:Int) / 2 ^ i) % 256=(b.toNat:Int)):=LH (by rw [hb,UInt8.toNat_ofNat',Int.natCast_emod,Int.natCast_ediv,Int.natCast_pow];rfl);clear hb;go_wp2_with fail
 rw [hbv.out];refine (jW w0 g4 m [b] st blk hU.out (by simp;exact Hm.out) _ (aG 5 1 (.slice (some ⟨w.heap.size,0,none⟩) 1 1) 1 (bv [b]) :: L) _ (fun V cs SV=>Rd.of_own (SV.at_ (l1:=[_]))) ?_).mono ?_
 . refine (Held.perm ?_ (List.Perm.swap _ _ _));exact S.out.rownew (cZ w 5 1 1 #[.int .u8 (b.toNat:Int)] rfl (by decide)) ((Kp.refl [] w).alloc _) (fun g hg=>Nat.le_of_eq (Option.some.inj hg))
 rintro e w2 ⟨rfl,st2,blk2,U2,S2⟩;have S2:=LH (S2.dropAt (l1:=[_]));go_wp2
 try simp only [Act.put]
 exact hend _ _ tS (⟨st2,blk2,U2,S2.out⟩)
theorem aWv(g4 n:Nat)(cs:Array Value)(hc:cs[72]?=some (.int .i64 (n:Int)))(hb:aM w g4 214 cs)(hsz:a.tmps.size=52)(o4:Sl a 4 (Pq g4 0)):bK 7 f135 Q a w fun a' q'=>Sl a' 26 (.bool (((n % 64:Nat):Int) != 56))->q':=by
 refine jG fun hend=>?_;unfold Sl at o4;have c1:w.cell? ⟨g4,72,none⟩=some (.int .i64 (n:Int)):=by rw [hb.cell];exact hc
 have ht:Int.tmod (n:Int) 64=((n % 64:Nat):Int):=rfl;have hd:(((n % 64:Nat):Int) == 56)=decide (n % 64=56):=by rw [Bool.eq_iff_iff,beq_iff_eq,decide_eq_true_iff];omega
 obtain ⟨q,hq⟩:∃ q,n % 64=q:=⟨_,rfl⟩;rw [hq] at ht hd hend;have hq:=LH hq;clear hb hc;go_wp2_with fail
 try simp only [Act.put]
 exact hend _ tS sP
theorem aY5(hsz:a.tmps.size=52):bK 9 f135 Q a w fun a' q'=>Sl a' 6 (Nq 56)->q':=by
 refine jG fun hend=>?_;go_wp2_with fail
 try simp only [Act.put]
 exact hend _ tS sP
theorem aIf(z:Int)(hsz:a.tmps.size=52)(o6:Sl a 6 (.int .i64 z)):bK 10 f135 Q a w fun a' q'=>Sl a' 30 (.bool (decide (0<=z)))->q':=by
 refine jG fun hend=>?_;unfold Sl at o6;go_wp2_with fail
 try simp only [Act.put]
 exact hend _ tS sP
theorem aMm(z:Int)(hz:-100<=z ∧ z<=100)(hsz:a.tmps.size=52)(o6:Sl a 6 (.int .i64 z)):bK 11 f135 Q a w fun a' q'=>Sl a' 6 (.int .i64 (z - 8))->q':=by
 refine jG fun hend=>?_;unfold Sl at o6;have hw:wrap64 (z - 8)=z - 8:=by unfold wrap64;omega
 go_wp2_with fail
 try simp only [Act.put]
 exact hend _ tS sP
theorem aLk(w0:World)(g n:Nat)(st:List Nat)(blk:Bs)(hs:st.length=8)(hb:blk.length=64)(L:List Res)(S:Held w0 w (aB g 214 (cV st blk n) :: L))(hsz:a.tmps.size=52)(o4:Sl a 4 (Pq g 0)):bK 13 f135 Q a w fun a' q'=>Sl a' 40 (.agg (aW st))->Sl a' 41 (Nq 0)->q':=by
 refine jG fun hend=>?_;unfold Sl at o4;have S:=LH S;have HS:=LH hs;clear hs hb;go_wp2_with (refine bW rfl 205 (.tmp 39) rfl ⟨g,0,none⟩ aE (aW st).toList _ (qL (S.out.at_ (l1:=[])) HS.out) underlying205 rfl (by rw [Array.length_toList,bI,HS.out];exact bC1) ?_)
 try simp only [Act.put]
 exact hend _ tS sP sP
theorem aLz(k:Nat)(hsz:a.tmps.size=52)(o41:Sl a 41 (.int .i64 (k:Int))):bK 14 f135 Q a w fun a' q'=>Sl a' 42 (.bool (decide ((k:Int) < 8)))->q':=by
 refine jG fun hend=>?_;unfold Sl at o41;go_wp2_with fail
 try simp only [Act.put]
 exact hend _ tS sP
theorem aJx(k x:Nat)(st:List Nat)(hk:k < 8)(hs:st.length=8)(hx:st[k]?=some x)(hsz:a.tmps.size=52)(o40:Sl a 40 (.agg (aW st)))(o41:Sl a 41 (.int .i64 (k:Int))):bK 15 f135 Q a w fun a' q'=>Sl a' 7 (.int .i64 (k:Int))->Sl a' 8 (.int .u32 (x:Int))->q':=by
 refine jG fun hend=>?_;unfold Sl at o40 o41;have hr:(Instr.index 205 (.agg (aW st)) (.int .i64 (k:Int))).run prog w=.ok (.int .u32 (x:Int)) w:=uW w 205 204 8 st .i64 (k:Int) k x rfl hx hs underlying205 underlying204 (by kernel_rfl);obtain ⟨ca,hca⟩:∃ ca,aW st=ca:=⟨_,rfl⟩;rw [hca] at hr o40;clear hca;go_wp2_with fail
 try simp only [Act.put]
 exact hend _ tS sP sP
theorem aN6(w0:World)(g3:Nat)(cs:Bs)(hl:cs.length=32)(k x:Nat)(hk:k < 8)(L1 L:List Res)(S:Held w0 w (L1 ++ aB g3 23 (aA cs) :: L))(hsz:a.tmps.size=52)(o3:Sl a 3 (Pq g3 0))(o7:Sl a 7 (.int .i64 (k:Int)))(o8:Sl a 8 (.int .u32 (x:Int))):bC false 16 f135 Q a w fun a' W q'=>(Held w0 W (L1 ++ aB g3 23 (aA (pH cs (4 * k) (be 4 x))) :: L))->q':=by
 refine bU fun hend=>?_;unfold Sl at o3 o7 o8;have hsl:=bD6 g3 w (4 * k) (4 * (k:Int)) (by omega) (by omega);have HR:=LH (aNm w0 g3 23 cs (4 * k) (32 - 4 * k) (32 - 4 * k) x (by omega) (by omega) (L1 ++ L) w (S.perm List.perm_middle));clear S;go_wp2_with fail
 refine HR.out.mono ?_;rintro e w2 ⟨rfl,S2⟩;have S2:=LH (S2.perm List.perm_middle.symm);go_wp2
 try simp only [Act.put]
 exact hend _ _ tS (S2.out)
theorem aJq(k:Nat)(hk:k < 8)(hsz:a.tmps.size=52)(o41:Sl a 41 (.int .i64 (k:Int))):bK 17 f135 Q a w fun a' q'=>Sl a' 41 (Nq (k+1))->q':=by
 refine jG fun hend=>?_;unfold Sl at o41;go_wp2_with fail
 try simp only [Act.put]
 exact hend _ tS sP
theorem aJi(w0:World)(g3 g2:Nat)(cs c2:Bs)(hl:cs.length=32)(h2:c2.length=32)(L1 L2 L3:List Res)(S:Held w0 w (L1 ++ aB g3 23 (aA cs) :: (L2 ++ aB g2 23 (aA c2) :: L3)))(hsz:a.tmps.size=52)(o2:Sl a 2 (Pq g2 0))(o3:Sl a 3 (Pq g3 0)):bC false 18 f135 Q a w fun a' W q'=>(Held w0 W ((L1 ++ aB g3 23 (aA cs) :: L2) ++ aB g2 23 (aA cs) :: L3))->q':=by
 refine bU fun hend=>?_;unfold Sl at o2 o3;have S:=LH S;have HL:=LH hl;have H2:=LH h2;clear hl h2;have S':Hid (Held w0 w ((L1 ++ aB g3 23 (aA cs) :: L2) ++ aB g2 23 (aA c2) :: L3)):=LH (by have:=S.out;simpa [List.append_assoc] using this)
 go_wp2_with (first
  |(refine aQ rfl 23 (.tmp 3) rfl g3 (aO o3) 23 _ S.out.at_ _ underlying23 rfl (by rw [aC,HL.out];exact bBy) ?_)
  |(refine aD rfl 23 (.tmp 2) (.tmp 51) rfl g2 (aO o2) (aA cs) aE 23 _ S'.out.at_ (by rw [aC,HL.out];exact bBy) (by rw [aC,aC,HL.out,H2.out]) (aI cs) ?_;intro w7 b7 k7;have S7:=LH (Held.setBlk S'.out b7 k7);clear b7 k7))
 try simp only [Act.put]
 exact hend _ _ tS (S7.out)
end
section
open Go.RowKit
def aOb:List Nat:=[23,24,25,26,27,28]
def aO9:List Nat:=[6,29,30,31,32,33,34,35,36,37,38]
def aO7:List Nat:=[7,8,41,42,43,44,45,46,47,48,49,50]
theorem aCh(n j:Nat)(h:(n+1+j) % 64 ≠ 56)(hj:j<=iE n):j < iE n:=by
 unfold iE at *;omega
theorem yH(n j:Nat)(h:(n+1+j) % 64=56)(hj:j<=iE n):j=iE n:=by
 unfold iE at *;omega
theorem aQk{Q:Exit->Act->World->Prop}{a:Act}{w0 w:World}(g4:Nat)(m:Bs)(st:List Nat)(blk:Bs)(hU:Und (m ++ [128]) st blk)(hm:m.length < 1152921504606846976)(L:List Res)(hsz:a.tmps.size=52)(o4:Sl a 4 (Pq g4 0))
 (S:Held w0 w (aB g4 214 (cV st blk (m ++ [128]).length) :: L))
 (hend:∀ (a':Act) (W:World) (st:List Nat) (blk:Bs),Same a a' aOb->Und (m ++ [128] ++ List.replicate (iE m.length) 0) st blk->Held w0 W (aB g4 214 (cV st blk (m ++ [128] ++ List.replicate (iE m.length) 0).length) :: L)->Q .normal a' W):
 (Code.block 0 (dR 0 f135)).wp prog Q a w:=by
 refine wp_block ?_
 (conv=>arg 2;whnf)
 obtain ⟨M,hM⟩:∃ M:Act->World->Nat,M=fun _ w'=>iE m.length - (match w'.cell? ⟨g4,72,none⟩ with|some v=>(intOf v).toNat - (m.length+1)|none=>0):=⟨_,rfl⟩
 refine wp_loop (fun a' w'=>∃ (j:Nat) (st:List Nat) (blk:Bs),j<=iE m.length ∧ Same a a' aOb ∧ Und (m ++ [128] ++ List.replicate j 0) st blk ∧ Held w0 w' (aB g4 214 (cV st blk (m ++ [128] ++ List.replicate j 0).length) :: L)) M ⟨0,st,blk,Nat.zero_le _,Same.refl _ _,by rw [List.replicate_zero,List.append_nil];exact hU,by rw [List.replicate_zero,List.append_nil];exact S⟩ ?_;clear hU S;rintro a1 w1 ⟨j,st,blk,hj,T,hU,S⟩;have o4:=T.keep 4 _ (by decide) o4;have hz1:=T.size.trans hsz;have hpz:=(mP m.length).2;have hl:(m ++ [128] ++ List.replicate j 0).length=m.length+1+j:=by simp;omega
 have hM1:∀ (a':Act) (W:World) (st:List Nat) (blk:Bs) (j:Nat),st.length=8->blk.length=64->Held w0 W (aB g4 214 (cV st blk (m ++ [128] ++ List.replicate j 0).length) :: L)->M a' W=iE m.length - j:=by
  intro a' W st blk j h8 h64 S;rw [hM]
  show iE m.length - (match W.cell? ⟨g4,72,none⟩ with|some v=>(intOf v).toNat - (m.length+1)|none=>0)=_
  rw [(S.at_ (l1:=[])).cell,kI h8 h64];simp [intOf]
  omega
 refine wp_seq (wp_seq (aWv g4 _ _ (kI hU.len8 hU.len) (S.at_ (l1:=[])) hz1 o4 (fun a2 hs2 o26=>?_)));have hz2:=hs2.size.trans hz1;have o4:=hs2.q o4;have T:=T.trans hs2;rw [hl] at o26
 by_cases hlt:(m.length+1+j) % 64=56
 . refine dD o26 (wp_exit ?_) (by rw [hlt];rfl);obtain rfl:=yH _ _ hlt hj
   exact hend _ _ st blk (T.more (by decide +kernel)) hU S
 . refine cS o26 (wp_skip ?_) (by rw [show ((((m.length+1+j) % 64:Nat):Int) != 56)=true from by rw [bne_iff_ne];omega]);have hjl:=aCh _ _ hlt hj;refine wp_block ?_;refine aXq w0 g4 _ st blk hU (by rw [hl];omega) L S hz2 o4 (fun a3 w2 hs3 h=>?_);obtain ⟨hz3,-,o4,o26⟩:=dU hs3 hz2 rfl o4 o26;have T:=T.trans hs3;obtain ⟨st2,blk2,U2,S2⟩:=h;have e:m ++ [128] ++ List.replicate j 0 ++ [0]=m ++ [128] ++ List.replicate (j+1) 0:=by rw [List.append_assoc,<- List.replicate_succ']
   rw [e] at U2 S2;refine ⟨⟨j+1,st2,blk2,hjl,T.more (by decide +kernel),U2,S2⟩,?_⟩
   show M _ _ < M _ _
   rw [hM1 _ _ _ _ _ U2.len8 U2.len S2,hM1 a1 w1 _ _ _ hU.len8 hU.len S];omega
theorem aA9(N r:Nat)(h:r < 8):(be 8 N).take (r+1)=(be 8 N).take r ++ [UInt8.ofNat (N / 2 ^ (56 - 8 * r))]:=by
 rcases (by omega:r=0 ∨ r=1 ∨ r=2 ∨ r=3 ∨ r=4 ∨ r=5 ∨ r=6 ∨ r=7) with rfl|rfl|rfl|rfl|rfl|rfl|rfl|rfl <;> rfl
theorem aZf{Q:Exit->Act->World->Prop}{a:Act}{w0 w:World}(g4:Nat)(m:Bs)(N:Nat)(st:List Nat)(blk:Bs)(hU:Und m st blk)(hm:m.length+8 < 4611686018427387904)(L:List Res)(hsz:a.tmps.size=52)(o4:Sl a 4 (Pq g4 0))(o5:Sl a 5 (.int .u64 (N:Int)))(o6:Sl a 6 (Nq 56))
 (S:Held w0 w (aB g4 214 (cV st blk m.length) :: L))
 (hend:∀ (a':Act) (W:World) (st:List Nat) (blk:Bs),Same a a' aO9->Und (m ++ be 8 N) st blk->Held w0 W (aB g4 214 (cV st blk (m ++ be 8 N).length) :: L)->Q .normal a' W):
 (Code.block 2 (dR 2 f135)).wp prog Q a w:=by
 refine wp_block ?_
 (conv=>arg 2;whnf)
 refine wp_loop (fun a' w'=>∃ (r:Nat) (st:List Nat) (blk:Bs),r<=8 ∧ Same a a' aO9 ∧ Sl a' 6 (.int .i64 (56 - 8 * (r:Int))) ∧ Und (m ++ (be 8 N).take r) st blk ∧ Held w0 w' (aB g4 214 (cV st blk (m ++ (be 8 N).take r).length) :: L)) (fun a' _=>(intOf (a'.eval (.tmp 6))+8).toNat) ⟨0,st,blk,Nat.zero_le _,Same.refl _ _,o6,by rw [List.take_zero,List.append_nil];exact hU,by rw [List.take_zero,List.append_nil];exact S⟩ ?_;clear hU S o6;rintro a1 w1 ⟨r,st,blk,hr,T,o6,hU,S⟩;have o4:=T.keep 4 _ (by decide) o4;have o5:=T.keep 5 _ (by decide) o5;have hz1:=T.size.trans hsz;have eCtr:=o6.eval (by rw [hz1];decide);have hl:(m ++ (be 8 N).take r).length=m.length+r:=by rw [List.length_append,List.length_take,fY];omega
 refine wp_seq (wp_seq (aIf _ hz1 o6 (fun a2 hs2 o30=>?_)));obtain ⟨hz2,-,o4,o5,o6⟩:=dF hs2 hz1 rfl o4 o5 o6;have T:=T.trans hs2
 by_cases hlt:r < 8
 . refine cS o30 (wp_skip ?_) (by rw [decide_eq_true (by omega)]);have e6:(56 - 8 * (r:Int))=(((56 - 8 * r:Nat)):Int):=by omega
   have o6':=o6;rw [e6] at o6';refine wp_seq (wp_block ?_);refine aNk w0 g4 _ st blk _ hU (by rw [hl];omega) L S N (56 - 8 * r) (by omega) rfl hz2 o4 o5 o6' (fun a3 w2 hs3 h=>?_);obtain ⟨hz3,-,o4,o5,o6,o30⟩:=fH hs3 hz2 rfl o4 o5 o6 o30;have T:=T.trans hs3;obtain ⟨st2,blk2,U2,S2⟩:=h;rw [List.append_assoc,<- aA9 N r hlt] at U2 S2;refine aMm _ (by omega) hz3 o6 (fun a4 hs4 o6=>?_);obtain ⟨hz4,-,o4,o5,o30⟩:=dF hs4 hz3 rfl o4 o5 o30;have T:=T.trans hs4;have e7:(56 - 8 * (r:Int)) - 8=56 - 8 * ((r+1:Nat):Int):=by omega
   rw [e7] at o6;refine ⟨⟨r+1,st2,blk2,by omega,T.more (by decide +kernel),o6,U2,S2⟩,?_⟩
   show (intOf (_)+8).toNat < (intOf (_)+8).toNat
   rw [eCtr,o6.eval (by rw [hz4];decide)]
   show (56 - 8 * ((r+1:Nat):Int)+8).toNat < (56 - 8 * (r:Int)+8).toNat
   omega
 . obtain rfl:r=8:=by omega
   refine dD o30 (wp_exit ?_) (by rw [decide_eq_false (by omega)]);rw [List.take_of_length_le (by simp)] at hU S;exact hend _ _ st blk (T.more (by decide +kernel)) hU S
def yQ (st:List Nat) (k:Nat):List UInt8:=(st.take k).flatMap (be 4) ++ List.replicate (32 - 4 * k) 0
theorem aGh(l:List Nat):(l.flatMap (be 4)).length=4 * l.length:=by
 induction l with
 |nil=>rfl
 |cons a l ih=>rw [List.flatMap_cons,List.length_append,ih,fY,List.length_cons];omega
theorem yR{st:List Nat}(hs:st.length=8){k:Nat}(hk:k<=8):(yQ st k).length=32:=by
 unfold yQ;rw [List.length_append,aGh,List.length_take,List.length_replicate];omega
theorem aEh{st:List Nat}(hs:st.length=8){k x:Nat}(hk:k < 8)(hx:st[k]?=some x):pH (yQ st k) (4 * k) (be 4 x)=yQ st (k+1):=by
 have h1:((st.take k).flatMap (be 4)).length=4 * k:=by rw [aGh,List.length_take];omega
 unfold pH yQ;rw [List.take_left' h1,List.drop_append,List.drop_of_length_le (by rw [h1,fY];omega),List.nil_append,h1,fY,List.drop_replicate,List.take_add_one,hx];simp only [Option.toList_some,List.flatMap_append,List.flatMap_cons,List.flatMap_nil,List.append_nil]
 congr 2
 omega
theorem aZj{Q:Exit->Act->World->Prop}{a:Act}{w0 w:World}(g3:Nat)(st:List Nat)(hs:st.length=8)(L1 L:List Res)(hsz:a.tmps.size=52)(o3:Sl a 3 (Pq g3 0))(o40:Sl a 40 (.agg (aW st)))(o41:Sl a 41 (Nq 0))
 (S:Held w0 w (L1 ++ aB g3 23 (aA (List.replicate 32 0)) :: L))
 (hend:∀ a' W,Same a a' aO7->Held w0 W (L1 ++ aB g3 23 (aA (st.flatMap (be 4))) :: L)->Q .normal a' W):
 (Code.block 4 (dR 4 f135)).wp prog Q a w:=by
 refine wp_block ?_
 (conv=>arg 2;whnf)
 refine wp_loop (fun a' w'=>∃ k:Nat,k<=8 ∧ Same a a' aO7 ∧ Sl a' 41 (.int .i64 (k:Int)) ∧ Held w0 w' (L1 ++ aB g3 23 (aA (yQ st k)) :: L)) (fun a' _=>8 - (intOf (a'.eval (.tmp 41))).toNat) ⟨0,Nat.zero_le _,Same.refl _ _,o41,S⟩ ?_;clear S o41;rintro a1 w1 ⟨k,hk,T,o41,S⟩;have o3:=T.keep 3 _ (by decide) o3;have o40:=T.keep 40 _ (by decide) o40;have hz1:=T.size.trans hsz;have eCtr:=o41.eval (by rw [hz1];decide);refine wp_seq (aLz k hz1 o41 (fun a2 hs2 o42=>?_));obtain ⟨hz2,-,o3,o40,o41⟩:=dF hs2 hz1 rfl o3 o40 o41;have T:=T.trans hs2
 by_cases hlt:k < 8
 . refine wp_seq (cS o42 (wp_skip ?_) (by rw [decide_eq_true (by omega)]));obtain ⟨x,hx⟩:∃ x,st[k]?=some x:=⟨_,List.getElem?_eq_getElem (by omega)⟩;refine wp_seq (wp_block ?_);refine wp_seq (aJx k x st hlt hs hx hz2 o40 o41 (fun a3 hs3 o7 o8=>?_));obtain ⟨hz3,-,o3,o40,o41,o42⟩:=fH hs3 hz2 rfl o3 o40 o41 o42;have T:=T.trans hs3;refine aN6 w0 g3 _ (yR hs hk) k x hlt L1 L S hz3 o3 o7 o8 (fun a4 w2 hs4 S=>?_);obtain ⟨hz4,-,o3,o40,o41,o42,o7,o8⟩:=jF hs4 hz3 rfl o3 o40 o41 o42 o7 o8;have T:=T.trans hs4;rw [aEh hs hlt hx] at S;refine aJq k hlt hz4 o41 (fun a5 hs5 o41=>?_);obtain ⟨hz5,-,o3,o40,o42,o7,o8⟩:=jJ hs5 hz4 rfl o3 o40 o42 o7 o8;have T:=T.trans hs5;refine ⟨⟨k+1,by omega,T.more (by decide +kernel),o41,S⟩,?_⟩
   show 8 - (intOf _).toNat < 8 - (intOf _).toNat
   rw [eCtr,o41.eval (by rw [hz5];decide)];simp [intOf];omega
 . obtain rfl:k=8:=by omega
   refine wp_seq (dD o42 (wp_exit ?_) (by rw [decide_eq_false (by omega)]));have e:yQ st 8=st.flatMap (be 4):=by unfold yQ;rw [List.take_of_length_le (by omega)];simp
   rw [e] at S;exact hend _ _ (T.more (by decide +kernel)) S
theorem tL(w0:World)(g:Nat)(m:Bs)(st:List Nat)(blk:Bs)(hU:Und m st blk)(hm:m.length < 1152921504606846976)(L:List Res)(w:World)(S:Held w0 w (aB g 214 (cV st blk m.length) :: L)):
 Calls prog 135 #[Pq g 0] w fun e w'=>e=.returned (.agg (aA (dE m))) ∧ Held w0 w' (aB g 214 (cV st blk m.length) :: L):=by
 refine aR func135 rfl 52 rfl (fun a0 hsz hdf hAr=>?_);have hz0:a0.tmps.size=52:=hsz;have D:=hdf;have o0:=hAr 0 _ rfl;refine wp_seq (aRf w0 _ S hz0 (fun a1 w1 hs1 h=>?_));obtain ⟨hz1,D,o0⟩:=eY hs1 hz0 D o0;obtain ⟨g2,o2,S⟩:=h;refine wp_seq (bA8 w0 _ S hz1 (fun a2 w2 hs2 h=>?_));obtain ⟨hz2,D,o0,o2⟩:=dU hs2 hz1 D o0 o2;obtain ⟨g3,o3,S⟩:=h;refine wp_seq (wp_seq (aP3 g _ (vB hU.len8 hU.len) (S.at_ (l1:=[_,_])) hz2 o0 (fun a3 hs3 o10=>?_)));obtain ⟨hz3,D,o0,o2,o3⟩:=dF hs3 hz2 D o0 o2 o3;refine dD o10 (wp_skip ?_);refine wp_seq (aTt w0 g _ st blk hU.len8 hU.len [_,_] _ S hz3 o0 (fun a4 w4 hs4 h=>?_));obtain ⟨hz4,D,o0,o2,o3⟩:=dF hs4 hz3 D o0 o2 o3;obtain ⟨g4,o4,S⟩:=h;refine wp_seq (aVc g _ _ (kI hU.len8 hU.len) (S.at_ (l1:=[_,_,_])) hm hz4 o0 (fun a5 hs5 o5=>?_));obtain ⟨hz5,D,o2,o3,o4⟩:=dF hs5 hz4 D o2 o3 o4;refine wp_seq (aYb w0 g4 m st blk hU (by omega) _ S hz5 o4 (fun a6 w6 hs6 h=>?_));obtain ⟨hz6,D,o2,o3,o4,o5⟩:=fH hs6 hz5 D o2 o3 o4 o5;obtain ⟨st1,blk1,U1,S⟩:=h;refine wp_seq (aQk g4 m st1 blk1 U1 hm _ hz6 o4 S (fun a7 w7 st2 blk2 hs7 U2 S=>?_));obtain ⟨hz7,D,o2,o3,o4,o5⟩:=fH hs7 hz6 D o2 o3 o4 o5;have hpz:=(mP m.length).2;have hl2:(m ++ [128] ++ List.replicate (iE m.length) 0).length=m.length+1+iE m.length:=by simp;omega
 refine wp_seq (wp_seq (aY5 hz7 (fun a8 hs8 o6=>?_)));obtain ⟨hz8,D,o2,o3,o4,o5⟩:=fH hs8 hz7 D o2 o3 o4 o5;refine aZf g4 _ (8 * m.length) st2 blk2 U2 (by omega) _ hz8 o4 o5 o6 S (fun a9 w9 st3 blk3 hs9 U3 S=>?_);obtain ⟨hz9,D,o2,o3,o4⟩:=dF hs9 hz8 D o2 o3 o4;have ep:m ++ [128] ++ List.replicate (iE m.length) 0 ++ be 8 (8 * m.length)=pad m:=by unfold pad;simp only [List.append_assoc,List.cons_append,List.nil_append]
 rw [ep] at U3 S;have h8:=U3.len8;have h64:=U3.len;refine wp_seq (wp_seq (aLk w0 g4 _ st3 blk3 h8 h64 _ S hz9 o4 (fun a10 hs10 o40 o41=>?_)));obtain ⟨hz10,D,o2,o3⟩:=dU hs10 hz9 D o2 o3;refine aZj g3 st3 h8 [_] _ hz10 o3 o40 o41 S (fun a11 w11 hs11 S=>?_);obtain ⟨hz11,D,o2,o3⟩:=dU hs11 hz10 D o2 o3;have ef:st3.flatMap (be 4)=dE m:=by unfold dE;rw [U3.st]
 rw [ef] at S;refine wp_seq (aJi w0 g3 g2 _ (List.replicate 32 0) (aY m) rfl [_] [] _ S hz11 o2 o3 (fun a12 w12 hs12 S=>?_));obtain ⟨hz12,D,o2⟩:=eY hs12 hz11 D o2;refine wp_ret (bodyPost_ret (aV (by rfl) (o2.eval (by rw [hz12];decide)) (S.at_ (l1:=[_,_])) underlying23 rfl (by rw [aC,aY];exact bBy)) D ⟨rfl,?_⟩);exact S.drop.drop.drop
end
section
def le4 (y:Nat):List UInt8:=[UInt8.ofNat y,UInt8.ofNat (y / 256),UInt8.ofNat (y / 65536),UInt8.ofNat (y / 16777216)]
end
section
open Go.RowKit
theorem wL(w:World)(e:TypeId)(cs:Array Value)(l:Bs)(fr:Nat × Nat)(h:cs.toList=bv l)(hn:l.length<=4096){g:Nat}(hg:g=w.heap.size):Rd (w.alloc (.cells cs e fr)) 1 (.slice (some ⟨g,0,none⟩) l.length l.length) l.length (bv l):=by
 subst hg;refine ⟨by rw [aX];omega,_,_,rfl,Nat.le_refl _,by unfold maxLen;omega,(fun h=>by cases h),fun ad had j u hu=>?_⟩
 cases had;have h1:=World.cell?_alloc_mark w cs e fr j;rw [<- h,Array.getElem?_toList] at hu;rw [hu] at h1
 by_cases hj:j=0
 . subst hj;simpa [Addr.add] using h1
 . simpa [Addr.add,hj] using h1
theorem mG(w:World)(C:Array Value)(n c g:Nat)(hg:g=w.heap.size):(convert 32 32 (.slice (some ⟨g,0,none⟩) n c)).run prog (w.alloc (.cells C 5))=.ok (.slice (some ⟨g,0,none⟩) n c) (w.alloc (.cells C 5 (C.size,C.size+1))):=by
 subst hg;exact Lib.run_convert_bytes_const (P:=prog) w 32 5 C n c underlying32 underlying5
def nD (v:Value) (n:Nat) (xs:List Value):Res where
 fp:=v.ownBlock.toList
 ok:=fun w=>Rd w 1 v n xs ∧ ∀ g,v.ownBlock=some g->g < w.heap.size
 keep:=fun _ _ _ h hk hn=>⟨h.1.kp hk (fun g hg=>hn g (by simp [hg])),fun g hg=>Nat.lt_of_lt_of_le (h.2 g hg) hk.size⟩
 lt:=fun _ h b hb=>h.2 b (by simpa using hb)
def bBn:List UInt8:=[78,84,82,89]
def aO4 (s:Int) (h:Bs):List UInt8:=bBn ++ be 8 (bB5 s) ++ h
def bBa (s:Int) (h:Bs):List UInt8:=aO4 s h ++ le4 (crc (aO4 s h))
theorem eM(off:Nat):∀ (xs:List Value) (k:Nat) (cs:Array Value),(xs.zipIdx k).foldl (fun cs (x:Value × Nat)=>cs.setIfInBounds (off+x.2) x.1) cs=(cs.toList.take (off+k) ++ (xs.take (cs.size - (off+k))) ++ cs.toList.drop (off+k+xs.length)).toArray
 |[],k,cs=>by simp
 |x :: xs,k,cs=>by
  rw [List.zipIdx_cons,List.foldl_cons,eM off xs (k+1)]
  congr 1
  simp only [Array.toList_setIfInBounds,Array.size_setIfInBounds]
  by_cases h:off+k < cs.size
  . have e1:(cs.toList.set (off+k) x).take (off+(k+1))=cs.toList.take (off+k) ++ [x]:=by
     rw [List.set_eq_take_append_cons_drop,if_pos (by simpa using h),List.take_append,List.take_take,List.length_take];simp [show min (off+k) cs.size=off+k from by omega,show off+(k+1) - (off+k)=1 from by omega]
    have e2:(cs.toList.set (off+k) x).drop (off+(k+1)+xs.length)=cs.toList.drop (off+k+(x :: xs).length):=by
     rw [List.drop_set,if_pos (by omega)]
     congr 1
     simp only [List.length_cons];omega
    rw [e1,e2,show cs.size - (off+k)=(cs.size - (off+(k+1)))+1 from by omega,List.take_succ_cons]
    simp
  . rw [List.set_eq_of_length_le (by simpa using h)];rw [show cs.size - (off+(k+1))=0 from by omega,show cs.size - (off+k)=0 from by omega];have hl:cs.toList.length<=off+k:=by simpa using h
    rw [List.take_of_length_le (by omega),List.take_of_length_le hl,List.drop_of_length_le (by omega),List.drop_of_length_le (by omega)]
    simp
theorem bD1(ps:List (Nat × Value)):prog.built 25 ps=Instr.fill (#[(0,1),(1,32)][·]?) aH6 ps:=by
 unfold Program.built
 kernel_rfl
theorem bD2(z:Int)(hh:Bs)(hl:hh.length=32):prog.built 25 [(0,.int .i64 z),(1,.agg (aA hh))]=some (cL z hh):=by
 rw [bD1];have e:∀ (z:Int),(aH6.setIfInBounds 0 (.int .i64 z))=cL z (List.replicate 32 0):=fun z=>rfl
 have h:((aA hh).zipIdx.foldl (fun cs (x:Value × Nat)=>cs.setIfInBounds (1+x.2) x.1) (cL z (List.replicate 32 0)))=cL z hh:=by
  have h1:=eM 1 (aA hh).toList 0 (cL z (List.replicate 32 0));have h2:=aX3 z (List.replicate 32 0) hh hl rfl;rw [show (aA hh).zipIdx.foldl (fun cs (x:Value × Nat)=>cs.setIfInBounds (1+x.2) x.1) (cL z (List.replicate 32 0))=((aA hh).toList.zipIdx 0).foldl (fun cs (x:Value × Nat)=>cs.setIfInBounds (1+x.2) x.1) (cL z (List.replicate 32 0)) from by rw [<- Array.foldl_toList,Array.toList_zipIdx],h1,<- h2]
  congr 1
  rw [List.take_of_length_le (l:=(aA hh).toList) (by rw [bV (by simp),Array.length_toList,aC,hl];decide)]
  simp
 have hs:(aA hh).size=32:=by rw [aC,hl]
 have hs0:aH6.size=33:=rfl;have hs1:(cL z (List.replicate 32 0)).size=33:=bV (by simp)
 have f1:Instr.fill (#[(0,1),(1,32)][·]?) (cL z (List.replicate 32 0)) [(1,.agg (aA hh))]=some (cL z hh):=by
  unfold Instr.fill
  show (if (decide ((aA hh).size ≠ 32) || decide (1+(aA hh).size > (cL z (List.replicate 32 0)).size))=true then none else Instr.fill (#[(0,1),(1,32)][·]?) ((aA hh).zipIdx.foldl (fun cs (x:Value × Nat)=>cs.setIfInBounds (1+x.2) x.1) (cL z (List.replicate 32 0))) [])=some (cL z hh)
  rw [hs,hs1,h]
  rfl
 unfold Instr.fill;exact f1
theorem qZ.len_le{w:World}{v:Value}{L:List (List UInt8)}(h:qZ w v L):L.length<=9223372036854775807:=by
 obtain ⟨vs,⟨_,A',c',_,h1,h2,_⟩,_⟩:=h;unfold maxLen at h2;omega
theorem qZ.at_{w:World}{ad:Addr}{n c:Nat}{L:List (List UInt8)}(h:qZ w (.slice (some ad) n c) L){k:Nat}(hk:k < L.length):∃ A c,w.cell? (ad.add k)=some (.slice A L[k].length c) ∧ Rd w 1 (.slice A L[k].length c) L[k].length (bv L[k]):=by
 obtain ⟨A',c',e,_,h2⟩:=h.open_
 cases e;obtain ⟨u,h3,h4⟩:=h2 ad rfl k hk;obtain ⟨A,c,rfl,_⟩:=aBz h4;exact ⟨A,c,h3,h4⟩
def zY (bs:Bs) (w:World) (v:Value) (w':World):Prop:=Ow w' 5 1 v bs.length (bv bs) ∧ Kp [] w w' ∧ ∀ g,v.ownBlock=some g->w.heap.size<=g
theorem zY.nil(w w':World)(h:Kp [] w w'):zY [] w (.slice none 0 0) w':=⟨World.ownsRow_nil _ _ _ _,h,by simp [Value.ownBlock]⟩
theorem aGe{ops:Array Oper}{rest:List Oper}{o:Oper}{a:Act}{w:World}{Q:Exit->Act->World->Prop}(hgd:o.guard=none)(s x:Operand)
 (ho:o.op=.call { callee:=.builtin .append,args:=#[s,x],argTypes:=#[32,32] })
 (v:Value) (xs:Bs) (hs:a.eval s=v) {w0:World} (hown:zY xs w0 v w)
 (y:Value) (ys:Bs) (hx:a.eval x=y) (hr:Rd w 1 y ys.length (bv ys)) (hb:xs.length+ys.length<=140737488355328)
 (h:∀ v' w',zY (xs ++ ys) w0 v' w'->wpList prog ops Q rest (a.put o.dst v') w'):wpList prog ops Q (o :: rest) a w:=
 qE hgd s x ho v xs hs hown.1 y ys hx hr w0 hown.2.1 hown.2.2 hb (fun v' w' h1 h2 _ h4 _=>h v' w' ⟨h1,h2,h4⟩)
def rdS (bs:Bs):Int:=wrap64 (lM ((bs.drop 4).take 8))
def rdH (bs:Bs):List UInt8:=(bs.drop 12).take 32
def bB1 (bs:Bs):Prop:=bs.length=48 ∧ 0<=rdS bs ∧ bBa (rdS bs) (rdH bs)=bs
instance (bs:Bs):Decidable (bB1 bs):=by unfold bB1;exact inferInstance
end
section
open Go.RowKit
theorem Held.grown{w0 w w':World}{l1 l2:List Res}{e:TypeId}{s n n':Nat}{v v':Value}{xs xs':List Value}(h:Held w0 w (l1 ++ aG e s v n xs :: l2))(ho:Ow w' e s v' n' xs')(hg:Kp v.ownBlock.toList w w')(hv:v'.ownBlock=v.ownBlock ∨ v'.ownBlock=some w.heap.size):
 Held w0 w' (l1 ++ aG e s v' n' xs' :: l2):=
 h.turnAt (aG e s v' n' xs') hg ho (fun b hb=>by
  rcases hv with e|e
  . exact .inl (by simpa [aG,e] using hb)
  . simp only [aG,e,Option.toList_some,List.mem_singleton] at hb;exact .inr (by omega))
section
variable {ops:Array Oper} {rest:List Oper} {o:Oper} {a:Act} {w:World} {Q:Exit->Act->World->Prop}
theorem iG(l1:List Res){w0:World}{l2:List Res}(hgd:o.guard=none)(s x:Operand)
 (ho:o.op=.call { callee:=.builtin .append,args:=#[s,x],argTypes:=#[32,32] })
 (v:Value) (xs:Bs) (hs:a.eval s=v) (S:Held w0 w (l1 ++ aG 5 1 v xs.length (bv xs) :: l2))
 (y:Value) (ys:Bs) (hx:a.eval x=y) (hr:Rd w 1 y ys.length (bv ys)) (hb:xs.length+ys.length<=140737488355328)
 (h:∀ v' w',Held w0 w' (l1 ++ aG 5 1 v' (xs ++ ys).length (bv (xs ++ ys)) :: l2)->wpList prog ops Q rest (a.put o.dst v') w'):wpList prog ops Q (o :: rest) a w:=
 qE hgd s x ho v xs hs (S.at_) y ys hx hr w0 S.k (fun g hg=>S.base (aG 5 1 v xs.length (bv xs)) (by simp) g (by simp [aG,hg])) hb (fun v' w' o' _ k' _ h'=>h v' w' (S.grown o' k' h'))
theorem wM{w0:World}{L:List Res}(hgd:o.guard=none)(s x:Operand)
 (ho:o.op=.call { callee:=.builtin .append,args:=#[s,x],argTypes:=#[32,32] })
 (hs:a.eval s=.slice none 0 0) (S:Held w0 w L)
 (y:Value) (ys:Bs) (hx:a.eval x=y) (hr:Rd w 1 y ys.length (bv ys)) (hb:ys.length<=140737488355328)
 (h:∀ v' w',Held w0 w' (aG 5 1 v' ys.length (bv ys) :: L)->wpList prog ops Q rest (a.put o.dst v') w'):wpList prog ops Q (o :: rest) a w:=
 qE hgd s x ho (.slice none 0 0) [] hs (World.ownsRow_nil _ _ _ _) y ys hx hr w0 S.k (by simp [Value.ownBlock]) (by simpa using hb) (fun v' w' o' _ k' _ h'=>h v' w' (S.rownew (by simpa using o') (by simpa [Value.ownBlock] using k') (fun g hg=>by
  rcases h' with e|e
  . rw [e] at hg;simp [Value.ownBlock] at hg
  . rw [e] at hg;cases hg;exact Nat.le_refl _)))
end
end
section
open Go.RowKit
section
variable {P:Program} {ops:Array Oper} {rest:List Oper} {o:Oper} {a:Act} {w:World} {Q:Exit->Act->World->Prop}
theorem nR(j d:Nat)(b:Bool)(hg:o.guard=some (j,b))(hj:(ops[j]?).bind (·.dst)=some d)(hd:a.tmps[d]?.getD undef=.bool b)
 (h:∀ K:Act->World->Prop,(∀ a w,wpList P ops Q rest a w->K a w)->o.wp P a w K Q):wpList P ops Q (o :: rest) a w:=
 wpList_step fun K hK=>by
  rw [if_pos (by simp [Region.wanted,hg,gY hj hd])];exact h K hK
theorem pZ(j d:Nat)(b:Bool)(hg:o.guard=some (j,b))(hj:(ops[j]?).bind (·.dst)=some d)(hd:a.tmps[d]?.getD undef=.bool b)
 (ty:TypeId) (x:Operand) (ho:o.op=.load ty x) (g:Nat) (hx:a.eval x=Pq g 0)
 (t:TypeId) (cs:Array Value) (hb:aM w g t cs) (ds:TypeDesc) (hu:P.underlying ty=some ds) (hds:nW ds=true) (hi:(P.info? ty).map (·.size)=some cs.size)
 (h:wpList P ops Q rest (a.put o.dst (.agg cs)) w):wpList P ops Q (o :: rest) a w:=
 nR j d b hg hj hd fun K hK=>by
  unfold Oper.wp;rw [dK ho hx (bY w ⟨g,0,none⟩ ty cs.toList ds hb.agg hu hds (by rw [hi,Array.length_toList]))];exact hK _ _ h
end
end
section
open Go.RowKit
theorem yV(w:World)(d:Nat)(a b:Bs):∀ (m k:Nat),a.length=k+m->b.length=k+m->
 (Op.eqItems (d+1) 5 1 (aA a) (aA b) (List.range' k m)).run prog w=.ok (a.drop k == b.drop k) w
 |0,k,ha,hb=>by
  rw [List.drop_of_length_le (by omega),List.drop_of_length_le (by omega)];simp [Op.eqItems]
 |m+1,k,ha,hb=>by
  have h1:k < a.length:=by omega
  have h2:k < b.length:=by omega
  have p1:(part 5 (aA a) (k * 1)).run prog w=.ok (.int .u8 (a[k].toNat:Int)) w:=run_part_plain w (by kernel_rfl) (by
   rw [Nat.mul_one];simp [aA,bv,h1])
  have p2:(part 5 (aA b) (k * 1)).run prog w=.ok (.int .u8 (b[k].toNat:Int)) w:=run_part_plain w (by kernel_rfl) (by
   rw [Nat.mul_one];simp [aA,bv,h2])
  have p3:=run_equalIn_int (P:=prog) w d 5 .u8 .u8 (a[k].toNat:Int) (b[k].toNat:Int) underlying5;rw [List.range'_succ,List.drop_eq_getElem_cons h1,List.drop_eq_getElem_cons h2,List.cons_beq_cons];simp only [Op.eqItems,Sem.run_bind,p1,p2,p3,Result.andThen_ok]
  by_cases e:a[k]=b[k]
  . rw [e];simp only [beq_self_eq_true,Bool.not_true,Bool.false_eq_true,if_false];rw [yV w d a b m (k+1) (by omega) (by omega),Bool.true_and]
  . have e1:((a[k].toNat:Int) == (b[k].toNat:Int))=false:=beq_false_of_ne (fun h=>e (UInt8.toNat.inj (by omega)));rw [e1,beq_false_of_ne e]
    rfl
theorem mI(w:World)(d:Nat)(a b:Bs)(ha:a.length=32)(hb:b.length=32):(Op.equalIn (d+2) 23 (.agg (aA a)) (.agg (aA b))).run prog w=.ok (a == b) w:=by
 obtain ⟨i0,hi,-,-,-⟩:=info_parts bC2;rw [run_equalIn_array w (d+1) (aA a) (aA b) underlying23 hi,show prog.cellsOf 5=1 from by kernel_rfl,List.range_eq_range',yV w d a b 32 0 (by omega) (by omega)]
 rfl
theorem aEk(s:Int)(h:Bs)(hh:h.length=32):(cL s h).extract 1 33=aA h:=by
 apply Array.ext'
 rw [Array.toList_extract,List.extract_eq_take_drop]
 show ((Value.int .i64 s :: bv h).drop 1).take 32=bv h
 rw [List.drop_succ_cons,List.drop_zero,List.take_of_length_le (by rw [aX,hh];omega)]
theorem tV {P : Program} (w : World) (D : Nat) (xs ys : Array Value) (f g : Field) (n1 : f.name ≠ "_") (n2 : g.name ≠ "_") (a b c e : Value) (r1 r2 : Bool)
 (h1:(part f.type xs f.offset).run P w=.ok a w) (h2:(part f.type ys f.offset).run P w=.ok b w) (h3:(Op.equalIn D f.type a b).run P w=.ok r1 w)
 (h4:(part g.type xs g.offset).run P w=.ok c w) (h5:(part g.type ys g.offset).run P w=.ok e w) (h6:(Op.equalIn D g.type c e).run P w=.ok r2 w):(Op.eqFields D xs ys [f,g]).run P w=.ok (r1 && r2) w:=by
 simp only [Op.eqFields,n1,n2,ne_eq,not_false_eq_true,if_true,Sem.run_bind,h1,h2,h3,Result.andThen_ok]
 cases r1
 . simp
 . simp only [Bool.not_true,Bool.false_eq_true,if_false,Sem.run_bind,h4,h5,h6,Result.andThen_ok]
   cases r2 <;> simp
theorem aDp(w:World)(d:Nat)(s t:Int)(a b:Bs)(ha:a.length=32)(hb:b.length=32):(Op.equalIn (d+3) 25 (.agg (cL s a)) (.agg (cL t b))).run prog w=.ok (decide (s=t) && (a == b)) w:=by
 have hu : ∃ f g : Field, prog.underlying 25 = some (.struct #[f, g]) ∧ f.name = "Size" ∧ f.type = 2 ∧ f.offset = 0 ∧ g.name = "Root" ∧ g.type = 23 ∧ g.offset = 1 := ⟨_, _, underlying25, rfl, rfl, rfl, rfl, rfl, rfl⟩
 obtain ⟨f,g,hu,f1,f2,f3,g1,g2,g3⟩:=hu;have hf:prog.fieldsOf 25=#[f,g]:=by unfold Program.fieldsOf;rw [hu]
 rw [run_equalIn_agg (P:=prog) w (d+2) 25 (cL s a) (cL t b) (by rw [hf];exact hu) Tryz.stoodInHeld25,hf]
 have n1 : ¬ ("Size" = "_") := by decide
 have n2 : ¬ ("Root" = "_") := by decide
 have p1:(part 2 (cL s a) 0).run prog w=.ok (.int .i64 s) w:=run_part_plain w (by kernel_rfl) rfl;have p2:(part 2 (cL t b) 0).run prog w=.ok (.int .i64 t) w:=run_part_plain w (by kernel_rfl) rfl;have p3:=run_equalIn_int (P:=prog) w (d+1) 2 .i64 .i64 s t underlying2
 have q:∀ s a,a.length=32->(part 23 (cL s a) 1).run prog w=.ok (.agg (aA a)) w:=by
  intro s a ha
  obtain ⟨i0,hi,hz⟩:∃ i,prog.info? 23=some i ∧ i.size=32:=by
   have:=bBy
   cases h:prog.info? 23 with
   |none=>rw [h] at this;cases this
   |some i=>rw [h] at this;exact ⟨i,rfl,Option.some.inj this⟩
  have hS:(sizeOf 23).run prog w=.ok 32 w:=by rw [<- hz];simp only [sizeOf,typeInfo];simp [hi,go_sem]
  have hA:(isAgg 23).run prog w=.ok true w:=by simp [isAgg,run_underlying underlying23]
  simp only [part,Sem.run_bind,hA,hS,Result.andThen_ok,if_true,Sem.run_pure];rw [show 1+32=33 from rfl,aEk s a ha]
 have q3:=mI w d a b ha hb;have e1:decide (s=t)=(s == t):=by by_cases e:s=t <;> simp [e]
 rw [e1];exact tV w (d+2) _ _ f g (by rw [f1];exact n1) (by rw [g1];exact n2) (.int .i64 s) (.int .i64 t) (.agg (aA a)) (.agg (aA b)) _ _ (by rw [f2,f3];exact p1) (by rw [f2,f3];exact p2) (by rw [f2];exact p3) (by rw [g2,g3];exact q s a ha) (by rw [g2,g3];exact q t b hb) (by rw [g2];exact q3)
theorem lT(w:World)(a b:Bs)(ha:a.length=32)(hb:b.length=32):(Op.equalIn 10000 23 (.agg (aA a)) (.agg (aA b))).run prog w=.ok (a == b) w:=by
 have h:=fun n (e:n+2=10000)=>e ▸ mI w n a b ha hb
 exact h 9998 (by decide)
theorem aE2(w:World)(s t:Int)(a b:Bs)(ha:a.length=32)(hb:b.length=32):(Op.equalIn 10000 25 (.agg (cL s a)) (.agg (cL t b))).run prog w=.ok (decide (s=t) && (a == b)) w:=by
 have h:=fun n (e:n+3=10000)=>e ▸ aDp w n s t a b ha hb
 exact h 9997 (by decide)
theorem jT(w:World)(a b:Bs)(ha:a.length=32)(hb:b.length=32):(binOp .eql 23 (.agg (aA a)) (.agg (aA b))).run prog w=.ok (.bool (a == b)) w:=by
 rw [run_eql_struct,lT w a b ha hb,Result.andThen_ok]
theorem dJ(w:World)(a b:Bs)(ha:a.length=32)(hb:b.length=32):(binOp .neq 23 (.agg (aA a)) (.agg (aA b))).run prog w=.ok (.bool (!(a == b))) w:=by
 rw [run_neq_struct,lT w a b ha hb,Result.andThen_ok]
theorem aEt(w:World)(s t:Int)(a b:Bs)(ha:a.length=32)(hb:b.length=32):(binOp .neq 25 (.agg (cL s a)) (.agg (cL t b))).run prog w=.ok (.bool (!(decide (s=t) && (a == b)))) w:=by
 rw [run_neq_struct,aE2 w s t a b ha hb,Result.andThen_ok]
theorem yW(a b:Nat)(ha:a < 256)(hb:b < 256):bits .xor .u8 (a:Int) (b:Int)=((a ^^^ b:Nat):Int):=by
 show IntKind.u8.wrap ((BitVec.ofInt 8 (a:Int) ^^^ BitVec.ofInt 8 (b:Int)).toNat:Int)=_
 have h:∀ x:Nat,x < 256->(BitVec.ofInt 8 (x:Int)).toNat=x:=fun x hx=>by rw [BitVec.ofInt_natCast,BitVec.toNat_ofNat];exact Nat.mod_eq_of_lt (by omega)
 rw [BitVec.toNat_xor,h a ha,h b hb,yN,Nat.mod_eq_of_lt (show a ^^^ b < 256 from Nat.xor_lt_two_pow (n:=8) ha hb)]
theorem bH{P:Program}{w:World}{ρ:Operand->Value}{o:Oper}{op:BinOp}{t t2:TypeId}{x y:Operand}{xs ys:Array Value}{r:Value}(ho:o.op=.binOp op t x y t2)(hx:ρ x=.agg xs)(hy:ρ y=.agg ys)(hm:P.eqGuardType P.depth t=false)(h:(binOp op t (.agg xs) (.agg ys)).run P w=.ok r w):(execOp ρ o).run P w=.ok (.value r) w:=by
 unfold execOp;simp only [ho,hx,hy,Sem.run_bind,run_eqGuard_agg w op t x y xs ys hm,h,Result.andThen_ok,Sem.run_pure]
def dW (a b:Bs):Int:=Lib.compareBytes a b
theorem gU(x y:UInt8)(a b:Bs):dW (x :: a) (y :: b)=if x.toNat < y.toNat then -1 else if y.toNat < x.toNat then 1 else dW a b:=by
 simp only [dW,Lib.compareBytes,UInt8.lt_iff_toNat_lt]
theorem aB0:∀ (a b:Bs),-1<=dW a b ∧ dW a b<=1
 |[],[]=>by simp [dW,Lib.compareBytes]
 |[],_ :: _=>by simp [dW,Lib.compareBytes]
 |_ :: _,[]=>by simp [dW,Lib.compareBytes]
 |x :: a,y :: b=>by
  rw [gU];have:=aB0 a b
  split
  . omega
  . split <;> omega
theorem uB:∀ (a b:Bs),dW b a=- dW a b
 |[],[]=>rfl
 |[],_ :: _=>rfl
 |_ :: _,[]=>rfl
 |x :: a,y :: b=>by
  rw [gU,gU,uB a b]
  split <;> split <;> omega
theorem pM:∀ {a b:List UInt8},dW a b=0->a=b
 |[],[],_=>rfl
 |[],_ :: _,h=>by simp [dW,Lib.compareBytes] at h
 |_ :: _,[],h=>by simp [dW,Lib.compareBytes] at h
 |x :: a,y :: b,h=>by
  rw [gU] at h
  split at h
  . omega
  . split at h
    . omega
    . rw [pM h,UInt8.toNat_inj.1 (by omega:x.toNat=y.toNat)]
theorem fI:∀ (a:Bs),dW a a=0
 |[]=>rfl
 |x :: a=>by rw [gU,fI a];split <;> omega
end
section
def eZ (s:Bs):Bool:=decide (0 < s.length) && decide (s.length<=64) && s.all fun c=>decide (33<=c.toNat) && decide (c.toNat<=126)
abbrev bF:=List UInt8 × List UInt8
def dB:List UInt8->List bF->Bool
 |_,[]=>true
 |last,s :: l=>eZ s.1 && decide (0 < dW s.1 last) && dB s.1 l
def eH (z:Int) (l:List bF):Bool:=decide (0<=z) && decide (l.length<=64) && dB [] l
def cR (nm sec:Bs):Bool:=eZ nm && decide (0 < sec.length) && decide (sec.length<=256)
def iY (sec:Bs):List UInt8:=(if 64 < sec.length then dE sec else sec) ++ List.replicate (64 - (if 64 < sec.length then dE sec else sec).length) 0
def cK (k:Bs) (t:UInt8):List UInt8:=k.map (· ^^^ t)
def xE (sec msg:Bs):List UInt8:=dE (cK (iY sec) 92 ++ dE (cK (iY sec) 54 ++ msg))
theorem gE(sec:Bs):(iY sec).length=64:=by
 unfold iY;rw [List.length_append,List.length_replicate]
 split
 . rw [aY]
 . omega
theorem rE(sec msg:Bs):(xE sec msg).length=32:=aY _
end
section
open Go.RowKit
theorem uU(w0:World)(g:Nat)(m l:Bs)(st:List Nat)(blk:Bs)(hU:Und m st blk)(hml:m.length+l.length<=1152921504606846976)(x:Value)(L:List Res)(w:World)(HB:∀ V cs,Held w0 V (aB g 214 cs :: L)->Rd V 1 x l.length (bv l))
 (S:Held w0 w (aB g 214 (cV st blk m.length) :: L)):
 Calls prog 136 #[Pq g 0,x] w fun e w'=>e=.returned (.int .i64 0) ∧ ∃ st' blk',Und (m ++ l) st' blk' ∧ Held w0 w' (aB g 214 (cV st' blk' (m ++ l).length) :: L):=by
 obtain ⟨A,c,rfl⟩:=eG (HB w _ S);have HR:=LH (jW w0 g m l st blk hU (by omega) _ L w HB S);have HN:=LH (yI g _ (vB hU.len8 hU.len) w (S.at_ (l1:=[])));have c1:w.cell? ⟨g,72,none⟩=some (.int .i64 (m.length:Int)):=by rw [(S.at_ (l1:=[])).cell];exact kI hU.len8 hU.len
 generalize l.length=ll at *;generalize m.length=ml at *;have hw:wrap64 (1152921504606846976 - (ml:Int))=1152921504606846976 - (ml:Int):=by unfold wrap64;omega
 have hd:decide (1152921504606846976 - (ml:Int) < (ll:Int))=false:=by rw [decide_eq_false_iff_not];omega
 clear hU HB S hml;go_enter func136,ntmps136;go_wp2_with fail
 refine HN.out.mono ?_;rintro e w' ⟨rfl,rfl⟩;go_wp2_with fail
 refine HR.out.mono ?_;rintro e w2 ⟨rfl,h⟩;have h:=LH h;go_wp2
 go_ret
 exact ⟨rfl,h.out⟩
theorem tH(a b:UInt8):bits .xor .u8 (a.toNat:Int) (b.toNat:Int)=((a ^^^ b).toNat:Int):=by
 rw [UInt8.toNat_xor];exact yW _ _ a.toNat_lt b.toNat_lt
def rH (key:Bs) (t:UInt8) (k:Nat):List UInt8:=cK (key.take k) t ++ key.drop k
theorem aG0{key:List UInt8}{t:UInt8}{k:Nat}(h:k < key.length):(rH key t k)[k]?=some key[k]:=by
 unfold rH cK;rw [List.getElem?_append_right (by simp;omega)];simp [Nat.min_eq_left (Nat.le_of_lt h)]
theorem aAr{key:List UInt8}{t:UInt8}{k:Nat}(h:k < key.length):(rH key t k).set k (key[k] ^^^ t)=rH key t (k+1):=by
 unfold rH cK;rw [List.set_append_right _ _ (by simp;omega),List.drop_eq_getElem_cons h];simp only [List.length_map,List.length_take,Nat.min_eq_left (Nat.le_of_lt h),Nat.sub_self,List.set_cons_zero,List.take_add_one,List.getElem?_eq_getElem h,Option.toList_some,List.map_append,List.map_cons,List.map_nil,List.append_assoc,List.cons_append,List.nil_append]
theorem aD5{w:World}{g:Nat}{t:TypeId}{l:List UInt8}(h:aM w g t (aA l))(i:Nat)(c:UInt8)(hx:l[i]?=some c):w.cell? ⟨g,i,none⟩=some (.int .u8 (c.toNat:Int)):=by
 rw [h.cell i,show (aA l)[i]?=(bv l)[i]? from by simp [aA],iA,hx]
 rfl
def xY (W:World) (v:Value) (vs:List Value) (L:List (List UInt8)):Prop:=Rd W 1 v L.length vs ∧ ∀ i (hi:i < L.length),∃ u,vs[i]?=some u ∧ Rd W 1 u L[i].length (bv L[i])
theorem xY.kp0{W W':World}{v:Value}{vs:List Value}{L:List (List UInt8)}(h:xY W v vs L)(k:Kp [] W W'):xY W' v vs L:=⟨aT h.1 k,fun i hi=>by obtain ⟨u,h1,h2⟩:=h.2 i hi;exact ⟨u,h1,aT h2 k⟩⟩
theorem qZ.f{W:World}{v:Value}{L:List (List UInt8)}(h:qZ W v L):∃ vs,xY W v vs L:=h
theorem xY.at_{W:World}{ad:Addr}{n c:Nat}{vs:List Value}{L:List (List UInt8)}(h:xY W (.slice (some ad) n c) vs L){k:Nat}{u:Value}(hu:vs[k]?=some u):W.cell? (ad.add k)=some u:=by
 obtain ⟨-,A',c',he,-,-,-,hc⟩:=h.1
 cases he;exact hc ad rfl k u hu
end
section
variable {Q:Exit->Act->World->Prop} {a:Act} {w:World}
open Go.RowKit
theorem aIq(k n:Nat)(hsz:a.tmps.size=40)(o29:Sl a 29 (.int .i64 (n:Int)))(o30:Sl a 30 (.int .i64 (k:Int))):bK 10 f121 Q a w fun a' q'=>Sl a' 31 (.bool (decide (k < n)))->q':=rO
theorem aMr(k n c:Nat)(ad:Addr)(u:Value)(hk:k < n)(hc:w.cell? (ad.add k)=some u)(Ax:Option Addr)(nx cx:Nat)(hu:u=.slice Ax nx cx)(hsz:a.tmps.size=40)(o28:Sl a 28 (.slice (some ad) n c))(o30:Sl a 30 (.int .i64 (k:Int))):bK 11 f121 Q a w fun a' q'=>Sl a' 11 (.slice Ax nx cx)->q':=by
 subst hu;have hkn:(k:Int) < n:=by omega
 exact rO
theorem aMx(g:Nat)(y:Value)(Ax:Option Addr)(nx cx:Nat)(hy:y=.slice Ax nx cx)(R:World->Prop)(HR:Hid (Calls prog 136 #[Pq g 0,y] w fun e w'=>e=.returned (.int .i64 0) ∧ R w'))(hsz:a.tmps.size=40)(o9:Sl a 9 (.func (.func 136) #[Pq g 0] #[]))(o11:Sl a 11 (.slice Ax nx cx)):bC false 12 f121 Q a w fun a' W q'=>(R W)->q':=by
 refine bU fun hend=>?_;unfold Sl at o9 o11;subst hy;go_wp2_with fail
 refine HR.out.mono ?_;rintro e w4 ⟨rfl,S4⟩;have S4:=LH S4;go_wp2
 try simp only [Act.put]
 exact hend _ _ tS (S4.out)
theorem aI4(k:Nat)(hk:k < 9223372036854775807)(hsz:a.tmps.size=40)(o30:Sl a 30 (.int .i64 (k:Int))):bK 13 f121 Q a w fun a' q'=>Sl a' 30 (Nq (k+1))->q':=by
 have hw:wrap64 ((k:Int)+1)=(k:Int)+1:=by unfold wrap64;omega
 exact rO
theorem aIv(w0:World)(g g6:Nat)(hh c6:Bs)(hl:hh.length=32)(h6:c6.length=32)(L:List Res)(HR:Hid (Calls prog 135 #[Pq g 0] w fun e w'=>e=.returned (.agg (aA hh)) ∧ ∃ cs,Held w0 w' (aB g 214 cs :: aB g6 23 (aA c6) :: L)))(hsz:a.tmps.size=40)(o6:Sl a 6 (Pq g6 0))(o8:Sl a 8 (Pq g 0)):bC false 14 f121 Q a w fun a' W q'=>(∃ cs,Held w0 W (aB g 214 cs :: aB g6 23 (aA hh) :: L))->q':=by
 refine bU fun hend=>?_;unfold Sl at o6 o8;have hO:=LH (aI hh);have hsz1:Hid ((aA hh).size=32):=LH (by rw [aC,hl]);have hsz6:Hid ((aA c6).size=32):=LH (by rw [aC,h6]);obtain ⟨ch,hch⟩:∃ ch,Hid (aA hh=ch):=⟨_,LH rfl⟩;rw [hch.out] at HR hO hsz1;go_wp2_with fail
 refine HR.out.mono ?_;rintro e w4 ⟨rfl,cs,S4⟩;have S4:=LH S4;go_wp2_with (refine aD rfl 23 (.tmp 6) (.tmp 39) rfl g6 (aO o6) ch aE 23 _ (S4.out.at_ (l1:=[_])) (by rw [hsz1.out];exact bBy) (by rw [hsz1.out,hsz6.out]) hO.out ?_;intro w5 b5 k5;have S5:=LH (Held.setBlk (l1:=[_]) S4.out b5 k5);clear b5 k5)
 rw [<- hch.out] at S5
 try simp only [Act.put]
 exact hend _ _ tS (⟨_,S5.out⟩)
def bBg:List Nat:=[11,30,31,32,33,34,35,36,37]
theorem aU8{Q:Exit->Act->World->Prop}{a:Act}{w0 w:World}(g:Nat)(kt:Bs)(A:Option Addr)(c:Nat)(vs:List Value)(ls:List (List UInt8))(hsum:kt.length+ls.flatten.length<=1152921504606846976)(L:List Res)(HX:∀ V cs,Held w0 V (aB g 214 cs :: L)->xY V (.slice A ls.length c) vs ls)(hll:ls.length<=9223372036854775807)
 (st:List Nat) (blk:Bs) (hU:Und kt st blk) (hsz:a.tmps.size=40) (o9:Sl a 9 (.func (.func 136) #[Pq g 0] #[])) (o28:Sl a 28 (.slice A ls.length c)) (o29:Sl a 29 (.int .i64 (ls.length:Int))) (o30:Sl a 30 (.int .i64 0))
 (S:Held w0 w (aB g 214 (cV st blk kt.length) :: L))
 (hend:∀ (a':Act) (W:World) (st:List Nat) (blk:Bs),Same a a' bBg->Und (kt ++ ls.flatten) st blk->Held w0 W (aB g 214 (cV st blk (kt ++ ls.flatten).length) :: L)->Q (.exit 2) a' W):
 (dR 2 f121).wp prog Q a w:=by
 (conv=>arg 2;whnf)
 refine wp_loop (fun a' w'=>∃ (k:Nat) (st:List Nat) (blk:Bs),k<=ls.length ∧ Same a a' bBg ∧ Sl a' 30 (.int .i64 (k:Int)) ∧ Und (kt ++ (ls.take k).flatten) st blk ∧ Held w0 w' (aB g 214 (cV st blk (kt ++ (ls.take k).flatten).length) :: L)) (fun a' _=>ls.length - (intOf (a'.eval (.tmp 30))).toNat) ⟨0,st,blk,Nat.zero_le _,Same.refl _ _,o30,by rw [List.take_zero,List.flatten_nil,List.append_nil];exact hU,by rw [List.take_zero,List.flatten_nil,List.append_nil];exact S⟩ ?_;clear hU S o30;rintro a1 w1 ⟨k,st,blk,hk,T,o30,hU,S⟩;have o9:=T.keep 9 _ (by decide) o9;have o28:=T.keep 28 _ (by decide) o28;have o29:=T.keep 29 _ (by decide) o29;have hz1:=T.size.trans hsz;have eCtr:=o30.eval (by rw [hz1];decide);refine wp_seq (aIq k ls.length hz1 o29 o30 (fun a2 hs2 o31=>?_));obtain ⟨hz2,-,o9,o28,o29,o30⟩:=fH hs2 hz1 rfl o9 o28 o29 o30;have T:=T.trans hs2
 by_cases hlt:k < ls.length
 . refine wp_seq (cS o31 (wp_skip ?_) (by rw [decide_eq_true hlt]))
   obtain ⟨ad,rfl⟩:∃ ad,A=some ad:=by
    obtain ⟨A',c',he,h1,-⟩:=(show qZ w1 _ ls from ⟨vs,HX w1 _ S⟩).open_
    cases he;exact h1 (by omega)
   obtain ⟨u,hu,hru⟩:=(HX w1 _ S).2 k hlt;have hc:=(HX w1 _ S).at_ hu;obtain ⟨Ax,cx,hform⟩:=eG hru
   have HB:∀ V cs,Held w0 V (aB g 214 cs :: L)->Rd V 1 u ls[k].length (bv ls[k]):=fun V cs SV=>by
    obtain ⟨u',hu',hr'⟩:=(HX V cs SV).2 k hlt;rw [hu] at hu'
    cases hu';exact hr'
   have hfl:(ls.take (k+1)).flatten=(ls.take k).flatten ++ ls[k]:=by rw [List.take_add_one,List.getElem?_eq_getElem hlt];simp only [Option.toList_some,List.flatten_append,List.flatten_cons,List.flatten_nil,List.append_nil]
   have hle:((ls.take (k+1)).flatten).length<=ls.flatten.length:=by
    conv=>rhs;rw [<- List.take_append_drop (k+1) ls,List.flatten_append,List.length_append]
    omega
   have hbd:(kt ++ (ls.take k).flatten).length+ls[k].length<=1152921504606846976:=by
    rw [hfl,List.length_append] at hle;rw [List.length_append];omega
   have HR:=LH (uU w0 g (kt ++ (ls.take k).flatten) ls[k] st blk hU hbd u L w1 HB S);rw [List.append_assoc,<- hfl] at HR;refine wp_seq (wp_block ?_);refine wp_seq (aMr k ls.length c ad u hlt hc Ax ls[k].length cx hform hz2 o28 o30 (fun a3 hs3 o11=>?_));obtain ⟨hz3,-,o9,o28,o29,o30,o31⟩:=jJ hs3 hz2 rfl o9 o28 o29 o30 o31;have T:=T.trans hs3;refine aMx g u Ax ls[k].length cx hform _ HR hz3 o9 o11 (fun a4 w2 hs4 h=>?_);obtain ⟨hz4,-,o9,o28,o29,o30,o31,o11⟩:=jF hs4 hz3 rfl o9 o28 o29 o30 o31 o11;have T:=T.trans hs4;obtain ⟨st2,blk2,U2,S2⟩:=h;refine aI4 k (by omega) hz4 o30 (fun a5 hs5 o30=>?_);obtain ⟨hz5,-,o9,o28,o29,o31,o11⟩:=jJ hs5 hz4 rfl o9 o28 o29 o31 o11;have T:=T.trans hs5;refine ⟨⟨k+1,st2,blk2,hlt,T.more (by decide +kernel),o30,U2,S2⟩,?_⟩
   show ls.length - (intOf _).toNat < ls.length - (intOf _).toNat
   rw [eCtr,o30.eval (by rw [hz5];decide)]
   show ls.length - (k+1) < ls.length - k
   omega
 . obtain rfl:k=ls.length:=by omega
   refine wp_seq (dD o31 (wp_exit ?_) (by rw [decide_eq_false hlt]));rw [List.take_length] at hU S;exact hend _ _ st blk (T.more (by decide +kernel)) hU S
theorem tE(w0:World)(L:List Res)(key:Bs)(hk:key.length=64)(t:UInt8)(x:Value)(vs:List Value)(ls:List (List UInt8))(hsum:64+ls.flatten.length < 1152921504606846976)(w:World)(S:Held w0 w L)(HX:∀ V,Held w0 V L->xY V x vs ls):
 Calls prog 121 #[.agg (aA key),.int .u8 (t.toNat:Int),x] w fun e w'=>e=.returned (.agg (aA (dE (cK key t ++ ls.flatten)))) ∧ Held w0 w' L:=by
 obtain ⟨A,c,rfl,-,-⟩:=(show qZ w x ls from ⟨vs,HX w S⟩).open_;have S0:=LH ((S.newBlk 181 (aA key)).newBlk 23 (aA (List.replicate 32 0)));simp only [World.size_alloc] at S0;have HX:=LH HX;have Hk:=LH hk;have hsum:=LH hsum;obtain ⟨ck,hck⟩:∃ ck,Hid (aA key=ck):=⟨_,LH rfl⟩;rw [hck.out] at S0 ⊢;clear S hk;go_enter func121,ntmps121;go_wp2
 change Code.wp _ _ _ _ ((w.alloc (.cells ck 181)).alloc (.cells (aA (List.replicate 32 0)) 23))
 generalize (w.alloc (.cells ck 181)).alloc (.cells (aA (List.replicate 32 0)) 23)=w1 at *;generalize w.heap.size=g3 at *;obtain ⟨g6,hg6⟩:∃ g6,g3+1=g6:=⟨_,rfl⟩;rw [hg6] at S0 ⊢;rw [<- hck.out] at S0;clear hg6
 go_loopw [7,12] (fun _ i wr=>∃ k:Nat,k<=64 ∧ i=.int .i64 (k:Int) ∧ Held w0 wr (aB g6 23 (aA (List.replicate 32 0)) :: aB g3 181 (aA (rH key t k)) :: L)) (fun _ i _=>64 - (intOf i).toNat)
 case atStart=>exact ⟨0,by omega,rfl,S0.out⟩
 case round=>
  clear S0;obtain ⟨k,hk,rfl,S⟩:=hrel;have S:=LH S
  by_cases hlt:k < 64
  . have hkl:k < key.length:=by rw [Hk.out];exact hlt
    have q1:=aD5 (S.out.at_ (l1:=[_])) k _ (aG0 hkl);have q2:=(S.out.at_ (l1:=[_])).frozen k;have hx:=tH key[k] t;have S2:Hid (Held w0 (wr.setCell ⟨g3,k,none⟩ (.int .u8 ((key[k] ^^^ t).toNat:Int))) _):=LH (S.out.set (l1:=[_]) k (.int .u8 ((key[k] ^^^ t).toNat:Int)));rw [wB,aAr hkl] at S2;generalize key[k] ^^^ t=y at *;generalize key[k]=z at *;clear hkl;go_wp2
    go_roundw
    case rel=>exact ⟨k+1,by omega,by go_num,S2.out⟩
    case measure=>simp [intOf];omega
  . obtain rfl:k=64:=by omega
    have e:rH key t 64=cK key t:=by
     unfold rH;rw [List.take_of_length_le (by rw [Hk.out];omega),List.drop_of_length_le (by rw [Hk.out];omega),List.append_nil]
    rw [e] at S;obtain ⟨kt,Hkt0⟩:∃ kt,Hid (cK key t=kt):=⟨_,LH rfl⟩;have Hkt:Hid (kt.length=64):=LH (by rw [<- Hkt0.out];unfold cK;rw [List.length_map];exact Hk.out);rw [Hkt0.out] at S;clear e;go_wp2_with fail
    refine (uT w0 _ _ S.out).mono ?_;rintro e w2 ⟨g,rfl,S2⟩;have S2:=LH S2;go_wp2_with fail
    refine (uU w0 g [] kt hF (List.replicate 64 0) Und.new (by rw [Hkt.out];simp) _ _ w2 (fun V cs SV=>?_) S2.out).mono ?_
    . have:=sZ (SV.at_ (l1:=[_,_])) 0 (Nat.zero_le _) (by rw [Hkt.out];omega)
      rw [Hkt.out] at this ⊢;exact this
    rintro e w3 ⟨rfl,st,blk,U3,S3⟩;rw [List.nil_append] at U3 S3;have U3:=LH U3;have S3:=LH S3;have hll:=LH (show qZ w3 _ ls from ⟨vs,HX.out w3 S3.out.drop.drop.drop⟩).len_le;go_wp2_with fail
    have HU3:=U3;have hsum2:kt.length+ls.flatten.length<=1152921504606846976:=by have:=hsum.out;have:=Hkt.out;omega
    refine aU8 g kt A c vs ls hsum2 (aB g6 23 (aA (List.replicate 32 0)) :: aB g3 181 (aA kt) :: L) (fun V cs SV=>HX.out V SV.drop.drop.drop) hll.out st blk U3.out rfl (oZ rfl) (oZ rfl) (oZ rfl) (oZ rfl) S3.out (fun a' w4 st2 blk2 hs4 U4 S4=>?_);simp only [Exit.inBlock,if_true];have hz4:a'.tmps.size=40:=hs4.size;have o6:Sl a' 6 (Pq g6 0):=hs4.q (oZ rfl);have o8:Sl a' 8 (Pq g 0):=hs4.q (oZ rfl)
    have hbd:(kt ++ ls.flatten).length < 1152921504606846976:=by
     have h1:=hsum.out;have h2:=Hkt.out;rw [List.length_append];omega
    have HR0:=tL w0 g (kt ++ ls.flatten) st2 blk2 U4 hbd _ w4 S4;go_step;go_step
    refine wp_seq (aIv w0 g g6 _ (List.replicate 32 0) (aY _) rfl _ (LH (HR0.mono (fun e w' h=>⟨h.1,⟨_,h.2⟩⟩))) hz4 o6 o8 (fun a5 w5 hs5 h5=>?_));obtain ⟨cs5,S5⟩:=h5;have hz5:=hs5.size.trans hz4;have o6:=hs5.q o6;refine wp_ret (bodyPost_ret (aV (by rfl) (o6.eval (by rw [hz5];decide)) (S5.at_ (l1:=[_])) underlying23 rfl (by rw [aC,aY];exact bBy)) (hs5.defers.trans hs4.defers) ?_);exact ⟨by rw [Hkt0.out],S5.drop.drop.drop⟩
theorem Rd.of_hash{w:World}{g:Nat}{t:TypeId}{h:List UInt8}(hb:aM w g t (aA h)){n:Nat}(hn:h.length=n)(hm:h.length<=1000:=by omega):Rd w 1 (.slice (some ⟨g,0,none⟩) n n) n (bv h):=by
 subst hn;have:=sZ hb 0 (Nat.zero_le _) hm
 simpa using this
theorem aM0{w:World}{g n:Nat}{t:TypeId}{u:Value}{h:List UInt8}(hb:aM w g t #[u])(hr:Rd w 1 u n (bv h)):xY w (.slice (some ⟨g,0,none⟩) 1 1) [u] [h]:=by
 have hn:n=h.length:=by
  have:=hr.1
  rw [aX] at this;omega
 subst hn;refine ⟨⟨rfl,_,_,rfl,Nat.le_refl _,by unfold maxLen;omega,(fun h=>by cases h),fun ad had j v hv=>?_⟩,fun i hi=>?_⟩
 . cases had;rcases j with _|j
   . cases hv;exact hb.cell 0
   . cases hv
 . obtain rfl:i=0:=by simpa using hi
   exact ⟨u,rfl,hr⟩
theorem aDw(w0:World)(L:List Res)(ad:Addr)(u:Value)(s:Bs)(hs0:s.length < 1152921504606846976)(w:World)(S:Held w0 w L)(HX:∀ V,Held w0 V L->V.cell? ad=some u ∧ Rd V 1 u s.length (bv s)):
 Calls prog 120 #[.slice (some ad) 1 1] w fun e w'=>e=.returned (.agg (aA (dE s))) ∧ Held w0 w' L:=by
 obtain ⟨A,c,rfl⟩:=eG (HX w S).2;have HX:=LH HX;have hs:=LH hs0;clear hs0;have S0:=LH (S.newBlk 23 (aA (List.replicate 32 0)));clear S;go_enter func120,ntmps120;go_wp2_with fail
 refine (uT w0 _ _ S0.out).mono ?_;rintro e w2 ⟨g,rfl,S2⟩;have S2:=LH S2;generalize w.heap.size=g2 at *;clear S0;go_wp2_with fail
 go_loopw [5,9] (fun _ i wr=>∃ (k:Nat) (st:List Nat) (blk:Bs),k<=1 ∧ i=.int .i64 (k:Int) ∧ Hid (Und (if k=0 then [] else s) st blk) ∧ Held w0 wr (aB g 214 (cV st blk (if k=0 then [] else s).length) :: aB g2 23 (aA (List.replicate 32 0)) :: L)) (fun _ i _=>1 - (intOf i).toNat)
 case atStart=>exact ⟨0,hF,List.replicate 64 0,by omega,rfl,LH Und.new,S2.out⟩
 case round=>
  clear S2;obtain ⟨k,st,blk,hk,rfl,HU,S⟩:=hrel;have S:=LH S;rcases (by omega:k=0 ∨ k=1) with rfl|rfl
  . have hc:=(HX.out wr S.out.drop.drop).1;have HR:=LH (jW w0 g [] s st blk HU.out (by have:=hs.out;simp;omega) _ _ wr (fun V cs SV=>(HX.out V SV.drop.drop).2) S.out);generalize s.length=sl at *;clear hk;go_wp2_with fail
    refine HR.out.mono ?_;rintro e w4 ⟨rfl,st2,blk2,U4,S4⟩;rw [List.nil_append] at U4 S4;have U4:=LH U4;have S4:=LH S4;go_wp2
    go_roundw
    case rel=>exact ⟨1,st2,blk2,by omega,rfl,U4,S4.out⟩
    case measure=>simp [intOf]
  . have HR:=LH (tL w0 g s st blk HU.out hs.out _ wr S.out);have hO:=LH (aI (dE s));have hsz1:Hid ((aA (dE s)).size=32):=LH (by rw [aC,aY]);obtain ⟨ch,hch⟩:∃ ch,Hid (aA (dE s)=ch):=⟨_,LH rfl⟩;rw [hch.out] at HR hO hsz1;go_wp2_with fail
    refine HR.out.mono ?_;rintro e w4 ⟨rfl,S4⟩;have S4:=LH S4;go_wp2_with (refine aD rfl 23 (.tmp 2) (.tmp 18) rfl g2 (by simp [Act.eval]) ch (by simp [Act.eval]) 23 _ (S4.out.at_ (l1:=[_])) (by rw [hsz1.out];exact bBy) (by rw [hsz1.out];rfl) hO.out ?_;intro w5 b5 k5;have S5:=LH (Held.setBlk (l1:=[_]) S4.out b5 k5);clear b5 k5)
    refine bodyPost_ret (aV (by rfl) rfl (S5.out.at_ (l1:=[_])) underlying23 rfl (by rw [hsz1.out];exact bBy)) rfl ?_;exact ⟨by rw [hch.out],S5.out.drop.drop⟩
theorem qN{P:Program}{w:World}{o:Oper}{a:Act}{K:Act->World->Prop}{Q:Exit->Act->World->Prop}(d s:Operand)(dT sT:TypeId)
 (ho:o.op=.call { callee:=.builtin .copy,args:=#[d,s],argTypes:=#[dT,sT] }) (elem:TypeId) (hu:P.underlying dT=some (.slice elem)) (hsz:(P.info? elem).map (·.size)=some 1)
 (g off dLen dCap:Nat) (hd:a.eval d=.slice (some ⟨g,off,none⟩) dLen dCap) (y:Value) (hs:a.eval s=y) (n:Nat) (xs:List Value) (hr:Rd w 1 y n xs)
 (t:TypeId) (cur:Array Value) (hb:aM w g t cur) (hfit:off+dLen<=cur.size) (h1:∀ v ∈ xs,v.oneCell'=true) (m:Nat) (hm:min n dLen=m)
 (h:∀ w',aM w' g t (splice cur.toList off (xs.take dLen)).toArray->Kp [g] w w'->K (a.put o.dst (goInt (m:Int))) w'):o.wp P a w K Q:=by
 subst hm;obtain ⟨hl,A,c,rfl,h2,h3,hA,hc⟩:=hr
 by_cases h0:min n dLen=0
 . have hrun:=run_copy_none (P:=P) w dT sT o.type elem (some ⟨g,off,none⟩) A dLen dCap n c hu hsz h0
   have e:xs.take dLen=[]:=by
    apply List.eq_nil_of_length_eq_zero
    rw [List.length_take];omega
   have:=h w (by rw [e];simpa [splice] using hb) kR
   rw [h0] at this;refine bQ (v:=goInt 0) (w':=w) ?_ this;simp [execOp,ho,resolve,invoke,builtin,hd,hs,hrun,Result.andThen]
 . rcases A with _|ad
   . have:=hA rfl;omega
   . have hcl:(xs.take dLen).length=min n dLen:=by rw [List.length_take];omega
     have hrun:=run_copy_row (P:=P) w dT sT o.type elem g off dLen dCap ad n c cur t (xs.take dLen) hu hsz hb (by rw [hcl]) (fun j v hv=>hc ad rfl j v (by
      rw [List.getElem?_take] at hv
      split at hv
      . exact hv
      . cases hv)) (by rw [hcl];omega) (fun v hv=>h1 v (List.mem_of_mem_take hv))
     have hblk:=fU (cs:=(cur.toList.take off ++ (xs.take dLen) ++ cur.toList.drop (off+(xs.take dLen).length)).toArray) hb;refine bQ (v:=goInt ((xs.take dLen).length:Int)) (w':=w.setRow g (cur.toList.take off ++ (xs.take dLen) ++ cur.toList.drop (off+(xs.take dLen).length)).toArray) ?_ ?_
     rotate_left
     . have:=h _ (by
        unfold splice;rw [<- List.append_assoc];exact hblk.1) hblk.2
       rw [<- hcl] at this;exact this
     . simp [execOp,ho,resolve,invoke,builtin,hd,hs,hrun,Result.andThen]
theorem aZb(w0:World)(L:List Res)(S:Held w0 w L)(hsz:a.tmps.size=27):bC false 0 f101 Q a w fun a' W q'=>(∃ g,Sl a' 4 (Pq g 0) ∧ Held w0 W (aB g 23 (aA (List.replicate 32 0)) :: L))->q':=by
 refine bU fun hend=>?_;have S0:=LH (S.newBlk 23 (aA (List.replicate 32 0)));go_wp2
 try simp only [Act.put]
 exact hend _ _ tS (⟨w.heap.size,cH,S0.out⟩)
theorem aTg(w0:World)(L:List Res)(S:Held w0 w L)(hsz:a.tmps.size=27):bC false 1 f101 Q a w fun a' W q'=>(∃ g,Sl a' 5 (Pq g 0) ∧ Held w0 W (aB g 181 (aA (List.replicate 64 0)) :: L))->q':=by
 refine bU fun hend=>?_;have S0:=LH (S.newBlk 181 (aA (List.replicate 64 0)));go_wp2
 try simp only [Act.put]
 exact hend _ _ tS (⟨w.heap.size,cH,S0.out⟩)
theorem aZw(A:Option Addr)(n c:Nat)(hsz:a.tmps.size=27)(o0:Sl a 0 (.slice A n c)):bK 2 f101 Q a w fun a' q'=>Sl a' 10 (.bool (decide (64 < n)))->q':=rO
theorem aZt(w0:World)(A:Option Addr)(c:Nat)(s:Bs)(hs:s.length < 1152921504606846976)(L:List Res)(HX:∀ V,Held w0 V L->Rd V 1 (.slice A s.length c) s.length (bv s))(S:Held w0 w L)(hsz:a.tmps.size=27)(o0:Sl a 0 (.slice A s.length c)):bC false 3 f101 Q a w fun a' W q'=>(∃ g,Sl a' 6 (Pq g 0) ∧ Held w0 W (aB g 23 (aA (dE s)) :: L))->q':=by
 refine bU fun hend=>?_;unfold Sl at o0;have S:=LH S;have S1:=LH (S.out.newBlk 32 #[.slice A s.length c]);have HR:=LH (aDw w0 _ ⟨w.heap.size,0,none⟩ (.slice A s.length c) s hs _ S1.out (fun V SV=>⟨(SV.at_ (l1:=[])).cell 0,HX V SV.drop⟩));clear HX hs;obtain ⟨nl,hnl⟩:∃ nl,s.length=nl:=⟨_,rfl⟩;rw [hnl] at o0 S1 HR;have hO:=LH (aI (dE s));have hsz1:Hid ((aA (dE s)).size=32):=LH (by rw [aC,aY]);obtain ⟨ch,hch⟩:∃ ch,Hid (aA (dE s)=ch):=⟨_,LH rfl⟩;rw [hch.out] at HR hO hsz1;clear hnl;go_wp2_with fail
 refine HR.out.mono ?_;rintro e w4 ⟨rfl,S4⟩;have S4:=LH (S4.drop.newBlk 23 (aA (List.replicate 32 0)));go_wp2_with (refine aD rfl 23 (.tmp 6) (.tmp 13) rfl w4.heap.size aE ch aE 23 _ (S4.out.at_ (l1:=[])) (by rw [hsz1.out];exact bBy) (by rw [hsz1.out];rfl) hO.out ?_;intro w5 b5 k5;have S5:=LH (Held.setBlk (l1:=[]) S4.out b5 k5);clear b5 k5)
 rw [<- hch.out] at S5
 try simp only [Act.put]
 exact hend _ _ tS (⟨_,cH,S5.out⟩)
theorem aP9(w0:World)(g5 g6:Nat)(h:Bs)(hh:h.length=32)(L:List Res)(hsz:a.tmps.size=27)(o5:Sl a 5 (Pq g5 0))(o6:Sl a 6 (Pq g6 0))
 (S0:Held w0 w (aB g5 181 (aA (List.replicate 64 0)) :: aB g6 23 (aA h) :: L)):bC true 4 f101 Q a w fun a' W q'=>Held w0 W (aB g5 181 (splice (aA (List.replicate 64 0)).toList 0 (bv h)).toArray :: aB g6 23 (aA h) :: L)->q':=by
 intro hend;have hap:=pa 4 f101
 refine aP (Γ:=Unit) (l:=(aK 4 f101)) 3 [0,1,2,4,5]
  (fun i vs gs=>match i with|0=>vs 0=.slice (some ⟨g5,0,none⟩) 64 64|1=>vs 1=.slice (some ⟨g6,0,none⟩) 32 32|_=>True)
  (fun i vs gs=>match i with|2=>[aB g5 181 (splice (aA (List.replicate 64 0)).toList 0 (bv h)).toArray]|3=>[aB g5 181 (aA (List.replicate 64 0))]|4=>[aB g6 23 (aA h)]|5=>L|_=>[])
  (fun i=>match i with|2=>[3]|_=>[]) (fun i=>match i with|2=>[4]|_=>[]) S0 (by kernel_rfl) hap (by kernel_rfl) (by kernel_rfl) (fun i=>match i with|0=>[0]|1=>[1]|_=>[]) (by kernel_rfl) ?_ (by kernel_rfl) ?_ ?_ ?_
 . intro s vs vs' gs gs' h
   iterate 6 (rcases s with _|s;· (first|exact ⟨rfl,id⟩|(simp only [List.mem_cons,List.not_mem_nil,or_false,forall_eq] at h;simp [h])))
   exact ⟨rfl,id⟩
 . simp only [List.range,List.range.loop,List.flatMap_cons,List.flatMap_nil,List.append_nil];exact List.Perm.refl _
 . clear S0 hend;refine ⟨?_,?_,?_,trivial⟩ <;> intro vs gs A' W LF hA S hR hd hu K hK
   . exact aJ (eO 5 o5)
   . exact aJ (eO 6 o6)
   . replace hK:=hK default;have e14:=vD 14 0;have e15:=vD 15 1;clear hA o5 o6;have S1:Held w0 W (aB g5 181 (aA (List.replicate 64 0)) :: LF):=S;refine qN (.tmp 14) (.tmp 15) 32 32 rfl 5 underlying32 (by kernel_rfl) g5 0 64 64 (by simpa [Act.eval] using e14) _ (by simpa [Act.eval] using e15) 32 (bv h) (Rd.of_hash (S1.ok (aB g6 23 (aA h)) (List.mem_cons_of_mem _ (hR 4 (List.mem_singleton.2 rfl) _ (List.mem_singleton.2 rfl)))) hh) 181 _ (S1.at_ (l1:=[])) (by rw [aC];exact Nat.le_refl _) (eI h) 32 rfl (fun w' hbk k=>hK _ _ ?_ trivial);rw [List.take_of_length_le (by rw [aX];omega)] at hbk;exact Held.setBlk (l1:=[]) S1 hbk k
 . intro vs gs W S hp;have S:Held w0 W (aB g5 181 (splice (aA (List.replicate 64 0)).toList 0 (bv h)).toArray :: aB g6 23 (aA h) :: L):=by simpa only [List.flatMap_cons,List.flatMap_nil,List.append_nil,List.nil_append,List.cons_append,List.append_assoc] using S
   rw [aF];exact hend _ W sQ  S
theorem aRy(w0:World)(g5:Nat)(A:Option Addr)(c:Nat)(s:Bs)(L:List Res)(hr:Rd w 1 (.slice A s.length c) s.length (bv s))(S:Held w0 w (aB g5 181 (aA (List.replicate 64 0)) :: L))(hsz:a.tmps.size=27)(o0:Sl a 0 (.slice A s.length c))(o5:Sl a 5 (Pq g5 0)):bC false 5 f101 Q a w fun a' W q'=>(Held w0 W (aB g5 181 (splice (aA (List.replicate 64 0)).toList 0 ((bv s).take 64)).toArray :: L))->q':=by
 refine bU fun hend=>?_;unfold Sl at o0 o5;have S:=LH S;have Hr:=LH hr;clear hr;obtain ⟨ll,hll⟩:∃ ll,s.length=ll:=⟨_,rfl⟩;have HLL:=LH hll;rw [hll] at o0 Hr;clear hll;obtain ⟨mm,hmm⟩:∃ mm,min ll 64=mm:=⟨_,rfl⟩;have HM:=LH hmm;clear hmm;go_wp2_with (refine lJ rfl (.tmp 17) (.tmp 18) 32 32 rfl 5 underlying32 (by kernel_rfl) g5 0 64 64 aE _ aE ll (bv s) Hr.out 181 _ (S.out.at_ (l1:=[])) (by rw [aC];exact Nat.le_refl _) (eI s) mm HM.out ?_;intro w2 b2 k2;have S2:=LH (Held.setBlk (l1:=[]) S.out b2 k2);clear b2 k2)
 try simp only [Act.put]
 exact hend _ _ tS (S2.out)
theorem aSm(w0:World)(g5:Nat)(key:Bs)(hk:key.length=64)(x:Value)(vs:List Value)(ls:List (List UInt8))(A:Option Addr)(c:Nat)(hx:x=.slice A ls.length c)(hsum:64+ls.flatten.length < 1152921504606846976)(L:List Res)(HX:∀ V,Held w0 V (aB g5 181 (aA key) :: L)->xY V x vs ls)(S:Held w0 w (aB g5 181 (aA key) :: L))(hsz:a.tmps.size=27)(o1:Sl a 1 (.slice A ls.length c))(o5:Sl a 5 (Pq g5 0)):bC false 6 f101 Q a w fun a' W q'=>(∃ g,Sl a' 7 (Pq g 0) ∧ Held w0 W (aB g 23 (aA (dE (cK key 54 ++ ls.flatten))) :: aB g5 181 (aA key) :: L))->q':=by
 refine bU fun hend=>?_;unfold Sl at o1 o5;have S:=LH S;have HR:=LH (tE w0 _ key hk 54 x vs ls hsum w S.out HX);rw [hx] at HR;have Hk:=LH hk;clear HX hsum hx hk;obtain ⟨nl,hnl⟩:∃ nl,ls.length=nl:=⟨_,rfl⟩;rw [hnl] at o1 HR;have hO:=LH (aI (dE (cK key 54 ++ ls.flatten)));have hsz1:Hid ((aA (dE (cK key 54 ++ ls.flatten))).size=32):=LH (by rw [aC,aY]);obtain ⟨ch,hch⟩:∃ ch,Hid (aA (dE (cK key 54 ++ ls.flatten))=ch):=⟨_,LH rfl⟩;have hkz:Hid ((aA key).size=64):=LH (by rw [aC,Hk.out]);obtain ⟨ck,hck⟩:∃ ck,Hid (aA key=ck):=⟨_,LH rfl⟩;rw [hch.out] at HR hO hsz1;rw [hck.out] at HR S hkz;clear hnl;go_wp2_with (refine aQ rfl 181 (.tmp 5) rfl g5 (aO o5) 181 _ (S.out.at_ (l1:=[])) _ underlying181 rfl (by rw [hkz.out];exact bCj) ?_)
 refine HR.out.mono ?_;rintro e w4 ⟨rfl,S4⟩;have S4:=LH (S4.newBlk 23 (aA (List.replicate 32 0)));go_wp2_with (refine aD rfl 23 (.tmp 7) (.tmp 22) rfl w4.heap.size aE ch aE 23 _ (S4.out.at_ (l1:=[])) (by rw [hsz1.out];exact bBy) (by rw [hsz1.out];rfl) hO.out ?_;intro w5 b5 k5;have S5:=LH (Held.setBlk (l1:=[]) S4.out b5 k5);clear b5 k5)
 rw [<- hch.out,<- hck.out] at S5
 try simp only [Act.put]
 exact hend _ _ tS (⟨_,cH,S5.out⟩)
theorem aQd(w0:World)(g5 g7 g4:Nat)(key h:Bs)(hk:key.length=64)(hh:h.length=32)(L:List Res)(hsz:a.tmps.size=27)(o4:Sl a 4 (Pq g4 0))(o5:Sl a 5 (Pq g5 0))(o7:Sl a 7 (Pq g7 0))
 (S0:Held w0 w (aB g4 23 (aA (List.replicate 32 0)) :: aB g5 181 (aA key) :: aB g7 23 (aA h) :: L))
 (hend:∀ (a':Act) (vs:Nat->Value) (gs:Nat->Nat) (W:World),Same a a' [23,24,25,26]->Held w0 W (aB (gs 2) 32 #[.slice (some ⟨g7,0,none⟩) 32 32] :: aB g4 23 (aA (dE (cK key 92 ++ h))) :: aB g5 181 (aA key) :: aB g7 23 (aA h) :: L)->Q .normal a' W):(Code.region 7 (aK 7 f101).toArray true).wp prog Q a w:=by
 have hap:=pa 7 f101
 refine aP (Γ:=Nat) (l:=(aK 7 f101)) 4 [0,1,2,3,4,6,7,8]
  (fun i vs gs=>match i with|0=>vs 0=.agg (aA key)|1=>vs 1=.slice (some ⟨g7,0,none⟩) 32 32|2=>vs 2=.slice (some ⟨gs 2,0,none⟩) 1 1|3=>vs 3=.agg (aA (dE (cK key 92 ++ h)))|_=>True)
  (fun i vs gs=>match i with|2=>[aB (gs 2) 32 #[.slice (some ⟨g7,0,none⟩) 32 32]]|4=>[aB g4 23 (aA (dE (cK key 92 ++ h)))]|5=>[aB g4 23 (aA (List.replicate 32 0))]|6=>[aB g5 181 (aA key)]|7=>[aB g7 23 (aA h)]|8=>L|_=>[])
  (fun i=>match i with|4=>[5]|_=>[]) (fun i=>match i with|0=>[6]|3=>[2,7]|_=>[]) S0 (by kernel_rfl) hap (by kernel_rfl) (by kernel_rfl) (fun i=>match i with|0=>[0]|1=>[1]|2=>[2]|3=>[3]|_=>[]) (by kernel_rfl) ?_ (by kernel_rfl) ?_ ?_ ?_
 . intro s vs vs' gs gs' h
   iterate 9 (rcases s with _|s;· (first|exact ⟨rfl,id⟩|(simp only [List.mem_cons,List.not_mem_nil,or_false,forall_eq] at h;simp [h])))
   exact ⟨rfl,id⟩
 . simp only [List.range,List.range.loop,List.flatMap_cons,List.flatMap_nil,List.append_nil];exact List.Perm.refl _
 . clear S0 hend
   and_intros <;> try intro vs gs A' W LF hA S hR hd hu K hK
   . exact dC (aA key) (eO 5 o5) (aM.agg (show aM W g5 181 (aA key) from S.ok (aB g5 181 (aA key)) (hR 6 (List.mem_singleton.2 rfl) _ (List.mem_singleton.2 rfl)))) underlying181 (by rw [aC,hk];exact bCj)
   . exact aJ (eO 7 o7)
   . have e24:=vD 24 1;clear hA o4 o5 o7;go_step;exact hK W.heap.size _ _ (S.newBlk _ _) rfl
   . replace hK:=hK default;have e23:=vD 23 0;have e25:=vD 25 2;clear hA o4 o5 o7;generalize hca:aA key=ca at *;go_step;rw [<- hca];have h2:aB (gs 2) 32 #[.slice (some ⟨g7,0,none⟩) 32 32] ∈ LF:=hR 2 (List.mem_cons_self ..) _ (List.mem_singleton.2 rfl);have h7:aB g7 23 (aA h) ∈ LF:=hR 7 (List.mem_cons_of_mem _ (List.mem_singleton.2 rfl)) _ (List.mem_singleton.2 rfl);refine (tE w0 LF key hk 92 (.slice (some ⟨gs 2,0,none⟩) 1 1) [.slice (some ⟨g7,0,none⟩) 32 32] [h] (by simp [hh]) _ S (fun V SV=>?_)).mono ?_
     . exact aM0 (SV.ok _ h2) (Rd.of_hash (SV.ok _ h7) hh)
     rintro e w' ⟨rfl,Sq⟩;rw [show [h].flatten=h from by simp];exact hK _ _ Sq rfl
   . replace hK:=hK default;have e4:=eO 4 o4;have e26:=vD 26 3;clear hA o4 o5 o7;have S1:Held w0 W (aB g4 23 (aA (List.replicate 32 0)) :: LF):=S;refine eW (.tmp 4) (.tmp 26) 23 rfl g4 0 (by simpa [Act.eval] using e4) (aA (dE (cK key 92 ++ h))) (by simpa [Act.eval] using e26) 23 _ (S1.at_ (l1:=[])) (by rw [aC,aY];exact bBy) (by rw [aC,aY];exact Nat.le_refl _) (aI _) (fun w' hbk k=>hK undef _ ?_ trivial);rw [rZ _ _ (by rw [aC,aC,aY];rfl)] at hbk;exact Held.setBlk (l1:=[]) S1 hbk k
   . trivial
 . intro vs gs W S hp;have S:Held w0 W (aB (gs 2) 32 #[.slice (some ⟨g7,0,none⟩) 32 32] :: aB g4 23 (aA (dE (cK key 92 ++ h))) :: aB g5 181 (aA key) :: aB g7 23 (aA h) :: L):=by simpa only [List.flatMap_cons,List.flatMap_nil,List.append_nil,List.nil_append,List.cons_append,List.append_assoc] using S
   rw [aF];exact hend _ vs gs W sQ  S
end
section
open Go.RowKit
theorem uD{h:List UInt8}(hl:h.length<=64):(splice (aA (List.replicate 64 0)).toList 0 (bv h)).toArray=aA (h ++ List.replicate (64 - h.length) 0):=by
 unfold splice aA
 congr 1
 rw [List.take_zero,List.nil_append,Nat.zero_add,aX,fX]
 congr 1
 show (bv (List.replicate 64 0)).drop _=_
 unfold bv;rw [List.map_replicate,List.map_replicate,List.drop_replicate]
theorem aLp(w0:World)(L:List Res)(A:Option Addr)(c:Nat)(sec:Bs)(hs:sec.length < 1152921504606846976)(x:Value)(vs:List Value)(ls:List (List UInt8))(hsum:64+ls.flatten.length < 1152921504606846976)(w:World)(S:Held w0 w L)
 (HS:∀ V,Held w0 V L->Rd V 1 (.slice A sec.length c) sec.length (bv sec)) (HX:∀ V,Held w0 V L->xY V x vs ls):
 Calls prog 101 #[.slice A sec.length c,x] w fun e w'=>e=.returned (.agg (aA (xE sec ls.flatten))) ∧ Held w0 w' L:=by
 obtain ⟨Ax,cx,hx,-,-⟩:=(show qZ w x ls from ⟨vs,HX w S⟩).open_;refine aR func101 rfl 27 rfl (fun a0 hsz hdf hAr=>?_);have hz0:a0.tmps.size=27:=hsz;have D:=hdf;have o0:=hAr 0 _ rfl;have o1:Sl a0 1 (.slice Ax ls.length cx):=by rw [<- hx];exact hAr 1 _ rfl
 refine wp_seq (aZb w0 _ S hz0 (fun a1 w1 hs1 h=>?_));obtain ⟨hz1,D,o0,o1⟩:=dU hs1 hz0 D o0 o1;obtain ⟨g4,o4,S⟩:=h;refine wp_seq (aTg w0 _ S hz1 (fun a2 w2 hs2 h=>?_));obtain ⟨hz2,D,o0,o1,o4⟩:=dF hs2 hz1 D o0 o1 o4;obtain ⟨g5,o5,S⟩:=h;refine wp_seq (wp_seq (aZw A sec.length c hz2 o0 (fun a3 hs3 o10=>?_)));obtain ⟨hz3,D,o0,o1,o4,o5⟩:=fH hs3 hz2 D o0 o1 o4 o5
 have tail:∀ (a3:Act) (w3:World),a3.tmps.size=27->a3.defers=[]->Sl a3 1 (.slice Ax ls.length cx)->Sl a3 4 (Pq g4 0)->Sl a3 5 (Pq g5 0)->Held w0 w3 (aB g5 181 (aA (iY sec)) :: aB g4 23 (aA (List.replicate 32 0)) :: L)->
  (wK 2 f101).wp prog (bodyPost prog f101 fun e w'=>e=.returned (.agg (aA (xE sec ls.flatten))) ∧ Held w0 w' L) a3 w3:=by
  intro a3 w3 hz3 D o1 o4 o5 S;refine wp_seq (aSm w0 g5 _ (gE sec) x vs ls Ax cx hx hsum _ (fun V SV=>HX V SV.drop.drop) S hz3 o1 o5 (fun a4 w4 hs4 h=>?_));obtain ⟨hz4,D,o1,o4,o5⟩:=dF hs4 hz3 D o1 o4 o5;obtain ⟨g7,o7,S⟩:=h;have S:=S.perm ((List.Perm.cons _ (List.Perm.swap _ _ _)).trans ((List.Perm.swap _ _ _).trans (List.Perm.cons _ (List.Perm.swap _ _ _))));refine wp_seq (aQd w0 g5 g7 g4 _ _ (gE sec) (aY _) _ hz4 o4 o5 o7 S (fun a5 vs5 gs5 w5 hs5 S=>?_));obtain ⟨hz5,D,o1,o4,o5⟩:=dF hs5 hz4 D o1 o4 o5;refine wp_ret (bodyPost_ret (aV (by rfl) (o4.eval (by rw [hz5];decide)) (S.at_ (l1:=[_])) underlying23 rfl (by rw [aC,aY];exact bBy)) D ⟨rfl,?_⟩);exact S.drop.drop.drop.drop
 by_cases hlt:64 < sec.length
 . refine cS o10 ?_ (by rw [decide_eq_true hlt]);refine wp_seq (aZt w0 A c sec hs _ (fun V SV=>HS V SV.drop.drop) S hz3 o0 (fun a4 w4 hs4 h=>?_));obtain ⟨hz4,D,o0,o1,o4,o5,o10⟩:=jJ hs4 hz3 D o0 o1 o4 o5 o10;obtain ⟨g6,o6,S⟩:=h;have S:=S.perm (List.Perm.swap _ _ _);refine aP9 w0 g5 g6 _ (aY sec) _ hz4 o5 o6 S (fun a5 w5 hs5 S=>?_);obtain ⟨hz5,D,o0,o1,o4,o5,o10⟩:=jJ hs5 hz4 D o0 o1 o4 o5 o10;rw [uD (by rw [aY];omega)] at S;have ek:dE sec ++ List.replicate (64 - (dE sec).length) 0=iY sec:=by unfold iY;rw [if_pos hlt]
   rw [ek] at S;exact tail _ _ hz5 D o1 o4 o5 (S.dropAt (l1:=[_]))
 . refine dD o10 ?_ (by rw [decide_eq_false hlt]);refine aRy w0 g5 A c sec _ (HS _ S.drop.drop) S hz3 o0 o5 (fun a4 w4 hs4 S=>?_);obtain ⟨hz4,D,o1,o4,o5⟩:=dF hs4 hz3 D o1 o4 o5;rw [List.take_of_length_le (by rw [aX];omega),uD (by omega)] at S;have ek:sec ++ List.replicate (64 - sec.length) 0=iY sec:=by unfold iY;rw [if_neg hlt]
   rw [ek] at S;exact tail _ _ hz4 D o1 o4 o5 S
end
section
variable {Q:Exit->Act->World->Prop} {a:Act} {w:World}
open Go.RowKit
theorem aVj(x:Nat):(#[Value.int .u8 ((x / 16777216 % 256:Nat):Int),.int .u8 ((x / 65536 % 256:Nat):Int),.int .u8 ((x / 256 % 256:Nat):Int),.int .u8 ((x % 256:Nat):Int)]:Array Value).toList=bv (be 4 x):=by
 simp only [aC3,aMb,aMk,aZs,UInt8.toNat_ofNat']
 simp
def xV (st:List Nat) (n:Nat) (v:Value):List Value:=gL st ++ [.int .i64 (n:Int),v]
def cJ (st:List Nat) (n:Nat) (v:Value):Array Value:=(xV st n v).toArray
theorem bC9:(prog.info? 207).map (·.size)=some 10:=by kernel_rfl
section
variable {st:List Nat} {n:Nat} {v:Value}
theorem gA(hs:st.length=8):(cJ st n v).size=10:=by simp [cJ,xV,bN,hs]
theorem aAa(hs:st.length=8):(cJ st n v)[8]?=some (.int .i64 (n:Int)):=by
 simp only [cJ,List.getElem?_toArray,xV];rw [List.getElem?_append_right (by rw [bN];omega),bN,hs];rfl
theorem qA(hs:st.length=8):(cJ st n v)[9]?=some v:=by
 simp only [cJ,List.getElem?_toArray,xV];rw [List.getElem?_append_right (by rw [bN];omega),bN,hs];rfl
theorem aA6(hs:st.length=8)(m:Nat):(cJ st n v).setIfInBounds 8 (.int .i64 (m:Int))=cJ st m v:=by
 unfold cJ xV;rw [List.setIfInBounds_toArray,List.set_append_right _ _ (by rw [bN];omega),bN,hs];rfl
theorem wY(hs:st.length=8)(u:Value):(cJ st n v).setIfInBounds 9 u=cJ st n u:=by
 unfold cJ xV;rw [List.setIfInBounds_toArray,List.set_append_right _ _ (by rw [bN];omega),bN,hs];rfl
theorem aAz(hs:st.length=8)(st':List Nat)(hs':st'.length=8):((cJ st n v).toList.take 0 ++ (aW st').toList ++ (cJ st n v).toList.drop (0+(aW st').size)).toArray=cJ st' n v:=by
 rw [bI,hs'];unfold cJ xV;rw [List.toList_toArray,List.take_zero,List.nil_append,Nat.zero_add,List.drop_left' (by rw [bN,hs])]
 rfl
theorem qJ{w:World}{g:Nat}{t:TypeId}(h:aM w g t (cJ st n v))(hs:st.length=8):∀ j u,(aW st).toList[j]?=some u->w.cell? ((⟨g,0,none⟩:Addr).add j)=some u:=by
 intro j u hu
 have hj:j < 8:=by
  have:=(List.getElem?_eq_some_iff.1 hu).1
  simpa [aW,gL,hs] using this
 refine h.agg j u ?_;simp only [cJ,List.toList_toArray,xV];rw [List.getElem?_append_left (by rw [bN];omega)];exact hu
theorem uS(hv:v.oneCell'=true):∀ u,u ∈ (cJ st n v).toList->u.oneCell'=true:=by
 intro u hu;simp only [cJ,List.toList_toArray,xV,List.mem_append,List.mem_cons,List.not_mem_nil,or_false] at hu;rcases hu with hu|rfl|rfl
 . exact uG st u hu
 . rfl
 . exact hv
end
theorem aF8(w:World):Calls prog 141 #[] w fun e w'=>e=.returned (.agg (cJ hF 0 (.slice none 0 0))) ∧ Kp [] w w':=by
 have S0:=LH ((Held.start w).newBlk 207 (cJ (List.replicate 8 0) 0 (.slice none 0 0)));have HB:Hid (prog.built 207 [(0,.agg (aW hF))]=some (cJ hF 0 (.slice none 0 0))):=LH (by kernel_rfl);have hO:=LH (uS (st:=hF) (n:=0) (v:=.slice none 0 0) rfl);have hZ:Hid ((cJ hF 0 (.slice none 0 0)).size=10):=LH (gA rfl);obtain ⟨ch,hch⟩:∃ ch,Hid (cJ hF 0 (.slice none 0 0)=ch):=⟨_,LH rfl⟩;obtain ⟨ca,hca⟩:∃ ca,Hid (aW hF=ca):=⟨_,LH rfl⟩;rw [hch.out] at HB hO hZ ⊢;rw [hca.out] at HB;have hf:=LH (aBd);rw [hca.out] at hf;go_enter func141,ntmps141;go_wp2_with fail
 refine (hf.out _).mono ?_;rintro e w' ⟨rfl,k1⟩;have S1:=LH (S0.out.kp k1);clear k1 S0
 go_wp2_with (first
  |(refine bR rfl 207 _ rfl [(0,.agg ca)] (by simp [Act.eval,Act.put]) _ HB.out ?_)
  |(refine aD rfl 207 (.tmp 0) (.tmp 2) rfl w.heap.size (by simp [Act.eval,Act.put]) ch (by simp [Act.eval,Act.put]) 207 _ (S1.out.at_ (l1:=[])) (by rw [hZ.out];exact bC9) (by rw [hZ.out];rfl) hO.out ?_;intro w5 b5 k5;have S5:=LH (Held.setBlk (l1:=[]) S1.out b5 k5);clear b5 k5))
 refine bodyPost_ret (aV (by rfl) rfl (S5.out.at_ (l1:=[])) underlying207 rfl (by rw [hZ.out];exact bC9)) rfl ?_;exact ⟨rfl,S5.out.k⟩
theorem aBa(w0:World)(L:List Res)(N:Nat)(w:World)(S:Held w0 w L):Calls prog 156 #[.int .u64 (N:Int)] w fun e w'=>∃ v,e=.returned v ∧ Held w0 w' (aG 5 1 v 8 (bv (be 8 N)) :: L):=by
 have S:=LH S;go_enter func156,ntmps156;go_wp2
 go_loopw [3,4] (fun v z wr=>∃ r:Nat,r<=8 ∧ z=.int .i64 (56 - 8 * (r:Int)) ∧ Held w0 wr (aG 5 1 v ((be 8 N).take r).length (bv ((be 8 N).take r)) :: L)) (fun _ z _=>(intOf z+8).toNat)
 case atStart=>exact ⟨0,by omega,rfl,S.out.rownew (World.ownsRow_nil _ _ _ _) (Kp.refl [] _) (by simp [Value.ownBlock])⟩
 case round=>
  clear S;obtain ⟨r,hr,rfl,S⟩:=hrel;obtain ⟨A,c,rfl,-,-⟩:=aS (S.at_ (l1:=[]));have S:=LH S
  by_cases hlt:r < 8
  . have e6:(56 - 8 * (r:Int))=(((56 - 8 * r:Nat)):Int):=by omega
    have e7:(56 - 8 * (r:Int)) - 8=56 - 8 * ((r+1:Nat):Int):=by omega
    have hw:wrap64 (((56 - 8 * r:Nat):Int) - 8)=56 - 8 * ((r+1:Nat):Int):=by unfold wrap64;omega
    have hbv:Hid (((N:Int) / 2 ^ (56 - 8 * r)) % 256=((UInt8.ofNat (N / 2 ^ (56 - 8 * r))).toNat:Int)):=LH (by rw [UInt8.toNat_ofNat',Int.natCast_emod,Int.natCast_ediv,Int.natCast_pow];rfl);have hge:(0:Int)<=((56 - 8 * r:Nat):Int):=by omega
    have Hn:=LH (aA9 N r hlt);have hxl:((be 8 N).take r).length<=8:=by rw [List.length_take];omega
    generalize UInt8.ofNat (N / 2 ^ (56 - 8 * r))=b at *;have hbv:=hbv.out;rw [e6];have e8:56 - 8 * ((r+1:Nat):Int)=((56 - 8 * r:Nat):Int) - 8:=by omega
    rw [e8] at hw;generalize hz:((56 - 8 * r:Nat):Int) - 8=z2 at *;have Hz:Hid (z2=56 - 8 * ((r+1:Nat):Int)):=LH (by omega);clear e6 e7 e8 hz;generalize hxs:(be 8 N).take r=xs at *;have S1:=LH (S.out.alloc (.cells #[.int .u8 (b.toNat:Int)] 5));have HR:=LH (jM wr 5 #[.int .u8 (b.toNat:Int)] [b] rfl (by simp));have Hxs:=LH hxs;clear hxs S;generalize hq:56 - 8 * r=q at *;have hmin:min q 64=q:=by omega
    have Hq:=LH hq;clear hq;go_wp2_with (at_builtin;refine iG [] rfl (.tmp 9) (.tmp 14) rfl (.slice A xs.length c) xs (by simp [Act.eval]) S1.out (.slice (some ⟨wr.heap.size,0,none⟩) 1 1) [b] (by simp [Act.eval]) HR.out (by simp;omega) ?_;intro v2 w2 S2;have S2:=LH S2;obtain ⟨A2,c2,hv2,_,_⟩:=aS (S2.out.at_ (l1:=[]));subst hv2)
    go_roundw
    case rel=>
     refine ⟨r+1,by omega,congrArg (Value.int .i64) (by have:=Hq.out;omega),?_⟩;rw [Hn.out];have:=S2.out
     rw [show (xs ++ [b]).length=xs.length+1 from by simp] at this ⊢;exact this
    case measure=>
     have:=Hq.out
     simp [intOf];omega
  . obtain rfl:r=8:=by omega
    have e8:(56 - 8 * ((8:Nat):Int))=-8:=by omega
    rw [e8];go_wp2
    go_ret
    have e:=S.out;rw [List.take_of_length_le (by simp),fY] at e;exact ⟨_,rfl,by simpa using e⟩
def bBv:List Nat:=[3,4,5,6,7,8,9,10,11,12,13,14,15,16,17,18,19,20,21,22,23,24,25,26,27,28,29,30]
theorem aV0(w0:World)(st:List Nat)(L:List Res)(S:Held w0 w L)(hsz:a.tmps.size=32)(o0:Sl a 0 (.agg (aW st))):bC false 0 f157 Q a w fun a' W q'=>(∃ g,Sl a' 1 (Pq g 0) ∧ Held w0 W (aB g 205 (aW st) :: L))->q':=by
 refine bU fun hend=>?_;unfold Sl at o0;have S0:=LH (S.newBlk 205 (aW st));generalize hca:aW st=ca at *;go_wp2
 try simp only [Act.put]
 exact hend _ _ tS (⟨w.heap.size,cH,S0.out⟩)
theorem aOj(hsz:a.tmps.size=32):bK 1 f157 Q a w fun a' q'=>Sl a' 3 (.slice none 0 0)->q':=rO
theorem aRg(hsz:a.tmps.size=32):bK 2 f157 Q a w fun a' q'=>Sl a' 4 (Nq 0)->q':=rO
theorem aP0(k:Nat)(hsz:a.tmps.size=32)(o4:Sl a 4 (.int .i64 (k:Int))):bK 3 f157 Q a w fun a' q'=>Sl a' 6 (.bool (decide ((k:Int) < 8)))->q':=rO
theorem aUf(k:Nat)(hk:k < 8)(hsz:a.tmps.size=32)(o4:Sl a 4 (.int .i64 (k:Int))):bK 4 f157 Q a w fun a' q'=>Sl a' 4 (Nq (k+1))->q':=rO
theorem aT6(A:Option Addr)(n c:Nat)(hsz:a.tmps.size=32)(o3:Sl a 3 (.slice A n c)):bK 6 f157 Q a w fun a' q'=>Sl a' 2 (.slice A n c)->q':=rO
theorem aXh(w0:World)(g1 k x n c:Nat)(A:Option Addr)(st:List Nat)(l:Bs)(hk:k < 8)(hx:st[k]?=some x)(hn:n+4<=1000)(L:List Res)(hsz:a.tmps.size=32)(o1:Sl a 1 (Pq g1 0))(o3:Sl a 3 (.slice A n c))(o4:Sl a 4 (.int .i64 (k:Int)))
 (S0:Held w0 w (L ++ (aG 5 1 (.slice A n c) n (bv l) :: aB g1 205 (aW st) :: []))):RG2 5 f157 Q a w fun a' vs gs W q'=>Sl a' 30 (vs 21)->(∃ A c,vs 21=.slice A (n+4) c)->Sl a' 3 (vs 21)->Held w0 W (aG 5 1 (vs 20) 4 (bv (be 4 x)) :: aG 5 1 (vs 21) (n+4) (bv l ++ bv (be 4 x)) :: L ++ (aB g1 205 (aW st) :: []))->q':=by
 intro hend;have hap:=pa 5 f157
 refine aP (Γ:=Unit) (l:=(aK 5 f157)) 3 [0,1,2,3,4,5,6,7,8,9,10,11,12,13,14,15,16,17,18,19,20,21,22,23,25]
  (fun i vs gs=>match i with|0=>vs 0=.slice A n c|1=>vs 1=.int .i64 (k:Int)|2=>vs 2=.pointer (some ⟨g1,k,none⟩)|3=>vs 3=.int .u32 ((x:Nat):Int)|4=>vs 4=.int .u32 ((x / 16777216:Nat):Int)|5=>vs 5=.int .u8 ((x / 16777216 % 256:Nat):Int)|6=>vs 6=.int .i64 (k:Int)|7=>vs 7=.pointer (some ⟨g1,k,none⟩)|8=>vs 8=.int .u32 ((x:Nat):Int)|9=>vs 9=.int .u32 ((x / 65536:Nat):Int)|10=>vs 10=.int .u8 ((x / 65536 % 256:Nat):Int)|11=>vs 11=.int .i64 (k:Int)|12=>vs 12=.pointer (some ⟨g1,k,none⟩)|13=>vs 13=.int .u32 ((x:Nat):Int)|14=>vs 14=.int .u32 ((x / 256:Nat):Int)|15=>vs 15=.int .u8 ((x / 256 % 256:Nat):Int)|16=>vs 16=.int .i64 (k:Int)|17=>vs 17=.pointer (some ⟨g1,k,none⟩)|18=>vs 18=.int .u32 ((x:Nat):Int)|19=>vs 19=.int .u8 ((x % 256:Nat):Int)|21=>∃ A c,vs 21=.slice A (n+4) c|22=>vs 22=vs 21|_=>True)
  (fun i vs gs=>match i with|20=>[aG 5 1 (vs 20) 4 (bv (be 4 x))]|21=>[aG 5 1 (vs 21) (n+4) (bv l ++ bv (be 4 x))]|23=>L|24=>[aG 5 1 (.slice A n c) n (bv l)]|25=>[aB g1 205 (aW st)]|_=>[])
  (fun i=>match i with|21=>[24]|_=>[]) (fun i=>match i with|3=>[25]|8=>[25]|13=>[25]|18=>[25]|21=>[20]|_=>[]) S0 (by kernel_rfl) hap (by kernel_rfl) (by kernel_rfl) (fun i=>match i with|0=>[0]|1=>[1]|2=>[2]|3=>[3]|4=>[4]|5=>[5]|6=>[6]|7=>[7]|8=>[8]|9=>[9]|10=>[10]|11=>[11]|12=>[12]|13=>[13]|14=>[14]|15=>[15]|16=>[16]|17=>[17]|18=>[18]|19=>[19]|20=>[20]|21=>[21]|22=>[21,22]|_=>[]) (by kernel_rfl) ?_ (by kernel_rfl) ?_ ?_ ?_
 . exact lA
 . simp only [List.range,List.range.loop,List.flatMap_cons,List.flatMap_nil,List.append_nil];exact List.Perm.refl _
 . clear S0 hend
   and_intros <;> try intro vs gs A' W LF hA S hR hd hu K hK
   . have e3:=eU 3 22;rw [show vs 22=.slice A n c from (hu 22 _ rfl (by kernel_rfl)).trans (o3.eval (sH 3 hsz rfl))] at e3;exact lK
   . exact aJ (eO 4 o4)
   . have h0:0<=(k:Int):=by omega
     have h1:(k:Int) < 8:=by omega
     exact cM (eO 1 o1) (vD 10 1)
   . have c0:=bM (S.ok (aB g1 205 (aW st)) (hR 25 (List.mem_singleton.2 rfl) _ (List.mem_singleton.2 rfl))) k x hx;exact aJ (vD 11 2)
   . replace hK:=hK default;have e12:=vD 12 3;clear hA o1 o3 o4;go_step;exact hK _ _ S (congrArg (Value.int .u32) (by first|omega|rfl))
   . replace hK:=hK default;have e13:=vD 13 4;clear hA o1 o3 o4;go_step;exact hK _ _ S (congrArg (Value.int .u8) (by first|omega|rfl))
   . exact aJ (eO 4 o4)
   . have h0:0<=(k:Int):=by omega
     have h1:(k:Int) < 8:=by omega
     exact cM (eO 1 o1) (vD 15 6)
   . have c0:=bM (S.ok (aB g1 205 (aW st)) (hR 25 (List.mem_singleton.2 rfl) _ (List.mem_singleton.2 rfl))) k x hx;exact aJ (vD 16 7)
   . replace hK:=hK default;have e17:=vD 17 8;clear hA o1 o3 o4;go_step;exact hK _ _ S (congrArg (Value.int .u32) (by first|omega|rfl))
   . replace hK:=hK default;have e18:=vD 18 9;clear hA o1 o3 o4;go_step;exact hK _ _ S (congrArg (Value.int .u8) (by first|omega|rfl))
   . exact aJ (eO 4 o4)
   . have h0:0<=(k:Int):=by omega
     have h1:(k:Int) < 8:=by omega
     exact cM (eO 1 o1) (vD 20 11)
   . have c0:=bM (S.ok (aB g1 205 (aW st)) (hR 25 (List.mem_singleton.2 rfl) _ (List.mem_singleton.2 rfl))) k x hx;exact aJ (vD 21 12)
   . replace hK:=hK default;have e22:=vD 22 13;clear hA o1 o3 o4;go_step;exact hK _ _ S (congrArg (Value.int .u32) (by first|omega|rfl))
   . replace hK:=hK default;have e23:=vD 23 14;clear hA o1 o3 o4;go_step;exact hK _ _ S (congrArg (Value.int .u8) (by first|omega|rfl))
   . exact aJ (eO 4 o4)
   . have h0:0<=(k:Int):=by omega
     have h1:(k:Int) < 8:=by omega
     exact cM (eO 1 o1) (vD 25 16)
   . have c0:=bM (S.ok (aB g1 205 (aW st)) (hR 25 (List.mem_singleton.2 rfl) _ (List.mem_singleton.2 rfl))) k x hx;exact aJ (vD 26 17)
   . replace hK:=hK default;have e27:=vD 27 18;clear hA o1 o3 o4;go_step;exact hK _ _ S (congrArg (Value.int .u8) (by first|omega|rfl))
   . replace hK:=hK default;have e14:=vD 14 5;have e19:=vD 19 10;have e24:=vD 24 15;have e28:=vD 28 19;clear hA o1 o3 o4;generalize hb0:((x / 16777216 % 256:Nat):Int)=b0 at e14;generalize hb1:((x / 65536 % 256:Nat):Int)=b1 at e19;generalize hb2:((x / 256 % 256:Nat):Int)=b2 at e24;generalize hb3:((x % 256:Nat):Int)=b3 at e28;go_step;subst hb0 hb1 hb2 hb3
     have S2:=S.rownew (cZ W 5 1 4 #[.int .u8 ((x / 16777216 % 256:Nat):Int),.int .u8 ((x / 65536 % 256:Nat):Int),.int .u8 ((x / 256 % 256:Nat):Int),.int .u8 ((x % 256:Nat):Int)] rfl (by decide)) ((Kp.refl [] W).alloc _) (fun g hg=>Nat.le_of_eq (Option.some.inj hg));rw [aVj x] at S2;exact hK _ _ S2 trivial
   . replace hK:=hK default;have e9:=vD 9 0;have e29:=eU 29 20;clear hA o1 o3 o4;refine lO (.tmp 9) (.tmp 29) 32 5 rfl bC2 underlying32 rfl (by decide) (.slice A n c) n (bv l) (by simpa [Act.eval] using e9) S (vs 20) 4 (bv (be 4 x)) (by simpa [Act.eval] using e29) (iN (e:=5) S (List.mem_cons_of_mem _ (hR 20 (List.mem_singleton.2 rfl) _ (List.mem_singleton.2 rfl)))) (eI _) (by unfold maxLen;omega) (by omega) (fun v' w' S'=>hK v' w' S' ?_);obtain ⟨A1,c1,hv,_,_⟩:=aS (S'.at_ (l1:=[]));exact ⟨A1,c1,hv⟩
   . replace hK:=hK default;have f21:∃ A c,vs 21=.slice A (n+4) c:=hd 21 (by kernel_rfl);have e30:=eU 30 21;clear hA o1 o3 o4;obtain ⟨A1,c1,hv⟩:=f21;rw [hv] at e30;go_step;rw [<- hv];exact hK _ _ S rfl
   . trivial
 . intro vs gs W S hp;have S:Held w0 W (aG 5 1 (vs 20) 4 (bv (be 4 x)) :: aG 5 1 (vs 21) (n+4) (bv l ++ bv (be 4 x)) :: L ++ (aB g1 205 (aW st) :: [])):=by simpa only [List.flatMap_cons,List.flatMap_nil,List.append_nil,List.nil_append,List.cons_append,List.append_assoc] using S
   rw [aF];exact hend _ vs gs W sQ sX (hp 21 sB) (sW (hp 22 sB)) S
theorem aAe(w0:World)(L:List Res)(st:List Nat)(hs:st.length=8)(w:World)(S:Held w0 w L):Calls prog 157 #[.agg (aW st)] w fun e w'=>∃ v,e=.returned v ∧ Held w0 w' (aG 5 1 v 32 (bv (st.flatMap (be 4))) :: L):=by
 refine aR func157 rfl 32 rfl (fun a0 hsz hdf hAr=>?_);have hz0:a0.tmps.size=32:=hsz;have D:=hdf;have o0:=hAr 0 _ rfl;refine wp_seq (aV0 w0 st _ S hz0 o0 (fun a1 w1 hs1 h=>?_));obtain ⟨hz1,D⟩:=dS hs1 hz0 D;obtain ⟨g1,o1,S⟩:=h;refine wp_seq (aOj hz1 (fun a2 hs2 o3=>?_));obtain ⟨hz2,D,o1⟩:=eY hs2 hz1 D o1;refine wp_seq (wp_seq (aRg hz2 (fun a3 hs3 o4=>?_)));obtain ⟨hz3,D,o1,o3⟩:=dU hs3 hz2 D o1 o3;refine wp_block ?_
 (conv=>arg 2;whnf)
 refine wp_loop (fun a' w'=>∃ (k:Nat) (A:Option Addr) (c:Nat),k<=8 ∧ Same a3 a' bBv ∧ Sl a' 4 (.int .i64 (k:Int)) ∧ Sl a' 3 (.slice A (4 * k) c) ∧ Held w0 w' (aG 5 1 (.slice A (4 * k) c) (4 * k) (bv ((st.take k).flatMap (be 4))) :: aB g1 205 (aW st) :: L)) (fun a' _=>8 - (intOf (a'.eval (.tmp 4))).toNat) ⟨0,none,0,by omega,Same.refl _ _,o4,o3,S.rownew (World.ownsRow_nil _ _ _ _) (Kp.refl [] _) (by simp [Value.ownBlock])⟩ ?_;clear o4 o3 S;rintro b1 w3 ⟨k,A,c,hk,T,o4,o3,S⟩;have hz1:=T.size.trans hz3;have o1:=T.keep 1 _ (by decide) o1;have eCtr:=o4.eval (by rw [hz1];decide);refine wp_seq (wp_seq (aP0 k hz1 o4 (fun a2 hs2 o6=>?_)));obtain ⟨hz2,-,o1,o3,o4⟩:=dF hs2 hz1 rfl o1 o3 o4;have T:=T.trans hs2
 by_cases hlt:k < 8
 . refine cS o6 (wp_skip ?_) (by rw [decide_eq_true (by omega)]);obtain ⟨x,hx⟩:∃ x,st[k]?=some x:=⟨_,List.getElem?_eq_getElem (by omega)⟩;refine wp_seq (wp_block ?_);refine aXh w0 g1 k x (4 * k) c A st _ hlt hx (by omega) L hz2 o1 o3 o4 (S.perm (List.perm_append_comm (l₁:=[_,_]) (l₂:=L))) (fun a3 vs gs w4 hs3 o30 h3 o3 S=>?_);obtain ⟨hz3,-,o1,o4,o6⟩:=dF hs3 hz2 rfl o1 o4 o6;have T:=T.trans hs3;obtain ⟨A2,c2,hv⟩:=h3;rw [hv] at o3 S;have S:=S.dropAt (l1:=[]);refine aUf k hlt hz3 o4 (fun a4 hs4 o4=>?_);obtain ⟨hz4,-,o1,o6,o3⟩:=dF hs4 hz3 rfl o1 o6 o3;have T:=T.trans hs4
   have e1:bv ((st.take k).flatMap (be 4)) ++ bv (be 4 x)=bv ((st.take (k+1)).flatMap (be 4)):=by
    rw [<- fX,List.take_add_one,hx,Option.toList_some,List.flatMap_append,List.flatMap_cons,List.flatMap_nil,List.append_nil]
   rw [e1] at S;have S:=S.perm ((List.perm_append_comm (l₁:=[_]) (l₂:=L)).cons _ |>.symm) ;refine ⟨⟨k+1,A2,c2,by omega,T.more (by decide +kernel),o4,o3,S⟩,?_⟩
   show 8 - (intOf _).toNat < 8 - (intOf _).toNat
   rw [eCtr,o4.eval (by rw [hz4];decide)];simp [intOf];omega
 . obtain rfl:k=8:=by omega
   refine dD o6 (wp_exit ?_) (by rw [decide_eq_false (by omega)]);refine wp_seq (aT6 A _ c hz2 o3 (fun a5 hs5 o2=>?_));have hz5:=hs5.size.trans hz2;have D5:=hs5.defers.trans (T.defers.trans D);refine wp_ret (bodyPost_ret (results_tmp rfl _ _ _) D5 ?_);refine ⟨_,by rw [show a5.tmps.getD 2 undef=_ from o2.eval (by rw [hz5];decide)],?_⟩;rw [List.take_of_length_le (by omega)] at S;exact S.dropAt (l1:=[_])
end
section
variable {Q:Exit->Act->World->Prop} {a:Act} {w:World}
open Go.RowKit
theorem aIe(hsz:a.tmps.size=209):bK 2 f155 Q a w fun a' q'=>Sl a' 6 (Nq 0)->q':=rO
theorem aO2(k:Nat)(hsz:a.tmps.size=209)(o6:Sl a 6 (.int .i64 (k:Int))):bK 3 f155 Q a w fun a' q'=>Sl a' 23 (.bool (decide ((k:Int) < 16)))->q':=rO
theorem aJc(hsz:a.tmps.size=209):bK 5 f155 Q a w fun a' q'=>Sl a' 7 (Nq 0)->q':=rO
theorem aK4(k:Nat)(hsz:a.tmps.size=209)(o7:Sl a 7 (.int .i64 (k:Int))):bK 6 f155 Q a w fun a' q'=>Sl a' 27 (.bool (decide ((k:Int) < 4)))->q':=rO
theorem aIp(k:Nat)(hk:k < 4)(hsz:a.tmps.size=209)(o7:Sl a 7 (.int .i64 (k:Int))):bK 7 f155 Q a w fun a' q'=>Sl a' 7 (Nq (k+1))->q':=rO
theorem aId(k:Nat)(hk:k < 16)(hsz:a.tmps.size=209)(o6:Sl a 6 (.int .i64 (k:Int))):bK 4 f155 Q a w fun a' q'=>Sl a' 6 (Nq (k+1))->q':=rO
theorem aNd(hsz:a.tmps.size=209):bK 9 f155 Q a w fun a' q'=>Sl a' 8 (Nq 16)->q':=rO
theorem aFy(k:Nat)(hsz:a.tmps.size=209)(o8:Sl a 8 (.int .i64 (k:Int))):bK 10 f155 Q a w fun a' q'=>Sl a' 46 (.bool (decide ((k:Int) < 64)))->q':=rO
theorem aFm(k:Nat)(hk:k < 64)(hsz:a.tmps.size=209)(o8:Sl a 8 (.int .i64 (k:Int))):bK 11 f155 Q a w fun a' q'=>Sl a' 8 (Nq (k+1))->q':=rO
theorem aG4(hsz:a.tmps.size=209):bK 16 f155 Q a w fun a' q'=>Sl a' 19 (Nq 0)->q':=rO
theorem aFs(k:Nat)(hsz:a.tmps.size=209)(o19:Sl a 19 (.int .i64 (k:Int))):bK 17 f155 Q a w fun a' q'=>Sl a' 115 (.bool (decide ((k:Int) < 64)))->q':=rO
theorem aHc(k:Nat)(hk:k < 64)(hsz:a.tmps.size=209)(o19:Sl a 19 (.int .i64 (k:Int))):bK 18 f155 Q a w fun a' q'=>Sl a' 19 (Nq (k+1))->q':=rO
theorem aLn(w0:World)(st:List Nat)(L:List Res)(S:Held w0 w L)(hsz:a.tmps.size=209)(o0:Sl a 0 (.agg (aW st))):bC false 0 f155 Q a w fun a' W q'=>(∃ g2 g4,Sl a' 2 (Pq g2 0) ∧ Sl a' 4 (Pq g4 0) ∧ Held w0 W (aB g4 205 (aW (List.replicate 8 0)) :: aB g2 205 (aW st) :: L))->q':=by
 refine bU fun hend=>?_;unfold Sl at o0;have S0:=LH ((S.newBlk 205 (aW st)).newBlk 205 (aW (List.replicate 8 0)));simp only [World.size_alloc] at S0;generalize hca:aW st=ca at *;go_wp2
 try simp only [Act.put]
 exact hend _ _ tS (⟨w.heap.size,w.heap.size+1,cH,cH,S0.out⟩)
theorem aNj(w0:World)(L:List Res)(S:Held w0 w L)(hsz:a.tmps.size=209):bC false 1 f155 Q a w fun a' W q'=>(∃ g5,Sl a' 5 (Pq g5 0) ∧ Held w0 W (aB g5 226 (aW (List.replicate 64 0)) :: L))->q':=by
 refine bU fun hend=>?_;have S0:=LH (S.newBlk 226 (aW (List.replicate 64 0)));go_wp2
 try simp only [Act.put]
 exact hend _ _ tS (⟨w.heap.size,cH,S0.out⟩)
theorem aFu(v0 v1 v2:Nat)(h0:Hid (v0 < 4294967296))(h1:Hid (v1 < 4294967296))(h2:Hid (v2 < 4294967296))(hsz:a.tmps.size=209)(o11:Sl a 11 (.int .u32 ((v0:Nat):Int)))(o12:Sl a 12 (.int .u32 ((v1:Nat):Int)))(o13:Sl a 13 (.int .u32 ((v2:Nat):Int))):bC false 20 f155 Q a w fun a' W q'=>Sl a' 21 (.int .u32 ((rY v0 v1 v2:Nat):Int))->(Kp [] w W)->q':=by
 refine bU fun hend=>?_;unfold Sl at o11 o12 o13;have x1:=LH (fJ (dG v0 2) (dG v0 13) (cE h0.out) (cE h0.out));have x2:=LH (fJ (dG v0 2 ^^^ dG v0 13) (dG v0 22) (jN (cE h0.out) (cE h0.out)) (cE h0.out));have a1:=LH (u32_and_nat v0 v1 h0.out h1.out);have a2:=LH (u32_and_nat v0 v2 h0.out h2.out);have a3:=LH (u32_and_nat v1 v2 h1.out h2.out);have x3:=LH (fJ (v0 &&& v1) (v0 &&& v2) (gC h0.out) (gC h0.out));have x4:=LH (fJ ((v0 &&& v1) ^^^ (v0 &&& v2)) (v1 &&& v2) (jN (gC h0.out) (gC h0.out)) (gC h1.out));have HR:=LH (fun V n (hn:iK n)=>iJ v0 n n rfl h0.out hn V);have hy:Hid ((((bS0 v0:Nat):Int)+((maj v0 v1 v2:Nat):Int)) % 4294967296=((rY v0 v1 v2:Nat):Int)):=LH (by unfold rY;omega);generalize hr2:dG v0 2=r2 at *;generalize hr13:dG v0 13=r13 at *;generalize hr22:dG v0 22=r22 at *;go_wp2_with fail
 refine (HR.out _ 2 (by unfold iK;omega)).mono ?_;rintro e w1 ⟨rfl,k1⟩;rw [hr2];go_wp2_with fail
 refine (HR.out _ 13 (by unfold iK;omega)).mono ?_;rintro e w2 ⟨rfl,k2⟩;rw [hr13];go_wp2_with fail
 refine (HR.out _ 22 (by unfold iK;omega)).mono ?_;rintro e w3 ⟨rfl,k3⟩;rw [hr22];go_wp2;have hb:bits .xor .u32 (bits .xor .u32 (r2:Int) (r13:Int)) (r22:Int)=((bS0 v0:Nat):Int):=by rw [x1.out,x2.out];unfold bS0;rw [hr2,hr13,hr22]
 have hm:bits .xor .u32 (bits .xor .u32 (bits .and .u32 (v0:Int) (v1:Int)) (bits .and .u32 (v0:Int) (v2:Int))) (bits .and .u32 (v1:Int) (v2:Int))=((maj v0 v1 v2:Nat):Int):=by rw [a1.out,a2.out,a3.out,x3.out,x4.out];rfl
 rw [hb,hm,hy.out]
 try simp only [Act.put]
 exact hend _ _ tS sP (((k1.trans k2 (by simp)).trans k3 (by simp)))
theorem aGv(v4 v5 v6:Nat)(hsz:a.tmps.size=209)(o15:Sl a 15 (.int .u32 ((v4:Nat):Int)))(o16:Sl a 16 (.int .u32 ((v5:Nat):Int)))(o17:Sl a 17 (.int .u32 ((v6:Nat):Int))):bK 21 f155 Q a w fun a' q'=>Sl a' 16 (.int .u32 ((v4:Nat):Int))->Sl a' 17 (.int .u32 ((v5:Nat):Int))->Sl a' 18 (.int .u32 ((v6:Nat):Int))->q':=rO
theorem aI2(v3 x:Nat)(hsz:a.tmps.size=209)(o14:Sl a 14 (.int .u32 ((v3:Nat):Int)))(o20:Sl a 20 (.int .u32 ((x:Nat):Int))):bK 22 f155 Q a w fun a' q'=>Sl a' 15 (.int .u32 (((v3+x) % 4294967296:Nat):Int))->q':=rO
theorem aHi(v0 v1 v2:Nat)(hsz:a.tmps.size=209)(o11:Sl a 11 (.int .u32 ((v0:Nat):Int)))(o12:Sl a 12 (.int .u32 ((v1:Nat):Int)))(o13:Sl a 13 (.int .u32 ((v2:Nat):Int))):bK 23 f155 Q a w fun a' q'=>Sl a' 12 (.int .u32 ((v0:Nat):Int))->Sl a' 13 (.int .u32 ((v1:Nat):Int))->Sl a' 14 (.int .u32 ((v2:Nat):Int))->q':=rO
theorem aHq(x y:Nat)(hsz:a.tmps.size=209)(o20:Sl a 20 (.int .u32 ((x:Nat):Int)))(o21:Sl a 21 (.int .u32 ((y:Nat):Int))):bK 24 f155 Q a w fun a' q'=>Sl a' 11 (.int .u32 (((x+y) % 4294967296:Nat):Int))->q':=rO
theorem aEx(w0:World)(g2 g4 s0 s1 s2 s3 s4 s5 s6 s7 v0 v1 v2 v3 v4 v5 v6 v7:Nat)(c4:List Nat)(h4l:c4.length=8)(L1 L2:List Res)(S:Held w0 w (aB g4 205 (aW c4) :: (L1 ++ aB g2 205 (aW [s0,s1,s2,s3,s4,s5,s6,s7]) :: L2)))(hsz:a.tmps.size=209)(o2:Sl a 2 (Pq g2 0))(o4:Sl a 4 (Pq g4 0))(o11:Sl a 11 (.int .u32 ((v0:Nat):Int)))(o12:Sl a 12 (.int .u32 ((v1:Nat):Int)))(o13:Sl a 13 (.int .u32 ((v2:Nat):Int)))(o14:Sl a 14 (.int .u32 ((v3:Nat):Int)))(o15:Sl a 15 (.int .u32 ((v4:Nat):Int)))(o16:Sl a 16 (.int .u32 ((v5:Nat):Int)))(o17:Sl a 17 (.int .u32 ((v6:Nat):Int)))(o18:Sl a 18 (.int .u32 ((v7:Nat):Int))):bC false 25 f155 Q a w fun a' W q'=>(Held w0 W (aB g4 205 (aW [(s0+v0) % 4294967296,(s1+v1) % 4294967296,(s2+v2) % 4294967296,(s3+v3) % 4294967296,(s4+v4) % 4294967296,(s5+v5) % 4294967296,(s6+v6) % 4294967296,(s7+v7) % 4294967296]) :: (L1 ++ aB g2 205 (aW [s0,s1,s2,s3,s4,s5,s6,s7]) :: L2)))->q':=by
 refine bU fun hend=>?_;unfold Sl at o2 o4 o11 o12 o13 o14 o15 o16 o17 o18;have H4:=LH h4l;clear h4l;have S:=LH S;have c0:=bM (S.out.at_ (l1:=_ :: L1)) 0 s0 rfl;have c1:=bM (S.out.at_ (l1:=_ :: L1)) 1 s1 rfl;have c2:=bM (S.out.at_ (l1:=_ :: L1)) 2 s2 rfl;have c3:=bM (S.out.at_ (l1:=_ :: L1)) 3 s3 rfl;have c4:=bM (S.out.at_ (l1:=_ :: L1)) 4 s4 rfl;have c5:=bM (S.out.at_ (l1:=_ :: L1)) 5 s5 rfl;have c6:=bM (S.out.at_ (l1:=_ :: L1)) 6 s6 rfl;have c7:=bM (S.out.at_ (l1:=_ :: L1)) 7 s7 rfl
 go_wp2_with (first
  |(refine bR rfl 205 _ rfl (pV (gL [(s0+v0) % 4294967296,(s1+v1) % 4294967296,(s2+v2) % 4294967296,(s3+v3) % 4294967296,(s4+v4) % 4294967296,(s5+v5) % 4294967296,(s6+v6) % 4294967296,(s7+v7) % 4294967296]) 0) ?_ _ (bCo _ _ _ _ _ _ _ _) ?_;simp [Act.eval,Act.put,hsz,pV,gL])
  |(refine aD rfl 205 (.tmp 4) (.tmp 208) rfl g4 (aO o4) (aW [(s0+v0) % 4294967296,(s1+v1) % 4294967296,(s2+v2) % 4294967296,(s3+v3) % 4294967296,(s4+v4) % 4294967296,(s5+v5) % 4294967296,(s6+v6) % 4294967296,(s7+v7) % 4294967296]) aE 205 _ (S.out.at_ (l1:=[])) (by rw [bI];exact bC1) (by rw [bI,bI,H4.out];rfl) (fO _) ?_;intro w2 b2 k2;have S2:=LH (Held.setBlk (l1:=[]) S.out b2 k2);clear b2 k2))
 try simp only [Act.put]
 exact hend _ _ tS (S2.out)
theorem aI0(j g5 x:Nat)(L:List Nat)(hlt:j < 48)(HX:L[j+1]?=some x)(HXl:x < 4294967296)(HW:Hid (∀ V,Kp [] w V->∀ i x:Nat,L[i]?=some x->V.cell? ⟨g5,i,none⟩=some (.int .u32 (x:Int))))(hsz:a.tmps.size=209)(o5:Sl a 5 (Pq g5 0))(o8:Sl a 8 (Nq (j+16))):bC true 12 f155 Q a w fun a' W q'=>Kp [] w.drew W->Sl a' 9 (.int .u32 ((sg0 x:Nat):Int))->q':=by
 intro hend;have hap:=pa 12 f155;refine bZ (l:=(aK 12 f155)) (fun i v W=>match i with|0=>v=Nq (j+16)|1=>v=Nq (j+1)|2=>v=.pointer (some ⟨g5,j+1,none⟩)|3=>v=.int .u32 ((x:Nat):Int)|4=>v=.int .u32 ((dG x 7:Nat):Int)|5=>v=Nq (j+16)|6=>v=Nq (j+1)|7=>v=.pointer (some ⟨g5,j+1,none⟩)|8=>v=.int .u32 ((x:Nat):Int)|9=>v=.int .u32 ((dG x 18:Nat):Int)|10=>v=.int .u32 (((dG x 7) ^^^ (dG x 18):Nat):Int)|11=>v=Nq (j+16)|12=>v=Nq (j+1)|13=>v=.pointer (some ⟨g5,j+1,none⟩)|14=>v=.int .u32 ((x:Nat):Int)|15=>v=.int .u32 ((x / 8:Nat):Int)|16=>v=.int .u32 ((sg0 x:Nat):Int)|17=>v=.int .u32 ((sg0 x:Nat):Int)|_=>True) (by kernel_rfl) hap (by kernel_rfl) ?_ ?_ ?_
 . exact fun _ _ _ _ h _=>h
 . and_intros <;> try intro vs A' W hA hW hd K hK
   . exact aJ (eO 8 o8)
   . have e49:=vD 49 0;clear hA hd o5 o8;go_step;exact hK _ _ kR (congrArg (Value.int .i64) (by first|omega|(unfold wrap64;omega)))
   . have h0:0<=(j:Int)+1:=by omega
     have h1:(j:Int)+1 < 64:=by omega
     exact cM (eO 5 o5) (vD 50 1)
   . have c0:=HW.out W ((Kp.refl [] _).drew.trans hW (by simp)) (j+1) x HX;exact aJ (vD 51 2)
   . have e52:=vD 52 3;clear hA hd o5 o8;go_step;refine (iJ x 7 7 rfl HXl (by unfold iK;omega) W).mono ?_;rintro e w' ⟨rfl,kq⟩;exact hK _ _ kq rfl
   . exact aJ (eO 8 o8)
   . have e54:=vD 54 5;clear hA hd o5 o8;go_step;exact hK _ _ kR (congrArg (Value.int .i64) (by first|omega|(unfold wrap64;omega)))
   . have h0:0<=(j:Int)+1:=by omega
     have h1:(j:Int)+1 < 64:=by omega
     exact cM (eO 5 o5) (vD 55 6)
   . have c0:=HW.out W ((Kp.refl [] _).drew.trans hW (by simp)) (j+1) x HX;exact aJ (vD 56 7)
   . have e57:=vD 57 8;clear hA hd o5 o8;go_step;refine (iJ x 18 18 rfl HXl (by unfold iK;omega) W).mono ?_;rintro e w' ⟨rfl,kq⟩;exact hK _ _ kq rfl
   . have e53:=vD 53 4;have e58:=vD 58 9;clear hA hd o5 o8;go_step;exact hK _ _ kR (congrArg (Value.int .u32) (fJ _ _ (cE HXl) (cE HXl)))
   . exact aJ (eO 8 o8)
   . have e60:=vD 60 11;clear hA hd o5 o8;go_step;exact hK _ _ kR (congrArg (Value.int .i64) (by first|omega|(unfold wrap64;omega)))
   . have h0:0<=(j:Int)+1:=by omega
     have h1:(j:Int)+1 < 64:=by omega
     exact cM (eO 5 o5) (vD 61 12)
   . have c0:=HW.out W ((Kp.refl [] _).drew.trans hW (by simp)) (j+1) x HX;exact aJ (vD 62 13)
   . have e63:=vD 63 14;clear hA hd o5 o8;go_step;exact hK _ _ kR (congrArg (Value.int .u32) (by first|omega|rfl))
   . have e59:=vD 59 10;have e64:=vD 64 15;clear hA hd o5 o8;go_step;exact hK _ _ kR (congrArg (Value.int .u32) (fJ _ _ (jN (cE HXl) (cE HXl)) (pS HXl)))
   . exact aJ (vD 65 16)
   . trivial
 . intro vs W hW hp;rw [aF];exact hend _ W sQ hW (sW (hp 17 sB))
theorem aFi(j g5 x:Nat)(L:List Nat)(hlt:j < 48)(HX:L[j+14]?=some x)(HXl:x < 4294967296)(HW:Hid (∀ V,Kp [] w V->∀ i x:Nat,L[i]?=some x->V.cell? ⟨g5,i,none⟩=some (.int .u32 (x:Int))))(hsz:a.tmps.size=209)(o5:Sl a 5 (Pq g5 0))(o8:Sl a 8 (Nq (j+16))):bC true 13 f155 Q a w fun a' W q'=>Kp [] w.drew W->Sl a' 10 (.int .u32 ((sg1 x:Nat):Int))->q':=by
 intro hend;have hap:=pa 13 f155;refine bZ (l:=(aK 13 f155)) (fun i v W=>match i with|0=>v=Nq (j+16)|1=>v=Nq (j+14)|2=>v=.pointer (some ⟨g5,j+14,none⟩)|3=>v=.int .u32 ((x:Nat):Int)|4=>v=.int .u32 ((dG x 17:Nat):Int)|5=>v=Nq (j+16)|6=>v=Nq (j+14)|7=>v=.pointer (some ⟨g5,j+14,none⟩)|8=>v=.int .u32 ((x:Nat):Int)|9=>v=.int .u32 ((dG x 19:Nat):Int)|10=>v=.int .u32 (((dG x 17) ^^^ (dG x 19):Nat):Int)|11=>v=Nq (j+16)|12=>v=Nq (j+14)|13=>v=.pointer (some ⟨g5,j+14,none⟩)|14=>v=.int .u32 ((x:Nat):Int)|15=>v=.int .u32 ((x / 1024:Nat):Int)|16=>v=.int .u32 ((sg1 x:Nat):Int)|17=>v=.int .u32 ((sg1 x:Nat):Int)|_=>True) (by kernel_rfl) hap (by kernel_rfl) ?_ ?_ ?_
 . exact fun _ _ _ _ h _=>h
 . and_intros <;> try intro vs A' W hA hW hd K hK
   . exact aJ (eO 8 o8)
   . have e66:=vD 66 0;clear hA hd o5 o8;go_step;exact hK _ _ kR (congrArg (Value.int .i64) (by first|omega|(unfold wrap64;omega)))
   . have h0:0<=(j:Int)+14:=by omega
     have h1:(j:Int)+14 < 64:=by omega
     exact cM (eO 5 o5) (vD 67 1)
   . have c0:=HW.out W ((Kp.refl [] _).drew.trans hW (by simp)) (j+14) x HX;exact aJ (vD 68 2)
   . have e69:=vD 69 3;clear hA hd o5 o8;go_step;refine (iJ x 17 17 rfl HXl (by unfold iK;omega) W).mono ?_;rintro e w' ⟨rfl,kq⟩;exact hK _ _ kq rfl
   . exact aJ (eO 8 o8)
   . have e71:=vD 71 5;clear hA hd o5 o8;go_step;exact hK _ _ kR (congrArg (Value.int .i64) (by first|omega|(unfold wrap64;omega)))
   . have h0:0<=(j:Int)+14:=by omega
     have h1:(j:Int)+14 < 64:=by omega
     exact cM (eO 5 o5) (vD 72 6)
   . have c0:=HW.out W ((Kp.refl [] _).drew.trans hW (by simp)) (j+14) x HX;exact aJ (vD 73 7)
   . have e74:=vD 74 8;clear hA hd o5 o8;go_step;refine (iJ x 19 19 rfl HXl (by unfold iK;omega) W).mono ?_;rintro e w' ⟨rfl,kq⟩;exact hK _ _ kq rfl
   . have e70:=vD 70 4;have e75:=vD 75 9;clear hA hd o5 o8;go_step;exact hK _ _ kR (congrArg (Value.int .u32) (fJ _ _ (cE HXl) (cE HXl)))
   . exact aJ (eO 8 o8)
   . have e77:=vD 77 11;clear hA hd o5 o8;go_step;exact hK _ _ kR (congrArg (Value.int .i64) (by first|omega|(unfold wrap64;omega)))
   . have h0:0<=(j:Int)+14:=by omega
     have h1:(j:Int)+14 < 64:=by omega
     exact cM (eO 5 o5) (vD 78 12)
   . have c0:=HW.out W ((Kp.refl [] _).drew.trans hW (by simp)) (j+14) x HX;exact aJ (vD 79 13)
   . have e80:=vD 80 14;clear hA hd o5 o8;go_step;exact hK _ _ kR (congrArg (Value.int .u32) (by first|omega|rfl))
   . have e76:=vD 76 10;have e81:=vD 81 15;clear hA hd o5 o8;go_step;exact hK _ _ kR (congrArg (Value.int .u32) (fJ _ _ (jN (cE HXl) (cE HXl)) (pS HXl)))
   . exact aJ (vD 82 16)
   . trivial
 . intro vs W hW hp;rw [aF];exact hend _ W sQ hW (sW (hp 17 sB))
theorem aG3(w0:World)(j g5 x y m c m0:Nat)(L:List Nat)(R:List Res)(hlt:j < 48)(HA:L[j]?=some m)(HC:L[j+9]?=some c)(HM:L[j+16]?=some m0)(hsz:a.tmps.size=209)(o5:Sl a 5 (Pq g5 0))(o8:Sl a 8 (Nq (j+16)))(o9:Sl a 9 (.int .u32 ((x:Nat):Int)))(o10:Sl a 10 (.int .u32 ((y:Nat):Int)))
 (S0:Held w0 w (aB g5 226 (aW L) :: R)):bC true 14 f155 Q a w fun a' W q'=>Held w0 W (aB g5 226 (aW (L.set (j+16) ((m+x+c+y) % 4294967296))) :: R)->q':=by
 intro hend;have hap:=pa 14 f155
 refine aP (Γ:=Unit) (l:=(aK 14 f155)) 2 [0,1,2,3,4,5,6,7,8,9,10,11,12,13,14,15,17]
  (fun i vs gs=>match i with|0=>vs 0=Nq (j+16)|1=>vs 1=Nq (j+16)|2=>vs 2=Nq j|3=>vs 3=.pointer (some ⟨g5,j,none⟩)|4=>vs 4=.int .u32 ((m:Nat):Int)|5=>vs 5=.int .u32 ((x:Nat):Int)|6=>vs 6=.int .u32 (((m+x) % 4294967296:Nat):Int)|7=>vs 7=Nq (j+16)|8=>vs 8=Nq (j+9)|9=>vs 9=.pointer (some ⟨g5,j+9,none⟩)|10=>vs 10=.int .u32 ((c:Nat):Int)|11=>vs 11=.int .u32 (((m+x+c) % 4294967296:Nat):Int)|12=>vs 12=.int .u32 ((y:Nat):Int)|13=>vs 13=.int .u32 (((m+x+c+y) % 4294967296:Nat):Int)|14=>vs 14=.pointer (some ⟨g5,j+16,none⟩)|_=>True)
  (fun i vs gs=>match i with|15=>[aB g5 226 (aW (L.set (j+16) ((m+x+c+y) % 4294967296)))]|16=>[aB g5 226 (aW L)]|17=>R|_=>[])
  (fun i=>match i with|15=>[16]|_=>[]) (fun i=>match i with|4=>[16]|10=>[16]|_=>[]) S0 (by kernel_rfl) hap (by kernel_rfl) (by kernel_rfl) (fun i=>match i with|0=>[0]|1=>[1]|2=>[2]|3=>[3]|4=>[4]|5=>[5]|6=>[6]|7=>[7]|8=>[8]|9=>[9]|10=>[10]|11=>[11]|12=>[12]|13=>[13]|14=>[14]|_=>[]) (by kernel_rfl) ?_ (by kernel_rfl) ?_ ?_ ?_
 . intro s vs vs' gs gs' h
   iterate 18 (rcases s with _|s;· (first|exact ⟨rfl,id⟩|(simp only [List.mem_cons,List.not_mem_nil,or_false,forall_eq] at h;simp [h])))
   exact ⟨rfl,id⟩
 . simp only [List.range,List.range.loop,List.flatMap_cons,List.flatMap_nil,List.append_nil];exact List.Perm.refl _
 . clear S0 hend
   and_intros <;> try intro vs gs A' W LF hA S hR hd hu K hK
   . exact aJ (eO 8 o8)
   . exact aJ (eO 8 o8)
   . replace hK:=hK default;have e84:=vD 84 1;clear hA o5 o8 o9 o10;go_step;exact hK _ _ S (congrArg (Value.int .i64) (by first|omega|(unfold wrap64;omega)))
   . have h0:0<=(j:Int):=by omega
     have h1:(j:Int) < 64:=by omega
     exact cM (eO 5 o5) (vD 85 2)
   . have c0:=bM (S.ok (aB g5 226 (aW L)) (hR 16 (List.mem_singleton.2 rfl) _ (List.mem_singleton.2 rfl))) (j) (m) HA;exact aJ (vD 86 3)
   . exact aJ (eO 9 o9)
   . replace hK:=hK default;have e87:=vD 87 4;have e88:=vD 88 5;clear hA o5 o8 o9 o10;go_step;exact hK _ _ S (congrArg (Value.int .u32) (by first|omega|rfl))
   . exact aJ (eO 8 o8)
   . replace hK:=hK default;have e90:=vD 90 7;clear hA o5 o8 o9 o10;go_step;exact hK _ _ S (congrArg (Value.int .i64) (by first|omega|(unfold wrap64;omega)))
   . have h0:0<=(j:Int)+9:=by omega
     have h1:(j:Int)+9 < 64:=by omega
     exact cM (eO 5 o5) (vD 91 8)
   . have c0:=bM (S.ok (aB g5 226 (aW L)) (hR 16 (List.mem_singleton.2 rfl) _ (List.mem_singleton.2 rfl))) (j+9) (c) HC;exact aJ (vD 92 9)
   . replace hK:=hK default;have e89:=vD 89 6;have e93:=vD 93 10;clear hA o5 o8 o9 o10;go_step;exact hK _ _ S (congrArg (Value.int .u32) (by first|omega|rfl))
   . exact aJ (eO 10 o10)
   . replace hK:=hK default;have e94:=vD 94 11;have e95:=vD 95 12;clear hA o5 o8 o9 o10;go_step;exact hK _ _ S (congrArg (Value.int .u32) (by first|omega|rfl))
   . have h0:0<=(j:Int)+16:=by omega
     have h1:(j:Int)+16 < 64:=by omega
     exact cM (eO 5 o5) (vD 83 0)
   . replace hK:=hK default;have e97:=vD 97 14;have e96:=vD 96 13;clear hA o5 o8 o9 o10;have S1:Held w0 W (aB g5 226 (aW L) :: LF):=S;have q1:=bM (S1.at_ (l1:=[])) (j+16) _ (HM);have q2:=(S1.at_ (l1:=[])).frozen (j+16);have q3:=(S1.at_ (l1:=[])).lt;go_step;have S2:=S1.set (l1:=[]) (j+16) (.int .u32 (((m+x+c+y) % 4294967296:Nat):Int))
     rw [iP] at S2;exact hK undef _ S2 trivial
   . trivial
 . intro vs gs W S hp;have S:Held w0 W (aB g5 226 (aW (L.set (j+16) ((m+x+c+y) % 4294967296))) :: R):=by simpa only [List.flatMap_cons,List.flatMap_nil,List.append_nil,List.nil_append,List.cons_append,List.append_assoc] using S
   rw [aF];exact hend _ W sQ  S
theorem aMi(w0:World)(k r q g5 m c n0 cb:Nat)(ad:Addr)(L:List Nat)(R:List Res)(hlt:k < 16)(hi:r < 4)(hq:Hid (q=4 * k+r))(hn:q < n0)(HM:L[k]?=some m)(hc:c < 256)(HB:Hid (∀ V,Kp [] w0 V->V.cell? (ad.add q)=some (.int .u8 (c:Int))))(hsz:a.tmps.size=209)(o1:Sl a 1 (.slice (some ad) n0 cb))(o5:Sl a 5 (Pq g5 0))(o6:Sl a 6 (Nq k))(o7:Sl a 7 (Nq r))
 (S0:Held w0 w (aB g5 226 (aW L) :: R)):bC true 8 f155 Q a w fun a' W q'=>Held w0 W (aB g5 226 (aW (L.set k ((m * 256+c) % 4294967296))) :: R)->q':=by
 intro hend;have hap:=pa 8 f155
 refine aP (Γ:=Unit) (l:=(aK 8 f155)) 2 [0,1,2,3,4,5,6,7,8,9,10,11,12,13,14,15,17]
  (fun i vs gs=>match i with|0=>vs 0=Nq k|1=>vs 1=Nq k|2=>vs 2=.pointer (some ⟨g5,k,none⟩)|3=>vs 3=.int .u32 ((m:Nat):Int)|4=>vs 4=.int .u32 ((m * 256 % 4294967296:Nat):Int)|5=>vs 5=.slice (some ad) n0 cb|6=>vs 6=Nq k|7=>vs 7=Nq (4 * k)|8=>vs 8=Nq r|9=>vs 9=Nq q|10=>vs 10=.pointer (some (ad.add q))|11=>vs 11=.int .u8 ((c:Nat):Int)|12=>vs 12=.int .u32 ((c:Nat):Int)|13=>vs 13=.int .u32 (((m * 256+c) % 4294967296:Nat):Int)|14=>vs 14=.pointer (some ⟨g5,k,none⟩)|_=>True)
  (fun i vs gs=>match i with|15=>[aB g5 226 (aW (L.set k ((m * 256+c) % 4294967296)))]|16=>[aB g5 226 (aW L)]|17=>R|_=>[])
  (fun i=>match i with|15=>[16]|_=>[]) (fun i=>match i with|3=>[16]|_=>[]) S0 (by kernel_rfl) hap (by kernel_rfl) (by kernel_rfl) (fun i=>match i with|0=>[0]|1=>[1]|2=>[2]|3=>[3]|4=>[4]|5=>[5]|6=>[6]|7=>[7]|8=>[8]|9=>[9]|10=>[10]|11=>[11]|12=>[12]|13=>[13]|14=>[14]|_=>[]) (by kernel_rfl) ?_ (by kernel_rfl) ?_ ?_ ?_
 . intro s vs vs' gs gs' h
   iterate 18 (rcases s with _|s;· (first|exact ⟨rfl,id⟩|(simp only [List.mem_cons,List.not_mem_nil,or_false,forall_eq] at h;simp [h])))
   exact ⟨rfl,id⟩
 . simp only [List.range,List.range.loop,List.flatMap_cons,List.flatMap_nil,List.append_nil];exact List.Perm.refl _
 . clear S0 hend
   and_intros <;> try intro vs gs A' W LF hA S hR hd hu K hK
   . exact aJ (eO 6 o6)
   . exact aJ (eO 6 o6)
   . have h0:0<=(k:Int):=by omega
     have h1:(k:Int) < 64:=by omega
     exact cM (eO 5 o5) (vD 31 1)
   . have c0:=bM (S.ok (aB g5 226 (aW L)) (hR 16 (List.mem_singleton.2 rfl) _ (List.mem_singleton.2 rfl))) k m HM;exact aJ (vD 32 2)
   . replace hK:=hK default;have e33:=vD 33 3;clear hA o1 o5 o6 o7;go_step;exact hK _ _ S (congrArg (Value.int .u32) (by first|omega|rfl))
   . exact aJ (eO 1 o1)
   . exact aJ (eO 6 o6)
   . replace hK:=hK default;have e36:=vD 36 6;clear hA o1 o5 o6 o7;go_step;exact hK _ _ S (congrArg (Value.int .i64) (by first|omega|(unfold wrap64;omega)))
   . exact aJ (eO 7 o7)
   . replace hK:=hK default;have e37:=vD 37 7;have e38:=vD 38 8;clear hA o1 o5 o6 o7;go_step;have hq:=hq.out;exact hK _ _ S (congrArg (Value.int .i64) (by first|omega|(unfold wrap64;omega)))
   . have h0:0<=(q:Int):=by omega
     have h1:(q:Int) < n0:=by omega
     exact cM (vD 35 5) (vD 39 9)
   . have c0:=HB.out W S.k;exact aJ (vD 40 10)
   . exact aJ (vD 41 11)
   . replace hK:=hK default;have e34:=vD 34 4;have e42:=vD 42 12;clear hA o1 o5 o6 o7;go_step;exact hK _ _ S (congrArg (Value.int .u32) (by first|omega|rfl))
   . have h0:0<=(k:Int):=by omega
     have h1:(k:Int) < 64:=by omega
     exact cM (eO 5 o5) (vD 30 0)
   . replace hK:=hK default;have e44:=vD 44 14;have e43:=vD 43 13;clear hA o1 o5 o6 o7;have S1:Held w0 W (aB g5 226 (aW L) :: LF):=S;have q1:=bM (S1.at_ (l1:=[])) (k) _ (HM);have q2:=(S1.at_ (l1:=[])).frozen (k);have q3:=(S1.at_ (l1:=[])).lt;go_step;have S2:=S1.set (l1:=[]) (k) (.int .u32 (((m * 256+c) % 4294967296:Nat):Int))
     rw [iP] at S2;exact hK undef _ S2 trivial
   . trivial
 . intro vs gs W S hp;have S:Held w0 W (aB g5 226 (aW (L.set k ((m * 256+c) % 4294967296))) :: R):=by simpa only [List.flatMap_cons,List.flatMap_nil,List.append_nil,List.nil_append,List.cons_append,List.append_assoc] using S
   rw [aF];exact hend _ W sQ  S
theorem aH3(g2 s0 s1 s2 s3 s4 s5 s6 s7:Nat)(HV:Hid (∀ V,Kp [] w V->∀ i x:Nat,[s0,s1,s2,s3,s4,s5,s6,s7][i]?=some x->V.cell? ⟨g2,i,none⟩=some (.int .u32 (x:Int))))(hsz:a.tmps.size=209)(o2:Sl a 2 (Pq g2 0)):bC true 15 f155 Q a w fun a' W q'=>Kp [] w.drew W->Sl a' 11 (.int .u32 ((s0:Nat):Int))->Sl a' 12 (.int .u32 ((s1:Nat):Int))->Sl a' 13 (.int .u32 ((s2:Nat):Int))->Sl a' 14 (.int .u32 ((s3:Nat):Int))->Sl a' 15 (.int .u32 ((s4:Nat):Int))->Sl a' 16 (.int .u32 ((s5:Nat):Int))->Sl a' 17 (.int .u32 ((s6:Nat):Int))->Sl a' 18 (.int .u32 ((s7:Nat):Int))->q':=by
 intro hend;have hap:=pa 15 f155;refine bZ (l:=(aK 15 f155)) (fun i v W=>match i with|0=>v=Pq g2 0|1=>v=.int .u32 ((s0:Nat):Int)|2=>v=Pq g2 1|3=>v=.int .u32 ((s1:Nat):Int)|4=>v=Pq g2 2|5=>v=.int .u32 ((s2:Nat):Int)|6=>v=Pq g2 3|7=>v=.int .u32 ((s3:Nat):Int)|8=>v=Pq g2 4|9=>v=.int .u32 ((s4:Nat):Int)|10=>v=Pq g2 5|11=>v=.int .u32 ((s5:Nat):Int)|12=>v=Pq g2 6|13=>v=.int .u32 ((s6:Nat):Int)|14=>v=Pq g2 7|15=>v=.int .u32 ((s7:Nat):Int)|16=>v=.int .u32 ((s0:Nat):Int)|17=>v=.int .u32 ((s1:Nat):Int)|18=>v=.int .u32 ((s2:Nat):Int)|19=>v=.int .u32 ((s3:Nat):Int)|20=>v=.int .u32 ((s4:Nat):Int)|21=>v=.int .u32 ((s5:Nat):Int)|22=>v=.int .u32 ((s6:Nat):Int)|23=>v=.int .u32 ((s7:Nat):Int)|_=>True) (by kernel_rfl) hap (by kernel_rfl) ?_ ?_ ?_
 . exact fun _ _ _ _ h _=>h
 . and_intros <;> try intro vs A' W hA hW hd K hK
   . exact aJ (eO 2 o2)
   . have c0:=HV.out W ((Kp.refl [] _).drew.trans hW (by simp)) 0 s0 rfl;exact aJ (vD 98 0)
   . exact aJ (eO 2 o2)
   . have c0:=HV.out W ((Kp.refl [] _).drew.trans hW (by simp)) 1 s1 rfl;exact aJ (vD 100 2)
   . exact aJ (eO 2 o2)
   . have c0:=HV.out W ((Kp.refl [] _).drew.trans hW (by simp)) 2 s2 rfl;exact aJ (vD 102 4)
   . exact aJ (eO 2 o2)
   . have c0:=HV.out W ((Kp.refl [] _).drew.trans hW (by simp)) 3 s3 rfl;exact aJ (vD 104 6)
   . exact aJ (eO 2 o2)
   . have c0:=HV.out W ((Kp.refl [] _).drew.trans hW (by simp)) 4 s4 rfl;exact aJ (vD 106 8)
   . exact aJ (eO 2 o2)
   . have c0:=HV.out W ((Kp.refl [] _).drew.trans hW (by simp)) 5 s5 rfl;exact aJ (vD 108 10)
   . exact aJ (eO 2 o2)
   . have c0:=HV.out W ((Kp.refl [] _).drew.trans hW (by simp)) 6 s6 rfl;exact aJ (vD 110 12)
   . exact aJ (eO 2 o2)
   . have c0:=HV.out W ((Kp.refl [] _).drew.trans hW (by simp)) 7 s7 rfl;exact aJ (vD 112 14)
   . exact aJ (vD 99 1)
   . exact aJ (vD 101 3)
   . exact aJ (vD 103 5)
   . exact aJ (vD 105 7)
   . exact aJ (vD 107 9)
   . exact aJ (vD 109 11)
   . exact aJ (vD 111 13)
   . exact aJ (vD 113 15)
   . trivial
 . intro vs W hW hp;rw [aF];exact hend _ W sQ hW (sW (hp 16 sB)) (sW (hp 17 sB)) (sW (hp 18 sB)) (sW (hp 19 sB)) (sW (hp 20 sB)) (sW (hp 21 sB)) (sW (hp 22 sB)) (sW (hp 23 sB))
theorem aFv(k g5 kk wk v4 v5 v6 v7:Nat)(h4:v4 < 4294967296)(h5:v5 < 4294967296)(h6:v6 < 4294967296)(hk:k < 64)(HK:Hid (∀ V,Calls prog 164 #[.int .i64 (k:Int)] V fun e w'=>e=.returned (.int .u32 (kk:Int)) ∧ Kp [] V w'))(HWt:Hid (∀ V,Kp [] w V->V.cell? ⟨g5,k,none⟩=some (.int .u32 (wk:Int))))(hsz:a.tmps.size=209)(o5:Sl a 5 (Pq g5 0))(o15:Sl a 15 (.int .u32 ((v4:Nat):Int)))(o16:Sl a 16 (.int .u32 ((v5:Nat):Int)))(o17:Sl a 17 (.int .u32 ((v6:Nat):Int)))(o18:Sl a 18 (.int .u32 ((v7:Nat):Int)))(o19:Sl a 19 (Nq k)):bC true 19 f155 Q a w fun a' W q'=>Kp [] w.drew W->Sl a' 20 (.int .u32 ((rX v4 v5 v6 v7 kk wk:Nat):Int))->q':=by
 intro hend;have hap:=pa 19 f155;refine bZ (l:=(aK 19 f155)) (fun i v W=>match i with|0=>v=.int .u32 ((v7:Nat):Int)|1=>v=.int .u32 ((v4:Nat):Int)|2=>v=.int .u32 ((dG v4 6:Nat):Int)|3=>v=.int .u32 ((v4:Nat):Int)|4=>v=.int .u32 ((dG v4 11:Nat):Int)|5=>v=.int .u32 (((dG v4 6) ^^^ (dG v4 11):Nat):Int)|6=>v=.int .u32 ((v4:Nat):Int)|7=>v=.int .u32 ((dG v4 25:Nat):Int)|8=>v=.int .u32 ((bS1 v4:Nat):Int)|9=>v=.int .u32 (((v7+bS1 v4) % 4294967296:Nat):Int)|10=>v=.int .u32 ((v4:Nat):Int)|11=>v=.int .u32 ((v5:Nat):Int)|12=>v=.int .u32 ((v4 &&& v5:Nat):Int)|13=>v=.int .u32 ((v4:Nat):Int)|14=>v=.int .u32 ((lG v4:Nat):Int)|15=>v=.int .u32 ((v6:Nat):Int)|16=>v=.int .u32 (((lG v4) &&& v6:Nat):Int)|17=>v=.int .u32 ((cho v4 v5 v6:Nat):Int)|18=>v=.int .u32 (((v7+bS1 v4+cho v4 v5 v6) % 4294967296:Nat):Int)|19=>v=Nq k|20=>v=.int .u32 ((kk:Nat):Int)|21=>v=.int .u32 (((v7+bS1 v4+cho v4 v5 v6+kk) % 4294967296:Nat):Int)|22=>v=Nq k|23=>v=.pointer (some ⟨g5,k,none⟩)|24=>v=.int .u32 ((wk:Nat):Int)|25=>v=.int .u32 ((rX v4 v5 v6 v7 kk wk:Nat):Int)|26=>v=.int .u32 ((rX v4 v5 v6 v7 kk wk:Nat):Int)|_=>True) (by kernel_rfl) hap (by kernel_rfl) ?_ ?_ ?_
 . exact fun _ _ _ _ h _=>h
 . and_intros <;> try intro vs A' W hA hW hd K hK
   . exact aJ (eO 18 o18)
   . exact aJ (eO 15 o15)
   . have e119:=vD 119 1;clear hA hd o5 o15 o16 o17 o18 o19;go_step;refine (iJ v4 6 6 rfl h4 (by unfold iK;omega) W).mono ?_;rintro e w' ⟨rfl,kq⟩;exact hK _ _ kq rfl
   . exact aJ (eO 15 o15)
   . have e121:=vD 121 3;clear hA hd o5 o15 o16 o17 o18 o19;go_step;refine (iJ v4 11 11 rfl h4 (by unfold iK;omega) W).mono ?_;rintro e w' ⟨rfl,kq⟩;exact hK _ _ kq rfl
   . have e120:=vD 120 2;have e122:=vD 122 4;clear hA hd o5 o15 o16 o17 o18 o19;go_step;exact hK _ _ kR (congrArg (Value.int .u32) (fJ _ _ (cE h4) (cE h4)))
   . exact aJ (eO 15 o15)
   . have e124:=vD 124 6;clear hA hd o5 o15 o16 o17 o18 o19;go_step;refine (iJ v4 25 25 rfl h4 (by unfold iK;omega) W).mono ?_;rintro e w' ⟨rfl,kq⟩;exact hK _ _ kq rfl
   . have e123:=vD 123 5;have e125:=vD 125 7;clear hA hd o5 o15 o16 o17 o18 o19;go_step;exact hK _ _ kR (congrArg (Value.int .u32) (fJ _ _ (jN (cE h4) (cE h4)) (cE h4)))
   . have e118:=vD 118 0;have e126:=vD 126 8;clear hA hd o5 o15 o16 o17 o18 o19;go_step;exact hK _ _ kR (congrArg (Value.int .u32) (by first|omega|rfl))
   . exact aJ (eO 15 o15)
   . exact aJ (eO 16 o16)
   . have e128:=vD 128 10;have e129:=vD 129 11;clear hA hd o5 o15 o16 o17 o18 o19;go_step;exact hK _ _ kR (congrArg (Value.int .u32) (u32_and_nat _ _ h4 h5))
   . exact aJ (eO 15 o15)
   . have e131:=vD 131 13;clear hA hd o5 o15 o16 o17 o18 o19;go_step;exact hK _ _ kR (congrArg (Value.int .u32) (aD4 v4 h4))
   . exact aJ (eO 17 o17)
   . have e132:=vD 132 14;have e133:=vD 133 15;clear hA hd o5 o15 o16 o17 o18 o19;go_step;exact hK _ _ kR (congrArg (Value.int .u32) (u32_and_nat _ _ (mZ v4) h6))
   . have e130:=vD 130 12;have e134:=vD 134 16;clear hA hd o5 o15 o16 o17 o18 o19;go_step;exact hK _ _ kR (congrArg (Value.int .u32) (fJ _ _ (gC h4) (gC (mZ v4))))
   . have e127:=vD 127 9;have e135:=vD 135 17;clear hA hd o5 o15 o16 o17 o18 o19;go_step;exact hK _ _ kR (congrArg (Value.int .u32) (by first|omega|rfl))
   . exact aJ (eO 19 o19)
   . have e137:=vD 137 19;clear hA hd o5 o15 o16 o17 o18 o19;go_step;refine (HK.out W).mono ?_;rintro e w' ⟨rfl,kq⟩;exact hK _ _ kq rfl
   . have e136:=vD 136 18;have e138:=vD 138 20;clear hA hd o5 o15 o16 o17 o18 o19;go_step;exact hK _ _ kR (congrArg (Value.int .u32) (by first|omega|rfl))
   . exact aJ (eO 19 o19)
   . have h0:0<=(k:Int):=by omega
     have h1:(k:Int) < 64:=by omega
     exact cM (eO 5 o5) (vD 140 22)
   . have c0:=HWt.out W ((Kp.refl [] _).drew.trans hW (by simp));exact aJ (vD 141 23)
   . have e139:=vD 139 21;have e142:=vD 142 24;clear hA hd o5 o15 o16 o17 o18 o19;go_step;exact hK _ _ kR (congrArg (Value.int .u32) (by unfold rX;omega))
   . exact aJ (vD 143 25)
   . trivial
 . intro vs W hW hp;rw [aF];exact hend _ W sQ hW (sW (hp 26 sB))
end
end Go.Proofs.YtmkfopmdingaoaaGreatDoor
