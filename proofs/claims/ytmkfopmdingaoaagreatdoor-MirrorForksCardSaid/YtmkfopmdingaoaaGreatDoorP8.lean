/- Several texts in one: MirB, MirC, MirD, MirE, MirF, MirG, MirH, MirI, MirJ, MirK, MirL, MirM, MirN, MirO, MirP, MirQ, MirR, MirS, MirT. -/
import Derived.Test.YtmkfopmdingaoaaGreatDoorShelf2
import Derived.Lib.AppendZerosOnto
import Derived.Test.YtmkfopmdingaoaaGreatDoorP7
set_option linter.unusedVariables false
set_option linter.unusedSimpArgs false
set_option maxRecDepth 100000
set_option maxHeartbeats 8000000
open Go.Proofs.Tryz
namespace Go.Proofs.YtmkfopmdingaoaaGreatDoor
section
variable {Q:Exit->Act->World->Prop} {a:Act} {w:World}
open Go.RowKit Go.Shelf
attribute [local go_sem] Oper.semAt_some
def bAj (W:World) (p:Value) (md:Bool):Prop:=(p=.pointer none ∧ md=false) ∨ ∃ g cs,p=Pq g 0 ∧ aM W g 85 cs ∧ cs[141]?=some (.bool md)
theorem aG6(hsz:a.tmps.size=12):bK 0 f50 Q a w fun a' q'=>Sl a' 2 (.bool false)->q':=rO
theorem aL7(hsz:a.tmps.size=12)(o0:Sl a 0 (.pointer none)):bC false 1 f50 Q a w fun a' W q'=>Kp [] w W->Sl a' 2 (.bool true)->q':=by
 intro hend;have hap:=pa 1 f50;refine aH (l:=(aK 1 f50)) (fun i v W=>match i with|0=>v=.pointer none|1=>v=.bool true|2=>v=.bool true|8=>v=.bool true|9=>v=.bool true|_=>True) hap ?_ ?_ ?_
 . exact fun _ _ _ _ h _=>h
 . and_intros <;> try (intro vs A' W hA hW hd hu K hK;try (refine aL _ rfl rfl ?_;conv=>arg 2;whnf))
   . exact aJ (eO 0 o0)
   . exact aJ (vD 3 0)
   . exact aJ (vD 4 1)
   . exact sk
   . exact sk
   . exact sk
   . exact sk
   . exact sk
   . exact cM (vD 5 2) (eU 10 7)
   . exact aJ (vD 11 8)
   . trivial
 . intro vs W hW hp;rw [aF];exact hend _ W sQ hW (sW (hp 9 sB))
theorem aL5(g:Nat)(cs:Array Value)(md:Bool)(hb:aM w g 85 cs)(h9:cs[141]?=some (.bool md))(hsz:a.tmps.size=12)(o0:Sl a 0 (Pq g 0)):bC false 1 f50 Q a w fun a' W q'=>Kp [] w W->Sl a' 2 (.bool (!md))->q':=by
 intro hend;have hap:=pa 1 f50;refine aH (l:=(aK 1 f50)) (fun i v W=>match i with|0=>v=Pq g 0|1=>v=.bool false|2=>v=.bool false|3=>v=Pq g 0|4=>v=Pq g 0|5=>v=Pq g 141|6=>v=.bool md|7=>v=.bool (!md)|8=>v=.bool (!md)|9=>v=.bool (!md)|_=>True) hap ?_ ?_ ?_
 . exact fun _ _ _ _ h _=>h
 . and_intros <;> try (intro vs A' W hA hW hd hu K hK;try (refine aL _ rfl rfl ?_;conv=>arg 2;whnf))
   . exact aJ (eO 0 o0)
   . exact aJ (vD 3 0)
   . exact aJ (vD 4 1)
   . exact cC (eO 0 o0)
   . exact cC (vD 6 3)
   . exact cC (vD 7 4)
   . refine qH ?_;(conv=>arg 2;whnf);have c0:W.cell? ⟨g,141,none⟩=some (.bool md):=by rw [(hb.k0 hW).cell];exact h9
     exact aJ (vD 8 5)
   . exact cC (vD 9 6)
   . exact cM (vD 5 2) (vD 10 7)
   . exact aJ (vD 11 8)
   . trivial
 . intro vs W hW hp;rw [aF];exact hend _ W sQ hW (sW (hp 9 sB))
theorem pO(p:Value)(md:Bool)(w:World)(h:bAj w p md):Calls prog 50 #[p] w fun e w'=>e=.returned (.bool (!md)) ∧ Kp [] w w':=by
 rcases h with ⟨rfl,rfl⟩|⟨g,cs,rfl,hb,h9⟩
 . refine aR func50 rfl 12 rfl (fun a0 hsz hdf hAr=>?_);have hz0:a0.tmps.size=12:=hsz;have D:=hdf;have o0:=hAr 0 _ rfl;refine wp_seq (aG6 hz0 (fun a1 hs1 o2=>?_));obtain ⟨hz1,D,o0⟩:=eY hs1 hz0 D o0;refine wp_seq (aL7 hz1 o0 (fun a2 w2 hs2 k2 o2=>?_));obtain ⟨hz2,D,o0⟩:=eY hs2 hz1 D o0;refine wp_ret ?_;exact bodyPost_ret (bA (by rfl) (o2.eval (by rw [hz2];decide))) D ⟨rfl,k2⟩
 . refine aR func50 rfl 12 rfl (fun a0 hsz hdf hAr=>?_);have hz0:a0.tmps.size=12:=hsz;have D:=hdf;have o0:=hAr 0 _ rfl;refine wp_seq (aG6 hz0 (fun a1 hs1 o2=>?_));obtain ⟨hz1,D,o0⟩:=eY hs1 hz0 D o0;refine wp_seq (aL5 g cs md hb h9 hz1 o0 (fun a2 w2 hs2 k2 o2=>?_));obtain ⟨hz2,D⟩:=dS hs2 hz1 D;refine wp_ret ?_;exact bodyPost_ret (bA (by rfl) (o2.eval (by rw [hz2];decide))) D ⟨rfl,k2⟩
theorem aUh(hsz:a.tmps.size=11):bK 0 f17 Q a w fun a' q'=>Sl a' 2 (.int .i64 (0:Int))->q':=rO
theorem aZ3(p:Value)(md:Bool)(HC0:Calls prog 50 #[p] w fun e w'=>e=.returned (.bool (!md)) ∧ Kp [] w w')(hsz:a.tmps.size=11)(o0:Sl a 0 (p)):bC false 1 f17 Q a w fun a' W q'=>Sl a' 4 (.bool (!md))->(Kp [] w W)->q':=by
 refine bU fun hend=>?_;unfold Sl at o0;have HC:=LH HC0;clear HC0;obtain ⟨b,hb⟩:∃ b,Hid ((!md)=b):=⟨_,LH rfl⟩;rw [hb.out] at HC hend;go_wp2_with fail
 refine HC.out.mono ?_;rintro e w1 ⟨rfl,k1⟩;have k1:=LH k1;go_wp2_with fail
 try simp only [Act.put]
 exact hend _ _ tS sP (k1.out)
theorem aQs(g:Nat)(cs:Array Value)(A:Option Addr)(n c:Nat)(hb:aM w g 85 cs)(h2:cs[2]?=some (.slice A n c))(hsz:a.tmps.size=11)(o0:Sl a 0 (Pq g 0)):bK 3 f17 Q a w fun a' q'=>Sl a' 2 (Nq n)->q':=by
 have c0:w.cell? ⟨g,2,none⟩=some (.slice A n c):=by rw [hb.cell];exact h2
 clear hb h2;exact rO
theorem kG(g:Nat)(cs:Array Value)(A:Option Addr)(n c:Nat)(w:World)(hb:aM w g 85 cs)(h9:cs[141]?=some (.bool true))(h2:cs[2]?=some (.slice A n c)):Calls prog 17 #[Pq g 0] w fun e w'=>e=.returned (Nq n) ∧ Kp [] w w':=by
 refine aR func17 rfl 11 rfl (fun a0 hsz hdf hAr=>?_);have hz0:a0.tmps.size=11:=hsz;have D:=hdf;have o0:=hAr 0 _ rfl;refine wp_seq (aUh hz0 (fun a1 hs1 o2=>?_));obtain ⟨hz1,D,o0⟩:=eY hs1 hz0 D o0;refine wp_seq (wp_seq (aZ3 _ true (pO _ true w (.inr ⟨g,cs,rfl,hb,h9⟩)) hz1 o0 (fun a2 w2 hs2 o4 k2=>?_)));obtain ⟨hz2,D,o0⟩:=eY hs2 hz1 D o0;refine dD o4 (wp_skip ?_);simp only [Exit.then];refine wp_seq (aQs g cs A n c (hb.kp k2 (by simp)) h2 hz2 o0 (fun a3 hs3 o2=>?_));obtain ⟨hz3,D⟩:=dS hs3 hz2 D;refine wp_ret ?_;exact bodyPost_ret (bA (by rfl) (o2.eval (by rw [hz3];decide))) D ⟨rfl,k2⟩
end
section
variable {Q:Exit->Act->World->Prop} {a:Act} {w:World}
open Go.RowKit Go.Shelf
attribute [local go_sem] Oper.semAt_some
theorem aXu(w0:World)(cn:Array Value)(hcn:cn.size=34)(h1:∀ u,u ∈ cn.toList->u.oneCell'=true)(L:List Res)(S:Held w0 w L)(hsz:a.tmps.size=8)(o0:Sl a 0 (.agg cn)):bC false 0 f46 Q a w fun a' W q'=>(∃ g1 g2,Sl a' 1 (Pq g1 0) ∧ Sl a' 2 (Pq g2 0) ∧ Held w0 W (aB g2 28 bT :: aB g1 28 cn :: L))->q':=by
 refine bU fun hend=>?_;unfold Sl at o0;have S1:=LH ((S.newBlk 28 cn).newBlkN 28 bT (g:=w.heap.size+1) (by simp));have hcn:=LH hcn;have h1:=LH h1;go_wp2
 try simp only [Act.put]
 exact hend _ _ tS (⟨w.heap.size,w.heap.size+1,cH,cH,S1.out⟩)
theorem aOz(w0:World)(g1:Nat)(cn:Array Value)(A:Option Addr)(n c m:Nat)(xs:List Value)(hb:aM w g1 28 cn)(h33:cn[33]?=some (.slice A n c))(L:List Res)(HC0:Calls prog 89 #[.slice A n c] w fun e w'=>∃ v,e=.returned v ∧ Held w0 w' (aG 89 33 v m xs :: aB g1 28 cn :: L))(hsz:a.tmps.size=8)(o1:Sl a 1 (Pq g1 0)):bC false 1 f46 Q a w fun a' W q'=>(∃ v,Held w0 W (aG 89 33 v m xs :: aB g1 28 (cn.setIfInBounds 33 v) :: L))->q':=by
 refine bU fun hend=>?_;unfold Sl at o1;have HC:=LH HC0;clear HC0;have c33:w.cell? ⟨g1,33,none⟩=some (.slice A n c):=by rw [hb.cell];exact h33
 have h33:=LH h33;clear hb;go_wp2_with fail
 refine HC.out.mono ?_;rintro e w1 ⟨v,rfl,S1⟩;obtain ⟨A2,c2,hv,-,-⟩:=aS (show Ow w1 89 33 v m xs from S1.at_ (l1:=[]));subst hv;have d33:w1.cell? ⟨g1,33,none⟩=some (.slice A n c):=by rw [(show aM w1 g1 28 cn from S1.at_ (l1:=[_])).cell];exact h33.out
 have f33:=(show aM w1 g1 28 cn from S1.at_ (l1:=[_])).frozen 33;have S2:=LH (S1.set (l1:=[_]) 33 (.slice A2 m c2));clear S1;go_wp2_with fail
 try simp only [Act.put]
 exact hend _ _ tS (⟨_,S2.out⟩)
theorem aUp(w0:World)(g1 g2:Nat)(cn:Array Value)(hcn:cn.size=34)(h1:∀ u,u ∈ cn.toList->u.oneCell'=true)(L:List Res)(S:Held w0 w (aB g2 28 bT :: aB g1 28 cn :: L))(hsz:a.tmps.size=8)(o1:Sl a 1 (Pq g1 0))(o2:Sl a 2 (Pq g2 0)):bC false 2 f46 Q a w fun a' W q'=>(Held w0 W (aB g2 28 cn :: aB g1 28 cn :: L))->q':=by
 refine bU fun hend=>?_;unfold Sl at o1 o2;have S:=LH S;have hcn:=LH hcn;have h1:=LH h1;have hz:Hid (bT.size=34):=LH (by unfold bT;exact aN (by simp));obtain ⟨zn,hzn⟩:∃ zn,Hid (bT=zn):=⟨_,LH rfl⟩;rw [hzn.out] at S hz;go_wp2_with (first|(refine aQ rfl 28 (.tmp 1) rfl g1 (aO o1) 28 _ (S.out.at_ (l1:=[_])) _ underlying28 rfl (by rw [hcn.out];exact bBz) ?_)|(refine aD rfl 28 (.tmp 2) (.tmp 7) rfl g2 (aO o2) cn aE 28 _ (S.out.at_ (l1:=[])) (by rw [hcn.out];exact bBz) (by rw [hz.out,hcn.out]) h1.out ?_;intro w7 b7 k7;have S7:=LH (Held.setBlk (l1:=[]) S.out b7 k7);clear b7 k7))
 try simp only [Act.put]
 exact hend _ _ tS (S7.out)
theorem kL(w0:World)(L:List Res)(z:Int)(h:Bs)(hh:h.length=32)(A:Option Addr)(c:Nat)(l:List bF)(hok:dI l)(hll:l.length<=1000000)(w:World)(S:Held w0 w L)(HV:∀ V,Held w0 V L->Rd V 33 (.slice A l.length c) l.length (bB l)):
 Calls prog 46 #[.agg (bD z h (.slice A l.length c))] w fun e w'=>∃ v,e=.returned (.agg (bD z h v)) ∧ Held w0 w' (aG 89 33 v l.length (bB l) :: L):=by
 refine aR func46 rfl 8 rfl (fun a0 hsz hdf hAr=>?_);have hz0:a0.tmps.size=8:=hsz;have D:=hdf;have o0:=hAr 0 _ rfl;refine wp_seq (aXu w0 _ (aN hh) (cT rfl) L S hz0 o0 (fun a1 w1 hs1 h1=>?_));obtain ⟨hz1,D⟩:=dS hs1 hz0 D;obtain ⟨g1,g2,o1,o2,S⟩:=h1;have HC:=aAo w0 (aB g1 28 (bD z h (.slice A l.length c)) :: aB g2 28 bT :: L) A c l hok hll w1 (S.pull 1 rfl) (fun V SV=>HV V SV.drop.drop);refine wp_seq (aOz w0 g1 _ A l.length c _ _ (S.at_ (l1:=[_])) (cP hh) _ HC hz1 o1 (fun a2 w2 hs2 h2=>?_));obtain ⟨hz2,D,o1,o2⟩:=dU hs2 hz1 D o1 o2;obtain ⟨v,S⟩:=h2;obtain ⟨A2,c2,rfl,-,-⟩:=aS (show Ow w2 89 33 v l.length (bB l) from S.at_ (l1:=[]));rw [lV hh] at S;refine wp_seq (aUp w0 g1 g2 _ (aN hh) (cT rfl) _ ((((S.pull 0 rfl).pull 1 rfl).pull 2 rfl)) hz2 o1 o2 (fun a3 w3 hs3 S=>?_));obtain ⟨hz3,D,o2⟩:=eY hs3 hz2 D o2;refine wp_ret ?_;exact bodyPost_ret (aV (by rfl) (o2.eval (by rw [hz3];decide)) (S.at_ (l1:=[])) underlying28 rfl (by rw [aN hh];exact bBz)) D ⟨_,rfl,S.drop.drop⟩
end
section
variable {Q:Exit->Act->World->Prop} {a:Act} {w:World}
open Go.RowKit Go.Shelf
attribute [local go_sem] Oper.semAt_some
def qX:List Value:=pK 0 (List.replicate 32 0) (.slice none 0 0)
def eJ:List Value:=qX ++ (qX ++ (bv (List.replicate 32 0) ++ [.slice none 0 0]))
theorem xC:qX.length=34:=rfl
theorem wJ:eJ.length=101:=rfl
def oW (k0 k1:Value):Array Value:=dO k0 k1 (.slice none 0 0) (.slice none 0 0) qX false eJ false true
def vH (k0 k1:Value):Array Value:=(k0 :: k1 :: .slice none 0 0 :: .slice none 0 0 :: (qX ++ .bool false :: (eJ ++ [.bool false]))).toArray
theorem bCt(s:ByteArray)(A:Option Addr)(n c:Nat):prog.built 34 [(0,.string s),(1,.slice A n c)]=some #[.string s,.slice A n c]:=by kernel_rfl
theorem bCw(s:ByteArray)(A:Option Addr)(n c:Nat):prog.built 83 [(0,.agg #[.string s,.slice A n c])]=some (vH (.string s) (.slice A n c)):=by kernel_rfl
theorem bD8(s:ByteArray)(A:Option Addr)(n c:Nat):prog.built 85 [(0,.agg (vH (.string s) (.slice A n c))),(1,.bool true)]=some (oW (.string s) (.slice A n c)):=by kernel_rfl
theorem bAq(s:ByteArray)(A:Option Addr)(n c:Nat):∀ u ∈ (oW (.string s) (.slice A n c)).toList,u.oneCell'=true:=by
 intro u hu;simp only [oW,dO,List.toList_toArray,List.mem_cons,List.mem_append,qX,eJ,pK,List.mem_singleton,List.not_mem_nil,or_false] at hu;rcases hu with rfl|rfl|rfl|rfl|(rfl|hu|rfl)|rfl|((rfl|hu|rfl)|(rfl|hu|rfl)|hu|rfl)|rfl|rfl <;> first|rfl|exact eI _ _ hu
theorem aZ4(w0:World)(sv:Value)(A:Option Addr)(n c:Nat)(L:List Res)(S:Held w0 w L)(hsz:a.tmps.size=16)(o0:Sl a 0 (.agg #[sv,.slice A n c])):bC false 0 f13 Q a w fun a' W q'=>Sl a' 2 (.pointer none)->Sl a' 3 (.int .i64 (0:Int))->(∃ g,Sl a' 1 (Pq g 0) ∧ Held w0 W (aB g 34 #[sv,.slice A n c] :: L))->q':=by
 refine bU fun hend=>?_;unfold Sl at o0;have S1:=LH (S.newBlk 34 #[sv,.slice A n c]);go_wp2
 try simp only [Act.put]
 exact hend _ _ tS sP sP (⟨w.heap.size,cH,S1.out⟩)
theorem aVb(g1:Nat)(s:ByteArray)(A:Option Addr)(n c:Nat)(b:Bool)(hb:aM w g1 34 #[.string s,.slice A n c])(HC0:Calls prog 30 #[.agg #[.string s,.slice A n c]] w fun e w'=>e=.returned (.bool b) ∧ Kp [] w w')(hsz:a.tmps.size=16)(o1:Sl a 1 (Pq g1 0)):bC false 1 f13 Q a w fun a' W q'=>Sl a' 6 (.bool (!b))->(Kp [] w W)->q':=by
 refine bU fun hend=>?_;unfold Sl at o1;have HC:=LH HC0;clear HC0;obtain ⟨q1,q2,q3,q4⟩:=aM.c2 hb;clear hb;go_wp2_with fail
 refine HC.out.mono ?_;rintro e w1 ⟨rfl,k1⟩;have k1:=LH k1;go_wp2_with fail
 try simp only [Act.put]
 exact hend _ _ tS sP (k1.out)
theorem aV4(hsz:a.tmps.size=16):bK 2 f13 Q a w fun a' q'=>Sl a' 2 (.pointer none)->Sl a' 3 (.int .i64 (2:Int))->q':=rO
theorem aXr(w0:World)(g1:Nat)(s:ByteArray)(A:Option Addr)(c:Nat)(sec:Bs)(HC0:∀ V,Kp [] w0 V->Calls prog 39 #[.slice A sec.length c] V fun r w'=>∃ u,r=.returned u ∧ zY sec V u w')(L:List Res)(hsz:a.tmps.size=16)(o1:Sl a 1 (Pq g1 0))
 (S0:Held w0 w (aB g1 34 #[.string s,.slice A sec.length c] :: L))
 (hend:∀ (a':Act) (vs:Nat->Value) (gs:Nat->Nat) (W:World),Same a a' [7,8,9,10,11,12,13,14,15,2,3]->Sl a' 2 (Pq (gs 8) 0)->Sl a' 3 (.int .i64 (0:Int))->Held w0 W (aG 5 1 (vs 4) sec.length (bv sec) :: aB (gs 8) 85 (oW (.string s) (vs 4)) :: aB g1 34 #[.string s,.slice A sec.length c] :: L)->Q .normal a' W):(Code.region 3 (aK 3 f13).toArray true).wp prog Q a w:=by
 have hap:=pa 3 f13
 refine aP (Γ:=Nat) (l:=(aK 3 f13)) 3 [0,1,2,3,4,5,6,7,8,9,10,11,12,13]
  (fun i vs gs=>match i with|0=>vs 0=Pq g1 0|1=>vs 1=.string s|2=>vs 2=Pq g1 1|3=>vs 3=.slice A sec.length c|5=>vs 5=.agg #[.string s,vs 4]|6=>vs 6=.agg (vH (.string s) (vs 4))|7=>vs 7=.agg (oW (.string s) (vs 4))|8=>vs 8=Pq (gs 8) 0|9=>vs 9=Pq (gs 8) 0|10=>vs 10=.int .i64 (0:Int)|_=>True)
  (fun i vs gs=>match i with|4=>[aG 5 1 (vs 4) sec.length (bv sec)]|8=>[aB (gs 8) 85 (oW (.string s) (vs 4))]|12=>[aB g1 34 #[.string s,.slice A sec.length c]]|13=>L|_=>[])
  (fun i=>match i with  | _=>[]) (fun i=>match i with|1=>[12]|3=>[12]|5=>[4]|6=>[4]|7=>[4]|_=>[]) S0 (by kernel_rfl) hap (by kernel_rfl) (by kernel_rfl) (fun i=>match i with|0=>[0]|1=>[1]|2=>[2]|3=>[3]|4=>[4]|5=>[4,5]|6=>[4,6]|7=>[4,7]|8=>[4,8]|9=>[8,9]|10=>[10]|_=>[]) (by kernel_rfl) ?_ (by kernel_rfl) ?_ ?_ ?_
 . exact lA
 . exact pA
 . clear S0 hend
   and_intros <;> try intro vs gs A' W LF hA S hR hd hu K hK
   . exact aJ (eO 1 o1)
   . have c0:W.cell? ⟨g1,0,none⟩=some (.string s):=(show aM W g1 34 #[.string s,.slice A sec.length c] from S.ok (aB g1 34 #[.string s,.slice A sec.length c]) (hR 12 (List.mem_singleton.2 rfl) _ (List.mem_singleton.2 rfl))).cell 0;exact aJ (vD 7 0)
   . exact aJ (eO 1 o1)
   . have c0:W.cell? ⟨g1,1,none⟩=some (.slice A sec.length c):=(show aM W g1 34 #[.string s,.slice A sec.length c] from S.ok (aB g1 34 #[.string s,.slice A sec.length c]) (hR 12 (List.mem_singleton.2 rfl) _ (List.mem_singleton.2 rfl))).cell 1;exact aJ (vD 9 2)
   . replace hK:=hK default;have e10:=vD 10 3;clear hA o1;go_step;refine (HC0 W S.k).mono ?_;rintro e w' ⟨v,rfl,N⟩;exact hK v w' (S.rownew N.1 N.2.1 N.2.2) trivial
   . replace hK:=hK default;have e8:=vD 8 1;have e11:=eU 11 4;clear hA o1;obtain ⟨Av,cv,hv,-,-⟩:=aS (show Ow W 5 1 (vs 4) sec.length (bv sec) from S.ok (aG 5 1 (vs 4) sec.length (bv sec)) (hR 4 (List.mem_singleton.2 rfl) _ (List.mem_singleton.2 rfl)));rw [hv] at e11;refine gG 34 _ rfl [(0,.string s),(1,.slice Av sec.length cv)] (by simp [Act.eval,e8,e11]) _ (bCt s Av sec.length cv) ?_;exact hK _ _ S (show Value.agg #[.string s,.slice Av sec.length cv]=.agg #[.string s,vs 4] by rw [hv])
   . replace hK:=hK default;have e12:=vD 12 5;clear hA o1;obtain ⟨Av,cv,hv,-,-⟩:=aS (show Ow W 5 1 (vs 4) sec.length (bv sec) from S.ok (aG 5 1 (vs 4) sec.length (bv sec)) (hR 4 (List.mem_singleton.2 rfl) _ (List.mem_singleton.2 rfl)));rw [hv] at e12;refine gG 83 _ rfl [(0,.agg #[.string s,.slice Av sec.length cv])] (by simp [Act.eval,e12]) _ (bCw s Av sec.length cv) ?_;exact hK _ _ S (show Value.agg (vH (.string s) (.slice Av sec.length cv))=.agg (vH (.string s) (vs 4)) by rw [hv])
   . replace hK:=hK default;have e13:=vD 13 6;clear hA o1;obtain ⟨Av,cv,hv,-,-⟩:=aS (show Ow W 5 1 (vs 4) sec.length (bv sec) from S.ok (aG 5 1 (vs 4) sec.length (bv sec)) (hR 4 (List.mem_singleton.2 rfl) _ (List.mem_singleton.2 rfl)));rw [hv] at e13;refine gG 85 _ rfl [(0,.agg (vH (.string s) (.slice Av sec.length cv))),(1,.bool true)] (by simp [Act.eval,e13]) _ (bD8 s Av sec.length cv) ?_;exact hK _ _ S (show Value.agg (oW (.string s) (.slice Av sec.length cv))=.agg (oW (.string s) (vs 4)) by rw [hv])
   . have e14:=vD 14 7;clear hA o1;obtain ⟨cm,hcm⟩:∃ cm,oW (.string s) (vs 4)=cm:=⟨_,rfl⟩;rw [hcm] at e14;go_step;have S2:=S.newBlk 85 cm
     rw [<- hcm] at S2 ⊢;exact hK W.heap.size _ _ S2 rfl
   . exact aJ (vD 15 8)
   . exact lK
   . trivial
 . intro vs gs W S hp;have S:Held w0 W (aG 5 1 (vs 4) sec.length (bv sec) :: aB (gs 8) 85 (oW (.string s) (vs 4)) :: aB g1 34 #[.string s,.slice A sec.length c] :: L):=by simpa only [List.flatMap_cons,List.flatMap_nil,List.append_nil,List.nil_append,List.cons_append,List.append_assoc] using S
   rw [aF];exact hend _ vs gs W sQ (sW (hp 9 sB)) (sW (hp 10 sB)) S
theorem aH7(nm:Bs)(hnm:nm.length<=9223372036854775807)(A:Option Addr)(c:Nat)(sec:Bs)(hsl:sec.length<=140737488355200)(w:World)(LDw:LD w)(hv:Rd w 1 (.slice A sec.length c) sec.length (bv sec)):
 Calls prog 13 #[.agg #[bX nm,.slice A sec.length c]] w fun e w'=>(cR nm sec=true ∧ ∃ g u,e=.returned (.tuple #[Pq g 0,.int .i64 0]) ∧ Held w w' [aB g 85 (oW (bX nm) u),aG 5 1 u sec.length (bv sec)]) ∨ (cR nm sec=false ∧ e=.returned (.tuple #[.pointer none,.int .i64 2]) ∧ Kp [] w w'):=by
 refine aR func13 rfl 16 rfl (fun a0 hsz hdf hAr=>?_);have hz0:a0.tmps.size=16:=hsz;have D:=hdf;have o0:=hAr 0 _ rfl;refine wp_seq (aZ4 w _ A sec.length c [] (Held.start w) hz0 o0 (fun a1 w1 hs1 o2 o3 h1=>?_));obtain ⟨hz1,D⟩:=dS hs1 hz0 D;obtain ⟨g1,o1,S⟩:=h1;refine wp_seq (wp_seq (aVb g1 ⟨nm.toArray⟩ A sec.length c _ (S.at_ (l1:=[])) (tO nm hnm A c sec w1 (LDw.kp S.k) (aT hv S.k)) hz1 o1 (fun a2 w2 hs2 o6 k2=>?_)));obtain ⟨hz2,D,o1,o2,o3⟩:=dF hs2 hz1 D o1 o2 o3;have S:=S.kp k2
 cases hk:cR nm sec
 . rw [hk] at o6;refine cS o6 ?_;refine wp_seq (aV4 hz2 (fun a3 hs3 o2 o3=>?_));obtain ⟨hz3,D⟩:=dS hs3 hz2 D;refine wp_ret ?_
   try simp only [Exit.then]
   exact bodyPost_ret (gH (by rfl) (o2.eval (by rw [hz3];decide)) (o3.eval (by rw [hz3];decide))) D (.inr ⟨by simp,rfl,S.k⟩)
 . rw [hk] at o6;refine dD o6 (wp_skip ?_);simp only [Exit.then];refine wp_seq (aXr w g1 ⟨nm.toArray⟩ A c sec (fun V kV=>qW _ sec V (aT hv kV) hsl) [] hz2 o1 S (fun a3 vs gs w3 hs3 o2 o3 S=>?_));obtain ⟨hz3,D⟩:=dS hs3 hz2 D;refine wp_ret ?_;exact bodyPost_ret (gH (by rfl) (o2.eval (by rw [hz3];decide)) (o3.eval (by rw [hz3];decide))) D (.inl ⟨by simp,_,_,rfl,(S.pull 1 rfl).sub (.cons_cons _ (.cons_cons _ (List.nil_sublist _)))⟩)
end
section
variable {Q:Exit->Act->World->Prop} {a:Act} {w:World}
open Go.RowKit Go.Shelf
attribute [local go_sem] Oper.semAt_some
theorem aOx(w0:World)(cn:Array Value)(hcn:cn.size=34)(h1:∀ u,u ∈ cn.toList->u.oneCell'=true)(s:ByteArray)(A:Option Addr)(n c:Nat)(L:List Res)(S:Held w0 w L)(hsz:a.tmps.size=18)(o0:Sl a 0 (.agg cn))(o1:Sl a 1 (.agg #[.string s,.slice A n c])):bC false 0 f32 Q a w fun a' W q'=>Sl a' 4 (.int .i64 (0:Int))->(∃ g2 g3,Sl a' 2 (Pq g2 0) ∧ Sl a' 3 (Pq g3 0) ∧ Held w0 W (aB g3 34 #[.string s,.slice A n c] :: aB g2 28 cn :: L))->q':=by
 refine bU fun hend=>?_;unfold Sl at o0 o1;have S1:=LH ((S.newBlk 28 cn).newBlkN 34 #[.string s,.slice A n c] (g:=w.heap.size+1) (by simp));have hcn:=LH hcn;have h1:=LH h1;go_wp2
 try simp only [Act.put]
 exact hend _ _ tS sP (⟨w.heap.size,w.heap.size+1,cH,cH,S1.out⟩)
theorem aVd(g2:Nat)(cn:Array Value)(hcn:cn.size=34)(hb:aM w g2 28 cn)(z:Int)(HC0:Calls prog 31 #[.agg cn] w fun e w'=>e=.returned (.int .i64 z) ∧ Kp [] w w')(hsz:a.tmps.size=18)(o2:Sl a 2 (Pq g2 0)):bC false 1 f32 Q a w fun a' W q'=>Sl a' 5 (.bool (z != 0))->(Kp [] w W)->q':=by
 refine bU fun hend=>?_;unfold Sl at o2;have HC:=LH HC0;clear HC0;have HB:=LH hb;clear hb;have hcn:=LH hcn;go_wp2_with (refine aQ rfl 28 (.tmp 2) rfl g2 (aO o2) 28 _ HB.out _ underlying28 rfl (by rw [hcn.out];exact bBz) ?_)
 refine HC.out.mono ?_;rintro e w1 ⟨rfl,k1⟩;have k1:=LH k1;go_wp2_with fail
 try simp only [Act.put]
 exact hend _ _ tS sP (k1.out)
theorem aYe(hsz:a.tmps.size=18):bK 2 f32 Q a w fun a' q'=>Sl a' 4 (.int .i64 (2:Int))->q':=rO
theorem aR8(hsz:a.tmps.size=18):bK 4 f32 Q a w fun a' q'=>Sl a' 4 (.int .i64 (401:Int))->q':=rO
theorem aWw(hsz:a.tmps.size=18):bK 5 f32 Q a w fun a' q'=>Sl a' 4 (.int .i64 (0:Int))->q':=rO
theorem aU2(w0:World)(g2 g3:Nat)(cn:Array Value)(hcn:cn.size=34)(s:ByteArray)(A:Option Addr)(n c m:Nat)(names:List Value)(b:Bool)(HC0:∀ V Ak ck,Kp [] w0 V->Rd V 2 (.slice Ak 1 ck) 1 [.string s,.slice A n c]->Calls prog 73 #[.agg cn,.slice Ak 1 ck] V fun e w'=>∃ v,e=.returned v ∧ Held V w' [aG 9 1 v m names])(HC1:∀ V v,Ow V 9 1 v m names->Calls prog 72 #[v,.string s] V fun e w'=>e=.returned (.bool b) ∧ Kp [] V w')(L:List Res)(hsz:a.tmps.size=18)(o2:Sl a 2 (Pq g2 0))(o3:Sl a 3 (Pq g3 0))
 (S0:Held w0 w (aB g2 28 cn :: aB g3 34 #[.string s,.slice A n c] :: L)):RG2 3 f32 Q a w fun a' vs gs W q'=>Sl a' 9 (.bool (!b))->Held w0 W (aG 34 2 (vs 2) 1 [.string s,.slice A n c] :: aG 9 1 (vs 3) m names :: aB g2 28 cn :: aB g3 34 #[.string s,.slice A n c] :: L)->q':=by
 intro hend;have hap:=pa 3 f32
 refine aP (Γ:=Unit) (l:=(aK 3 f32)) 5 [0,1,2,3,4,5,6,7,8,9,10,11,12,13]
  (fun i vs gs=>match i with|0=>vs 0=.agg cn|1=>vs 1=.agg #[.string s,.slice A n c]|4=>vs 4=Pq g3 0|5=>vs 5=.string s|6=>vs 6=.bool b|7=>vs 7=.bool (!b)|8=>vs 8=.bool (!b)|_=>True)
  (fun i vs gs=>match i with|2=>[aG 34 2 (vs 2) 1 [.string s,.slice A n c]]|3=>[aG 9 1 (vs 3) m names]|11=>[aB g2 28 cn]|12=>[aB g3 34 #[.string s,.slice A n c]]|13=>L|_=>[])
  (fun i=>match i with  | _=>[]) (fun i=>match i with|0=>[11]|1=>[12]|3=>[2]|5=>[12]|6=>[3]|_=>[]) S0 (by kernel_rfl) hap (by kernel_rfl) (by kernel_rfl) (fun i=>match i with|0=>[0]|1=>[1]|2=>[2]|3=>[3]|4=>[4]|5=>[5]|6=>[6]|7=>[7]|8=>[8]|_=>[]) (by kernel_rfl) ?_ (by kernel_rfl) ?_ ?_ ?_
 . exact lA
 . exact pA
 . clear S0 hend
   and_intros <;> try intro vs gs A' W LF hA S hR hd hu K hK
   . exact dC cn (eO 2 o2) (aM.agg (show aM W g2 28 cn from S.ok (aB g2 28 cn) (hR 11 (by simp) _ (List.mem_singleton.2 rfl)))) underlying28 (by rw [hcn];exact bBz)
   . obtain ⟨q1,q2,q3,q4⟩:=aM.c2 (show aM W g3 34 #[.string s,.slice A n c] from S.ok (aB g3 34 #[.string s,.slice A n c]) (hR 12 (by simp) _ (List.mem_singleton.2 rfl)));exact aJ (eO 3 o3)
   . replace hK:=hK default;have e11:=vD 11 1;clear hA o2 o3;go_step;have o3:=cZ W 34 2 1 #[.string s,.slice A n c] rfl (by decide);exact hK _ _ (S.rownew o3 ((Kp.refl [] W).alloc _) (fun g hg=>Nat.le_of_eq (Option.some.inj hg))) trivial
   . replace hK:=hK default;have e10:=vD 10 0;have e12:=eU 12 2;clear hA o2 o3;obtain ⟨Ak,ck,hk,-,-⟩:=aS (show Ow W 34 2 (vs 2) 1 [.string s,.slice A n c] from S.ok (aG 34 2 (vs 2) 1 [.string s,.slice A n c]) (hR 2 (by simp) _ (List.mem_singleton.2 rfl)));have hr2:=Rd.of_own (show Ow W 34 2 (vs 2) 1 [.string s,.slice A n c] from S.ok (aG 34 2 (vs 2) 1 [.string s,.slice A n c]) (hR 2 (by simp) _ (List.mem_singleton.2 rfl)));rw [hk] at e12 hr2;go_step;refine (HC0 W Ak ck S.k hr2).mono ?_;rintro e w' ⟨v,rfl,H⟩;exact hK v w' ((S.join H).perm List.perm_append_comm) trivial
   . exact aJ (eO 3 o3)
   . obtain ⟨q1,q2,q3,q4⟩:=aM.c2 (show aM W g3 34 #[.string s,.slice A n c] from S.ok (aB g3 34 #[.string s,.slice A n c]) (hR 12 (by simp) _ (List.mem_singleton.2 rfl)));exact aJ (vD 14 4)
   . replace hK:=hK default;have e13:=eU 13 3;have e15:=vD 15 5;clear hA o2 o3;go_step;refine (HC1 W (vs 3) (show Ow W 9 1 (vs 3) m names from S.ok (aG 9 1 (vs 3) m names) (hR 3 (by simp) _ (List.mem_singleton.2 rfl)))).mono ?_;rintro e w' ⟨rfl,k1⟩;exact hK _ w' (S.kp k1) rfl
   . exact aJ (vD 16 6)
   . exact aJ (vD 17 7)
   . trivial
 . intro vs gs W S hp;have S:Held w0 W (aG 34 2 (vs 2) 1 [.string s,.slice A n c] :: aG 9 1 (vs 3) m names :: aB g2 28 cn :: aB g3 34 #[.string s,.slice A n c] :: L):=by simpa only [List.flatMap_cons,List.flatMap_nil,List.append_nil,List.nil_append,List.cons_append,List.append_assoc] using S
   rw [aF];exact hend _ vs gs W sQ (sW (hp 8 sB)) S
theorem xT(names:List (List UInt8))(nm:Bs)(v:Value)(V:World)(ho:Ow V 9 1 v names.length (names.map bX)):
 Calls prog 72 #[v,.string ⟨nm.toArray⟩] V fun e w'=>e=.returned (.bool (names.contains nm)) ∧ Kp [] V w':=by
 by_cases h0:names.length=0
 . obtain rfl:names=[]:=List.eq_nil_of_length_eq_zero h0
   obtain ⟨A,c,rfl,-,-⟩:=aS ho;exact (Tryz.slices_Contains_string_empty A c _ V).mono fun e w' h=>⟨h.1,by rw [h.2];exact Kp.refl _ _⟩
 . obtain ⟨g,c,rfl,-,-⟩:=sC ho (by omega);obtain ⟨-,A',c',he,h1,h2,-,h5⟩:=Rd.of_own ho
   cases he;have hlm:names.length<=9223372036854775807:=by unfold maxLen at h2;omega
   refine (Tryz.slices_Contains_string g 0 names.length c (names.map fun s=>⟨s.toArray⟩) ⟨nm.toArray⟩ V (by simp) hlm (fun j hj=>?_)).mono fun e w' h=>⟨?_,by rw [h.2];exact Kp.refl _ _⟩
   . rw [List.length_map] at hj;have h6:=h5 _ rfl j (bX names[j]) (by rw [List.getElem?_map,List.getElem?_eq_getElem hj];rfl);rw [show (⟨g,0+j,none⟩:Addr)=(⟨g,0,none⟩:Addr).add j by simp [Addr.add],h6];simp [bX,List.getD_eq_getElem?_getD,hj]
   . rw [h.1]
     congr 2
     rw [List.take_of_length_le (by simp),Bool.eq_iff_iff,Lib.containsS_iff];simp only [List.mem_map,List.contains_iff_mem]
     constructor
     . rintro ⟨s,hs,e⟩;have e2:=congrArg (fun b:ByteArray=>b.data.toList) e;simp only [List.toList_toArray] at e2;exact e2 ▸ hs
     . exact fun h=>⟨nm,h,rfl⟩
def cF (z:Int) (h:Bs) (l:List bF) (nm sec:Bs):Int:=if eA z l ≠ 0 then 2 else if (dN z h l [(nm,sec)]).contains nm=false then 401 else 0
theorem nP(z:Int)(hz:-9223372036854775808<=z ∧ z<=9223372036854775807)(h:Bs)(hh:h.length=32)(A:Option Addr)(c:Nat)(l:List bF)(hok:dI l)(hll:l.length<=1000000)(nm:Bs)(hnm:nm.length<=1000000)(Ak:Option Addr)(ck:Nat)(sec:Bs)(w:World)(LDw:LD w)(hv:Rd w 33 (.slice A l.length c) l.length (bB l))(hk:Rd w 1 (.slice Ak sec.length ck) sec.length (bv sec)):
 Calls prog 32 #[.agg (bD z h (.slice A l.length c)),.agg #[bX nm,.slice Ak sec.length ck]] w fun e w'=>e=.returned (.int .i64 (cF z h l nm sec)) ∧ Kp [] w w':=by
 refine aR func32 rfl 18 rfl (fun a0 hsz hdf hAr=>?_);have hz0:a0.tmps.size=18:=hsz;have D:=hdf;have o0:=hAr 0 _ rfl;have o1:=hAr 1 _ rfl;refine wp_seq (aOx w _ (aN hh) (cT rfl) ⟨nm.toArray⟩ Ak sec.length ck [] (Held.start w) hz0 o0 o1 (fun a1 w1 hs1 o4 h1=>?_));obtain ⟨hz1,D⟩:=dS hs1 hz0 D;obtain ⟨g2,g3,o2,o3,S⟩:=h1;refine wp_seq (wp_block ?_)
 (conv=>arg 2;whnf)
 refine wp_seq (aVd g2 _ (aN hh) (S.at_ (l1:=[_])) _ (kP z hz h hh l hok (by omega) A c w1 (LDw.kp S.k) (aT hv S.k)) hz1 o2 (fun a2 w2 hs2 o5 k2=>?_));obtain ⟨hz2,D,o2,o3,o4⟩:=dF hs2 hz1 D o2 o3 o4;have S:=S.kp k2
 by_cases hc:eA z l=0
 . rw [hc] at o5;refine dD o5 ?_;have S2:Held w w2 (aB g2 28 (bD z h (.slice A l.length c)) :: aB g3 34 #[.string ⟨nm.toArray⟩,.slice Ak sec.length ck] :: []):=S.pull 1 rfl;refine wp_seq (aU2 w g2 g3 _ (aN hh) ⟨nm.toArray⟩ Ak sec.length ck _ ((dN z h l [(nm,sec)]).map bX) ((dN z h l [(nm,sec)]).contains nm) (fun V Ar cr kV hr=>aAg z hz h hh A c l hok (by omega) Ar cr [(nm,sec)] (by simp) (fun k hk=>by obtain rfl:=List.mem_singleton.1 hk;unfold maxLen;show nm.length<=_;omega) [bX nm,.slice Ak sec.length ck] V (LDw.kp kV) (aT hv kV) ⟨hr,fun i hi=>by obtain rfl:i=0:=(by simpa using hi);exact ⟨Ak,ck,rfl,rfl,aT hk kV⟩⟩) (fun V v ho=>xT _ nm v V ho) [] hz2 o2 o3 S2 (fun a3 vs gs w3 hs3 o9 S=>?_));obtain ⟨hz3,D,o4⟩:=eY hs3 hz2 D o4
   cases hct:(dN z h l [(nm,sec)]).contains nm
   . rw [hct] at o9;refine cS o9 ?_;refine wp_seq (aR8 hz3 (fun a4 hs4 o4=>?_));obtain ⟨hz4,D⟩:=dS hs4 hz3 D;refine wp_ret ?_;simp only [Exit.then,Exit.inBlock];refine bodyPost_ret (bA (by rfl) (o4.eval (by rw [hz4];decide))) D ⟨?_,S.k⟩;unfold cF;rw [if_neg (by omega),if_pos hct]
   . rw [hct] at o9;refine dD o9 (wp_skip ?_);simp only [Exit.then,Exit.inBlock];refine wp_seq (aWw hz3 (fun a4 hs4 o4=>?_));obtain ⟨hz4,D⟩:=dS hs4 hz3 D;refine wp_ret ?_;refine bodyPost_ret (bA (by rfl) (o4.eval (by rw [hz4];decide))) D ⟨?_,S.k⟩;unfold cF;rw [if_neg (by omega),if_neg (by rw [hct];decide)]
 . have hq:(eA z l != 0)=true:=by rw [bne_iff_ne];exact hc
   refine cS o5 ?_ (by rw [hq]);refine wp_seq (aYe hz2 (fun a3 hs3 o4=>?_));obtain ⟨hz3,D⟩:=dS hs3 hz2 D;refine wp_ret ?_;simp only [Exit.then,Exit.inBlock];refine bodyPost_ret (bA (by rfl) (o4.eval (by rw [hz3];decide))) D ⟨?_,S.k⟩;unfold cF;rw [if_pos hc]
end
section
variable {Q:Exit->Act->World->Prop} {a:Act} {w:World}
open Go.RowKit Go.Shelf
attribute [local go_sem] Oper.semAt_some
theorem aXb(w0:World)(cn:Array Value)(hcn:cn.size=34)(h1:∀ u,u ∈ cn.toList->u.oneCell'=true)(L:List Res)(S:Held w0 w L)(hsz:a.tmps.size=21)(o1:Sl a 1 (.agg cn)):bC false 0 f44 Q a w fun a' W q'=>Sl a' 4 (.int .i64 (0:Int))->(∃ g3,Sl a' 3 (Pq g3 0) ∧ Held w0 W (aB g3 28 cn :: L))->q':=by
 refine bU fun hend=>?_;unfold Sl at o1;have S1:=LH (S.newBlk 28 cn);have hcn:=LH hcn;have h1:=LH h1;go_wp2
 try simp only [Act.put]
 exact hend _ _ tS sP (⟨w.heap.size,cH,S1.out⟩)
theorem aWy(p:Value)(md:Bool)(HC0:Calls prog 50 #[p] w fun e w'=>e=.returned (.bool (!md)) ∧ Kp [] w w')(hsz:a.tmps.size=21)(o0:Sl a 0 (p)):bC false 1 f44 Q a w fun a' W q'=>Sl a' 5 (.bool (!md))->(Kp [] w W)->q':=by
 refine bU fun hend=>?_;unfold Sl at o0;have HC:=LH HC0;clear HC0;obtain ⟨b,hb⟩:∃ b,Hid ((!md)=b):=⟨_,LH rfl⟩;rw [hb.out] at HC hend;go_wp2_with fail
 refine HC.out.mono ?_;rintro e w1 ⟨rfl,k1⟩;have k1:=LH k1;go_wp2_with fail
 try simp only [Act.put]
 exact hend _ _ tS sP (k1.out)
theorem aQm(hsz:a.tmps.size=21):bK 4 f44 Q a w fun a' q'=>Sl a' 4 (.int .i64 (400:Int))->q':=rO
theorem aZk(g:Nat)(cs:Array Value)(fd:Bool)(hb:aM w g 85 cs)(h9:cs[140]?=some (.bool fd))(hsz:a.tmps.size=21)(o0:Sl a 0 (Pq g 0)):bK 3 f44 Q a w fun a' q'=>Sl a' 8 (.bool fd)->q':=by
 have c0:w.cell? ⟨g,140,none⟩=some (.bool fd):=by rw [hb.cell];exact h9
 clear hb h9;exact rO
theorem aTh(g g3:Nat)(cn cs:Array Value)(hcn:cn.size=34)(s:ByteArray)(A:Option Addr)(n c:Nat)(z:Int)(hb3:aM w g3 28 cn)(hb:aM w g 85 cs)(h0:cs[0]?=some (.string s))(h1:cs[1]?=some (.slice A n c))(HC0:∀ V,Kp [] w V->Calls prog 32 #[.agg cn,.agg #[.string s,.slice A n c]] V fun e w'=>e=.returned (.int .i64 z) ∧ Kp [] V w')(hsz:a.tmps.size=21)(o0:Sl a 0 (Pq g 0))(o3:Sl a 3 (Pq g3 0)):bC true 5 f44 Q a w fun a' W q'=>Kp [] w.drew W->Sl a' 4 (.int .i64 z)->q':=by
 intro hend;have hap:=pa 5 f44;refine bZ (l:=(aK 5 f44)) (fun i v W=>match i with|0=>v=.agg cn|1=>v=Pq g 0|2=>v=Pq g 0|3=>v=Pq g 0|4=>v=Pq g 0|5=>v=.agg #[.string s,.slice A n c]|6=>v=.int .i64 z|7=>v=.int .i64 z|_=>True) (by kernel_rfl) hap (by kernel_rfl) ?_ ?_ ?_
 . exact fun _ _ _ _ h _=>h
 . and_intros <;> try intro vs A' W hA hW hd K hK
   . exact dC cn (eO 3 o3) (aM.agg (hb3.kp (((Kp.refl [] w).drew).trans hW (by simp)) (by simp))) underlying28 (by rw [hcn];exact bBz)
   . exact aJ (eO 0 o0)
   . exact aJ (vD 15 1)
   . exact aJ (vD 16 2)
   . exact aJ (vD 17 3)
   . have hbw:=hb.kp (((Kp.refl [] w).drew).trans hW (by simp)) (by simp);have c0:W.cell? ⟨g,0,none⟩=some (.string s):=by rw [hbw.cell];exact h0
     have c1:W.cell? ⟨g,1,none⟩=some (.slice A n c):=by rw [hbw.cell];exact h1
     exact aJ (vD 18 4)
   . have e14:=vD 14 0;have e19:=vD 19 5;clear hA hd o0 o3;go_step;refine (HC0 W (((Kp.refl [] w).drew).trans hW (by simp))).mono ?_;rintro e w' ⟨rfl,k1⟩;exact hK _ w' k1 rfl
   . exact aJ (vD 20 6)
   . trivial
 . intro vs W hW hp;rw [aF];exact hend _ W sQ hW (sW (hp 7 sB))
def nX (fd:Bool) (z:Int) (h:Bs) (l:List bF) (nm sec:Bs):Int:=if fd then 400 else cF z h l nm sec
theorem tF(z:Int)(hz:-9223372036854775808<=z ∧ z<=9223372036854775807)(h:Bs)(hh:h.length=32)(A:Option Addr)(c:Nat)(l:List bF)(hok:dI l)(hll:l.length<=1000000)(nm:Bs)(hnm:nm.length<=1000000)(Ak:Option Addr)(ck:Nat)(sec:Bs)(g:Nat)(cs:Array Value)(fd:Bool)(w:World)(LDw:LD w)(hb:aM w g 85 cs)(h0:cs[0]?=some (bX nm))(h1:cs[1]?=some (.slice Ak sec.length ck))(h8:cs[140]?=some (.bool fd))(h9:cs[141]?=some (.bool true))(hv:Rd w 33 (.slice A l.length c) l.length (bB l))(hk:Rd w 1 (.slice Ak sec.length ck) sec.length (bv sec)):Calls prog 44 #[Pq g 0,.agg (bD z h (.slice A l.length c))] w fun e w'=>e=.returned (.int .i64 (nX fd z h l nm sec)) ∧ Kp [] w w':=by
 refine aR func44 rfl 21 rfl (fun a0 hsz hdf hAr=>?_);have hz0:a0.tmps.size=21:=hsz;have D:=hdf;have o0:=hAr 0 _ rfl;have o1:=hAr 1 _ rfl;refine wp_seq (aXb w _ (aN hh) (cT rfl) [] (Held.start w) hz0 o1 (fun a1 w1 hs1 o4 h1=>?_));obtain ⟨hz1,D,o0⟩:=eY hs1 hz0 D o0;obtain ⟨g3,o3,S⟩:=h1;refine wp_seq (wp_block ?_)
 (conv=>arg 2;whnf)
 refine wp_seq (aWy _ true (pO _ true w1 (.inr ⟨g,cs,rfl,hb.kp S.k (by simp),h9⟩)) hz1 o0 (fun a2 w2 hs2 o5 k2=>?_));obtain ⟨hz2,D,o0,o3⟩:=dU hs2 hz1 D o0 o3;refine dD o5 ?_;have S:=S.kp k2;refine wp_seq (aZk g cs fd (hb.kp S.k (by simp)) h8 hz2 o0 (fun a3 hs3 o8=>?_));obtain ⟨hz3,D,o0,o3⟩:=dU hs3 hz2 D o0 o3
 cases fd
 . refine dD o8 (wp_skip ?_);simp only [Exit.then,Exit.inBlock];refine wp_seq (aTh g g3 _ cs (aN hh) ⟨nm.toArray⟩ Ak sec.length ck _ (S.at_ (l1:=[])) (hb.kp S.k (by simp)) h0 h1 (fun V kV=>nP z hz h hh A c l hok hll nm hnm Ak ck sec V (LDw.kp (S.k.trans kV (by simp))) (aT hv (S.k.trans kV (by simp))) (aT hk (S.k.trans kV (by simp)))) hz3 o0 o3 (fun a4 w4 hs4 k4 o4=>?_));obtain ⟨hz4,D⟩:=dS hs4 hz3 D;refine wp_ret ?_;exact bodyPost_ret (bA (by rfl) (o4.eval (by rw [hz4];decide))) D ⟨rfl,(S.k.trans ((Kp.refl [] w2).drew) (by simp)).trans k4 (by simp)⟩
 . refine cS o8 ?_;refine wp_seq (aQm hz3 (fun a4 hs4 o4=>?_));obtain ⟨hz4,D⟩:=dS hs4 hz3 D;refine wp_ret ?_;simp only [Exit.then,Exit.inBlock];exact bodyPost_ret (bA (by rfl) (o4.eval (by rw [hz4];decide))) D ⟨rfl,S.k⟩
end
section
open Go.RowKit Go.Shelf
theorem oS(f:Nat->Option (Nat × Nat))(j o s:Nat)(hf:f j=some (o,s))(v:Value)(cs:Array Value)(hv:v.cells=cs)(hcs:cs.size=s)(z:Array Value)(hfit:o+s<=z.size)(rest:List (Nat × Value)):
 Instr.fill f z ((j,v) :: rest)=Instr.fill f (z.toList.take o ++ cs.toList ++ z.toList.drop (o+s)).toArray rest:=by
 conv=>lhs;unfold Instr.fill
 have h:cs.zipIdx.foldl (fun r (x:Value × Nat)=>r.setIfInBounds (o+x.2) x.1) z=(z.toList.take o ++ cs.toList ++ z.toList.drop (o+s)).toArray:=by
  have h1:=eM o cs.toList 0 z;rw [show cs.zipIdx.foldl (fun r (x:Value × Nat)=>r.setIfInBounds (o+x.2) x.1) z=(cs.toList.zipIdx 0).foldl (fun r (x:Value × Nat)=>r.setIfInBounds (o+x.2) x.1) z from by rw [<- Array.foldl_toList,Array.toList_zipIdx],h1];rw [List.take_of_length_le (l:=cs.toList) (by rw [Array.length_toList,hcs];omega),Array.length_toList,hcs,Nat.add_zero]
 simp only [hf,hv];rw [if_neg (by simp [hcs];omega),h]
def rV (n1 n2 r:List Value) (p:Value):List Value:=n1 ++ (n2 ++ (r ++ [p]))
theorem aAb{n1 n2 r:List Value}{p:Value}(h1:n1.length=34)(h2:n2.length=34)(h3:r.length=32):(rV n1 n2 r p).length=101:=by simp [rV,h1,h2,h3]
theorem bD3(ps:List (Nat × Value)):prog.built 31 ps=Instr.fill (#[(0,34),(34,34),(68,32),(100,1)][·]?) eJ.toArray ps:=by
 unfold Program.built
 kernel_rfl
theorem bCi(n1 n2 r:Array Value)(h1:n1.size=34)(h2:n2.size=34)(h3:r.size=32)(A:Option Addr)(n c:Nat):prog.built 31 [(0,.agg n1),(1,.agg n2),(2,.agg r),(3,.slice A n c)]=some (rV n1.toList n2.toList r.toList (.slice A n c)).toArray:=by
 rw [bD3];have hz:eJ.toArray.size=101:=rfl;generalize eJ.toArray=z at *;have l1:n1.toList.length=34:=by simp [h1]
 have l2:n2.toList.length=34:=by simp [h2]
 have l3:r.toList.length=32:=by simp [h3]
 have lz:z.toList.length=101:=by simp [hz]
 rw [oS _ 0 0 34 rfl _ n1 rfl h1 z (by omega)];rw [oS _ 1 34 34 rfl _ n2 rfl h2 _ (by simp [h1,hz])];rw [oS _ 2 68 32 rfl _ r rfl h3 _ (by simp [h1,h2,hz])];rw [oS _ 3 100 1 rfl _ #[.slice A n c] rfl rfl _ (by simp [h1,h2,h3,hz])]
 show some _=some _
 generalize n1.toList=n1 at *;generalize n2.toList=n2 at *;generalize r.toList=r at *;generalize z.toList=z at *
 congr 2
 simp [rV,List.take_append,List.drop_append,l1,l2,l3,lz,List.take_of_length_le,List.drop_of_length_le]
end
section
variable {Q:Exit->Act->World->Prop} {a:Act} {w:World}
open Go.RowKit Go.Shelf
attribute [local go_sem] Oper.semAt_some
theorem bC3:(prog.info? 31).map (·.size)=some 101:=by kernel_rfl
theorem pR{w:World}{g:Nat}{t:TypeId}{z:Int}{h:List UInt8}{v:Value}(b:aM w g t (bD z h v)):∀ j u,(aA h).toList[j]?=some u->w.cell? ((⟨g,1,none⟩:Addr).add j)=some u:=fun j u hu=>by
 have:=eE b (j+1) u (by rw [show (cL z h).toList=Value.int .i64 z :: bv h from rfl,List.getElem?_cons_succ];exact hu)
 rw [show (⟨g,1,none⟩:Addr).add j=(⟨g,0,none⟩:Addr).add (j+1) by simp [Addr.add,Nat.add_comm]];exact this
theorem aU3(w0:World)(cn:Array Value)(hcn:cn.size=34)(h1:∀ u,u ∈ cn.toList->u.oneCell'=true)(L:List Res)(S:Held w0 w L)(hsz:a.tmps.size=61)(o1:Sl a 1 (.agg cn)):bC false 0 f45 Q a w fun a' W q'=>Sl a' 4 (.int .i64 (0:Int))->(∃ g3,Sl a' 3 (Pq g3 0) ∧ Held w0 W (aB g3 28 cn :: L))->q':=by
 refine bU fun hend=>?_;unfold Sl at o1;have S1:=LH (S.newBlk 28 cn);have hcn:=LH hcn;have h1:=LH h1;go_wp2
 try simp only [Act.put]
 exact hend _ _ tS sP (⟨w.heap.size,cH,S1.out⟩)
theorem aVg(w0:World)(g g3:Nat)(cs cn:Array Value)(Ah:Option Addr)(n ch k:Nat)(hkc:k<=ch)(x:Bs)(hx32:x.length=32)(h3:cs[3]?=some (.slice Ah n ch))(hk0:cn[0]?=some (Nq k))(L:List Res)(HC0:∀ V,(∀ r ∈ L,r.ok V)->Calls prog 49 #[.slice Ah k ch] V fun e w'=>e=.returned (.agg (aA x)) ∧ Kp [] V w')(hsz:a.tmps.size=61)(o0:Sl a 0 (Pq g 0))(o3:Sl a 3 (Pq g3 0))
 (S0:Held w0 w (aB g 85 cs :: aB g3 28 cn :: L))
 (hend:∀ (a':Act) (vs:Nat->Value) (gs:Nat->Nat) (W:World),Same a a' [8,9,10,11,12,13,14,15,16,17,5]->Sl a' 5 (Pq (gs 10) 0)->Held w0 W (aB (gs 10) 23 (aA x) :: aB g 85 cs :: aB g3 28 cn :: L)->Q .normal a' W):(Code.region 1 (aK 1 f45).toArray true).wp prog Q a w:=by
 have hap:=pa 1 f45
 refine aP (Γ:=Nat) (l:=(aK 1 f45)) 3 [0,1,2,3,4,5,6,7,8,9,11,12,13,14]
  (fun i vs gs=>match i with|0=>vs 0=Pq g 0|1=>vs 1=Pq g 0|2=>vs 2=Pq g 0|3=>vs 3=Pq g 3|4=>vs 4=.slice Ah n ch|5=>vs 5=Pq g3 0|6=>vs 6=Pq g3 0|7=>vs 7=Nq k|8=>vs 8=.slice Ah k ch|9=>vs 9=.agg (aA x)|10=>vs 10=Pq (gs 10) 0|_=>True)
  (fun i vs gs=>match i with|10=>[aB (gs 10) 23 (aA (List.replicate 32 0))]|11=>[aB (gs 10) 23 (aA x)]|12=>[aB g 85 cs]|13=>[aB g3 28 cn]|14=>L|_=>[])
  (fun i=>match i with|11=>[10]|_=>[]) (fun i=>match i with|4=>[12]|7=>[13]|9=>[14]|_=>[]) S0 (by kernel_rfl) hap (by kernel_rfl) (by kernel_rfl) (fun i=>match i with|0=>[0]|1=>[1]|2=>[2]|3=>[3]|4=>[4]|5=>[5]|6=>[6]|7=>[7]|8=>[8]|9=>[9]|10=>[10]|11=>[10]|_=>[]) (by kernel_rfl) ?_ (by kernel_rfl) ?_ ?_ ?_
 . exact lA
 . exact pA
 . clear S0 hend
   and_intros <;> try intro vs gs A' W LF hA S hR hd hu K hK
   . exact aJ (eO 0 o0)
   . exact aJ (vD 8 0)
   . exact aJ (vD 9 1)
   . exact aJ (vD 10 2)
   . have c0:W.cell? ⟨g,3,none⟩=some (.slice Ah n ch):=by rw [(show aM W g 85 cs from S.ok (aB g 85 cs) (hR 12 (by simp) _ (List.mem_singleton.2 rfl))).cell];exact h3
     exact aJ (vD 11 3)
   . exact aJ (eO 3 o3)
   . exact aJ (vD 13 5)
   . have c0:W.cell? ⟨g3,0,none⟩=some (Nq k):=by rw [(show aM W g3 28 cn from S.ok (aB g3 28 cn) (hR 13 (by simp) _ (List.mem_singleton.2 rfl))).cell];exact hk0
     exact aJ (vD 14 6)
   . have hq:=oE Ah n ch k (by omega) W;exact cM (vD 12 4) (vD 15 7)
   . replace hK:=hK default;have e16:=vD 16 8;clear hA o0 o3;go_step;refine (HC0 W (fun r hr=>S.ok r (hR 14 (by simp) r hr))).mono ?_;rintro e w' ⟨rfl,k1⟩;exact hK _ _ (S.kp k1) rfl
   . clear hA o0 o3;go_step;exact hK W.heap.size _ _ (S.newBlk 23 (aA (List.replicate 32 0))) rfl
   . replace hK:=hK default;have e5:=vD 5 10;have e17:=vD 17 9;clear hA o0 o3;have S1:Held w0 W (aB (gs 10) 23 (aA (List.replicate 32 0)) :: LF):=S;refine aZ (.tmp 5) (.tmp 17) 23 rfl (gs 10) (by simpa [Act.eval] using e5) (aA (x)) (by simpa [Act.eval] using e17) 23 (aA (List.replicate 32 0)) S1 (by rw [aC,hx32];exact bBy) (by rw [aC,aC,hx32,List.length_replicate]) (aI _) ?_;intro w' S2;exact hK _ _ S2 trivial
   . trivial
 . intro vs gs W S hp;have S:Held w0 W (aB (gs 10) 23 (aA x) :: aB g 85 cs :: aB g3 28 cn :: L):=by simpa only [List.flatMap_cons,List.flatMap_nil,List.append_nil,List.nil_append,List.cons_append,List.append_assoc] using S
   rw [aF];exact hend _ vs gs W sQ (sW (hp 10 sB)) S
theorem aRo(g3 g5:Nat)(z:Int)(h:Bs)(hh:h.length=32)(v:Value)(x:Bs)(hx32:x.length=32)(hb3:aM w g3 28 (bD z h v))(hb5:aM w g5 23 (aA x))(hsz:a.tmps.size=61)(o3:Sl a 3 (Pq g3 0))(o5:Sl a 5 (Pq g5 0)):bC false 2 f45 Q a w fun a' W q'=>Kp [] w W->Sl a' 18 (.bool (x == h))->q':=by
 intro hend;have hap:=pa 2 f45;refine aH (l:=(aK 2 f45)) (fun i v W=>match i with|0=>v=.agg (aA x)|1=>v=Pq g3 0|2=>v=Pq g3 1|3=>v=.agg (aA h)|4=>v=.bool (x == h)|5=>v=.bool (x == h)|_=>True) hap ?_ ?_ ?_
 . exact fun _ _ _ _ h _=>h
 . and_intros <;> try (intro vs A' W hA hW hd hu K hK;try (refine aL _ rfl rfl ?_;conv=>arg 2;whnf))
   . exact dC (aA x) (eO 5 o5) (aM.agg (hb5.k0 hW)) underlying23 (by rw [aC,hx32];exact bBy)
   . exact aJ (eO 3 o3)
   . exact aJ (vD 20 1)
   . exact dC (aA h) (vD 21 2) (pR (hb3.k0 hW)) underlying23 (by rw [aC,hh];exact bBy)
   . have e19:=vD 19 0;have e22:=vD 22 3;clear hA hd hu o3 o5;refine bQ (v:=.bool (x == h)) (w':=W) (bH rfl (by simpa [Act.eval] using e19) (by simpa [Act.eval] using e22) eqGuardType23 (jT W x h hx32 hh)) ?_;exact hK _ _ kR rfl
   . exact aJ (vD 23 4)
   . trivial
 . intro vs W hW hp;rw [aF];exact hend _ W sQ hW (sW (hp 5 sB))
theorem aOw(hsz:a.tmps.size=61):bK 3 f45 Q a w fun a' q'=>Sl a' 4 (.int .i64 (0:Int))->q':=rO
theorem aWm(hsz:a.tmps.size=61):bK 5 f45 Q a w fun a' q'=>Sl a' 4 (.int .i64 (403:Int))->q':=rO
theorem aQo(hsz:a.tmps.size=61):bK 8 f45 Q a w fun a' q'=>Sl a' 4 (.int .i64 (400:Int))->q':=rO
theorem aR4(g:Nat)(cs:Array Value)(nd:Bool)(hb:aM w g 85 cs)(h9:cs[38]?=some (.bool nd))(hsz:a.tmps.size=61)(o0:Sl a 0 (Pq g 0)):bK 4 f45 Q a w fun a' q'=>Sl a' 24 (.bool (!nd))->q':=by
 have c0:w.cell? ⟨g,38,none⟩=some (.bool nd):=by rw [hb.cell];exact h9
 clear hb h9;exact rO
theorem aUo(w0:World)(g g3:Nat)(cs cn:Array Value)(Ah:Option Addr)(n ch k m:Nat)(xs:List Value)(cd:Int)(h3:cs[3]?=some (.slice Ah n ch))(hk0:cn[0]?=some (Nq k))(L:List Res)(HC0:∀ V,(∀ r ∈ L,r.ok V)->Calls prog 88 #[.slice Ah n ch,Nq k] V fun e w'=>∃ v,e=.returned (.tuple #[v,.int .i64 cd]) ∧ Held V w' [aG 23 32 v m xs])(hsz:a.tmps.size=61)(o0:Sl a 0 (Pq g 0))(o3:Sl a 3 (Pq g3 0))
 (S0:Held w0 w (aB g 85 cs :: aB g3 28 cn :: L))
 (hend:∀ (a':Act) (vs:Nat->Value) (gs:Nat->Value) (W:World),Same a a' [32,33,34,35,36,37,38,39,40,31,41,42,6,7]->Sl a' 6 (gs 8)->Held w0 W (aG 23 32 (gs 8) m xs :: aB g 85 cs :: aB g3 28 cn :: L)->Q .normal a' W):(Code.region 6 (aK 6 f45).toArray true).wp prog Q a w:=by
 have hap:=pa 6 f45
 refine aP (Γ:=Value) (l:=(aK 6 f45)) 3 [0,1,2,3,4,5,6,7,8,9,10,11,12,13,14,15,16]
  (fun i vs gs=>match i with|0=>vs 0=Pq g 0|1=>vs 1=Pq g 0|2=>vs 2=Pq g 0|3=>vs 3=Pq g 3|4=>vs 4=.slice Ah n ch|5=>vs 5=Pq g3 0|6=>vs 6=Pq g3 0|7=>vs 7=Nq k|8=>vs 8=.tuple #[gs 8,.int .i64 cd]|9=>vs 9=.tuple #[gs 8,.int .i64 cd]|10=>vs 10=gs 8|11=>vs 11=.int .i64 cd|12=>vs 12=gs 8|13=>vs 13=.int .i64 cd|_=>True)
  (fun i vs gs=>match i with|8=>[aG 23 32 (gs 8) m xs]|14=>[aB g 85 cs]|15=>[aB g3 28 cn]|16=>L|_=>[])
  (fun i=>match i with  | _=>[]) (fun i=>match i with|4=>[14]|7=>[15]|8=>[16]|_=>[]) S0 (by kernel_rfl) hap (by kernel_rfl) (by kernel_rfl) (fun i=>match i with|0=>[0]|1=>[1]|2=>[2]|3=>[3]|4=>[4]|5=>[5]|6=>[6]|7=>[7]|8=>[8]|9=>[8,9]|10=>[8,10]|11=>[11]|12=>[8,12]|13=>[13]|_=>[]) (by kernel_rfl) ?_ (by kernel_rfl) ?_ ?_ ?_
 . exact lA
 . exact pA
 . clear S0 hend
   and_intros <;> try intro vs gs A' W LF hA S hR hd hu K hK
   . exact aJ (eO 0 o0)
   . exact aJ (vD 32 0)
   . exact aJ (vD 33 1)
   . exact aJ (vD 34 2)
   . have c0:W.cell? ⟨g,3,none⟩=some (.slice Ah n ch):=by rw [(show aM W g 85 cs from S.ok (aB g 85 cs) (hR 14 (by simp) _ (List.mem_singleton.2 rfl))).cell];exact h3
     exact aJ (vD 35 3)
   . exact aJ (eO 3 o3)
   . exact aJ (vD 37 5)
   . have c0:W.cell? ⟨g3,0,none⟩=some (Nq k):=by rw [(show aM W g3 28 cn from S.ok (aB g3 28 cn) (hR 15 (by simp) _ (List.mem_singleton.2 rfl))).cell];exact hk0
     exact aJ (vD 38 6)
   . have e36:=vD 36 4;have e39:=vD 39 7;clear hA o0 o3;go_step;refine (HC0 W (fun r hr=>S.ok r (hR 16 (by simp) r hr))).mono ?_;rintro e w' ⟨v,rfl,H⟩;exact hK v _ w' ((S.join H).perm List.perm_append_comm) rfl
   . exact aJ (vD 40 8)
   . exact aJ (vD 31 9)
   . exact aJ (vD 31 9)
   . exact aJ (vD 41 10)
   . exact aJ (vD 42 11)
   . trivial
 . intro vs gs W S hp;have S:Held w0 W (aG 23 32 (gs 8) m xs :: aB g 85 cs :: aB g3 28 cn :: L):=by simpa only [List.flatMap_cons,List.flatMap_nil,List.append_nil,List.nil_append,List.cons_append,List.append_assoc] using S
   rw [aF];exact hend _ vs gs W sQ (sW (hp 12 sB)) S
theorem aR5(w0:World)(g g3 g5:Nat)(cs:Array Value)(hcs:cs.size=142)(z:Int)(h:Bs)(hh:h.length=32)(A:Option Addr)(c:Nat)(l:List bF)(hok:dI l)(hll:l.length<=1000000)(la:List Value)(hll2:la.length=34)(hla:∀ j u,la[j]?=some u->cs[j+4]?=some u)(x:Bs)(hx32:x.length=32)(Ap:Option Addr)(np cp:Nat)(fd:Bool)(F c1:Value->Array Value)(hF:∀ A n c,prog.built 31 [(0,.agg (bD z h (.slice A n c))),(1,.agg la.toArray),(2,.agg (aA x)),(3,.slice Ap np cp)]=some (F (.slice A n c)))(hFs:∀ v,(F v).size=101)(hF1:∀ A n c,∀ u,u ∈ (F (.slice A n c)).toList->u.oneCell'=true)(hc1:∀ v,(cs.toList.take 39 ++ (F v).toList ++ cs.toList.drop (39+101)).toArray=c1 v)(h140:∀ v,(c1 v)[140]?=some (.bool fd))(L:List Res)(HVn:∀ V,(∀ r ∈ L,r.ok V)->Rd V 33 (.slice A l.length c) l.length (bB l))(hsz:a.tmps.size=61)(o0:Sl a 0 (Pq g 0))(o3:Sl a 3 (Pq g3 0))(o5:Sl a 5 (Pq g5 0))(o6:Sl a 6 (.slice Ap np cp))
 (S0:Held w0 w (aB g 85 cs :: aB g3 28 (bD z h (.slice A l.length c)) :: aB g5 23 (aA x) :: L))
 (hend:∀ (a':Act) (vs:Nat->Value) (gs:Nat->Value) (W:World),Same a a' [43,44,45,46,47,48,49,50,51,52,53,54,55,56,57,58,59,60]->Held w0 W (aG 89 33 (gs 3) l.length (bB l) :: aB g 85 ((c1 (gs 3)).setIfInBounds 140 (.bool true)) :: aB g3 28 (bD z h (.slice A l.length c)) :: aB g5 23 (aA x) :: L)->Q .normal a' W):(Code.region 7 (aK 7 f45).toArray true).wp prog Q a w:=by
 have hap:=pa 7 f45
 refine aP (Γ:=Value) (l:=(aK 7 f45)) 4 [0,1,2,3,4,5,6,7,8,9,10,11,12,13,14,16,17,18,19,21,22,23]
  (fun i vs gs=>match i with|0=>vs 0=Pq g 0|1=>vs 1=Pq g 0|2=>vs 2=.agg (bD z h (.slice A l.length c))|3=>vs 3=.agg (bD z h (gs 3))|4=>vs 4=Pq g 0|5=>vs 5=Pq g 0|6=>vs 6=Pq g 0|7=>vs 7=Pq g 4|8=>vs 8=.agg la.toArray|9=>vs 9=.agg (aA x)|10=>vs 10=.slice Ap np cp|11=>vs 11=.agg (F (gs 3))|12=>vs 12=Pq g 0|13=>vs 13=Pq g 0|14=>vs 14=Pq g 39|16=>vs 16=Pq g 0|17=>vs 17=Pq g 0|18=>vs 18=Pq g 140|_=>True)
  (fun i vs gs=>match i with|3=>[aG 89 33 (gs 3) l.length (bB l)]|15=>[aB g 85 (c1 (gs 3))]|19=>[aB g 85 ((c1 (gs 3)).setIfInBounds 140 (.bool true))]|20=>[aB g 85 cs]|21=>[aB g3 28 (bD z h (.slice A l.length c))]|22=>[aB g5 23 (aA x)]|23=>L|_=>[])
  (fun i=>match i with|15=>[20]|19=>[15]|_=>[]) (fun i=>match i with|2=>[21]|3=>[23]|8=>[20]|9=>[22]|11=>[3]|15=>[3]|_=>[]) S0 (by kernel_rfl) hap (by kernel_rfl) (by kernel_rfl) (fun i=>match i with|0=>[0]|1=>[1]|2=>[2]|3=>[3]|4=>[4]|5=>[5]|6=>[6]|7=>[7]|8=>[8]|9=>[9]|10=>[10]|11=>[3,11]|12=>[12]|13=>[13]|14=>[14]|15=>[3]|16=>[16]|17=>[17]|18=>[18]|19=>[3]|_=>[]) (by kernel_rfl) ?_ (by kernel_rfl) ?_ ?_ ?_
 . exact lA
 . exact pA
 . clear S0 hend
   and_intros <;> try intro vs gs A' W LF hA S hR hd hu K hK
   . exact aJ (eO 0 o0)
   . exact aJ (eO 0 o0)
   . exact dC (bD z h (.slice A l.length c)) (eO 3 o3) (aM.agg (show aM W g3 28 (bD z h (.slice A l.length c)) from S.ok (aB g3 28 (bD z h (.slice A l.length c))) (hR 21 (by simp) _ (List.mem_singleton.2 rfl)))) underlying28 (by rw [aN hh];exact bBz)
   . have e45:=vD 45 2;clear hA o0 o3 o5 o6;go_step;refine (kL w0 _ z h hh A c l hok hll W S (fun V SV=>HVn V (fun r hr=>SV.ok r (hR 23 (by simp) r hr)))).mono ?_;rintro e w' ⟨v,rfl,S2⟩;exact hK v _ w' S2 rfl
   . exact aJ (eO 0 o0)
   . exact aJ (vD 47 4)
   . exact aJ (vD 48 5)
   . exact aJ (vD 49 6)
   . replace hK:=hK default;have e50:=vD 50 7;clear hA o0 o3 o5 o6;refine bQ (v:=.agg la.toArray) (w':=W) (dK rfl (by simpa [Act.eval] using e50) (bY W (⟨g,4,none⟩) 28 la _ (fun j u hj=>by rw [show (⟨g,4,none⟩:Addr).add j=⟨g,j+4,none⟩ by simp [Addr.add,Nat.add_comm],(show aM W g 85 cs from S.ok (aB g 85 cs) (hR 20 (by simp) _ (List.mem_singleton.2 rfl))).cell];exact hla j u hj) underlying28 rfl (by rw [hll2];exact bBz))) ?_;exact hK _ _ S rfl
   . exact dC (aA x) (eO 5 o5) (aM.agg (show aM W g5 23 (aA x) from S.ok (aB g5 23 (aA x)) (hR 22 (by simp) _ (List.mem_singleton.2 rfl)))) underlying23 (by rw [aC,hx32];exact bBy)
   . exact aJ (eO 6 o6)
   . replace hK:=hK default;have e46:=vD 46 3;have e51:=vD 51 8;have e52:=vD 52 9;have e53:=vD 53 10;clear hA o0 o3 o5 o6;obtain ⟨Av,cv,hv,-,-⟩:=aS (show Ow W 89 33 (gs 3) l.length (bB l) from S.ok (aG 89 33 (gs 3) l.length (bB l)) (hR 3 (by simp) _ (List.mem_singleton.2 rfl)));rw [hv] at e46;refine gG 31 _ rfl [(0,.agg (bD z h (.slice Av l.length cv))),(1,.agg la.toArray),(2,.agg (aA x)),(3,.slice Ap np cp)] (by simp [Act.eval,e46,e51,e52,e53]) _ (hF Av l.length cv) ?_;exact hK _ _ S (show Value.agg (F (.slice Av l.length cv))=.agg (F (gs 3)) by rw [hv])
   . exact aJ (vD 43 0)
   . exact aJ (vD 55 12)
   . exact aJ (vD 56 13)
   . replace hK:=hK default;have e57:=vD 57 14;have e54:=vD 54 11;clear hA o0 o3 o5 o6;obtain ⟨Av,cv,hv,-,-⟩:=aS (show Ow W 89 33 (gs 3) l.length (bB l) from S.ok (aG 89 33 (gs 3) l.length (bB l)) (List.mem_cons_of_mem _ (hR 3 (by simp) _ (List.mem_singleton.2 rfl))));have S1:Held w0 W (aB g 85 cs :: LF):=S;refine eW (.tmp 57) (.tmp 54) 31 rfl g 39 (by simpa [Act.eval] using e57) (F (gs 3)) (by simpa [Act.eval] using e54) 85 cs (S1.at_ (l1:=[])) (by rw [hFs];exact bC3) (by rw [hFs,hcs];decide) (by rw [hv];exact hF1 _ _ _) ?_;intro w' b7 k7;rw [hFs,hc1] at b7;exact hK _ _ (Held.setBlk (l1:=[]) S1 b7 k7) trivial
   . exact aJ (vD 44 1)
   . exact aJ (vD 58 16)
   . exact aJ (vD 59 17)
   . replace hK:=hK default;have e60:=vD 60 18;clear hA o0 o3 o5 o6;have S1:Held w0 W (aB g 85 (c1 (gs 3)) :: LF):=S;have c33:W.cell? ⟨g,140,none⟩=some (.bool fd):=by rw [(show aM W g 85 (c1 (gs 3)) from S1.at_ (l1:=[])).cell];exact h140 _
     have f33:=(show aM W g 85 (c1 (gs 3)) from S1.at_ (l1:=[])).frozen 140;have S2:=S1.set (l1:=[]) 140 (.bool true);go_step;exact hK undef _ S2 trivial
   . trivial
 . intro vs gs W S hp;have S:Held w0 W (aG 89 33 (gs 3) l.length (bB l) :: aB g 85 ((c1 (gs 3)).setIfInBounds 140 (.bool true)) :: aB g3 28 (bD z h (.slice A l.length c)) :: aB g5 23 (aA x) :: L):=by simpa only [List.flatMap_cons,List.flatMap_nil,List.append_nil,List.nil_append,List.cons_append,List.append_assoc] using S
   rw [aF];exact hend _ vs gs W sQ  S
end
section
open Go.RowKit Go.Shelf
theorem aK7{n1 n2 r:List Value}{p:Value}(h1:∀ u ∈ n1,u.oneCell'=true)(h2:∀ u ∈ n2,u.oneCell'=true)(h3:∀ u ∈ r,u.oneCell'=true)(hp:p.oneCell'=true):∀ u,u ∈ (rV n1 n2 r p).toArray.toList->u.oneCell'=true:=by
 intro u hu;simp only [rV,List.toList_toArray,List.mem_append,List.mem_cons,List.not_mem_nil,or_false] at hu;rcases hu with hu|hu|hu|rfl
 . exact h1 u hu
 . exact h2 u hu
 . exact h3 u hu
 . exact hp
section
variable {k0 k1 e h:Value} {la:List Value} {nd:Bool} {fk:List Value} {fd md:Bool}
theorem aD9{F:List Value}(h1:la.length=34)(h2:fk.length=101):((dO k0 k1 e h la nd fk fd md).toList.take 39 ++ F ++ (dO k0 k1 e h la nd fk fd md).toList.drop (39+101)).toArray=dO k0 k1 e h la nd F fd md:=by
 simp [dO,List.take_append,List.drop_append,h1,h2,List.take_of_length_le,List.drop_of_length_le]
theorem vE{F:List Value}(h1:la.length=34):((dO k0 k1 e h la nd fk fd md).toList.take 4 ++ F ++ (dO k0 k1 e h la nd fk fd md).toList.drop (4+34)).toArray=dO k0 k1 e h F nd fk fd md:=by
 simp [dO,List.drop_append,h1,List.drop_of_length_le]
theorem aB7{b:Bool}(h1:la.length=34)(h2:fk.length=101):(dO k0 k1 e h la nd fk fd md).setIfInBounds 140 (.bool b)=dO k0 k1 e h la nd fk b md:=by
 simp [dO,List.set_append,h1,h2]
theorem sM{b:Bool}(h1:la.length=34):(dO k0 k1 e h la nd fk fd md).setIfInBounds 38 (.bool b)=dO k0 k1 e h la b fk fd md:=by
 simp [dO,List.set_append,h1]
theorem aEd{u:Value}:(dO k0 k1 e h la nd fk fd md).setIfInBounds 3 u=dO k0 k1 e u la nd fk fd md:=by
 simp [dO]
theorem aEi{u:Value}:(dO k0 k1 e h la nd fk fd md).setIfInBounds 2 u=dO k0 k1 u h la nd fk fd md:=by
 simp [dO]
end
theorem zD(w0:World)(L:List Res)(g:Nat)(k0 k1 e:Value)(Ah:Option Addr)(ch:Nat)(hl:List (List UInt8))(hokh:dP hl)(hhl:hl.length<=1000000)(la:List Value)(hla:la.length=34)(hla1:∀ u ∈ la,u.oneCell'=true)(nd:Bool)(fk:List Value)(hfk:fk.length=101)(k:Nat)(hk:k<=hl.length)(h:Bs)(hh:h.length=32)(A:Option Addr)(c:Nat)(l:List bF)(hok:dI l)(hll:l.length<=1000000)(w:World)(S:Held w0 w (aB g 85 (dO k0 k1 e (.slice Ah hl.length ch) la nd fk false true) :: L))(HVn:∀ V,(∀ r ∈ L,r.ok V)->Rd V 33 (.slice A l.length c) l.length (bB l))(HVh:∀ V,(∀ r ∈ L,r.ok V)->Rd V 32 (.slice Ah hl.length ch) hl.length (dA hl)):
 Calls prog 45 #[Pq g 0,.agg (bD (k:Int) h (.slice A l.length c))] w fun r w'=>
  (bJ (hl.take k)=h ∧ r=.returned (.int .i64 0) ∧ Held w0 w' (aB g 85 (dO k0 k1 e (.slice Ah hl.length ch) la nd fk false true) :: L)) ∨
  (bJ (hl.take k) ≠ h ∧ nd=false ∧ r=.returned (.int .i64 403) ∧ Held w0 w' (aB g 85 (dO k0 k1 e (.slice Ah hl.length ch) la nd fk false true) :: L)) ∨
  (bJ (hl.take k) ≠ h ∧ nd=true ∧ r=.returned (.int .i64 400) ∧ ∃ v p,Held w0 w' (aB g 85 (dO k0 k1 e (.slice Ah hl.length ch) la nd (rV (pK k h v) la (bv (bJ (hl.take k))) p) true true) :: aG 89 33 v l.length (bB l) :: aG 23 32 p (dH (k:Int) hl).length (dA (dH (k:Int) hl)) :: L)):=by
 have hlc:hl.length<=ch:=by
  obtain ⟨-,A',c',e,h1,-,-,-⟩:=HVh w (fun r hr=>S.ok r (List.mem_cons_of_mem _ hr))
  cases e;exact h1
 have hx32:=bS (hokh.take k);have hM:=qF (k0:=k0) (k1:=k1) (e:=e) (h:=.slice Ah hl.length ch) (nd:=nd) (fd:=false) (md:=true) hla hfk;have hlen:(hl.take k).length=k:=by rw [List.length_take];omega
 refine aR func45 rfl 61 rfl (fun a0 hsz hdf hAr=>?_);have hz0:a0.tmps.size=61:=hsz;have D:=hdf;have o0:=hAr 0 _ rfl;have o1:=hAr 1 _ rfl;refine wp_seq (aU3 w0 _ (aN hh) (cT rfl) _ S hz0 o1 (fun a1 w1 hs1 o4 h1=>?_));obtain ⟨hz1,D,o0⟩:=eY hs1 hz0 D o0;obtain ⟨g3,o3,S1⟩:=h1
 have HC:∀ V,(∀ r ∈ L,r.ok V)->Calls prog 49 #[.slice Ah k ch] V fun e w'=>e=.returned (.agg (aA (bJ (hl.take k)))) ∧ Kp [] V w':=fun V hV=>by
  have h:=rS Ah ch (hl.take k) (hokh.take k) V (by rw [hlen];exact uA hokh (HVh V hV) rfl hk)
  rwa [hlen] at h
 obtain ⟨x,hx⟩:∃ x,bJ (hl.take k)=x:=⟨_,rfl⟩;rw [hx] at HC hx32 ⊢;refine wp_seq (aVg w0 g g3 _ _ Ah hl.length ch k (by omega) x hx32 uR kF L HC hz1 o0 o3 (S1.pull 1 rfl) (fun a2 vs gs w2 hs2 o5 S2=>?_));obtain ⟨hz2,D,o0,o3⟩:=dU hs2 hz1 D o0 o3;obtain ⟨g5,hg5⟩:∃ g5,gs 10=g5:=⟨_,rfl⟩;rw [hg5] at o5 S2;clear hg5;refine wp_seq (wp_block ?_)
 (conv=>arg 2;whnf)
 refine wp_seq (aRo g3 g5 (k:Int) h hh _ x hx32 (S2.at_ (l1:=[_,_])) (S2.at_ (l1:=[])) hz2 o3 o5 (fun a3 w3 hs3 k3 o18=>?_));obtain ⟨hz3,D,o0,o3,o5⟩:=dF hs3 hz2 D o0 o3 o5;have S3:=S2.kp k3
 cases hxh:(x == h)
 . rw [hxh] at o18;have hne:x ≠ h:=fun e=>by rw [e] at hxh;simp at hxh
   refine dD o18 ?_;refine wp_seq (aR4 g _ nd (S3.at_ (l1:=[_])) (oX hla) hz3 o0 (fun a4 hs4 o24=>?_));obtain ⟨hz4,D,o0,o3,o5⟩:=dF hs4 hz3 D o0 o3 o5
   cases nd
   . refine cS o24 ?_;refine wp_seq (aWm hz4 (fun a5 hs5 o4=>?_));obtain ⟨hz5,D⟩:=dS hs5 hz4 D;refine wp_ret ?_;simp only [Exit.then,Exit.inBlock];exact bodyPost_ret (bA (by rfl) (o4.eval (by rw [hz5];decide))) D (.inr (.inl ⟨hne,by simp,rfl,S3.drop.sub (.cons_cons _ (.cons _ (List.Sublist.refl _)))⟩))
   . refine dD o24 (wp_skip ?_);simp only [Exit.then,Exit.inBlock];refine wp_seq (aUo w0 g g3 _ _ Ah hl.length ch k (dH (k:Int) hl).length (dA (dH (k:Int) hl)) (if (k:Int) < 0 ∨ (hl.length:Int) < (k:Int) then 4 else 0) uR kF (aB g5 23 (aA x) :: L) (fun V hV=>aAl Ah ch hl hokh hhl (k:Int) V (HVh V (fun r hr=>hV r (List.mem_cons_of_mem _ hr)))) hz4 o0 o3 ((S3.pull 2 rfl).pull 2 rfl) (fun a5 vs5 gs5 w5 hs5 o6 S5=>?_));obtain ⟨hz5,D,o0,o3,o5⟩:=dF hs5 hz4 D o0 o3 o5;obtain ⟨p,hp⟩:∃ p,gs5 8=p:=⟨_,rfl⟩;rw [hp] at o6 S5;clear hp;obtain ⟨Ap,cp,rfl,-,-⟩:=aS (show Ow w5 23 32 p _ _ from S5.at_ (l1:=[]));have S6:=((((S5.pull 0 rfl).pull 3 rfl).pull 3 rfl).pull 3 rfl);refine wp_seq (aR5 w0 g g3 g5 _ hM (k:Int) h hh A c l hok hll la hla (fun j u hj=>aNu hla hj) x hx32 Ap (dH (k:Int) hl).length cp false (fun v=>(rV (pK k h v) la (bv x) (.slice Ap (dH (k:Int) hl).length cp)).toArray) (fun v=>dO k0 k1 e (.slice Ah hl.length ch) la true (rV (pK k h v) la (bv x) (.slice Ap (dH (k:Int) hl).length cp)) false true) (fun A' n' c'=>bCi (bD (k:Int) h (.slice A' n' c')) la.toArray (aA x) (aN hh) (by simp [hla]) (by rw [aC,hx32]) Ap _ cp) (fun v=>by simp [rV,pK,aX,hla,hh,hx32]) (fun A' n' c'=>aK7 (fun u hu=>cT (z:=(k:Int)) (h:=h) (v:=.slice A' n' c') rfl u (by simpa [bD] using hu)) hla1 (eI x) rfl) (fun v=>aD9 hla hfk) (fun v=>oQ hla (by simp [rV,pK,aX,hla,hh,hx32])) (aG 23 32 (.slice Ap (dH (k:Int) hl).length cp) (dH (k:Int) hl).length (dA (dH (k:Int) hl)) :: L) (fun V hV=>HVn V (fun r hr=>hV r (List.mem_cons_of_mem _ hr))) hz5 o0 o3 o5 o6 S6 (fun a6 vs7 gs7 w7 hs6 S7=>?_));obtain ⟨hz6,D⟩:=dS hs6 hz5 D;refine wp_seq (aQo hz6 (fun a7 hs7 o4=>?_));obtain ⟨hz7,D⟩:=dS hs7 hz6 D;refine wp_ret ?_;have S8:=(((((S7.pull 3 rfl).pull 3 rfl).pull 4 rfl).pull 3 rfl).pull 4 rfl);rw [aB7 hla (by simp [rV,pK,aX,hla,hh,hx32])] at S8;exact bodyPost_ret (bA (by rfl) (o4.eval (by rw [hz7];decide))) D (.inr (.inr ⟨hne,by simp,rfl,_,_,S8.sub (.cons_cons _ (.cons_cons _ (.cons_cons _ (.cons _ (.cons _ (List.Sublist.refl _))))))⟩))
 . rw [hxh] at o18;have he:x=h:=eq_of_beq hxh;refine cS o18 ?_;refine wp_seq (aOw hz3 (fun a4 hs4 o4=>?_));obtain ⟨hz4,D⟩:=dS hs4 hz3 D;refine wp_ret ?_;simp only [Exit.then,Exit.inBlock];exact bodyPost_ret (bA (by rfl) (o4.eval (by rw [hz4];decide))) D (.inl ⟨he,rfl,S3.drop.sub (.cons_cons _ (.cons _ (List.Sublist.refl _)))⟩)
end
section
variable {Q:Exit->Act->World->Prop} {a:Act} {w:World}
open Go.RowKit Go.Shelf
attribute [local go_sem] Oper.semAt_some
theorem aB5(n m:Nat)(h:n<=m):(([]:List Value).toArray ++ Builtin.zeroCells (Value.cells (.agg (aA (List.replicate 32 0)))) n ++ Builtin.zeroCells (Value.cells (.agg (aA (List.replicate 32 0)))) (m - n)).size=m * 32:=by
 have hz:(Value.cells (.agg (aA (List.replicate 32 0)))).size=32:=by show (aA (List.replicate 32 0)).size=32;rw [aC];simp
 simp only [Array.size_append,size_zeroCells,hz,List.size_toArray,List.length_nil,<- Nat.add_mul];omega
theorem aZ2(hsz:a.tmps.size=27):bK 0 f90 Q a w fun a' q'=>Sl a' 4 (.slice none 0 0)->q':=rO
theorem aUc(n:Nat)(hsz:a.tmps.size=27)(o1:Sl a 1 (Nq n)):bK 1 f90 Q a w fun a' q'=>Sl a' 6 (.bool false)->q':=by
 have h0:¬ ((n:Int) < 0):=by omega
 exact rO
theorem aRe(n:Nat)(hn:n<=2000000)(hsz:a.tmps.size=27)(o0:Sl a 0 (.slice none 0 0))(o1:Sl a 1 (Nq n)):bK 3 f90 Q a w fun a' q'=>Sl a' 1 (Nq n)->q':=by
 have hw:wrap64 ((0:Int) - 0)=0:=by unfold wrap64;omega
 have hw2:wrap64 ((n:Int) - 0)=(n:Int):=by unfold wrap64;omega
 have hw3:wrap64 (n:Int)=(n:Int):=by unfold wrap64;omega
 exact rO
theorem aWu(n:Nat)(hsz:a.tmps.size=27)(o1:Sl a 1 (Nq n)):bK 4 f90 Q a w fun a' q'=>Sl a' 16 (.bool (decide (0 < n)))->q':=rO
theorem aVe(w0:World)(n:Nat)(h0:0 < n)(hn:n<=2000000)(L:List Res)(S:Held w0 w L)(hsz:a.tmps.size=27)(o0:Sl a 0 (.slice none 0 0))(o1:Sl a 1 (Nq n)):bC false 5 f90 Q a w fun a' W q'=>(∃ v,Sl a' 0 v ∧ Held w0 W (aG 23 32 v 0 [] :: L))->q':=by
 refine bU fun hend=>?_;unfold Sl at o0 o1;have S:=LH S;obtain ⟨i0,hi,hz,hsize,hby⟩:=info_parts bC8;have HA0:=Lib.run_append_grow_zeros w 29 3 29 23 i0 _ .i64 .i64 underlying29 underlying3 hi hz none 0 0 [] (run_firstCells_none w.drew i0.size 0 0 0) n h0 (by rw [hsize];decide) (by omega) (by omega) (by rw [hby];omega) (by rw [hby];exact growslice_fits (by omega) (by omega));rw [Nat.zero_add] at HA0;have HG:Hid (n<=grownCap w n 0 23 ∧ grownCap w n 0 23<=maxLen):=LH ⟨grownCap_ge _ _ _ _,grownCap_le_maxLen _ _ _ _ (by unfold maxLen;omega)⟩;generalize grownCap w n 0 23=c2 at *;have HZ:=LH (aB5 n c2 HG.out.1);generalize ([]:List Value).toArray ++ Builtin.zeroCells (Value.cells (.agg (aA (List.replicate 32 0)))) n ++ Builtin.zeroCells (Value.cells (.agg (aA (List.replicate 32 0)))) (c2 - n)=C2 at *;have HA:=LH HA0;clear HA0 hz;have h1:¬ c2=0:=by have:=HG.out.1;omega
 have h2:0<=(c2:Int):=by omega
 go_wp2_with (at_builtin;refine Lib.wpList_append_run _ rfl (.tmp 20) (.tmp 21) 29 3 rfl (.slice none 0 0) (Nq n) aE (aO o1) _ _ HA.out ?_)
 have S2:=LH (Held.blk_row (n:=0) (xs:=[]) ((S.out.newBlk 23 C2).kp (Kp.refl [] _).drew) HZ.out (by simp) (Nat.zero_le _) HG.out.2)
 try simp only [Act.put]
 exact hend _ _ tS (⟨_,cH,S2.out⟩)
theorem aF6(x:Value)(hsz:a.tmps.size=27)(o0:Sl a 0 (x)):bK 6 f90 Q a w fun a' q'=>Sl a' 4 (x)->q':=rO
theorem aDc(n:Nat)(hn:n<=2000000)(w:World):Calls prog 90 #[.slice none 0 0,Nq n] w fun e w'=>∃ v,e=.returned v ∧ Held w w' [aG 23 32 v 0 []]:=by
 refine aR func90 rfl 27 rfl (fun a0 hsz hdf hAr=>?_);have hz0:a0.tmps.size=27:=hsz;have D:=hdf;have o0:=hAr 0 _ rfl;have o1:=hAr 1 _ rfl;refine wp_seq (aZ2 hz0 (fun a1 hs1 o4=>?_));obtain ⟨hz1,D,o0,o1⟩:=dU hs1 hz0 D o0 o1;refine wp_seq (wp_seq (aUc n hz1 o1 (fun a2 hs2 o6=>?_)));obtain ⟨hz2,D,o0,o1⟩:=dU hs2 hz1 D o0 o1;refine dD o6 (wp_skip ?_);simp only [Exit.then];refine wp_seq (wp_seq (aRe n hn hz2 o0 o1 (fun a3 hs3 o1=>?_)));obtain ⟨hz3,D,o0⟩:=eY hs3 hz2 D o0;refine wp_seq (aWu n hz3 o1 (fun a4 hs4 o16=>?_));obtain ⟨hz4,D,o0,o1⟩:=dU hs4 hz3 D o0 o1
 by_cases h0:0 < n
 . refine cS o16 ?_ (by rw [decide_eq_true h0]);refine aVe w n h0 hn [] (Held.start w) hz4 o0 o1 (fun a5 w5 hs5 h5=>?_);obtain ⟨v,o0,S⟩:=h5;obtain ⟨hz5,D⟩:=dS hs5 hz4 D;simp only [Exit.then];refine wp_seq (aF6 v hz5 o0 (fun a6 hs6 o4=>?_));obtain ⟨hz6,D,o0⟩:=eY hs6 hz5 D o0;refine wp_ret ?_;exact bodyPost_ret (bA (by rfl) (o4.eval (by rw [hz6];decide))) D ⟨v,rfl,S⟩
 . refine dD o16 (wp_skip ?_) (by rw [decide_eq_false h0]);simp only [Exit.then];refine wp_seq (aF6 _ hz4 o0 (fun a5 hs5 o4=>?_));obtain ⟨hz5,D⟩:=dS hs5 hz4 D;refine wp_ret ?_;exact bodyPost_ret (bA (by rfl) (o4.eval (by rw [hz5];decide))) D ⟨_,rfl,(Held.start w).rownew (World.ownsRow_nil _ _ _ _:Ow w 23 32 (.slice none 0 0) 0 []) (Kp.refl [] w) (fun g hg=>by cases hg)⟩
theorem aRm(hsz:a.tmps.size=36):bK 0 f47 Q a w fun a' q'=>Sl a' 2 (.slice none 0 0)->q':=rO
theorem aRz(hsz:a.tmps.size=36):bK 1 f47 Q a w fun a' q'=>Sl a' 3 (Nq 0)->q':=rO
theorem aZz(A:Option Addr)(n c:Nat)(hsz:a.tmps.size=36)(o0:Sl a 0 (.slice A n c)):bK 2 f47 Q a w fun a' q'=>Sl a' 9 (.slice A n c)->Sl a' 10 (Nq n)->Sl a' 11 (Nq 0)->q':=rO
theorem aR9(k n:Nat)(hsz:a.tmps.size=36)(o10:Sl a 10 (Nq n))(o11:Sl a 11 (Nq k)):bK 3 f47 Q a w fun a' q'=>Sl a' 12 (.bool (decide (k < n)))->q':=rO
theorem aZ5(ad:Addr)(k n c:Nat)(hk:k < n)(u:Value)(hu:w.cell? (ad.add k)=some u)(hus:∃ Au nu cu,u=.slice Au nu cu)(hsz:a.tmps.size=36)(o9:Sl a 9 (.slice (some ad) n c))(o11:Sl a 11 (Nq k)):bK 4 f47 Q a w fun a' q'=>Sl a' 5 (u)->q':=by
 have h0:0<=(k:Int):=by omega
 have h1:(k:Int) < (n:Int):=by omega
 obtain ⟨Au,nu,cu,rfl⟩:=hus;exact rO
theorem aTz(k:Nat)(hk:k < 9223372036854775807)(hsz:a.tmps.size=36)(o11:Sl a 11 (Nq k)):bK 8 f47 Q a w fun a' q'=>Sl a' 11 (Nq (k+1))->q':=by
 have hw:wrap64 ((k:Int)+1)=(k:Int)+1:=by unfold wrap64;omega
 exact rO
theorem aVv(A:Option Addr)(n c m:Nat)(hm:m+n < 9223372036854775808)(hsz:a.tmps.size=36)(o3:Sl a 3 (Nq m))(o5:Sl a 5 (.slice A n c)):bK 5 f47 Q a w fun a' q'=>Sl a' 3 (Nq (m+n))->q':=by
 have hw:wrap64 ((m:Int)+(n:Int))=(m:Int)+(n:Int):=by unfold wrap64;omega
 exact rO
theorem aXy(m:Nat)(hsz:a.tmps.size=36)(o3:Sl a 3 (Nq m)):bK 6 f47 Q a w fun a' q'=>Sl a' 20 (.bool false)->q':=by
 have h0:¬ ((m:Int) < 0):=by omega
 exact rO
theorem aP8(n:Nat)(hn:n<=2000000)(hsz:a.tmps.size=36)(o3:Sl a 3 (Nq n)):bC false 9 f47 Q a w fun a' W q'=>(∃ v,Sl a' 6 v ∧ Held w W [aG 23 32 v 0 []])->q':=by
 refine bU fun hend=>?_;unfold Sl at o3;have HC:=LH (aDc n hn w);clear hn;go_wp2_with fail
 refine HC.out.mono ?_;rintro e w1 ⟨v,rfl,S1⟩;have S1:=LH S1;go_wp2_with fail
 try simp only [Act.put]
 exact hend _ _ tS (⟨v,cH,S1.out⟩)
theorem aKw(A:Option Addr)(n c:Nat)(hsz:a.tmps.size=36)(o0:Sl a 0 (.slice A n c)):bK 10 f47 Q a w fun a' q'=>Sl a' 25 (.slice A n c)->Sl a' 26 (Nq n)->Sl a' 27 (Nq 0)->q':=rO
theorem aK9(k n:Nat)(hsz:a.tmps.size=36)(o26:Sl a 26 (Nq n))(o27:Sl a 27 (Nq k)):bK 11 f47 Q a w fun a' q'=>Sl a' 28 (.bool (decide (k < n)))->q':=rO
theorem aKb(ad:Addr)(k n c:Nat)(hk:k < n)(u:Value)(hu:w.cell? (ad.add k)=some u)(hus:∃ Au nu cu,u=.slice Au nu cu)(hsz:a.tmps.size=36)(o25:Sl a 25 (.slice (some ad) n c))(o27:Sl a 27 (Nq k)):bK 12 f47 Q a w fun a' q'=>Sl a' 8 (u)->q':=by
 have h0:0<=(k:Int):=by omega
 have h1:(k:Int) < (n:Int):=by omega
 obtain ⟨Au,nu,cu,rfl⟩:=hus;exact rO
theorem aM4(k:Nat)(hk:k < 9223372036854775807)(hsz:a.tmps.size=36)(o27:Sl a 27 (Nq k)):bK 14 f47 Q a w fun a' q'=>Sl a' 27 (Nq (k+1))->q':=by
 have hw:wrap64 ((k:Int)+1)=(k:Int)+1:=by unfold wrap64;omega
 exact rO
theorem aNx(x:Value)(hsz:a.tmps.size=36)(o6:Sl a 6 (x)):bK 15 f47 Q a w fun a' q'=>Sl a' 2 (x)->q':=rO
theorem aI7(w0:World)(u:Value)(m n:Nat)(hm:m+n<=2000000)(xs ys:List Value)(hy:∀ u ∈ ys,u.oneCell'=true)(A:Option Addr)(c:Nat)(hr:Rd w 32 (.slice A n c) n ys)(L:List Res)(S:Held w0 w (aG 23 32 u m xs :: L))(hsz:a.tmps.size=36)(o6:Sl a 6 (u))(o8:Sl a 8 (.slice A n c)):bC false 13 f47 Q a w fun a' W q'=>(∃ v,Sl a' 6 v ∧ Held w0 W (aG 23 32 v (m+n) (xs ++ ys) :: L))->q':=by
 refine bU fun hend=>?_;unfold Sl at o6 o8;have S:=LH S;have HR:=LH hr;clear hr;have hy:=LH hy;have hb1:Hid (m+n<=maxLen ∧ (m+n) * 32<=140737488355328):=LH (by unfold maxLen;omega);clear hm;go_wp2_with (at_builtin;refine cY rfl (.tmp 31) (.tmp 32) 29 23 rfl bC8 underlying29 rfl (by decide) u m xs aE S.out (.slice A n c) n ys aE HR.out hy.out hb1.out.1 hb1.out.2 ?_;intro v2 w2 S3;have S3:=LH S3)
 try simp only [Act.put]
 exact hend _ _ tS (⟨v2,cH,S3.out⟩)
end
section
open Go.RowKit Go.Shelf
abbrev HV:=Value × List (List UInt8)
def tK (xs:List HV):List (List UInt8):=xs.flatMap (·.2)
theorem zX{xs:List HV}{k:Nat}{x:HV}(h:xs[k]?=some x):tK (xs.take (k+1))=tK (xs.take k) ++ x.2:=by
 rw [List.take_add_one,h];simp [tK]
theorem aHy(xs:List HV)(k:Nat):(tK (xs.take k)).length<=(tK xs).length:=by
 have h:tK xs=tK (xs.take k) ++ tK (xs.drop k):=by unfold tK;rw [<- List.flatMap_append,List.take_append_drop]
 rw [h,List.length_append];omega
theorem zH(A:Option Addr)(c:Nat)(xs:List HV)(hn:(tK xs).length<=2000000)(w:World)(hv:Rd w 1 (.slice A xs.length c) xs.length (xs.map (·.1)))(hx:∀ x ∈ xs,Rd w 32 x.1 x.2.length (dA x.2)):
 Calls prog 47 #[.slice A xs.length c] w fun e w'=>∃ v,e=.returned v ∧ Held w w' [aG 23 32 v (tK xs).length (dA (tK xs))]:=by
 have hlm:xs.length<=9223372036854775807:=by
  obtain ⟨-,A',c',e,h1,h2,-,-⟩:=hv;unfold maxLen at h2;omega
 have hcell:∀ (ad:Addr),A=some ad->∀ k x,xs[k]?=some x->∀ V,Kp [] w V->V.cell? (ad.add k)=some x.1:=fun ad e k x hk V kV=>by
  obtain ⟨-,A',c',e1,-,-,-,h5⟩:=aT hv kV
  cases e1;exact h5 ad e k x.1 (by rw [List.getElem?_map,hk];rfl)
 have hform:∀ x ∈ xs,∃ Au nu cu,x.1=.slice Au nu cu:=fun x hx'=>by
  obtain ⟨-,A',c',e1,-⟩:=hx x hx';exact ⟨_,_,_,e1⟩
 refine aR func47 rfl 36 rfl (fun a0 hsz hdf hAr=>?_);have hz0:a0.tmps.size=36:=hsz;have D:=hdf;have o0:=hAr 0 _ rfl;refine wp_seq (aRm hz0 (fun a1 hs1 o2=>?_));obtain ⟨hz1,D,o0⟩:=eY hs1 hz0 D o0;refine wp_seq (aRz hz1 (fun a2 hs2 o3=>?_));obtain ⟨hz2,D,o0⟩:=eY hs2 hz1 D o0;refine wp_seq (wp_seq (aZz A xs.length c hz2 o0 (fun a3 hs3 o9 o10 o11=>?_)));obtain ⟨hz3,D,o0,o3⟩:=dU hs3 hz2 D o0 o3;refine wp_block ?_
 (conv=>arg 2;whnf)
 refine wp_loop (fun a' w'=>∃ (k:Nat),k<=xs.length ∧ a'.tmps.size=36 ∧ a'.defers=[] ∧ Sl a' 0 (.slice A xs.length c) ∧ Sl a' 3 (.int .i64 (((tK (xs.take k)).length:Nat):Int)) ∧ Sl a' 9 (.slice A xs.length c) ∧ Sl a' 10 (Nq (xs.length)) ∧ Sl a' 11 (Nq k) ∧ Kp [] w w') (fun a' _=>xs.length - (intOf (a'.eval (.tmp 11))).toNat) ⟨0,Nat.zero_le _,hz3,D,o0,o3,o9,o10,o11,Kp.refl _ _⟩ ?_
 iterate 9 (try clear o0)
 iterate 9 (try clear o3)
 iterate 9 (try clear o9)
 iterate 9 (try clear o10)
 iterate 9 (try clear o11)
 iterate 9 (try clear D)
 rintro a7 w7 ⟨k,hk,hz7,D,o0,o3,o9,o10,o11,K7⟩;have e11:=o11.eval (by rw [hz7];decide);refine wp_seq (aR9 k xs.length hz7 o10 o11 (fun a8 hs8 o12=>?_));obtain ⟨hz8,D,o0,o3,o9,o10,o11⟩:=jJ hs8 hz7 D o0 o3 o9 o10 o11
 by_cases hlt:k < xs.length
 . refine wp_seq (cS o12 (wp_skip ?_) (by rw [decide_eq_true hlt]));simp only [Exit.then];obtain ⟨x,hxk⟩:∃ x,xs[k]?=some x:=⟨_,List.getElem?_eq_getElem hlt⟩;have hxm:=List.mem_of_getElem? hxk;obtain ⟨ad,rfl⟩:=gD hv (by omega);obtain ⟨-,Ax,cx,ex,-⟩:=hx x hxm;refine wp_seq (wp_block ?_);refine wp_seq (aZ5 ad k xs.length c hlt x.1 (hcell ad rfl k x hxk w7 K7) (hform x hxm) hz8 o9 o11 (fun a9 hs9 o5=>?_));obtain ⟨hz9,D,o0,o3,o9,o10,o11⟩:=jJ hs9 hz8 D o0 o3 o9 o10 o11;rw [ex] at o5;have hs1:=zX hxk;have hle:=aHy xs (k+1);have hln:(tK (xs.take (k+1))).length=(tK (xs.take k)).length+x.2.length:=by rw [hs1,List.length_append]
   refine wp_seq (aVv Ax x.2.length cx (tK (xs.take k)).length (by omega) hz9 o3 o5 (fun a10 hs10 o3=>?_));obtain ⟨hz10,D,o0,o9,o10,o11⟩:=fH hs10 hz9 D o0 o9 o10 o11;refine wp_seq (aXy _ hz10 o3 (fun a11 hs11 o20=>?_));obtain ⟨hz11,D,o0,o9,o10,o11,o3⟩:=jJ hs11 hz10 D o0 o9 o10 o11 o3;refine dD o20 (wp_skip ?_);simp only [Exit.inBlock,Exit.then];refine aTz k (by omega) hz11 o11 (fun a12 hs12 o11=>?_);have hz12:=hs12.size.trans hz11;rw [<- hln] at o3;refine ⟨⟨k+1,hlt,hz12,hs12.defers.trans D,hs12.q o0,hs12.q o3,hs12.q o9,hs12.q o10,o11,K7⟩,?_⟩
   show xs.length - (intOf _).toNat < xs.length - (intOf _).toNat
   rw [e11,o11.eval (by rw [hz12];decide)];simp only [intOf];omega
 . refine wp_seq (dD o12 (wp_exit ?_) (by rw [decide_eq_false hlt]));simp only [Exit.then,Exit.inBlock];obtain rfl:k=xs.length:=by omega
   rw [List.take_length] at o3;refine wp_seq (aP8 _ hn hz8 o3 (fun a9 w9 hs9 h9=>?_));obtain ⟨hz9,D,o0,o3⟩:=dU hs9 hz8 D o0 o3;obtain ⟨v,o6,T⟩:=h9;have S:=(Held.start w).kp K7;have S:=S.join T;clear T;refine wp_seq (wp_seq (aKw A xs.length c hz9 o0 (fun a10 hs10 o25 o26 o27=>?_)));obtain ⟨hz10,D,o0,o6⟩:=dU hs10 hz9 D o0 o6;refine wp_block ?_
   (conv=>arg 2;whnf)
   refine wp_loop (fun a' w'=>∃ (k:Nat) (u:Value),k<=xs.length ∧ a'.tmps.size=36 ∧ a'.defers=[] ∧ Sl a' 6 (u) ∧ Sl a' 25 (.slice A xs.length c) ∧ Sl a' 26 (Nq (xs.length)) ∧ Sl a' 27 (Nq k) ∧ Held w w' [aG 23 32 u (tK (xs.take k)).length (dA (tK (xs.take k)))]) (fun a' _=>xs.length - (intOf (a'.eval (.tmp 27))).toNat) ⟨0,_,Nat.zero_le _,hz10,D,o6,o25,o26,o27,S⟩ ?_
   iterate 9 (try clear o0)
   iterate 9 (try clear o6)
   iterate 9 (try clear o25)
   iterate 9 (try clear o26)
   iterate 9 (try clear o27)
   iterate 9 (try clear D)
   iterate 9 (try clear S)
   iterate 9 (try clear K7)
   iterate 9 (try clear o3)
   iterate 9 (try clear o9)
   iterate 9 (try clear o10)
   iterate 9 (try clear o11)
   iterate 9 (try clear o12)
   iterate 9 (try clear e11)
   clear hlt;rintro a17 w17 ⟨k,u,hk,hz17,D,o6,o25,o26,o27,S⟩;have e27:=o27.eval (by rw [hz17];decide);refine wp_seq (aK9 k xs.length hz17 o26 o27 (fun a18 hs18 o28=>?_));obtain ⟨hz18,D,o6,o25,o26,o27⟩:=fH hs18 hz17 D o6 o25 o26 o27
   by_cases hlt:k < xs.length
   . refine wp_seq (cS o28 (wp_skip ?_) (by rw [decide_eq_true hlt]));simp only [Exit.then];obtain ⟨x,hxk⟩:∃ x,xs[k]?=some x:=⟨_,List.getElem?_eq_getElem hlt⟩;have hxm:=List.mem_of_getElem? hxk;obtain ⟨ad,rfl⟩:=gD hv (by omega);obtain ⟨-,Ax,cx,ex,-⟩:=hx x hxm;refine wp_seq (wp_block ?_);refine wp_seq (aKb ad k xs.length c hlt x.1 (hcell ad rfl k x hxk w17 S.k) (hform x hxm) hz18 o25 o27 (fun a19 hs19 o8=>?_));obtain ⟨hz19,D,o6,o25,o26,o27⟩:=fH hs19 hz18 D o6 o25 o26 o27;have hrx:=aT (hx x hxm) S.k;rw [ex] at o8 hrx;have hs1:=zX hxk;have hle:=aHy xs (k+1);have hln:(tK (xs.take (k+1))).length=(tK (xs.take k)).length+x.2.length:=by rw [hs1,List.length_append]
     refine aI7 w u (tK (xs.take k)).length x.2.length (by omega) _ _ wH Ax cx hrx [] S hz19 o6 o8 (fun a20 w20 hs20 h20=>?_);obtain ⟨v2,o6,S2⟩:=h20;obtain ⟨hz20,D,o25,o26,o27⟩:=dF hs20 hz19 D o25 o26 o27;rw [<- nU,<- hs1,<- hln] at S2;simp only [Exit.inBlock,Exit.then];refine aM4 k (by omega) hz20 o27 (fun a21 hs21 o27=>?_);have hz21:=hs21.size.trans hz20;refine ⟨⟨k+1,v2,hlt,hz21,hs21.defers.trans D,hs21.q o6,hs21.q o25,hs21.q o26,o27,S2⟩,?_⟩
     show xs.length - (intOf _).toNat < xs.length - (intOf _).toNat
     rw [e27,o27.eval (by rw [hz21];decide)];simp only [intOf];omega
   . refine wp_seq (dD o28 (wp_exit ?_) (by rw [decide_eq_false hlt]));simp only [Exit.then,Exit.inBlock];obtain rfl:k=xs.length:=by omega
     rw [List.take_length] at S;refine wp_seq (aNx u hz18 o6 (fun a19 hs19 o2=>?_));obtain ⟨hz19,D⟩:=dS hs19 hz18 D;refine wp_ret ?_;exact bodyPost_ret (bA (by rfl) (o2.eval (by rw [hz19];decide))) D ⟨u,rfl,S⟩
end
section
variable {Q:Exit->Act->World->Prop} {a:Act} {w:World}
open Go.RowKit Go.Shelf
attribute [local go_sem] Oper.semAt_some
theorem aP1(w0:World)(cn:Array Value)(hcn:cn.size=34)(h1:∀ u,u ∈ cn.toList->u.oneCell'=true)(L:List Res)(S:Held w0 w L)(hsz:a.tmps.size=39)(o1:Sl a 1 (.agg cn)):bC false 0 f18 Q a w fun a' W q'=>Sl a' 6 (.int .i64 (0:Int))->(∃ g4,Sl a' 4 (Pq g4 0) ∧ Held w0 W (aB g4 28 cn :: L))->q':=by
 refine bU fun hend=>?_;unfold Sl at o1;have S1:=LH (S.newBlk 28 cn);have hcn:=LH hcn;have h1:=LH h1;go_wp2
 try simp only [Act.put]
 exact hend _ _ tS sP (⟨w.heap.size,cH,S1.out⟩)
theorem aRv(p:Value)(g4:Nat)(cn:Array Value)(hcn:cn.size=34)(hb:aM w g4 28 cn)(z:Int)(HC0:Calls prog 44 #[p,.agg cn] w fun e w'=>e=.returned (.int .i64 z) ∧ Kp [] w w')(hsz:a.tmps.size=39)(o0:Sl a 0 (p))(o4:Sl a 4 (Pq g4 0)):bC false 1 f18 Q a w fun a' W q'=>Sl a' 7 (.int .i64 z)->(Kp [] w W)->q':=by
 refine bU fun hend=>?_;unfold Sl at o0 o4;have HC:=LH HC0;clear HC0;have HB:=LH hb;clear hb;have hcn:=LH hcn;go_wp2_with (refine aQ rfl 28 (.tmp 4) rfl g4 (aO o4) 28 _ HB.out _ underlying28 rfl (by rw [hcn.out];exact bBz) ?_)
 refine HC.out.mono ?_;rintro e w1 ⟨rfl,k1⟩;have k1:=LH k1;go_wp2_with fail
 try simp only [Act.put]
 exact hend _ _ tS sP (k1.out)
theorem aQi(z:Int)(hsz:a.tmps.size=39)(o7:Sl a 7 (.int .i64 z)):bK 2 f18 Q a w fun a' q'=>Sl a' 12 (.bool (z != 0))->q':=rO
theorem bA7(z:Int)(hsz:a.tmps.size=39)(o7:Sl a 7 (.int .i64 z)):bK 3 f18 Q a w fun a' q'=>Sl a' 6 (.int .i64 z)->q':=rO
theorem aZi(g g4 n:Nat)(cn:Array Value)(z:Int)(hb:aM w g4 28 cn)(hk0:cn[0]?=some (.int .i64 z))(HC1:∀ V,Kp [] w V->Calls prog 17 #[Pq g 0] V fun e w'=>e=.returned (Nq n) ∧ Kp [] V w')(hsz:a.tmps.size=39)(o0:Sl a 0 (Pq g 0))(o4:Sl a 4 (Pq g4 0)):bC true 4 f18 Q a w fun a' W q'=>Kp [] w.drew W->Sl a' 19 (.bool (decide (z<=(n:Int))))->q':=by
 intro hend;have hap:=pa 4 f18;refine bZ (l:=(aK 4 f18)) (fun i v W=>match i with|0=>v=Pq g4 0|1=>v=Pq g4 0|2=>v=.int .i64 z|3=>v=Pq g 0|4=>v=Nq n|5=>v=.bool (decide (z<=(n:Int)))|_=>True) (by kernel_rfl) hap (by kernel_rfl) ?_ ?_ ?_
 . exact fun _ _ _ _ h _=>h
 . and_intros <;> try intro vs A' W hA hW hd K hK
   . exact aJ (eO 4 o4)
   . exact aJ (vD 14 0)
   . have c0:W.cell? ⟨g4,0,none⟩=some (.int .i64 z):=by rw [(hb.kp (((Kp.refl [] w).drew).trans hW (by simp)) (by simp)).cell];exact hk0
     exact aJ (vD 15 1)
   . exact aJ (eO 0 o0)
   . have e17:=vD 17 3;clear hA hd o0 o4;go_step;refine (HC1 W (((Kp.refl [] w).drew).trans hW (by simp))).mono ?_;rintro e w' ⟨rfl,k1⟩;exact hK _ w' k1 rfl
   . exact cM (vD 16 2) (vD 18 4)
   . trivial
 . intro vs W hW hp;rw [aF];exact hend _ W sQ hW (sW (hp 5 sB))
theorem aZ6(g g4:Nat)(cn:Array Value)(hcn:cn.size=34)(hb:aM w g4 28 cn)(R:Int->World->Prop)(HC0:Calls prog 45 #[Pq g 0,.agg cn] w fun e w'=>∃ cd,e=.returned (.int .i64 cd) ∧ R cd w')(hsz:a.tmps.size=39)(o0:Sl a 0 (Pq g 0))(o4:Sl a 4 (Pq g4 0)):bC false 5 f18 Q a w fun a' W q'=>(∃ cd,Sl a' 6 (.int .i64 cd) ∧ R cd W)->q':=by
 refine bU fun hend=>?_;unfold Sl at o0 o4;have HC:=LH HC0;clear HC0;have HB:=LH hb;clear hb;have hcn:=LH hcn;go_wp2_with (refine aQ rfl 28 (.tmp 4) rfl g4 (aO o4) 28 _ HB.out _ underlying28 rfl (by rw [hcn.out];exact bBz) ?_)
 refine HC.out.mono ?_;rintro e w1 ⟨cd,rfl,k1⟩;have k1:=LH k1;go_wp2_with fail
 try simp only [Act.put]
 exact hend _ _ tS (⟨cd,cH,k1.out⟩)
theorem aV7(g g4 n:Nat)(z:Int)(h:Bs)(hh:h.length=32)(v:Value)(cs:Array Value)(Ah:Option Addr)(n2 ch:Nat)(x:Bs)(Ap:Option Addr)(np cp:Nat)(cd:Int)(hb:aM w g4 28 (bD z h v))(hk0:(bD z h v)[0]?=some (.int .i64 z))(hbm:aM w g 85 cs)(h3:cs[3]?=some (.slice Ah n2 ch))(HC1:∀ V,Kp [] w V->Calls prog 17 #[Pq g 0] V fun e w'=>e=.returned (Nq n) ∧ Kp [] V w')(HC2:∀ V,Kp [] w V->Calls prog 49 #[.slice Ah n2 ch] V fun e w'=>e=.returned (.agg (aA x)) ∧ Kp [] V w')(HC3:∀ V,Kp [] w V->Calls prog 33 #[Nq n,.int .i64 z,.agg (aA x),.agg (aA h),.slice Ap np cp] V fun e w'=>e=.returned (.int .i64 cd) ∧ Kp [] V w')(hsz:a.tmps.size=39)(o0:Sl a 0 (Pq g 0))(o2:Sl a 2 (.slice Ap np cp))(o4:Sl a 4 (Pq g4 0)):bC true 6 f18 Q a w fun a' W q'=>Kp [] w.drew W->Sl a' 6 (.int .i64 cd)->q':=by
 intro hend;have hap:=pa 6 f18;refine bZ (l:=(aK 6 f18)) (fun i v W=>match i with|0=>v=Pq g 0|1=>v=Nq n|2=>v=Pq g4 0|3=>v=Pq g4 0|4=>v=.int .i64 z|5=>v=Pq g 0|6=>v=Pq g 0|7=>v=Pq g 0|8=>v=Pq g 3|9=>v=.slice Ah n2 ch|10=>v=.agg (aA x)|11=>v=Pq g4 0|12=>v=Pq g4 1|13=>v=.agg (aA h)|14=>v=.slice Ap np cp|15=>v=.int .i64 cd|16=>v=.int .i64 cd|_=>True) (by kernel_rfl) hap (by kernel_rfl) ?_ ?_ ?_
 . exact fun _ _ _ _ h _=>h
 . and_intros <;> try intro vs A' W hA hW hd K hK
   . exact aJ (eO 0 o0)
   . have e23:=vD 23 0;clear hA hd o0 o2 o4;go_step;refine (HC1 W (((Kp.refl [] w).drew).trans hW (by simp))).mono ?_;rintro e w' ⟨rfl,k1⟩;exact hK _ w' k1 rfl
   . exact aJ (eO 4 o4)
   . exact aJ (vD 25 2)
   . have c0:W.cell? ⟨g4,0,none⟩=some (.int .i64 z):=by rw [(hb.kp (((Kp.refl [] w).drew).trans hW (by simp)) (by simp)).cell];exact hk0
     exact aJ (vD 26 3)
   . exact aJ (eO 0 o0)
   . exact aJ (vD 28 5)
   . exact aJ (vD 29 6)
   . exact aJ (vD 30 7)
   . have c0:W.cell? ⟨g,3,none⟩=some (.slice Ah n2 ch):=by rw [(hbm.kp (((Kp.refl [] w).drew).trans hW (by simp)) (by simp)).cell];exact h3
     exact aJ (vD 31 8)
   . have e32:=vD 32 9;clear hA hd o0 o2 o4;go_step;refine (HC2 W (((Kp.refl [] w).drew).trans hW (by simp))).mono ?_;rintro e w' ⟨rfl,k1⟩;exact hK _ w' k1 rfl
   . exact aJ (eO 4 o4)
   . exact aJ (vD 34 11)
   . exact dC (aA h) (vD 35 12) (pR (hb.kp (((Kp.refl [] w).drew).trans hW (by simp)) (by simp))) underlying23 (by rw [aC,hh];exact bBy)
   . exact aJ (eO 2 o2)
   . have e24:=vD 24 1;have e27:=vD 27 4;have e33:=vD 33 10;have e36:=vD 36 13;have e37:=vD 37 14;clear hA hd o0 o2 o4;go_step;refine (HC3 W (((Kp.refl [] w).drew).trans hW (by simp))).mono ?_;rintro e w' ⟨rfl,k1⟩;exact hK _ w' k1 rfl
   . exact aJ (vD 38 15)
   . trivial
 . intro vs W hW hp;rw [aF];exact hend _ W sQ hW (sW (hp 16 sB))
end
section
open Go.RowKit Go.Shelf
structure MirD where
 nm:List UInt8
 sec:List UInt8
 Ak:Option Addr
 ck:Nat
 e:Value
 hl:List (List UInt8)
 Ah:Option Addr
 ch:Nat
 la:List Value
 nd:Bool
 fk:List Value
 fd:Bool
def MirD.cells (M:MirD):Array Value:=dO (bX M.nm) (.slice M.Ak M.sec.length M.ck) M.e (.slice M.Ah M.hl.length M.ch) M.la M.nd M.fk M.fd true
structure MirD.Ok (M:MirD):Prop where
 nm:M.nm.length<=1000000
 hs:dP M.hl
 hl:M.hl.length<=1000000
 la:M.la.length=34
 la1:∀ u ∈ M.la,u.oneCell'=true
 fk:M.fk.length=101
 e:∃ A c,M.e=.slice A M.hl.length c
def MirD.Rd (M:MirD) (V:World):Prop:=Go.Proofs.YtmkfopmdingaoaaGreatDoor.Rd V 1 (.slice M.Ak M.sec.length M.ck) M.sec.length (bv M.sec) ∧ Go.Proofs.YtmkfopmdingaoaaGreatDoor.Rd V 32 (.slice M.Ah M.hl.length M.ch) M.hl.length (dA M.hl)
def WiP (w0:World) (L:List Res) (g:Nat) (M:MirD) (k:Nat) (h:Bs) (l:List bF) (cd:Int) (w':World):Prop:=
 (bJ (M.hl.take k)=h ∧ cd=0 ∧ Held w0 w' (aB g 85 M.cells :: L)) ∨
 (bJ (M.hl.take k) ≠ h ∧ M.nd=false ∧ cd=403 ∧ Held w0 w' (aB g 85 M.cells :: L)) ∨
 (bJ (M.hl.take k) ≠ h ∧ M.nd=true ∧ cd=400 ∧ ∃ v p,Held w0 w' (aB g 85 ({ M with fk:=rV (pK k h v) M.la (bv (bJ (M.hl.take k))) p,fd:=true }:MirD).cells :: aG 89 33 v l.length (bB l) :: aG 23 32 p (dH (k:Int) M.hl).length (dA (dH (k:Int) M.hl)) :: L))
theorem tC(w0:World)(L:List Res)(g:Nat)(M:MirD)(hM:M.Ok)(hfd:M.fd=false)(k:Nat)(hk:k<=M.hl.length)(h:Bs)(hh:h.length=32)(A:Option Addr)(c:Nat)(l:List bF)(hok:dI l)(hll:l.length<=1000000)(w:World)(S:Held w0 w (aB g 85 M.cells :: L))(HVn:∀ V,(∀ r ∈ L,r.ok V)->Go.Proofs.YtmkfopmdingaoaaGreatDoor.Rd V 33 (.slice A l.length c) l.length (bB l))(HVm:∀ V,(∀ r ∈ L,r.ok V)->M.Rd V):
 Calls prog 45 #[Pq g 0,.agg (bD (k:Int) h (.slice A l.length c))] w fun r w'=>∃ cd,r=.returned (.int .i64 cd) ∧ WiP w0 L g M k h l cd w':=by
 have e:M.cells=dO (bX M.nm) (.slice M.Ak M.sec.length M.ck) M.e (.slice M.Ah M.hl.length M.ch) M.la M.nd M.fk false true:=by unfold MirD.cells;rw [hfd]
 rw [e] at S;refine (zD w0 L g _ _ _ M.Ah M.ch M.hl hM.hs hM.hl M.la hM.la hM.la1 M.nd M.fk hM.fk k hk h hh A c l hok hll w S HVn (fun V hV=>(HVm V hV).2)).mono ?_;rintro r w' (⟨h1,rfl,S⟩|⟨h1,h2,rfl,S⟩|⟨h1,h2,rfl,v,p,S⟩)
 . exact ⟨_,rfl,.inl ⟨h1,rfl,by rw [e];exact S⟩⟩
 . exact ⟨_,rfl,.inr (.inl ⟨h1,h2,rfl,by rw [e];exact S⟩)⟩
 . exact ⟨_,rfl,.inr (.inr ⟨h1,h2,rfl,v,p,S⟩)⟩
theorem vK{fd:Bool}{z:Int}{h:List UInt8}{l:List bF}{nm sec:List UInt8}(hm:nX fd z h l nm sec=0):fd=false ∧ 0<=z:=by
 unfold nX at hm
 cases fd
 . refine ⟨rfl,?_⟩;rw [if_neg (by decide)] at hm;unfold cF at hm
   split at hm
   . omega
   . rename_i hc
     unfold eA at hc
     by_cases hn:eH z l=true
     . unfold eH at hn;simp only [Bool.and_eq_true,decide_eq_true_eq] at hn;exact hn.1.1
     . rw [if_neg hn] at hc;omega
 . simp at hm
theorem aE4(w0:World)(L:List Res)(LD0:LD w0)(g:Nat)(M:MirD)(hM:M.Ok)(z:Int)(hz:-9223372036854775808<=z ∧ z<=9223372036854775807)(h:Bs)(hh:h.length=32)(A:Option Addr)(c:Nat)(l:List bF)(hok:dI l)(hll:l.length<=1000000)(Ap:Option Addr)(cp:Nat)(pf:List (List UInt8))(hpf:dP pf)(w:World)(S:Held w0 w (aB g 85 M.cells :: L))(HVn:∀ V,(∀ r ∈ L,r.ok V)->Go.Proofs.YtmkfopmdingaoaaGreatDoor.Rd V 33 (.slice A l.length c) l.length (bB l))(HVm:∀ V,(∀ r ∈ L,r.ok V)->M.Rd V)(HVp:∀ V,(∀ r ∈ L,r.ok V)->Go.Proofs.YtmkfopmdingaoaaGreatDoor.Rd V 32 (.slice Ap pf.length cp) pf.length (dA pf)):
 Calls prog 18 #[Pq g 0,.agg (bD z h (.slice A l.length c)),.slice Ap pf.length cp] w fun r w'=>∃ cd,r=.returned (.int .i64 cd) ∧
  ((nX M.fd z h l M.nm M.sec ≠ 0 ∧ cd=nX M.fd z h l M.nm M.sec ∧ Held w0 w' (aB g 85 M.cells :: L)) ∨
   (nX M.fd z h l M.nm M.sec=0 ∧ ∃ k:Nat,z=k ∧ k<=M.hl.length ∧ WiP w0 L g M k h l cd w') ∨
   (nX M.fd z h l M.nm M.sec=0 ∧ (M.hl.length:Int) < z ∧ cd=((eL (M.hl.length:Int) z (bJ M.hl) h pf:Nat):Int) ∧ Held w0 w' (aB g 85 M.cells :: L))):=by
 obtain ⟨Ae,ce,hMe⟩:=hM.e;have hcs:M.cells[141]?=some (.bool true):=pC hM.la hM.fk;refine aR func18 rfl 39 rfl (fun a0 hsz hdf hAr=>?_);have hz0:a0.tmps.size=39:=hsz;have D:=hdf;have o0:=hAr 0 _ rfl;have o1:=hAr 1 _ rfl;have o2:=hAr 2 _ rfl;refine wp_seq (aP1 w0 _ (aN hh) (cT rfl) _ S hz0 o1 (fun a1 w1 hs1 o6 h1=>?_));obtain ⟨hz1,D,o0,o2⟩:=dU hs1 hz0 D o0 o2;obtain ⟨g4,o4,S1⟩:=h1;have hokL:∀ V,Held w0 V (aB g4 28 (bD z h (.slice A l.length c)) :: aB g 85 M.cells :: L)->∀ r ∈ L,r.ok V:=fun V SV r hr=>SV.ok r (List.mem_cons_of_mem _ (List.mem_cons_of_mem _ hr))
 refine wp_seq (wp_seq (aRv _ g4 _ (aN hh) (S1.at_ (l1:=[])) _ (tF z hz h hh A c l hok hll M.nm hM.nm M.Ak M.ck M.sec g M.cells M.fd w1 (LD0.kp S1.k) (S1.at_ (l1:=[_])) aAf aAi (oQ hM.la hM.fk) hcs (HVn w1 (hokL w1 S1)) (HVm w1 (hokL w1 S1)).1) hz1 o0 o4 (fun a2 w2 hs2 o7 k2=>?_)));obtain ⟨hz2,D,o0,o2,o4⟩:=dF hs2 hz1 D o0 o2 o4;have S2:=S1.kp k2;refine wp_seq (aQi _ hz2 o7 (fun a3 hs3 o12=>?_));obtain ⟨hz3,D,o0,o2,o4,o7⟩:=fH hs3 hz2 D o0 o2 o4 o7
 by_cases hm:nX M.fd z h l M.nm M.sec=0
 . rw [hm] at o12;refine dD o12 (wp_skip ?_);simp only [Exit.then];obtain ⟨hfd,hz0⟩:=vK hm;obtain ⟨k,rfl⟩:∃ k:Nat,z=k:=⟨z.toNat,by omega⟩;have HS:∀ V,Kp [] w2 V->Calls prog 17 #[Pq g 0] V fun e w'=>e=.returned (Nq (M.hl.length)) ∧ Kp [] V w':=fun V kV=>kG g M.cells Ae M.hl.length ce V ((S2.kp kV).at_ (l1:=[_])) hcs (by rw [<- hMe];exact pL)
   refine wp_seq (wp_seq (aZi g g4 M.hl.length _ (k:Int) (S2.at_ (l1:=[])) kF HS hz3 o0 o4 (fun a4 w4 hs4 k4 o19=>?_)));obtain ⟨hz4,D,o0,o2,o4⟩:=dF hs4 hz3 D o0 o2 o4;have S4:=(S2.kp ((Kp.refl [] _).drew)).kp k4
   by_cases hkn:k<=M.hl.length
   . refine cS o19 ?_ (by rw [decide_eq_true (by omega)]);refine wp_seq (aZ6 g g4 _ (aN hh) (S4.at_ (l1:=[])) (fun cd W=>WiP w0 L g M k h l cd W) (tC w0 L g M hM hfd k hkn h hh A c l hok hll w4 S4.drop HVn HVm) hz4 o0 o4 (fun a5 w5 hs5 h5=>?_));obtain ⟨hz5,D,o0,o4⟩:=dU hs5 hz4 D o0 o4;obtain ⟨cd,o6,hW⟩:=h5;refine wp_ret ?_;simp only [Exit.then];exact bodyPost_ret (bA (by rfl) (o6.eval (by rw [hz5];decide))) D ⟨cd,rfl,.inr (.inl ⟨hm,k,rfl,hkn,hW⟩)⟩
   . refine dD o19 (wp_skip ?_) (by rw [decide_eq_false (by omega)]);simp only [Exit.then];refine wp_seq (aV7 g g4 M.hl.length (k:Int) h hh _ M.cells M.Ah M.hl.length M.ch (bJ M.hl) Ap pf.length cp _ (S4.at_ (l1:=[])) kF (S4.at_ (l1:=[_])) uR (fun V kV=>kG g M.cells Ae M.hl.length ce V ((S4.kp kV).at_ (l1:=[_])) hcs (by rw [<- hMe];exact pL)) (fun V kV=>rS M.Ah M.ch M.hl hM.hs V (HVm V (hokL V (S4.kp kV))).2) (fun V kV=>tZ (M.hl.length:Int) (k:Int) (by omega) (bJ M.hl) h (bS hM.hs) hh Ap cp pf hpf V (HVp V (hokL V (S4.kp kV)))) hz4 o0 o2 o4 (fun a5 w6 hs5 k6 o6=>?_));obtain ⟨hz5,D⟩:=dS hs5 hz4 D;have S6:=(S4.kp ((Kp.refl [] _).drew)).kp k6;refine wp_ret ?_;exact bodyPost_ret (bA (by rfl) (o6.eval (by rw [hz5];decide))) D ⟨_,rfl,.inr (.inr ⟨hm,by omega,rfl,S6.drop⟩)⟩
 . have hq:(nX M.fd z h l M.nm M.sec != 0)=true:=by rw [bne_iff_ne];exact hm
   refine cS o12 ?_ (by rw [hq]);refine wp_seq (bA7 _ hz3 o7 (fun a4 hs4 o6=>?_));obtain ⟨hz4,D⟩:=dS hs4 hz3 D;refine wp_ret ?_;simp only [Exit.then];exact bodyPost_ret (bA (by rfl) (o6.eval (by rw [hz4];decide))) D ⟨_,rfl,.inl ⟨hm,rfl,S2.drop⟩⟩
end
section
open Go.RowKit Go.Shelf
attribute [local go_sem] Oper.semAt_some
structure FkD where
 z1:Int
 h1:List UInt8
 l1:List bF
 z2:Int
 h2:List UInt8
 l2:List bF
 r:List UInt8
 pf:List (List UInt8)
def FkD.cells (f:FkD) (s1 s2 p:Value):Array Value:=(rV (bD f.z1 f.h1 s1).toList (bD f.z2 f.h2 s2).toList (aA f.r).toList p).toArray
structure FkD.Ok (f:FkD):Prop where
 h1:f.h1.length=32
 h2:f.h2.length=32
 r:f.r.length=32
 l1:dI f.l1
 l2:dI f.l2
 n1:f.l1.length<=1000000
 n2:f.l2.length<=1000000
 pf:dP f.pf
 np:f.pf.length<=1000000
section
variable {f:FkD} {s1 s2 p:Value}
theorem FkD.size(h:f.Ok):(f.cells s1 s2 p).size=101:=by
 simp [FkD.cells,rV,aN h.h1,aN h.h2,aC,h.r]
theorem FkD.n1(h:f.Ok){j:Nat}{u:Value}(hj:(bD f.z1 f.h1 s1).toList[j]?=some u):(f.cells s1 s2 p)[j]?=some u:=by
 have hl:=(List.getElem?_eq_some_iff.1 hj).1;simp only [FkD.cells,rV,List.getElem?_toArray];rw [List.getElem?_append_left hl];exact hj
theorem FkD.n2(h:f.Ok){j:Nat}{u:Value}(hj:(bD f.z2 f.h2 s2).toList[j]?=some u):(f.cells s1 s2 p)[j+34]?=some u:=by
 have hl:=(List.getElem?_eq_some_iff.1 hj).1;have l1:(bD f.z1 f.h1 s1).toList.length=34:=by rw [Array.length_toList,aN h.h1]
 simp only [FkD.cells,rV,List.getElem?_toArray];rw [List.getElem?_append_right (by omega),l1,Nat.add_sub_cancel,List.getElem?_append_left hl];exact hj
theorem FkD.rt(h:f.Ok){j:Nat}{u:Value}(hj:(aA f.r).toList[j]?=some u):(f.cells s1 s2 p)[j+68]?=some u:=by
 have hl:=(List.getElem?_eq_some_iff.1 hj).1;have l1:(bD f.z1 f.h1 s1).toList.length=34:=by rw [Array.length_toList,aN h.h1]
 have l2:(bD f.z2 f.h2 s2).toList.length=34:=by rw [Array.length_toList,aN h.h2]
 simp only [FkD.cells,rV,List.getElem?_toArray];rw [List.getElem?_append_right (by omega),List.getElem?_append_right (by omega),l1,l2,show j+68 - 34 - 34=j by omega,List.getElem?_append_left hl];exact hj
theorem FkD.pr(h:f.Ok):(f.cells s1 s2 p)[100]?=some p:=by
 have l1:(bD f.z1 f.h1 s1).toList.length=34:=by rw [Array.length_toList,aN h.h1]
 have l2:(bD f.z2 f.h2 s2).toList.length=34:=by rw [Array.length_toList,aN h.h2]
 have l3:(aA f.r).toList.length=32:=by rw [Array.length_toList,aC,h.r]
 simp only [FkD.cells,rV,List.getElem?_toArray];rw [List.getElem?_append_right (by omega),List.getElem?_append_right (by omega),List.getElem?_append_right (by omega),l1,l2,l3]
 rfl
end
theorem FkD.one(f:FkD)(A1 A2 Ap:Option Addr)(n1 n2 np c1 c2 cp:Nat):∀ u,u ∈ (f.cells (.slice A1 n1 c1) (.slice A2 n2 c2) (.slice Ap np cp)).toList->u.oneCell'=true:=by
 intro u hu;simp only [FkD.cells,rV,List.toList_toArray,List.mem_append,List.mem_singleton] at hu;rcases hu with hu|hu|hu|rfl
 . exact cT rfl u hu
 . exact cT rfl u hu
 . exact aI _ u hu
 . rfl
theorem aVt{Q:Exit->Act->World->Prop}{a:Act}{w:World}(w0:World)(cf:Array Value)(hcf:cf.size=101)(h1:∀ u,u ∈ cf.toList->u.oneCell'=true)(L:List Res)(S:Held w0 w L)(hsz:a.tmps.size=15)(o0:Sl a 0 (.agg cf)):bC false 0 f51 Q a w fun a' W q'=>(∃ g1 g2,Sl a' 1 (Pq g1 0) ∧ Sl a' 2 (Pq g2 0) ∧ Held w0 W (aB g2 31 eJ.toArray :: aB g1 31 cf :: L))->q':=by
 refine bU fun hend=>?_;unfold Sl at o0;have S1:=LH ((S.newBlk 31 cf).newBlkN 31 eJ.toArray (g:=w.heap.size+1) (by simp));have hcf:=LH hcf;have h1:=LH h1;go_wp2
 try simp only [Act.put]
 exact hend _ _ tS (⟨w.heap.size,w.heap.size+1,cH,cH,S1.out⟩)
theorem aVn{Q:Exit->Act->World->Prop}{a:Act}{w:World}(w0:World)(g1 g2:Nat)(f:FkD)(hf:f.Ok)(A1 A2 Ap:Option Addr)(c1 c2 cp:Nat)(zf:Array Value)(hzf:zf.size=101)(L:List Res)(HV1:∀ V,(∀ r ∈ L,r.ok V)->Rd V 33 (.slice A1 f.l1.length c1) f.l1.length (bB f.l1))(HV2:∀ V,(∀ r ∈ L,r.ok V)->Rd V 33 (.slice A2 f.l2.length c2) f.l2.length (bB f.l2))(HVp:∀ V,(∀ r ∈ L,r.ok V)->Rd V 32 (.slice Ap f.pf.length cp) f.pf.length (dA f.pf))(hsz:a.tmps.size=15)(o1:Sl a 1 (Pq g1 0))(o2:Sl a 2 (Pq g2 0))
 (S0:Held w0 w (aB g1 31 (f.cells (.slice A1 f.l1.length c1) (.slice A2 f.l2.length c2) (.slice Ap f.pf.length cp)) :: aB g2 31 zf :: L))
 (hend:∀ (a':Act) (vs:Nat->Value) (gs:Nat->Value × Value) (W:World),Same a a' [3,4,5,6,7,8,9,10,11,12,13,14]->Held w0 W (aG 89 33 (gs 2).1 f.l1.length (bB f.l1) :: aG 89 33 (gs 5).1 f.l2.length (bB f.l2) :: aG 23 32 (gs 10).1 f.pf.length (dA f.pf) :: aB g2 31 (f.cells (gs 2).1 (gs 5).1 (gs 10).1) :: aB g1 31 (f.cells (.slice A1 f.l1.length c1) (.slice A2 f.l2.length c2) (.slice Ap f.pf.length cp)) :: L)->Q .normal a' W):(Code.region 1 (aK 1 f51).toArray true).wp prog Q a w:=by
 have hap:=pa 1 f51
 refine aP (Γ:=Value × Value) (l:=(aK 1 f51)) 3 [0,1,2,3,4,5,6,7,8,9,10,11,12,13,15]
  (fun i vs gs=>match i with|0=>vs 0=Pq g1 0|1=>vs 1=.agg (bD f.z1 f.h1 (.slice A1 f.l1.length c1))|2=>vs 2=.agg (bD f.z1 f.h1 (gs 2).1)|3=>vs 3=Pq g1 34|4=>vs 4=.agg (bD f.z2 f.h2 (.slice A2 f.l2.length c2))|5=>vs 5=.agg (bD f.z2 f.h2 (gs 5).1)|6=>vs 6=Pq g1 68|7=>vs 7=.agg (aA f.r)|8=>vs 8=Pq g1 100|9=>vs 9=.slice Ap f.pf.length cp|10=>vs 10=(gs 10).1|11=>vs 11=.agg (f.cells (gs 2).1 (gs 5).1 (gs 10).1)|_=>True)
  (fun i vs gs=>match i with|2=>[aG 89 33 (gs 2).1 f.l1.length (bB f.l1)]|5=>[aG 89 33 (gs 5).1 f.l2.length (bB f.l2)]|10=>[aG 23 32 (gs 10).1 f.pf.length (dA f.pf)]|12=>[aB g2 31 (f.cells (gs 2).1 (gs 5).1 (gs 10).1)]|13=>[aB g1 31 (f.cells (.slice A1 f.l1.length c1) (.slice A2 f.l2.length c2) (.slice Ap f.pf.length cp))]|14=>[aB g2 31 zf]|15=>L|_=>[])
  (fun i=>match i with|12=>[14]|_=>[]) (fun i=>match i with|1=>[13]|2=>[15]|4=>[13]|5=>[15]|7=>[13]|9=>[13]|10=>[15]|11=>[2,5,10]|12=>[2,5,10]|_=>[]) S0 (by kernel_rfl) hap (by kernel_rfl) (by kernel_rfl) (fun i=>match i with|0=>[0]|1=>[1]|2=>[2]|3=>[3]|4=>[4]|5=>[5]|6=>[6]|7=>[7]|8=>[8]|9=>[9]|10=>[10]|11=>[2,5,10,11]|12=>[2,5,10]|_=>[]) (by kernel_rfl) ?_ (by kernel_rfl) ?_ ?_ ?_
 . exact lA
 . exact pA
 . clear S0 hend
   and_intros <;> try intro vs gs A' W LF hA S hR hd hu K hK
   . exact aJ (eO 1 o1)
   . exact dC (bD f.z1 f.h1 (.slice A1 f.l1.length c1)) (vD 3 0) (aM.sub (show aM W g1 31 (f.cells (.slice A1 f.l1.length c1) (.slice A2 f.l2.length c2) (.slice Ap f.pf.length cp)) from S.ok (aB g1 31 (f.cells (.slice A1 f.l1.length c1) (.slice A2 f.l2.length c2) (.slice Ap f.pf.length cp))) (hR 13 (by simp) _ (List.mem_singleton.2 rfl))) (fun _ _=>FkD.n1 hf)) underlying28 (by rw [aN hf.h1];exact bBz)
   . have e4:=vD 4 1;clear hA o1 o2;go_step;refine (kL w0 _ f.z1 f.h1 hf.h1 A1 c1 f.l1 hf.l1 hf.n1 W S (fun V SV=>HV1 V (fun r hr=>SV.ok r (hR 15 (by simp) r hr)))).mono ?_;rintro e w' ⟨v,rfl,S2⟩;exact hK (v,v) _ w' S2 rfl
   . exact aJ (eO 1 o1)
   . exact dC (bD f.z2 f.h2 (.slice A2 f.l2.length c2)) (vD 6 3) (aM.sub (show aM W g1 31 (f.cells (.slice A1 f.l1.length c1) (.slice A2 f.l2.length c2) (.slice Ap f.pf.length cp)) from S.ok (aB g1 31 (f.cells (.slice A1 f.l1.length c1) (.slice A2 f.l2.length c2) (.slice Ap f.pf.length cp))) (hR 13 (by simp) _ (List.mem_singleton.2 rfl))) (fun _ _=>FkD.n2 hf)) underlying28 (by rw [aN hf.h2];exact bBz)
   . have e7:=vD 7 4;clear hA o1 o2;go_step;refine (kL w0 _ f.z2 f.h2 hf.h2 A2 c2 f.l2 hf.l2 hf.n2 W S (fun V SV=>HV2 V (fun r hr=>SV.ok r (hR 15 (by simp) r hr)))).mono ?_;rintro e w' ⟨v,rfl,S2⟩;exact hK (v,v) _ w' S2 rfl
   . exact aJ (eO 1 o1)
   . exact dC (aA f.r) (vD 9 6) (aM.sub (show aM W g1 31 (f.cells (.slice A1 f.l1.length c1) (.slice A2 f.l2.length c2) (.slice Ap f.pf.length cp)) from S.ok (aB g1 31 (f.cells (.slice A1 f.l1.length c1) (.slice A2 f.l2.length c2) (.slice Ap f.pf.length cp))) (hR 13 (by simp) _ (List.mem_singleton.2 rfl))) (fun _ _=>FkD.rt hf)) underlying23 (by rw [aC,hf.r];exact bBy)
   . exact aJ (eO 1 o1)
   . have c0:W.cell? ⟨g1,100,none⟩=some (.slice Ap f.pf.length cp):=by rw [(show aM W g1 31 (f.cells (.slice A1 f.l1.length c1) (.slice A2 f.l2.length c2) (.slice Ap f.pf.length cp)) from S.ok (aB g1 31 (f.cells (.slice A1 f.l1.length c1) (.slice A2 f.l2.length c2) (.slice Ap f.pf.length cp))) (hR 13 (by simp) _ (List.mem_singleton.2 rfl))).cell];exact FkD.pr hf
     exact aJ (vD 11 8)
   . have e12:=vD 12 9;clear hA o1 o2;go_step;refine (qP w0 _ Ap cp f.pf hf.np W S (fun V SV=>HVp V (fun r hr=>SV.ok r (hR 15 (by simp) r hr)))).mono ?_;rintro e w' ⟨v,rfl,S2⟩;exact hK (v,v) _ w' S2 rfl
   . replace hK:=hK default;have e5:=vD 5 2;have e8:=vD 8 5;have e10:=vD 10 7;have e13:=vD 13 10;clear hA o1 o2;obtain ⟨xA,xc,xv,-,-⟩:=aS (show Ow W 89 33 (gs 2).1 f.l1.length (bB f.l1) from S.ok (aG 89 33 (gs 2).1 f.l1.length (bB f.l1)) (hR 2 (by simp) _ (List.mem_singleton.2 rfl)));obtain ⟨yA,yc,yv,-,-⟩:=aS (show Ow W 89 33 (gs 5).1 f.l2.length (bB f.l2) from S.ok (aG 89 33 (gs 5).1 f.l2.length (bB f.l2)) (hR 5 (by simp) _ (List.mem_singleton.2 rfl)));obtain ⟨pA,pc,pv,-,-⟩:=aS (show Ow W 23 32 (gs 10).1 f.pf.length (dA f.pf) from S.ok (aG 23 32 (gs 10).1 f.pf.length (dA f.pf)) (hR 10 (by simp) _ (List.mem_singleton.2 rfl)));rw [xv] at e5;rw [yv] at e8;rw [pv] at e13;refine gG 31 _ rfl [(0,.agg (bD f.z1 f.h1 (.slice xA f.l1.length xc))),(1,.agg (bD f.z2 f.h2 (.slice yA f.l2.length yc))),(2,.agg (aA f.r)),(3,.slice pA f.pf.length pc)] (by simp [Act.eval,e5,e8,e10,e13]) _ (bCi _ _ _ (aN hf.h1) (aN hf.h2) (by rw [aC,hf.r]) pA f.pf.length pc) ?_;exact hK _ _ S (show Value.agg (f.cells (.slice xA f.l1.length xc) (.slice yA f.l2.length yc) (.slice pA f.pf.length pc))=.agg (f.cells (gs 2).1 (gs 5).1 (gs 10).1) by rw [xv,yv,pv])
   . replace hK:=hK default;have e2:=eO 2 o2;have e14:=vD 14 11;clear hA o1 o2;obtain ⟨xA,xc,xv,-,-⟩:=aS (show Ow W 89 33 (gs 2).1 f.l1.length (bB f.l1) from S.ok (aG 89 33 (gs 2).1 f.l1.length (bB f.l1)) (List.mem_cons_of_mem _ (hR 2 (by simp) _ (List.mem_singleton.2 rfl))));obtain ⟨yA,yc,yv,-,-⟩:=aS (show Ow W 89 33 (gs 5).1 f.l2.length (bB f.l2) from S.ok (aG 89 33 (gs 5).1 f.l2.length (bB f.l2)) (List.mem_cons_of_mem _ (hR 5 (by simp) _ (List.mem_singleton.2 rfl))));obtain ⟨pA,pc,pv,-,-⟩:=aS (show Ow W 23 32 (gs 10).1 f.pf.length (dA f.pf) from S.ok (aG 23 32 (gs 10).1 f.pf.length (dA f.pf)) (List.mem_cons_of_mem _ (hR 10 (by simp) _ (List.mem_singleton.2 rfl))));have S1:Held w0 W (aB g2 31 zf :: LF):=S;refine aZ (.tmp 2) (.tmp 14) 31 rfl g2 (by simpa [Act.eval] using e2) (f.cells (gs 2).1 (gs 5).1 (gs 10).1) (by simpa [Act.eval] using e14) 31 zf S1 (by rw [FkD.size hf];exact bC3) (by rw [FkD.size hf,hzf]) (by rw [xv,yv,pv];exact FkD.one f _ _ _ _ _ _ _ _ _) ?_;intro w' S2;exact hK _ _ S2 trivial
   . trivial
 . intro vs gs W S hp;have S:Held w0 W (aG 89 33 (gs 2).1 f.l1.length (bB f.l1) :: aG 89 33 (gs 5).1 f.l2.length (bB f.l2) :: aG 23 32 (gs 10).1 f.pf.length (dA f.pf) :: aB g2 31 (f.cells (gs 2).1 (gs 5).1 (gs 10).1) :: aB g1 31 (f.cells (.slice A1 f.l1.length c1) (.slice A2 f.l2.length c2) (.slice Ap f.pf.length cp)) :: L):=by simpa only [List.flatMap_cons,List.flatMap_nil,List.append_nil,List.nil_append,List.cons_append,List.append_assoc] using S
   rw [aF];exact hend _ vs gs W sQ  S
theorem aEe(w0:World)(L:List Res)(f:FkD)(hf:f.Ok)(A1 A2 Ap:Option Addr)(c1 c2 cp:Nat)(w:World)(S:Held w0 w L)(HV1:∀ V,(∀ r ∈ L,r.ok V)->Rd V 33 (.slice A1 f.l1.length c1) f.l1.length (bB f.l1))(HV2:∀ V,(∀ r ∈ L,r.ok V)->Rd V 33 (.slice A2 f.l2.length c2) f.l2.length (bB f.l2))(HVp:∀ V,(∀ r ∈ L,r.ok V)->Rd V 32 (.slice Ap f.pf.length cp) f.pf.length (dA f.pf)):
 Calls prog 51 #[.agg (f.cells (.slice A1 f.l1.length c1) (.slice A2 f.l2.length c2) (.slice Ap f.pf.length cp))] w fun e w'=>∃ s1 s2 p,e=.returned (.agg (f.cells s1 s2 p)) ∧ Held w0 w' (aG 89 33 s1 f.l1.length (bB f.l1) :: aG 89 33 s2 f.l2.length (bB f.l2) :: aG 23 32 p f.pf.length (dA f.pf) :: L):=by
 refine aR func51 rfl 15 rfl (fun a0 hsz hdf hAr=>?_);have hz0:a0.tmps.size=15:=hsz;have D:=hdf;have o0:=hAr 0 _ rfl;refine wp_seq (aVt w0 _ (FkD.size hf) (FkD.one f _ _ _ _ _ _ _ _ _) L S hz0 o0 (fun a1 w1 hs1 h1=>?_));obtain ⟨hz1,D⟩:=dS hs1 hz0 D;obtain ⟨g1,g2,o1,o2,S⟩:=h1;refine wp_seq (aVn w0 g1 g2 f hf A1 A2 Ap c1 c2 cp _ rfl L HV1 HV2 HVp hz1 o1 o2 (S.pull 1 rfl) (fun a2 vs gs w2 hs2 S2=>?_));obtain ⟨hz2,D,o2⟩:=eY hs2 hz1 D o2;refine wp_ret ?_;exact bodyPost_ret (aV (by rfl) (o2.eval (by rw [hz2];decide)) (S2.at_ (l1:=[_,_,_])) underlying31 rfl (by rw [FkD.size hf];exact bC3)) D ⟨_,_,_,rfl,S2.sub (.cons_cons _ (.cons_cons _ (.cons_cons _ (.cons _ (.cons _ (List.Sublist.refl _))))))⟩
end
section
variable {Q:Exit->Act->World->Prop} {a:Act} {w:World}
open Go.RowKit Go.Shelf
attribute [local go_sem] Oper.semAt_some
theorem aYp(w0:World)(L:List Res)(S:Held w0 w L)(hsz:a.tmps.size=21):bC false 0 f21 Q a w fun a' W q'=>Sl a' 3 (.bool false)->(∃ g2,Sl a' 2 (Pq g2 0) ∧ Held w0 W (aB g2 31 eJ.toArray :: L))->q':=by
 refine bU fun hend=>?_;have S1:=LH (S.newBlk 31 eJ.toArray);go_wp2
 try simp only [Act.put]
 exact hend _ _ tS sP (⟨w.heap.size,cH,S1.out⟩)
theorem aMp(g:Nat)(cs:Array Value)(fd:Bool)(hb:aM w g 85 cs)(h9:cs[140]?=some (.bool fd))(HC0:∀ V,Kp [] w V->Calls prog 50 #[Pq g 0] V fun e w'=>e=.returned (.bool false) ∧ Kp [] V w')(hsz:a.tmps.size=21)(o0:Sl a 0 (Pq g 0)):bC false 1 f21 Q a w fun a' W q'=>Kp [] w W->Sl a' 13 (.bool (!fd))->q':=by
 intro hend;have hap:=pa 1 f21;refine aH (l:=(aK 1 f21)) (fun i v W=>match i with|0=>v=Pq g 0|1=>v=.bool false|2=>v=.bool false|3=>v=Pq g 0|4=>v=Pq g 0|5=>v=Pq g 0|6=>v=Pq g 140|7=>v=.bool fd|8=>v=.bool (!fd)|9=>v=.bool (!fd)|_=>True) hap ?_ ?_ ?_
 . exact fun _ _ _ _ h _=>h
 . and_intros <;> try (intro vs A' W hA hW hd hu K hK;try (refine aL _ rfl rfl ?_;conv=>arg 2;whnf))
   . exact aJ (eO 0 o0)
   . have e4:=vD 4 0;clear hA hd hu o0;go_step;refine (HC0 W hW).mono ?_;rintro e w' ⟨rfl,k1⟩;exact hK _ w' k1 rfl
   . exact aJ (vD 5 1)
   . exact cC (eO 0 o0)
   . exact cC (vD 7 3)
   . exact cC (vD 8 4)
   . exact cC (vD 9 5)
   . refine qH ?_;(conv=>arg 2;whnf);have c0:W.cell? ⟨g,140,none⟩=some (.bool fd):=by rw [(hb.k0 hW).cell];exact h9
     exact aJ (vD 10 6)
   . exact cC (vD 11 7)
   . exact cM (vD 6 2) (vD 12 8)
   . trivial
 . intro vs W hW hp;rw [aF];exact hend _ W sQ hW (sW (hp 9 sB))
theorem aSz(w0:World)(g g2:Nat)(cs cf:Array Value)(hcf:cf.size=101)(hcs:∀ j u,cf.toList[j]?=some u->cs[j+39]?=some u)(hb:aM w g 85 cs)(R:Array Value->List Res->Prop)(hR:∀ c L',R c L'->c.size=101 ∧ ∀ u,u ∈ c.toList->u.oneCell'=true)(L:List Res)(HC0:Calls prog 51 #[.agg cf] w fun e w'=>∃ c L',e=.returned (.agg c) ∧ R c L' ∧ Held w0 w' (aB g2 31 eJ.toArray :: L'))(hsz:a.tmps.size=21)(o0:Sl a 0 (Pq g 0))(o2:Sl a 2 (Pq g2 0)):bC false 3 f21 Q a w fun a' W q'=>Sl a' 3 (.bool true)->(∃ c L',R c L' ∧ Held w0 W (aB g2 31 c :: L'))->q':=by
 refine bU fun hend=>?_;unfold Sl at o0 o2;have HC:=LH HC0;clear HC0;have hcf:=LH hcf;have HL:Hid (∀ j u,cf.toList[j]?=some u->w.cell? ((⟨g,39,none⟩:Addr).add j)=some u):=LH (fun j u hj=>by rw [Addr.add_lit,Nat.add_comm 39 j,hb.cell];exact hcs j u hj);clear hb hcs;have hzz:Hid (eJ.toArray.size=101):=LH rfl;obtain ⟨cz,Ecz⟩:∃ cz,Hid (eJ.toArray=cz):=⟨_,LH rfl⟩;rw [Ecz.out] at HC hzz;go_wp2_with (refine bW rfl 31 (.tmp 18) rfl ⟨g,39,none⟩ aE cf.toList _ HL.out underlying31 rfl (by rw [Array.length_toList,hcf.out];exact bC3) ?_)
 refine HC.out.mono ?_;rintro e w1 ⟨c,L',rfl,hr,S1⟩;have S1:=LH S1;have hr:=LH hr;have hcz:=LH (hR c L' hr.out).1;have hc1:=LH (hR c L' hr.out).2;go_wp2_with (refine aD rfl 31 (.tmp 2) (.tmp 20) rfl g2 (aO o2) c aE 31 _ (S1.out.at_ (l1:=[])) (by rw [hcz.out];exact bC3) (by rw [hcz.out,hzz.out]) hc1.out ?_;intro w7 b7 k7;have S7:=LH (Held.setBlk (l1:=[]) S1.out b7 k7);clear b7 k7)
 try simp only [Act.put]
 exact hend _ _ tS sP (⟨c,L',hr.out,S7.out⟩)
end
section
open Go.RowKit Go.Shelf
theorem aB1(w0:World)(L:List Res)(g:Nat)(M:MirD)(hM:M.Ok)(hfd:M.fd=true)(f:FkD)(hf:f.Ok)(A1 A2 Ap:Option Addr)(c1 c2 cp:Nat)(hfk:M.fk=(f.cells (.slice A1 f.l1.length c1) (.slice A2 f.l2.length c2) (.slice Ap f.pf.length cp)).toList)(w:World)(S:Held w0 w (aB g 85 M.cells :: L))(HV1:∀ V,(∀ r ∈ L,r.ok V)->Rd V 33 (.slice A1 f.l1.length c1) f.l1.length (bB f.l1))(HV2:∀ V,(∀ r ∈ L,r.ok V)->Rd V 33 (.slice A2 f.l2.length c2) f.l2.length (bB f.l2))(HVp:∀ V,(∀ r ∈ L,r.ok V)->Rd V 32 (.slice Ap f.pf.length cp) f.pf.length (dA f.pf)):
 Calls prog 21 #[Pq g 0] w fun e w'=>∃ s1 s2 p,e=.returned (.tuple #[.agg (f.cells s1 s2 p),.bool true]) ∧ Held w0 w' (aG 89 33 s1 f.l1.length (bB f.l1) :: aG 89 33 s2 f.l2.length (bB f.l2) :: aG 23 32 p f.pf.length (dA f.pf) :: aB g 85 M.cells :: L):=by
 refine aR func21 rfl 21 rfl (fun a0 hsz hdf hAr=>?_);have hz0:a0.tmps.size=21:=hsz;have D:=hdf;have o0:=hAr 0 _ rfl;refine wp_seq (aYp w0 _ S hz0 (fun a1 w1 hs1 o3 h1=>?_));obtain ⟨hz1,D,o0⟩:=eY hs1 hz0 D o0;obtain ⟨g2,o2,S1⟩:=h1;refine wp_seq (wp_seq (aMp g M.cells true (S1.at_ (l1:=[_])) (by rw [<- hfd];exact oQ hM.la hM.fk) (fun V kV=>pO _ true V (.inr ⟨g,M.cells,rfl,(S1.kp kV).at_ (l1:=[_]),pC hM.la hM.fk⟩)) hz1 o0 (fun a2 w2 hs2 k2 o13=>?_)));obtain ⟨hz2,D,o0,o2⟩:=dU hs2 hz1 D o0 o2;have S2:=S1.kp k2;refine dD o13 (wp_skip ?_);simp only [Exit.then]
 have HC:=(aEe w0 _ f hf A1 A2 Ap c1 c2 cp w2 S2 (fun V hV=>HV1 V (fun r hr=>hV r (List.mem_cons_of_mem _ (List.mem_cons_of_mem _ hr)))) (fun V hV=>HV2 V (fun r hr=>hV r (List.mem_cons_of_mem _ (List.mem_cons_of_mem _ hr)))) (fun V hV=>HVp V (fun r hr=>hV r (List.mem_cons_of_mem _ (List.mem_cons_of_mem _ hr))))).mono (R':=fun e w'=>∃ c L',e=.returned (.agg c) ∧ (∃ s1 s2 p,c=f.cells s1 s2 p ∧ c.size=101 ∧ (∀ u,u ∈ c.toList->u.oneCell'=true) ∧ L'=(aG 89 33 s1 f.l1.length (bB f.l1) :: aG 89 33 s2 f.l2.length (bB f.l2) :: aG 23 32 p f.pf.length (dA f.pf) :: aB g 85 M.cells :: L)) ∧ Held w0 w' (aB g2 31 eJ.toArray :: L')) (fun e w' h=>by
  obtain ⟨s1,s2,p,rfl,T⟩:=h;obtain ⟨a1,b1,rfl,-,-⟩:=aS (show Ow w' 89 33 s1 f.l1.length (bB f.l1) from T.at_ (l1:=[]));obtain ⟨a2,b2,rfl,-,-⟩:=aS (show Ow w' 89 33 s2 f.l2.length (bB f.l2) from T.at_ (l1:=[_]));obtain ⟨a3,b3,rfl,-,-⟩:=aS (show Ow w' 23 32 p f.pf.length (dA f.pf) from T.at_ (l1:=[_,_]));exact ⟨_,_,rfl,⟨_,_,_,rfl,FkD.size hf,FkD.one f _ _ _ _ _ _ _ _ _,rfl⟩,T.pull 3 rfl⟩)
 refine wp_seq (aSz w0 g g2 M.cells (f.cells (.slice A1 f.l1.length c1) (.slice A2 f.l2.length c2) (.slice Ap f.pf.length cp)) (FkD.size hf) (fun j u hj=>aJe hM.la hM.fk (by rw [hfk];exact hj)) (S2.at_ (l1:=[_])) _ (fun c L' h=>by obtain ⟨s1,s2,p,-,h1,h2,-⟩:=h;exact ⟨h1,h2⟩) [] HC hz2 o0 o2 (fun a3 w3 hs3 o3 h3=>?_));obtain ⟨hz3,D,o2⟩:=eY hs3 hz2 D o2;obtain ⟨c,L',⟨s1,s2,p,rfl,h1,-,rfl⟩,S3⟩:=h3;refine wp_ret ?_;exact bodyPost_ret (cG (by rfl) (o2.eval (by rw [hz3];decide)) (S3.at_ (l1:=[])) underlying31 rfl (by rw [h1];exact bC3)) D ⟨s1,s2,p,congrArg (fun x=>Ending.returned (.tuple #[.agg (f.cells s1 s2 p),x])) (o3.eval (by rw [hz3];decide)),S3.drop⟩
end
section
variable {Q:Exit->Act->World->Prop} {a:Act} {w:World}
open Go.RowKit Go.Shelf
attribute [local go_sem] Oper.semAt_some
theorem aRl(w0:World)(cf:Array Value)(hcf:cf.size=101)(h1:∀ u,u ∈ cf.toList->u.oneCell'=true)(s:ByteArray)(A:Option Addr)(n c:Nat)(L:List Res)(S:Held w0 w L)(hsz:a.tmps.size=59)(o0:Sl a 0 (.agg cf))(o1:Sl a 1 (.agg #[.string s,.slice A n c])):bC false 0 f9 Q a w fun a' W q'=>Sl a' 4 (.int .i64 (0:Int))->(∃ g2 g3,Sl a' 2 (Pq g2 0) ∧ Sl a' 3 (Pq g3 0) ∧ Held w0 W (aB g3 34 #[.string s,.slice A n c] :: aB g2 31 cf :: L))->q':=by
 refine bU fun hend=>?_;unfold Sl at o0 o1;have S1:=LH ((S.newBlk 31 cf).newBlkN 34 #[.string s,.slice A n c] (g:=w.heap.size+1) (by simp));have hcf:=LH hcf;have h1:=LH h1;go_wp2
 try simp only [Act.put]
 exact hend _ _ tS sP (⟨w.heap.size,w.heap.size+1,cH,cH,S1.out⟩)
theorem aMl(f:FkD)(hf:f.Ok)(s1 s2 pv:Value)(g2:Nat)(hb:aM w g2 31 (f.cells s1 s2 pv))(s:ByteArray)(A:Option Addr)(n c:Nat)(g3:Nat)(hb3:aM w g3 34 #[.string s,.slice A n c])(HC0:∀ V,Kp [] w V->Calls prog 30 #[.agg #[.string s,.slice A n c]] V fun e w'=>e=.returned (.bool false) ∧ Kp [] V w')(hsz:a.tmps.size=59)(o2:Sl a 2 (Pq g2 0))(o3:Sl a 3 (Pq g3 0)):bC false 1 f9 Q a w fun a' W q'=>Kp [] w W->Sl a' 21 (.bool true)->q':=by
 intro hend;have hap:=pa 1 f9;refine aH (l:=(aK 1 f9)) (fun i v W=>match i with|0=>v=.agg #[.string s,.slice A n c]|1=>v=.bool false|2=>v=.bool true|3=>v=.bool true|8=>v=.bool true|9=>v=.bool true|14=>v=.bool true|_=>True) hap ?_ ?_ ?_
 . exact fun _ _ _ _ h _=>h
 . and_intros <;> try (intro vs A' W hA hW hd hu K hK;try (refine aL _ rfl rfl ?_;conv=>arg 2;whnf))
   . obtain ⟨q1,q2,q3,q4⟩:=aM.c2 (hb3.k0 hW);exact aJ (eO 3 o3)
   . have e7:=vD 7 0;clear hA hd hu o2 o3;go_step;refine (HC0 W hW).mono ?_;rintro e w' ⟨rfl,k1⟩;exact hK _ w' k1 rfl
   . exact aJ (vD 8 1)
   . exact aJ (vD 9 2)
   . exact sk
   . exact sk
   . exact sk
   . exact sk
   . exact cM (vD 10 3) (eU 14 7)
   . exact aJ (vD 15 8)
   . exact sk
   . exact sk
   . exact sk
   . exact sk
   . exact cM (vD 16 9) (eU 20 13)
   . trivial
 . intro vs W hW hp;rw [aF];exact hend _ W sQ hW (sW (hp 14 sB))
theorem aIz(f:FkD)(hf:f.Ok)(s1 s2 pv:Value)(g2:Nat)(hb:aM w g2 31 (f.cells s1 s2 pv))(s:ByteArray)(A:Option Addr)(n c:Nat)(g3:Nat)(hb3:aM w g3 34 #[.string s,.slice A n c])(HC0:∀ V,Kp [] w V->Calls prog 30 #[.agg #[.string s,.slice A n c]] V fun e w'=>e=.returned (.bool true) ∧ Kp [] V w')(c1:Int)(HC1:∀ V,Kp [] w V->Calls prog 31 #[.agg (bD f.z1 f.h1 s1)] V fun e w'=>e=.returned (.int .i64 c1) ∧ Kp [] V w')(hc1:(c1 != 0)=true)(hsz:a.tmps.size=59)(o2:Sl a 2 (Pq g2 0))(o3:Sl a 3 (Pq g3 0)):bC false 1 f9 Q a w fun a' W q'=>Kp [] w W->Sl a' 21 (.bool true)->q':=by
 intro hend;have hap:=pa 1 f9;refine aH (l:=(aK 1 f9)) (fun i v W=>match i with|0=>v=.agg #[.string s,.slice A n c]|1=>v=.bool true|2=>v=.bool false|3=>v=.bool false|4=>v=Pq g2 0|5=>v=.agg (bD f.z1 f.h1 s1)|6=>v=.int .i64 c1|7=>v=.bool true|8=>v=.bool true|9=>v=.bool true|14=>v=.bool true|_=>True) hap ?_ ?_ ?_
 . exact fun _ _ _ _ h _=>h
 . and_intros <;> try (intro vs A' W hA hW hd hu K hK;try (refine aL _ rfl rfl ?_;conv=>arg 2;whnf))
   . obtain ⟨q1,q2,q3,q4⟩:=aM.c2 (hb3.k0 hW);exact aJ (eO 3 o3)
   . have e7:=vD 7 0;clear hA hd hu o2 o3;go_step;refine (HC0 W hW).mono ?_;rintro e w' ⟨rfl,k1⟩;exact hK _ w' k1 rfl
   . exact aJ (vD 8 1)
   . exact aJ (vD 9 2)
   . exact cC (eO 2 o2)
   . refine qH ?_;(conv=>arg 2;whnf);exact dC (bD f.z1 f.h1 s1) (vD 11 4) (aM.sub (hb.k0 hW) (fun _ _=>FkD.n1 hf)) underlying28 (by rw [aN hf.h1];exact bBz)
   . refine qH ?_;(conv=>arg 2;whnf);have e12:=vD 12 5;clear hA hd hu o2 o3;go_step;refine (HC1 W hW).mono ?_;rintro e w' ⟨rfl,k1⟩;exact hK _ w' k1 rfl
   . exact cC (vD 13 6)
   . exact cM (vD 10 3) (vD 14 7)
   . exact aJ (vD 15 8)
   . exact sk
   . exact sk
   . exact sk
   . exact sk
   . exact cM (vD 16 9) (eU 20 13)
   . trivial
 . intro vs W hW hp;rw [aF];exact hend _ W sQ hW (sW (hp 14 sB))
theorem aJn(f:FkD)(hf:f.Ok)(s1 s2 pv:Value)(g2:Nat)(hb:aM w g2 31 (f.cells s1 s2 pv))(s:ByteArray)(A:Option Addr)(n c:Nat)(g3:Nat)(hb3:aM w g3 34 #[.string s,.slice A n c])(HC0:∀ V,Kp [] w V->Calls prog 30 #[.agg #[.string s,.slice A n c]] V fun e w'=>e=.returned (.bool true) ∧ Kp [] V w')(c1:Int)(HC1:∀ V,Kp [] w V->Calls prog 31 #[.agg (bD f.z1 f.h1 s1)] V fun e w'=>e=.returned (.int .i64 c1) ∧ Kp [] V w')(hc1:(c1 != 0)=false)(c2:Int)(HC2:∀ V,Kp [] w V->Calls prog 31 #[.agg (bD f.z2 f.h2 s2)] V fun e w'=>e=.returned (.int .i64 c2) ∧ Kp [] V w')(hsz:a.tmps.size=59)(o2:Sl a 2 (Pq g2 0))(o3:Sl a 3 (Pq g3 0)):bC false 1 f9 Q a w fun a' W q'=>Kp [] w W->Sl a' 21 (.bool (c2 != 0))->q':=by
 intro hend;have hap:=pa 1 f9;refine aH (l:=(aK 1 f9)) (fun i v W=>match i with|0=>v=.agg #[.string s,.slice A n c]|1=>v=.bool true|2=>v=.bool false|3=>v=.bool false|4=>v=Pq g2 0|5=>v=.agg (bD f.z1 f.h1 s1)|6=>v=.int .i64 c1|7=>v=.bool false|8=>v=.bool false|9=>v=.bool false|10=>v=Pq g2 34|11=>v=.agg (bD f.z2 f.h2 s2)|12=>v=.int .i64 c2|13=>v=.bool (c2 != 0)|14=>v=.bool (c2 != 0)|_=>True) hap ?_ ?_ ?_
 . exact fun _ _ _ _ h _=>h
 . and_intros <;> try (intro vs A' W hA hW hd hu K hK;try (refine aL _ rfl rfl ?_;conv=>arg 2;whnf))
   . obtain ⟨q1,q2,q3,q4⟩:=aM.c2 (hb3.k0 hW);exact aJ (eO 3 o3)
   . have e7:=vD 7 0;clear hA hd hu o2 o3;go_step;refine (HC0 W hW).mono ?_;rintro e w' ⟨rfl,k1⟩;exact hK _ w' k1 rfl
   . exact aJ (vD 8 1)
   . exact aJ (vD 9 2)
   . exact cC (eO 2 o2)
   . refine qH ?_;(conv=>arg 2;whnf);exact dC (bD f.z1 f.h1 s1) (vD 11 4) (aM.sub (hb.k0 hW) (fun _ _=>FkD.n1 hf)) underlying28 (by rw [aN hf.h1];exact bBz)
   . refine qH ?_;(conv=>arg 2;whnf);have e12:=vD 12 5;clear hA hd hu o2 o3;go_step;refine (HC1 W hW).mono ?_;rintro e w' ⟨rfl,k1⟩;exact hK _ w' k1 rfl
   . exact cC (vD 13 6)
   . exact cM (vD 10 3) (vD 14 7)
   . exact aJ (vD 15 8)
   . exact cC (eO 2 o2)
   . refine qH ?_;(conv=>arg 2;whnf);exact dC (bD f.z2 f.h2 s2) (vD 17 10) (aM.sub (hb.k0 hW) (fun _ _=>FkD.n2 hf)) underlying28 (by rw [aN hf.h2];exact bBz)
   . refine qH ?_;(conv=>arg 2;whnf);have e18:=vD 18 11;clear hA hd hu o2 o3;go_step;refine (HC2 W hW).mono ?_;rintro e w' ⟨rfl,k1⟩;exact hK _ w' k1 rfl
   . exact cC (vD 19 12)
   . exact cM (vD 16 9) (vD 20 13)
   . trivial
 . intro vs W hW hp;rw [aF];exact hend _ W sQ hW (sW (hp 14 sB))
theorem aAs(hsz:a.tmps.size=59):bK 2 f9 Q a w fun a' q'=>Sl a' 4 (.int .i64 (2:Int))->q':=rO
theorem aFd(hsz:a.tmps.size=59):bK 4 f9 Q a w fun a' q'=>Sl a' 4 (.int .i64 (401:Int))->q':=rO
theorem aHz(hsz:a.tmps.size=59):bK 7 f9 Q a w fun a' q'=>Sl a' 4 (.int .i64 (404:Int))->q':=rO
theorem aSe(hsz:a.tmps.size=59):bK 8 f9 Q a w fun a' q'=>Sl a' 4 (.int .i64 (0:Int))->q':=rO
theorem aM5(f:FkD)(hf:f.Ok)(s1 s2 pv:Value)(g2:Nat)(hb:aM w g2 31 (f.cells s1 s2 pv))(s:ByteArray)(A:Option Addr)(n c:Nat)(g3:Nat)(hb3:aM w g3 34 #[.string s,.slice A n c])(c1:Int)(HC1:∀ V,Kp [] w V->Calls prog 32 #[.agg (bD f.z1 f.h1 s1),.agg #[.string s,.slice A n c]] V fun e w'=>e=.returned (.int .i64 c1) ∧ Kp [] V w')(hc1:(c1 != 0)=true)(hsz:a.tmps.size=59)(o2:Sl a 2 (Pq g2 0))(o3:Sl a 3 (Pq g3 0)):bC false 3 f9 Q a w fun a' W q'=>Kp [] w W->Sl a' 33 (.bool true)->q':=by
 intro hend;have hap:=pa 3 f9;refine aH (l:=(aK 3 f9)) (fun i v W=>match i with|0=>v=Pq g2 0|1=>v=.agg (bD f.z1 f.h1 s1)|2=>v=.agg #[.string s,.slice A n c]|3=>v=.int .i64 c1|4=>v=.bool true|5=>v=.bool true|11=>v=.bool true|_=>True) hap ?_ ?_ ?_
 . exact fun _ _ _ _ h _=>h
 . and_intros <;> try (intro vs A' W hA hW hd hu K hK;try (refine aL _ rfl rfl ?_;conv=>arg 2;whnf))
   . exact aJ (eO 2 o2)
   . exact dC (bD f.z1 f.h1 s1) (vD 22 0) (aM.sub (hb.k0 hW) (fun _ _=>FkD.n1 hf)) underlying28 (by rw [aN hf.h1];exact bBz)
   . obtain ⟨q1,q2,q3,q4⟩:=aM.c2 (hb3.k0 hW);exact aJ (eO 3 o3)
   . have e23:=vD 23 1;have e24:=vD 24 2;clear hA hd hu o2 o3;go_step;refine (HC1 W hW).mono ?_;rintro e w' ⟨rfl,k1⟩;exact hK _ w' k1 rfl
   . exact aJ (vD 25 3)
   . exact aJ (vD 26 4)
   . exact sk
   . exact sk
   . exact sk
   . exact sk
   . exact sk
   . exact cM (vD 27 5) (eU 32 10)
   . trivial
 . intro vs W hW hp;rw [aF];exact hend _ W sQ hW (sW (hp 11 sB))
theorem aJ0(f:FkD)(hf:f.Ok)(s1 s2 pv:Value)(g2:Nat)(hb:aM w g2 31 (f.cells s1 s2 pv))(s:ByteArray)(A:Option Addr)(n c:Nat)(g3:Nat)(hb3:aM w g3 34 #[.string s,.slice A n c])(c1:Int)(HC1:∀ V,Kp [] w V->Calls prog 32 #[.agg (bD f.z1 f.h1 s1),.agg #[.string s,.slice A n c]] V fun e w'=>e=.returned (.int .i64 c1) ∧ Kp [] V w')(hc1:(c1 != 0)=false)(c2:Int)(HC2:∀ V,Kp [] w V->Calls prog 32 #[.agg (bD f.z2 f.h2 s2),.agg #[.string s,.slice A n c]] V fun e w'=>e=.returned (.int .i64 c2) ∧ Kp [] V w')(hsz:a.tmps.size=59)(o2:Sl a 2 (Pq g2 0))(o3:Sl a 3 (Pq g3 0)):bC false 3 f9 Q a w fun a' W q'=>Kp [] w W->Sl a' 33 (.bool (c2 != 0))->q':=by
 intro hend;have hap:=pa 3 f9;refine aH (l:=(aK 3 f9)) (fun i v W=>match i with|0=>v=Pq g2 0|1=>v=.agg (bD f.z1 f.h1 s1)|2=>v=.agg #[.string s,.slice A n c]|3=>v=.int .i64 c1|4=>v=.bool false|5=>v=.bool false|6=>v=Pq g2 34|7=>v=.agg (bD f.z2 f.h2 s2)|8=>v=.agg #[.string s,.slice A n c]|9=>v=.int .i64 c2|10=>v=.bool (c2 != 0)|11=>v=.bool (c2 != 0)|_=>True) hap ?_ ?_ ?_
 . exact fun _ _ _ _ h _=>h
 . and_intros <;> try (intro vs A' W hA hW hd hu K hK;try (refine aL _ rfl rfl ?_;conv=>arg 2;whnf))
   . exact aJ (eO 2 o2)
   . exact dC (bD f.z1 f.h1 s1) (vD 22 0) (aM.sub (hb.k0 hW) (fun _ _=>FkD.n1 hf)) underlying28 (by rw [aN hf.h1];exact bBz)
   . obtain ⟨q1,q2,q3,q4⟩:=aM.c2 (hb3.k0 hW);exact aJ (eO 3 o3)
   . have e23:=vD 23 1;have e24:=vD 24 2;clear hA hd hu o2 o3;go_step;refine (HC1 W hW).mono ?_;rintro e w' ⟨rfl,k1⟩;exact hK _ w' k1 rfl
   . exact aJ (vD 25 3)
   . exact aJ (vD 26 4)
   . exact cC (eO 2 o2)
   . refine qH ?_;(conv=>arg 2;whnf);exact dC (bD f.z2 f.h2 s2) (vD 28 6) (aM.sub (hb.k0 hW) (fun _ _=>FkD.n2 hf)) underlying28 (by rw [aN hf.h2];exact bBz)
   . refine qH ?_;(conv=>arg 2;whnf);obtain ⟨q1,q2,q3,q4⟩:=aM.c2 (hb3.k0 hW);exact aJ (eO 3 o3)
   . refine qH ?_;(conv=>arg 2;whnf);have e29:=vD 29 7;have e30:=vD 30 8;clear hA hd hu o2 o3;go_step;refine (HC2 W hW).mono ?_;rintro e w' ⟨rfl,k1⟩;exact hK _ w' k1 rfl
   . exact cC (vD 31 9)
   . exact cM (vD 27 5) (vD 32 10)
   . trivial
 . intro vs W hW hp;rw [aF];exact hend _ W sQ hW (sW (hp 11 sB))
theorem aCb{z:Int}{h:List UInt8}{v:Value}{j:Nat}{u:Value}(hj:(cL z h).toList[j]?=some u):(bD z h v).toList[j]?=some u:=by
 have e1:(bD z h v).toList=(cL z h).toList ++ [v]:=by simp [bD,pK,cL]
 rw [e1,List.getElem?_append_left (List.getElem?_eq_some_iff.1 hj).1];exact hj
theorem oC(z:Int)(h:Bs):∀ u,u ∈ (cL z h).toList->u.oneCell'=true:=by
 intro u hu;simp only [cL,List.toList_toArray,List.mem_cons] at hu;rcases hu with rfl|hu
 . rfl
 . exact eI h u hu
theorem jV{w:World}{g:Nat}{t:TypeId}{z:Int}{h:List UInt8}(b:aM w g t (cL z h)):∀ j u,(aA h).toList[j]?=some u->w.cell? ((⟨g,1,none⟩:Addr).add j)=some u:=fun j u hu=>by
 rw [Addr.add_lit,Nat.add_comm 1 j,b.cell,<- Array.getElem?_toList];rw [show (cL z h).toList=Value.int .i64 z :: bv h from rfl,List.getElem?_cons_succ];exact hu
theorem aS9(w0:World)(f:FkD)(hf:f.Ok)(s1 s2 pv:Value)(g2:Nat)(L:List Res)(hsz:a.tmps.size=59)(o2:Sl a 2 (Pq g2 0))
 (S0:Held w0 w (aB g2 31 (f.cells s1 s2 pv) :: L))
 (hend:∀ (a':Act) (vs:Nat->Value) (gs:Nat->Nat) (W:World),Same a a' [34,35,36,37,38,39,5,6]->Sl a' 5 (Pq (gs 6) 0)->Sl a' 6 (Pq (gs 7) 0)->Held w0 W (aB (gs 6) 25 (cL f.z1 f.h1) :: aB (gs 7) 25 (cL f.z2 f.h2) :: aB g2 31 (f.cells s1 s2 pv) :: L)->Q .normal a' W):(Code.region 5 (aK 5 f9).toArray true).wp prog Q a w:=by
 have hap:=pa 5 f9
 refine aP (Γ:=Nat) (l:=(aK 5 f9)) 2 [0,1,2,3,4,5,8,9,10,11]
  (fun i vs gs=>match i with|0=>vs 0=Pq g2 0|1=>vs 1=Pq g2 0|2=>vs 2=.agg (cL f.z1 f.h1)|3=>vs 3=Pq g2 34|4=>vs 4=Pq g2 34|5=>vs 5=.agg (cL f.z2 f.h2)|6=>vs 6=Pq (gs 6) 0|7=>vs 7=Pq (gs 7) 0|_=>True)
  (fun i vs gs=>match i with|6=>[aB (gs 6) 25 (cL 0 (List.replicate 32 0))]|7=>[aB (gs 7) 25 (cL 0 (List.replicate 32 0))]|8=>[aB (gs 6) 25 (cL f.z1 f.h1)]|9=>[aB (gs 7) 25 (cL f.z2 f.h2)]|10=>[aB g2 31 (f.cells s1 s2 pv)]|11=>L|_=>[])
  (fun i=>match i with|8=>[6]|9=>[7]|_=>[]) (fun i=>match i with|2=>[10]|5=>[10]|_=>[]) S0 (by kernel_rfl) hap (by kernel_rfl) (by kernel_rfl) (fun i=>match i with|0=>[0]|1=>[1]|2=>[2]|3=>[3]|4=>[4]|5=>[5]|6=>[6]|7=>[7]|8=>[6]|9=>[7]|_=>[]) (by kernel_rfl) ?_ (by kernel_rfl) ?_ ?_ ?_
 . exact lA
 . exact pA
 . clear S0 hend
   and_intros <;> try intro vs gs A' W LF hA S hR hd hu K hK
   . exact aJ (eO 2 o2)
   . exact aJ (vD 34 0)
   . exact dC (cL f.z1 f.h1) (vD 35 1) (fun j u hj=>by rw [Addr.add_lit,Nat.add_comm 0 j,(show aM W g2 31 (f.cells s1 s2 pv) from S.ok (aB g2 31 (f.cells s1 s2 pv)) (hR 10 (by simp) _ (List.mem_singleton.2 rfl))).cell];exact FkD.n1 hf (aCb hj)) underlying25 (by rw [bV hf.h1];exact bC0)
   . exact aJ (eO 2 o2)
   . exact aJ (vD 37 3)
   . exact dC (cL f.z2 f.h2) (vD 38 4) (fun j u hj=>by rw [Addr.add_lit,Nat.add_comm 34 j,(show aM W g2 31 (f.cells s1 s2 pv) from S.ok (aB g2 31 (f.cells s1 s2 pv)) (hR 10 (by simp) _ (List.mem_singleton.2 rfl))).cell];exact FkD.n2 hf (aCb hj)) underlying25 (by rw [bV hf.h2];exact bC0)
   . clear hA o2;go_step;exact hK W.heap.size _ _ (S.newBlk 25 (cL 0 (List.replicate 32 0))) rfl
   . clear hA o2;go_step;exact hK W.heap.size _ _ (S.newBlk 25 (cL 0 (List.replicate 32 0))) rfl
   . replace hK:=hK default;have e5:=vD 5 6;have e36:=vD 36 2;clear hA o2;have S1:Held w0 W (aB (gs 6) 25 (cL 0 (List.replicate 32 0)) :: LF):=S;refine aZ (.tmp 5) (.tmp 36) 25 rfl (gs 6) (by simpa [Act.eval] using e5) (cL f.z1 f.h1) (by simpa [Act.eval] using e36) 25 (cL 0 (List.replicate 32 0)) S1 (by rw [bV hf.h1];exact bC0) (by rw [bV hf.h1,bV (by simp)]) (oC _ _) ?_;intro w' S2;exact hK _ _ S2 trivial
   . replace hK:=hK default;have e6:=vD 6 7;have e39:=vD 39 5;clear hA o2;have S1:Held w0 W (aB (gs 7) 25 (cL 0 (List.replicate 32 0)) :: LF):=S;refine aZ (.tmp 6) (.tmp 39) 25 rfl (gs 7) (by simpa [Act.eval] using e6) (cL f.z2 f.h2) (by simpa [Act.eval] using e39) 25 (cL 0 (List.replicate 32 0)) S1 (by rw [bV hf.h2];exact bC0) (by rw [bV hf.h2,bV (by simp)]) (oC _ _) ?_;intro w' S2;exact hK _ _ S2 trivial
   . trivial
 . intro vs gs W S hp;have S:Held w0 W (aB (gs 6) 25 (cL f.z1 f.h1) :: aB (gs 7) 25 (cL f.z2 f.h2) :: aB g2 31 (f.cells s1 s2 pv) :: L):=by simpa only [List.flatMap_cons,List.flatMap_nil,List.append_nil,List.nil_append,List.cons_append,List.append_assoc] using S
   rw [aF];exact hend _ vs gs W sQ (sW (hp 6 sB)) (sW (hp 7 sB)) S
theorem aJj(f:FkD)(hf:f.Ok)(s1 s2 pv:Value)(g2:Nat)(hb:aM w g2 31 (f.cells s1 s2 pv))(hpv:∃ A n c,pv=.slice A n c)(g5 g6:Nat)(hb5:aM w g5 25 (cL f.z1 f.h1))(hb6:aM w g6 25 (cL f.z2 f.h2))(heq:(f.r == f.h1)=true)(hsz:a.tmps.size=59)(o2:Sl a 2 (Pq g2 0))(o5:Sl a 5 (Pq g5 0))(o6:Sl a 6 (Pq g6 0)):bC false 6 f9 Q a w fun a' W q'=>Kp [] w W->Sl a' 58 (.bool true)->q':=by
 intro hend;have hap:=pa 6 f9;refine aH (l:=(aK 6 f9)) (fun i v W=>match i with|0=>v=Pq g2 68|1=>v=.agg (aA f.r)|2=>v=Pq g5 1|3=>v=.agg (aA f.h1)|4=>v=.bool true|5=>v=.bool true|18=>v=.bool true|_=>True) hap ?_ ?_ ?_
 . exact fun _ _ _ _ h _=>h
 . and_intros <;> try (intro vs A' W hA hW hd hu K hK;try (refine aL _ rfl rfl ?_;conv=>arg 2;whnf))
   . exact aJ (eO 2 o2)
   . exact dC (aA f.r) (vD 40 0) (aM.sub (hb.k0 hW) (fun _ _=>FkD.rt hf)) underlying23 (by rw [aC,hf.r];exact bBy)
   . exact aJ (eO 5 o5)
   . exact dC (aA f.h1) (vD 42 2) (jV (hb5.k0 hW)) underlying23 (by rw [aC,hf.h1];exact bBy)
   . have e41:=vD 41 1;have e43:=vD 43 3;clear hA hd hu o2 o5 o6;refine bQ (v:=.bool (f.r == f.h1)) (w':=W) (bH rfl (by simpa [Act.eval] using e41) (by simpa [Act.eval] using e43) eqGuardType23 (jT W f.r f.h1 hf.r hf.h1)) ?_;exact hK _ _ kR (congrArg Value.bool heq)
   . exact aJ (vD 44 4)
   . exact sk
   . exact sk
   . exact sk
   . exact sk
   . exact sk
   . exact sk
   . exact sk
   . exact sk
   . exact sk
   . exact sk
   . exact sk
   . exact sk
   . exact cM (vD 45 5) (eU 57 17)
   . trivial
 . intro vs W hW hp;rw [aF];exact hend _ W sQ hW (sW (hp 18 sB))
theorem aKi(f:FkD)(hf:f.Ok)(s1 s2 pv:Value)(g2:Nat)(hb:aM w g2 31 (f.cells s1 s2 pv))(hpv:∃ A n c,pv=.slice A n c)(g5 g6:Nat)(hb5:aM w g5 25 (cL f.z1 f.h1))(hb6:aM w g6 25 (cL f.z2 f.h2))(heq:(f.r == f.h1)=false)(cd:Int)(HC1:∀ V,Kp [] w V->Calls prog 33 #[.int .i64 f.z1,.int .i64 f.z2,.agg (aA f.r),.agg (aA f.h2),pv] V fun e w'=>e=.returned (.int .i64 cd) ∧ Kp [] V w')(hsz:a.tmps.size=59)(o2:Sl a 2 (Pq g2 0))(o5:Sl a 5 (Pq g5 0))(o6:Sl a 6 (Pq g6 0)):bC false 6 f9 Q a w fun a' W q'=>Kp [] w W->Sl a' 58 (.bool (cd != 0))->q':=by
 intro hend;have hap:=pa 6 f9;refine aH (l:=(aK 6 f9)) (fun i v W=>match i with|0=>v=Pq g2 68|1=>v=.agg (aA f.r)|2=>v=Pq g5 1|3=>v=.agg (aA f.h1)|4=>v=.bool false|5=>v=.bool false|6=>v=Pq g5 0|7=>v=.int .i64 f.z1|8=>v=Pq g6 0|9=>v=.int .i64 f.z2|10=>v=Pq g2 68|11=>v=.agg (aA f.r)|12=>v=Pq g6 1|13=>v=.agg (aA f.h2)|14=>v=Pq g2 100|15=>v=pv|16=>v=.int .i64 cd|17=>v=.bool (cd != 0)|18=>v=.bool (cd != 0)|_=>True) hap ?_ ?_ ?_
 . exact fun _ _ _ _ h _=>h
 . and_intros <;> try (intro vs A' W hA hW hd hu K hK;try (refine aL _ rfl rfl ?_;conv=>arg 2;whnf))
   . exact aJ (eO 2 o2)
   . exact dC (aA f.r) (vD 40 0) (aM.sub (hb.k0 hW) (fun _ _=>FkD.rt hf)) underlying23 (by rw [aC,hf.r];exact bBy)
   . exact aJ (eO 5 o5)
   . exact dC (aA f.h1) (vD 42 2) (jV (hb5.k0 hW)) underlying23 (by rw [aC,hf.h1];exact bBy)
   . have e41:=vD 41 1;have e43:=vD 43 3;clear hA hd hu o2 o5 o6;refine bQ (v:=.bool (f.r == f.h1)) (w':=W) (bH rfl (by simpa [Act.eval] using e41) (by simpa [Act.eval] using e43) eqGuardType23 (jT W f.r f.h1 hf.r hf.h1)) ?_;exact hK _ _ kR (congrArg Value.bool heq)
   . exact aJ (vD 44 4)
   . exact cC (eO 5 o5)
   . refine qH ?_;(conv=>arg 2;whnf);have c0:W.cell? ⟨g5,0,none⟩=some (.int .i64 f.z1):=by rw [(hb5.k0 hW).cell];rfl
     exact aJ (vD 46 6)
   . exact cC (eO 6 o6)
   . refine qH ?_;(conv=>arg 2;whnf);have c0:W.cell? ⟨g6,0,none⟩=some (.int .i64 f.z2):=by rw [(hb6.k0 hW).cell];rfl
     exact aJ (vD 48 8)
   . exact cC (eO 2 o2)
   . refine qH ?_;(conv=>arg 2;whnf);exact dC (aA f.r) (vD 50 10) (aM.sub (hb.k0 hW) (fun _ _=>FkD.rt hf)) underlying23 (by rw [aC,hf.r];exact bBy)
   . exact cC (eO 6 o6)
   . refine qH ?_;(conv=>arg 2;whnf);exact dC (aA f.h2) (vD 52 12) (jV (hb6.k0 hW)) underlying23 (by rw [aC,hf.h2];exact bBy)
   . exact cC (eO 2 o2)
   . refine qH ?_;(conv=>arg 2;whnf);obtain ⟨Ap,np,cp,rfl⟩:=hpv;have c0:W.cell? ⟨g2,100,none⟩=some (.slice Ap np cp):=by rw [(hb.k0 hW).cell];exact FkD.pr hf
     exact aJ (vD 54 14)
   . refine qH ?_;(conv=>arg 2;whnf);have e47:=vD 47 7;have e49:=vD 49 9;have e51:=vD 51 11;have e53:=vD 53 13;have e55:=vD 55 15;clear hA hd hu o2 o5 o6;go_step;refine (HC1 W hW).mono ?_;rintro e w' ⟨rfl,k1⟩;exact hK _ w' k1 rfl
   . exact cC (vD 56 16)
   . exact cM (vD 45 5) (vD 57 17)
   . trivial
 . intro vs W hW hp;rw [aF];exact hend _ W sQ hW (sW (hp 18 sB))
end
section
open Go.RowKit Go.Shelf
theorem mF{nm sec:List UInt8}(h:cR nm sec=true):nm.length<=64 ∧ sec.length<=256:=by
 rw [uE] at h;simp only [Bool.and_eq_true,eZ,decide_eq_true_eq] at h;exact ⟨h.1.1.1.2,h.2⟩
def fG (f:FkD) (nm sec:Bs):Int:=
 if cR nm sec=false ∨ eA f.z1 f.l1 ≠ 0 ∨ eA f.z2 f.l2 ≠ 0 then 2 else
 if cF f.z1 f.h1 f.l1 nm sec ≠ 0 ∨ cF f.z2 f.h2 f.l2 nm sec ≠ 0 then 401 else
 if f.r=f.h1 ∨ eL f.z1 f.z2 f.r f.h2 f.pf ≠ 0 then 404 else 0
theorem uI(f:FkD)(hf:f.Ok)(hz1:-9223372036854775808<=f.z1 ∧ f.z1<=9223372036854775807)(hz2:-9223372036854775808<=f.z2 ∧ f.z2<=9223372036854775807)(A1 A2 Ap:Option Addr)(c1 c2 cp:Nat)(nm:Bs)(hnm:nm.length<=9223372036854775807)(Ak:Option Addr)(ck:Nat)(sec:Bs)(w:World)(LDw:LD w)(hk:Rd w 1 (.slice Ak sec.length ck) sec.length (bv sec))(hv1:Rd w 33 (.slice A1 f.l1.length c1) f.l1.length (bB f.l1))(hv2:Rd w 33 (.slice A2 f.l2.length c2) f.l2.length (bB f.l2))(hvp:Rd w 32 (.slice Ap f.pf.length cp) f.pf.length (dA f.pf)):
 Calls prog 9 #[.agg (f.cells (.slice A1 f.l1.length c1) (.slice A2 f.l2.length c2) (.slice Ap f.pf.length cp)),.agg #[bX nm,.slice Ak sec.length ck]] w fun e w'=>e=.returned (.int .i64 (fG f nm sec)) ∧ Kp [] w w':=by
 have HRt:∀ V,Kp [] w V->Calls prog 30 #[.agg #[bX nm,.slice Ak sec.length ck]] V fun e w'=>e=.returned (.bool (cR nm sec)) ∧ Kp [] V w':=fun V kV=>tO nm (by omega) Ak ck sec V (LDw.kp kV) (aT hk kV)
 have HN1:∀ V,Kp [] w V->Calls prog 31 #[.agg (bD f.z1 f.h1 (.slice A1 f.l1.length c1))] V fun e w'=>e=.returned (.int .i64 (eA f.z1 f.l1)) ∧ Kp [] V w':=fun V kV=>kP f.z1 hz1 f.h1 hf.h1 f.l1 hf.l1 (by have:=hf.n1;omega) A1 c1 V (LDw.kp kV) (aT hv1 kV)
 have HN2:∀ V,Kp [] w V->Calls prog 31 #[.agg (bD f.z2 f.h2 (.slice A2 f.l2.length c2))] V fun e w'=>e=.returned (.int .i64 (eA f.z2 f.l2)) ∧ Kp [] V w':=fun V kV=>kP f.z2 hz2 f.h2 hf.h2 f.l2 hf.l2 (by have:=hf.n2;omega) A2 c2 V (LDw.kp kV) (aT hv2 kV)
 have HS1:cR nm sec=true->∀ V,Kp [] w V->Calls prog 32 #[.agg (bD f.z1 f.h1 (.slice A1 f.l1.length c1)),.agg #[bX nm,.slice Ak sec.length ck]] V fun e w'=>e=.returned (.int .i64 (cF f.z1 f.h1 f.l1 nm sec)) ∧ Kp [] V w':=fun hky V kV=>nP f.z1 hz1 f.h1 hf.h1 A1 c1 f.l1 hf.l1 hf.n1 nm (by have:=(mF hky).1;omega) Ak ck sec V (LDw.kp kV) (aT hv1 kV) (aT hk kV)
 have HS2:cR nm sec=true->∀ V,Kp [] w V->Calls prog 32 #[.agg (bD f.z2 f.h2 (.slice A2 f.l2.length c2)),.agg #[bX nm,.slice Ak sec.length ck]] V fun e w'=>e=.returned (.int .i64 (cF f.z2 f.h2 f.l2 nm sec)) ∧ Kp [] V w':=fun hky V kV=>nP f.z2 hz2 f.h2 hf.h2 A2 c2 f.l2 hf.l2 hf.n2 nm (by have:=(mF hky).1;omega) Ak ck sec V (LDw.kp kV) (aT hv2 kV) (aT hk kV)
 refine aR func9 rfl 59 rfl (fun a0 hsz hdf hAr=>?_);have hz0:a0.tmps.size=59:=hsz;have D:=hdf;have o0:=hAr 0 _ rfl;have o1:=hAr 1 _ rfl;refine wp_seq (aRl w _ (FkD.size hf) (FkD.one f _ _ _ _ _ _ _ _ _) ⟨nm.toArray⟩ Ak sec.length ck [] (Held.start w) hz0 o0 o1 (fun a1 w1 hs1 o4 h1=>?_));obtain ⟨hz1,D⟩:=dS hs1 hz0 D;obtain ⟨g2,g3,o2,o3,S⟩:=h1
 cases hkey:cR nm sec
 . rw [hkey] at HRt;refine wp_seq (wp_seq (aMl f hf _ _ _ g2 (S.at_ (l1:=[_])) ⟨nm.toArray⟩ Ak sec.length ck g3 (S.at_ (l1:=[])) (fun V kV=>HRt V (S.k.trans kV (by simp))) hz1 o2 o3 (fun a2 w2 hs2 k2 o21=>?_)));obtain ⟨hz2,D,o2,o3⟩:=dU hs2 hz1 D o2 o3;have S2:=S.kp k2;refine cS o21 ?_;refine wp_seq (aAs hz2 (fun a3 hs3 o4=>?_));obtain ⟨hz3,D⟩:=dS hs3 hz2 D;refine wp_ret ?_
   try simp only [Exit.then,Exit.inBlock]
   refine bodyPost_ret (bA (by rfl) (o4.eval (by rw [hz3];decide))) D ⟨?_,S2.k⟩;unfold fG;rw [if_pos (.inl hkey)]
 . rw [hkey] at HRt
   by_cases hn1:eA f.z1 f.l1=0
   . have hq1:(eA f.z1 f.l1 != 0)=false:=by rw [hn1];rfl
     refine wp_seq (wp_seq (aJn f hf _ _ _ g2 (S.at_ (l1:=[_])) ⟨nm.toArray⟩ Ak sec.length ck g3 (S.at_ (l1:=[])) (fun V kV=>HRt V (S.k.trans kV (by simp))) _ (fun V kV=>HN1 V (S.k.trans kV (by simp))) hq1 _ (fun V kV=>HN2 V (S.k.trans kV (by simp))) hz1 o2 o3 (fun a2 w2 hs2 k2 o21=>?_)));obtain ⟨hz2,D,o2,o3⟩:=dU hs2 hz1 D o2 o3;have S2:=S.kp k2
     by_cases hn2:eA f.z2 f.l2=0
     . refine dD o21 (wp_skip ?_) (by rw [hn2];rfl);simp only [Exit.then];have hno1:¬ (cR nm sec=false ∨ eA f.z1 f.l1 ≠ 0 ∨ eA f.z2 f.l2 ≠ 0):=by rw [hkey];simp [hn1,hn2]
       by_cases hs1:cF f.z1 f.h1 f.l1 nm sec=0
       . have hq2:(cF f.z1 f.h1 f.l1 nm sec != 0)=false:=by rw [hs1];rfl
         refine wp_seq (wp_seq (aJ0 f hf _ _ _ g2 (S2.at_ (l1:=[_])) ⟨nm.toArray⟩ Ak sec.length ck g3 (S2.at_ (l1:=[])) _ (fun V kV=>HS1 hkey V (S2.k.trans kV (by simp))) hq2 _ (fun V kV=>HS2 hkey V (S2.k.trans kV (by simp))) hz2 o2 o3 (fun a3 w3 hs3 k3 o33=>?_)));obtain ⟨hz3,D,o2,o3⟩:=dU hs3 hz2 D o2 o3;have S3:=S2.kp k3
         by_cases hs2:cF f.z2 f.h2 f.l2 nm sec=0
         . refine dD o33 (wp_skip ?_) (by rw [hs2];rfl);simp only [Exit.then];have hno2:¬ (cF f.z1 f.h1 f.l1 nm sec ≠ 0 ∨ cF f.z2 f.h2 f.l2 nm sec ≠ 0):=by simp [hs1,hs2]
           refine wp_seq (aS9 w f hf _ _ _ g2 _ hz3 o2 (S3.pull 1 rfl) (fun a4 vs gs w4 hs4 o5 o6 S4=>?_));obtain ⟨hz4,D,o2⟩:=eY hs4 hz3 D o2
           cases heq:(f.r == f.h1)
           . have hne:¬ f.r=f.h1:=fun e=>by rw [e] at heq;simp at heq
             refine wp_seq (wp_seq (aKi f hf _ _ _ g2 (S4.at_ (l1:=[_,_])) ⟨_,_,_,rfl⟩ _ _ (S4.at_ (l1:=[])) (S4.at_ (l1:=[_])) heq _ (fun V kV=>tZ f.z1 f.z2 (by omega) f.r f.h2 hf.r hf.h2 Ap cp f.pf hf.pf V (aT hvp (S4.k.trans kV (by simp)))) hz4 o2 o5 o6 (fun a5 w5 hs5 k5 o58=>?_)));obtain ⟨hz5,D,o2,o5,o6⟩:=dF hs5 hz4 D o2 o5 o6;have S5:=S4.kp k5
             by_cases hc:eL f.z1 f.z2 f.r f.h2 f.pf=0
             . refine dD o58 (wp_skip ?_) (by rw [hc];rfl);simp only [Exit.then];refine wp_seq (aSe hz5 (fun a6 hs6 o4=>?_));obtain ⟨hz6,D⟩:=dS hs6 hz5 D;refine wp_ret ?_
               try simp only [Exit.then,Exit.inBlock]
               refine bodyPost_ret (bA (by rfl) (o4.eval (by rw [hz6];decide))) D ⟨?_,S5.k⟩;unfold fG;rw [if_neg hno1,if_neg hno2,if_neg (by simp [hne,hc])]
             . have hq:((((eL f.z1 f.z2 f.r f.h2 f.pf:Nat):Int)) != 0)=true:=by rw [bne_iff_ne];omega
               refine cS o58 ?_ (by rw [hq]);refine wp_seq (aHz hz5 (fun a6 hs6 o4=>?_));obtain ⟨hz6,D⟩:=dS hs6 hz5 D;refine wp_ret ?_
               try simp only [Exit.then,Exit.inBlock]
               refine bodyPost_ret (bA (by rfl) (o4.eval (by rw [hz6];decide))) D ⟨?_,S5.k⟩;unfold fG;rw [if_neg hno1,if_neg hno2,if_pos (.inr hc)]
           . have he:f.r=f.h1:=eq_of_beq heq;refine wp_seq (wp_seq (aJj f hf _ _ _ g2 (S4.at_ (l1:=[_,_])) ⟨_,_,_,rfl⟩ _ _ (S4.at_ (l1:=[])) (S4.at_ (l1:=[_])) heq hz4 o2 o5 o6 (fun a5 w5 hs5 k5 o58=>?_)));obtain ⟨hz5,D,o2⟩:=eY hs5 hz4 D o2;have S5:=S4.kp k5;refine cS o58 ?_;refine wp_seq (aHz hz5 (fun a6 hs6 o4=>?_));obtain ⟨hz6,D⟩:=dS hs6 hz5 D;refine wp_ret ?_
             try simp only [Exit.then,Exit.inBlock]
             refine bodyPost_ret (bA (by rfl) (o4.eval (by rw [hz6];decide))) D ⟨?_,S5.k⟩;unfold fG;rw [if_neg hno1,if_neg hno2,if_pos (.inl he)]
         . have hq:(cF f.z2 f.h2 f.l2 nm sec != 0)=true:=by rw [bne_iff_ne];exact hs2
           refine cS o33 ?_ (by rw [hq]);refine wp_seq (aFd hz3 (fun a4 hs4 o4=>?_));obtain ⟨hz4,D⟩:=dS hs4 hz3 D;refine wp_ret ?_
           try simp only [Exit.then,Exit.inBlock]
           refine bodyPost_ret (bA (by rfl) (o4.eval (by rw [hz4];decide))) D ⟨?_,S3.k⟩;unfold fG;rw [if_neg hno1,if_pos (.inr hs2)]
       . have hq2:(cF f.z1 f.h1 f.l1 nm sec != 0)=true:=by rw [bne_iff_ne];exact hs1
         refine wp_seq (wp_seq (aM5 f hf _ _ _ g2 (S2.at_ (l1:=[_])) ⟨nm.toArray⟩ Ak sec.length ck g3 (S2.at_ (l1:=[])) _ (fun V kV=>HS1 hkey V (S2.k.trans kV (by simp))) hq2 hz2 o2 o3 (fun a3 w3 hs3 k3 o33=>?_)));obtain ⟨hz3,D,o2,o3⟩:=dU hs3 hz2 D o2 o3;have S3:=S2.kp k3;refine cS o33 ?_;refine wp_seq (aFd hz3 (fun a4 hs4 o4=>?_));obtain ⟨hz4,D⟩:=dS hs4 hz3 D;refine wp_ret ?_
         try simp only [Exit.then,Exit.inBlock]
         refine bodyPost_ret (bA (by rfl) (o4.eval (by rw [hz4];decide))) D ⟨?_,S3.k⟩;unfold fG;rw [if_neg hno1,if_pos (.inl hs1)]
     . have hq:(eA f.z2 f.l2 != 0)=true:=by rw [bne_iff_ne];exact hn2
       refine cS o21 ?_ (by rw [hq]);refine wp_seq (aAs hz2 (fun a3 hs3 o4=>?_));obtain ⟨hz3,D⟩:=dS hs3 hz2 D;refine wp_ret ?_
       try simp only [Exit.then,Exit.inBlock]
       refine bodyPost_ret (bA (by rfl) (o4.eval (by rw [hz3];decide))) D ⟨?_,S2.k⟩;unfold fG;rw [if_pos (.inr (.inr hn2))]
   . have hq1:(eA f.z1 f.l1 != 0)=true:=by rw [bne_iff_ne];exact hn1
     refine wp_seq (wp_seq (aIz f hf _ _ _ g2 (S.at_ (l1:=[_])) ⟨nm.toArray⟩ Ak sec.length ck g3 (S.at_ (l1:=[])) (fun V kV=>HRt V (S.k.trans kV (by simp))) _ (fun V kV=>HN1 V (S.k.trans kV (by simp))) hq1 hz1 o2 o3 (fun a2 w2 hs2 k2 o21=>?_)));obtain ⟨hz2,D⟩:=dS hs2 hz1 D;have S2:=S.kp k2;refine cS o21 ?_;refine wp_seq (aAs hz2 (fun a3 hs3 o4=>?_));obtain ⟨hz3,D⟩:=dS hs3 hz2 D;refine wp_ret ?_
     try simp only [Exit.then,Exit.inBlock]
     refine bodyPost_ret (bA (by rfl) (o4.eval (by rw [hz3];decide))) D ⟨?_,S2.k⟩;unfold fG;rw [if_pos (.inr (.inl hn1))]
end
section
variable {Q:Exit->Act->World->Prop} {a:Act} {w:World}
open Go.RowKit Go.Shelf
attribute [local go_sem] Oper.semAt_some
theorem aEo(w0:World)(cn:Array Value)(hcn:cn.size=34)(h1:∀ u,u ∈ cn.toList->u.oneCell'=true)(L:List Res)(S:Held w0 w L)(hsz:a.tmps.size=130)(o1:Sl a 1 (.agg cn)):bC false 0 f16 Q a w fun a' W q'=>Sl a' 6 (.int .i64 (0:Int))->(∃ g4,Sl a' 4 (Pq g4 0) ∧ Held w0 W (aB g4 28 cn :: L))->q':=by
 refine bU fun hend=>?_;unfold Sl at o1;have S1:=LH (S.newBlk 28 cn);have hcn:=LH hcn;have h1:=LH h1;go_wp2
 try simp only [Act.put]
 exact hend _ _ tS sP (⟨w.heap.size,cH,S1.out⟩)
theorem aFg(p:Value)(g4:Nat)(cn:Array Value)(hcn:cn.size=34)(hb:aM w g4 28 cn)(z:Int)(HC0:Calls prog 44 #[p,.agg cn] w fun e w'=>e=.returned (.int .i64 z) ∧ Kp [] w w')(hsz:a.tmps.size=130)(o0:Sl a 0 (p))(o4:Sl a 4 (Pq g4 0)):bC false 1 f16 Q a w fun a' W q'=>Sl a' 7 (.int .i64 z)->(Kp [] w W)->q':=by
 refine bU fun hend=>?_;unfold Sl at o0 o4;have HC:=LH HC0;clear HC0;have HB:=LH hb;clear hb;have hcn:=LH hcn;go_wp2_with (refine aQ rfl 28 (.tmp 4) rfl g4 (aO o4) 28 _ HB.out _ underlying28 rfl (by rw [hcn.out];exact bBz) ?_)
 refine HC.out.mono ?_;rintro e w1 ⟨rfl,k1⟩;have k1:=LH k1;go_wp2_with fail
 try simp only [Act.put]
 exact hend _ _ tS sP (k1.out)
theorem aGp(z:Int)(hsz:a.tmps.size=130)(o7:Sl a 7 (.int .i64 z)):bK 2 f16 Q a w fun a' q'=>Sl a' 19 (.bool (z != 0))->q':=rO
theorem aGi(z:Int)(hsz:a.tmps.size=130)(o7:Sl a 7 (.int .i64 z)):bK 3 f16 Q a w fun a' q'=>Sl a' 6 (.int .i64 z)->q':=rO
theorem aQ6(A:Option Addr)(n c:Nat)(hsz:a.tmps.size=130)(o2:Sl a 2 (.slice A n c)):bK 4 f16 Q a w fun a' q'=>Sl a' 21 (.slice A n c)->Sl a' 22 (Nq n)->Sl a' 23 (Nq 0)->q':=rO
theorem aVw(k n:Nat)(hsz:a.tmps.size=130)(o22:Sl a 22 (Nq n))(o23:Sl a 23 (Nq k)):bK 5 f16 Q a w fun a' q'=>Sl a' 24 (.bool (decide (k < n)))->q':=rO
theorem aPy(ad:Addr)(k n c:Nat)(hk:k < n)(u:Value)(hu:w.cell? (ad.add k)=some u)(hus:∃ Au nu cu,u=.slice Au nu cu)(hsz:a.tmps.size=130)(o21:Sl a 21 (.slice (some ad) n c))(o23:Sl a 23 (Nq k)):bK 6 f16 Q a w fun a' q'=>Sl a' 9 (u)->q':=by
 have h0:0<=(k:Int):=by omega
 have h1:(k:Int) < (n:Int):=by omega
 obtain ⟨Au,nu,cu,rfl⟩:=hus;exact rO
theorem aVh(k:Nat)(hk:k < 9223372036854775807)(hsz:a.tmps.size=130)(o23:Sl a 23 (Nq k)):bK 9 f16 Q a w fun a' q'=>Sl a' 23 (Nq (k+1))->q':=by
 have hw:wrap64 ((k:Int)+1)=(k:Int)+1:=by unfold wrap64;omega
 exact rO
theorem aPc(A:Option Addr)(n c:Nat)(hsz:a.tmps.size=130)(o9:Sl a 9 (.slice A n c)):bK 7 f16 Q a w fun a' q'=>Sl a' 29 (.bool (decide (4096 < n)))->q':=rO
theorem aX2(hsz:a.tmps.size=130):bK 8 f16 Q a w fun a' q'=>Sl a' 6 (.int .i64 (3:Int))->q':=rO
theorem aMf(hsz:a.tmps.size=130):bK 12 f16 Q a w fun a' q'=>Sl a' 6 (.int .i64 (402:Int))->q':=rO
theorem aK2(hsz:a.tmps.size=130):bK 20 f16 Q a w fun a' q'=>Sl a' 6 (.int .i64 (403:Int))->q':=rO
theorem aMy(hsz:a.tmps.size=130):bK 28 f16 Q a w fun a' q'=>Sl a' 6 (.int .i64 (0:Int))->q':=rO
theorem aI5(g4:Nat)(cn:Array Value)(z:Int)(hb:aM w g4 28 cn)(hk0:cn[0]?=some (.int .i64 z))(hsz:a.tmps.size=130)(o4:Sl a 4 (Pq g4 0)):bK 10 f16 Q a w fun a' q'=>Sl a' 10 (.int .i64 z)->q':=by
 have c0:w.cell? ⟨g4,0,none⟩=some (.int .i64 z):=by rw [hb.cell];exact hk0
 clear hb hk0;exact rO
theorem aK1(g n:Nat)(z:Int)(HC0:Calls prog 17 #[Pq g 0] w fun e w'=>e=.returned (Nq n) ∧ Kp [] w w')(hsz:a.tmps.size=130)(o0:Sl a 0 (Pq g 0))(o10:Sl a 10 (.int .i64 z)):bC false 13 f16 Q a w fun a' W q'=>Sl a' 55 (.bool (decide (z<=(n:Int))))->(Kp [] w W)->q':=by
 refine bU fun hend=>?_;unfold Sl at o0 o10;have HC:=LH HC0;clear HC0;go_wp2_with fail
 refine HC.out.mono ?_;rintro e w1 ⟨rfl,k1⟩;have k1:=LH k1;go_wp2_with fail
 try simp only [Act.put]
 exact hend _ _ tS sP (k1.out)
theorem aIl(g g4:Nat)(cn:Array Value)(hcn:cn.size=34)(hb:aM w g4 28 cn)(R:Int->World->Prop)(HC0:Calls prog 45 #[Pq g 0,.agg cn] w fun e w'=>∃ cd,e=.returned (.int .i64 cd) ∧ R cd w')(hsz:a.tmps.size=130)(o0:Sl a 0 (Pq g 0))(o4:Sl a 4 (Pq g4 0)):bC false 14 f16 Q a w fun a' W q'=>(∃ cd,Sl a' 11 (.int .i64 cd) ∧ R cd W)->q':=by
 refine bU fun hend=>?_;unfold Sl at o0 o4;have HC:=LH HC0;clear HC0;have HB:=LH hb;clear hb;have hcn:=LH hcn;go_wp2_with (refine aQ rfl 28 (.tmp 4) rfl g4 (aO o4) 28 _ HB.out _ underlying28 rfl (by rw [hcn.out];exact bBz) ?_)
 refine HC.out.mono ?_;rintro e w1 ⟨cd,rfl,k1⟩;have k1:=LH k1;go_wp2_with fail
 try simp only [Act.put]
 exact hend _ _ tS (⟨cd,cH,k1.out⟩)
theorem aCc(z:Int)(hsz:a.tmps.size=130)(o11:Sl a 11 (.int .i64 z)):bK 17 f16 Q a w fun a' q'=>Sl a' 6 (.int .i64 z)->q':=rO
theorem aEm(cd:Int)(hcd:Hid (cd ≠ 0))(hcd2:(cd == 0)=false)(hsz:a.tmps.size=130)(o11:Sl a 11 (.int .i64 cd)):bC false 15 f16 Q a w fun a' W q'=>Kp [] w W->Sl a' 68 (.bool false)->q':=by
 intro hend;have hap:=pa 15 f16;refine aH (l:=(aK 15 f16)) (fun i v W=>match i with|0=>v=.int .i64 cd|1=>v=.bool false|2=>v=.bool false|9=>v=.bool false|_=>True) hap ?_ ?_ ?_
 . exact fun _ _ _ _ h _=>h
 . and_intros <;> try (intro vs A' W hA hW hd hu K hK;try (refine aL _ rfl rfl ?_;conv=>arg 2;whnf))
   . exact aJ (eO 11 o11)
   . have e59:=vD 59 0;clear hA hd hu o11;go_step;exact hK _ _ kR (by first|rfl|(refine congrArg Value.bool ?_;simp [hcd];done))
   . exact aJ (vD 60 1)
   . exact sk
   . exact sk
   . exact sk
   . exact sk
   . exact sk
   . exact sk
   . exact cM (vD 61 2) (eU 67 8)
   . trivial
 . intro vs W hW hp;rw [aF];exact hend _ W sQ hW (sW (hp 9 sB))
theorem zT(g:Nat)(cs:Array Value)(nd:Bool)(hb:aM w g 85 cs)(h9:cs[38]?=some (.bool nd))(hsz:a.tmps.size=130)(o0:Sl a 0 (Pq g 0))(o11:Sl a 11 (.int .i64 (0:Int))):bC false 15 f16 Q a w fun a' W q'=>Kp [] w W->Sl a' 68 (.bool (!nd))->q':=by
 intro hend;have hap:=pa 15 f16;refine aH (l:=(aK 15 f16)) (fun i v W=>match i with|0=>v=.int .i64 (0:Int)|1=>v=.bool true|2=>v=.bool true|3=>v=Pq g 0|4=>v=Pq g 0|5=>v=Pq g 0|6=>v=Pq g 38|7=>v=.bool nd|8=>v=.bool (!nd)|9=>v=.bool (!nd)|_=>True) hap ?_ ?_ ?_
 . exact fun _ _ _ _ h _=>h
 . and_intros <;> try (intro vs A' W hA hW hd hu K hK;try (refine aL _ rfl rfl ?_;conv=>arg 2;whnf))
   . exact aJ (eO 11 o11)
   . exact aJ (vD 59 0)
   . exact aJ (vD 60 1)
   . exact cC (eO 0 o0)
   . exact cC (vD 62 3)
   . exact cC (vD 63 4)
   . exact cC (vD 64 5)
   . refine qH ?_;(conv=>arg 2;whnf);have c0:W.cell? ⟨g,38,none⟩=some (.bool nd):=by rw [(hb.k0 hW).cell];exact h9
     exact aJ (vD 65 6)
   . exact cC (vD 66 7)
   . exact cM (vD 61 2) (vD 67 8)
   . trivial
 . intro vs W hW hp;rw [aF];exact hend _ W sQ hW (sW (hp 9 sB))
end
section
variable {Q:Exit->Act->World->Prop} {a:Act} {w:World}
open Go.RowKit Go.Shelf
attribute [local go_sem] Oper.semAt_some
theorem aIs(w0:World)(g g4:Nat)(cn:Array Value)(hcn:cn.size=34)(hb4:aM w g4 28 cn)(z:Int)(h:Bs)(hh:h.length=32)(m:Nat)(xs:List Value)(cs:Array Value)(hcs:cs.size=142)(c1:Value->Array Value)(nd:Bool)(hc1:∀ v,(cs.toList.take 4 ++ (bD z h v).toList ++ cs.toList.drop (4+34)).toArray=c1 v)(h38:∀ v,(c1 v)[38]?=some (.bool nd))(L:List Res)(HC0:Calls prog 46 #[.agg cn] w fun e w'=>∃ v,e=.returned (.agg (bD z h v)) ∧ Held w0 w' (aB g 85 cs :: aG 89 33 v m xs :: L))(hsz:a.tmps.size=130)(o0:Sl a 0 (Pq g 0))(o4:Sl a 4 (Pq g4 0)):bC false 16 f16 Q a w fun a' W q'=>(∃ v,Held w0 W (aB g 85 ((c1 v).setIfInBounds 38 (.bool true)) :: aG 89 33 v m xs :: L))->q':=by
 refine bU fun hend=>?_;unfold Sl at o0 o4;have HC:=LH HC0;clear HC0;have HB:=LH hb4;clear hb4;have hcn:=LH hcn;have hcs:=LH hcs;have hc1:=LH hc1;have h38:=LH h38;go_wp2_with (refine aQ rfl 28 (.tmp 4) rfl g4 (aO o4) 28 _ HB.out _ underlying28 rfl (by rw [hcn.out];exact bBz) ?_)
 refine HC.out.mono ?_;rintro e w1 ⟨v,rfl,S1⟩;obtain ⟨A2,c2,hv,-,-⟩:=aS (show Ow w1 89 33 v m xs from S1.at_ (l1:=[_]));have hcm1:Hid (∀ u,u ∈ (bD z h v).toList->u.oneCell'=true):=LH (by rw [hv];exact cT rfl);have hcm2:Hid ((bD z h v).size=34):=LH (aN hh);have hc2:=LH (hc1.out v);have h382:=LH (h38.out v);obtain ⟨cv,hcv⟩:∃ cv,Hid (c1 v=cv):=⟨_,LH rfl⟩;rw [hcv.out] at hc2 h382;obtain ⟨cm,hcm⟩:∃ cm,Hid (bD z h v=cm):=⟨_,LH rfl⟩;rw [hcm.out] at hcm1 hcm2 hc2 ⊢;have S1:=LH S1;go_wp2_with (refine gZ rfl 28 (.tmp 75) (.tmp 72) rfl g 4 aE cm aE 85 cs (S1.out.at_ (l1:=[])) (by rw [hcm2.out];exact bBz) (by rw [hcm2.out,hcs.out];decide) hcm1.out ?_;intro w7 b7 k7;rw [hcm2.out,hc2.out] at b7;have S7:=LH (Held.setBlk (l1:=[]) S1.out b7 k7);clear b7 k7;have c33:w7.cell? ⟨g,38,none⟩=some (.bool nd):=(by rw [(show aM w7 g 85 cv from S7.out.at_ (l1:=[])).cell];exact h382.out);have f33:=(show aM w7 g 85 cv from S7.out.at_ (l1:=[])).frozen 38;have S8:=LH (S7.out.set (l1:=[]) 38 (.bool true)))
 rw [<- hcv.out] at S8
 try simp only [Act.put]
 exact hend _ _ tS (⟨v,S8.out⟩)
theorem aJo(w0:World)(g g4:Nat)(cn:Array Value)(hcn:cn.size=34)(hb4:aM w g4 28 cn)(z:Int)(h:Bs)(hh:h.length=32)(m:Nat)(xs:List Value)(cs:Array Value)(hcs:cs.size=142)(c1:Value->Array Value)(nd:Bool)(hc1:∀ v,(cs.toList.take 4 ++ (bD z h v).toList ++ cs.toList.drop (4+34)).toArray=c1 v)(h38:∀ v,(c1 v)[38]?=some (.bool nd))(L:List Res)(HC0:Calls prog 46 #[.agg cn] w fun e w'=>∃ v,e=.returned (.agg (bD z h v)) ∧ Held w0 w' (aB g 85 cs :: aG 89 33 v m xs :: L))(hsz:a.tmps.size=130)(o0:Sl a 0 (Pq g 0))(o4:Sl a 4 (Pq g4 0)):bC false 27 f16 Q a w fun a' W q'=>(∃ v,Held w0 W (aB g 85 ((c1 v).setIfInBounds 38 (.bool true)) :: aG 89 33 v m xs :: L))->q':=by
 refine bU fun hend=>?_;unfold Sl at o0 o4;have HC:=LH HC0;clear HC0;have HB:=LH hb4;clear hb4;have hcn:=LH hcn;have hcs:=LH hcs;have hc1:=LH hc1;have h38:=LH h38;go_wp2_with (refine aQ rfl 28 (.tmp 4) rfl g4 (aO o4) 28 _ HB.out _ underlying28 rfl (by rw [hcn.out];exact bBz) ?_)
 refine HC.out.mono ?_;rintro e w1 ⟨v,rfl,S1⟩;obtain ⟨A2,c2,hv,-,-⟩:=aS (show Ow w1 89 33 v m xs from S1.at_ (l1:=[_]));have hcm1:Hid (∀ u,u ∈ (bD z h v).toList->u.oneCell'=true):=LH (by rw [hv];exact cT rfl);have hcm2:Hid ((bD z h v).size=34):=LH (aN hh);have hc2:=LH (hc1.out v);have h382:=LH (h38.out v);obtain ⟨cv,hcv⟩:∃ cv,Hid (c1 v=cv):=⟨_,LH rfl⟩;rw [hcv.out] at hc2 h382;obtain ⟨cm,hcm⟩:∃ cm,Hid (bD z h v=cm):=⟨_,LH rfl⟩;rw [hcm.out] at hcm1 hcm2 hc2 ⊢;have S1:=LH S1;go_wp2_with (refine gZ rfl 28 (.tmp 126) (.tmp 123) rfl g 4 aE cm aE 85 cs (S1.out.at_ (l1:=[])) (by rw [hcm2.out];exact bBz) (by rw [hcm2.out,hcs.out];decide) hcm1.out ?_;intro w7 b7 k7;rw [hcm2.out,hc2.out] at b7;have S7:=LH (Held.setBlk (l1:=[]) S1.out b7 k7);clear b7 k7;have c33:w7.cell? ⟨g,38,none⟩=some (.bool nd):=(by rw [(show aM w7 g 85 cv from S7.out.at_ (l1:=[])).cell];exact h382.out);have f33:=(show aM w7 g 85 cv from S7.out.at_ (l1:=[])).frozen 38;have S8:=LH (S7.out.set (l1:=[]) 38 (.bool true)))
 rw [<- hcv.out] at S8
 try simp only [Act.put]
 exact hend _ _ tS (⟨v,S8.out⟩)
theorem aMa(w0:World)(g:Nat)(cs:Array Value)(u:Value)(hu:∃ A n c,u=.slice A n c)(v:Value)(hv:∃ A n c,v=.slice A n c)(h3:cs[3]?=some v)(L:List Res)(S:Held w0 w (aB g 85 cs :: L))(hsz:a.tmps.size=130)(o0:Sl a 0 (Pq g 0))(o12:Sl a 12 (u)):bC false 21 f16 Q a w fun a' W q'=>(Held w0 W (aB g 85 (cs.setIfInBounds 3 u) :: L))->q':=by
 refine bU fun hend=>?_;unfold Sl at o0 o12;have c33:w.cell? ⟨g,3,none⟩=some v:=by rw [(show aM w g 85 cs from S.at_ (l1:=[])).cell];exact h3
 have f33:=(show aM w g 85 cs from S.at_ (l1:=[])).frozen 3;have S8:=LH (S.set (l1:=[]) 3 u);obtain ⟨A,n,c,rfl⟩:=hu;obtain ⟨A',n',c',rfl⟩:=hv;clear S;go_wp2_with fail
 try simp only [Act.put]
 exact hend _ _ tS (S8.out)
theorem aKs(A:Option Addr)(n c:Nat)(hsz:a.tmps.size=130)(o2:Sl a 2 (.slice A n c)):bK 22 f16 Q a w fun a' q'=>Sl a' 100 (.slice A n c)->Sl a' 101 (Nq n)->Sl a' 102 (Nq 0)->q':=by
 refine jG fun hend=>?_;unfold Sl at o2;go_wp2_with fail
 try simp only [Act.put]
 exact hend _ tS sP sP sP
theorem aJp(k n:Nat)(hsz:a.tmps.size=130)(o101:Sl a 101 (Nq n))(o102:Sl a 102 (Nq k)):bK 23 f16 Q a w fun a' q'=>Sl a' 103 (.bool (decide (k < n)))->q':=by
 refine jG fun hend=>?_;unfold Sl at o101 o102;go_wp2_with fail
 try simp only [Act.put]
 exact hend _ tS sP
theorem aNg(ad:Addr)(k n c:Nat)(hk:k < n)(u:Value)(hu:w.cell? (ad.add k)=some u)(hus:∃ Au nu cu,u=.slice Au nu cu)(hsz:a.tmps.size=130)(o100:Sl a 100 (.slice (some ad) n c))(o102:Sl a 102 (Nq k)):bK 24 f16 Q a w fun a' q'=>Sl a' 14 (u)->q':=by
 refine jG fun hend=>?_;unfold Sl at o100 o102;have h0:0<=(k:Int):=by omega
 have h1:(k:Int) < (n:Int):=by omega
 obtain ⟨Au,nu,cu,rfl⟩:=hus;go_wp2_with fail
 try simp only [Act.put]
 exact hend _ tS sP
theorem aL6(k:Nat)(hk:k < 9223372036854775807)(hsz:a.tmps.size=130)(o102:Sl a 102 (Nq k)):bK 26 f16 Q a w fun a' q'=>Sl a' 102 (Nq (k+1))->q':=by
 refine jG fun hend=>?_;unfold Sl at o102;have hw:wrap64 ((k:Int)+1)=(k:Int)+1:=by unfold wrap64;omega
 go_wp2_with fail
 try simp only [Act.put]
 exact hend _ tS sP
end
end Go.Proofs.YtmkfopmdingaoaaGreatDoor
