/- Several texts in one: SigBE, SigBF, SigBG, RmC, RmE, InvH, Kna, Knb, RmD, Fka. -/
import Derived.Test.YtmkfopmdingaoaaGreatDoorP9
set_option linter.unusedVariables false
set_option linter.unusedSimpArgs false
set_option maxRecDepth 100000
set_option maxHeartbeats 8000000
open Go.Proofs.Tryz
namespace Go.Proofs.YtmkfopmdingaoaaGreatDoor
section
open Go.RowKit
theorem zM{nm:List UInt8}{l:List bF}(hr:dB [] l=true):(0<=lH nm l) ↔ xR nm l=true:=by
 rw [aD2 hr]
 cases e:lk nm l with
 |none=>
  rw [show lH nm l=-1 from uP e]
  simp
 |some v=>
  obtain ⟨p,hp,-⟩:=sI (k:=0) e;rw [show lH nm l=((0+p:Nat):Int) from hp]
  simp
theorem aDe(n:Nat)(hn:n < 9223372036854775808)(h:Bs)(hh:h.length=32)(nm:Bs)(hnl:nm.length<=64)(Ak:Option Addr)(ck:Nat)(sec:Bs)(hsl:sec.length<=256)(w:World)(hk:Rd w 1 (.slice Ak sec.length ck) sec.length (bv sec)):
 Calls prog 87 #[.agg (cL (n:Int) h),.agg #[.string ⟨nm.toArray⟩,.slice Ak sec.length ck]] w fun r w'=>r=.returned (.agg (aA (eD (n:Int) h nm sec))) ∧ Kp [] w w':=by
 refine aR func87 rfl 15 rfl (fun a0 hsz hdf hAr=>?_);have hz0:a0.tmps.size=15:=hsz;have D:=hdf;have o0:=hAr 0 _ rfl;have o1:=hAr 1 _ rfl;refine wp_seq (aTb w _ _ [] (Held.start w) hz0 o0 o1 (fun a1 w1 hs1 h1=>?_));obtain ⟨hz1,D⟩:=dS hs1 hz0 D;obtain ⟨g2,g3,g4,o2,o3,o4,S⟩:=h1;have S:=(S.pull 2 rfl).pull 1 rfl;refine wp_seq (aUy w n hn h hh nm Ak ck sec hnl hsl (fun V kV=>aT hk kV) g2 g3 g4 _ hz1 o2 o3 o4 S (fun a2 vs gs w2 hs2 S=>?_));obtain ⟨hz2,D,o4⟩:=eY hs2 hz1 D o4;refine wp_ret ?_;exact (bodyPost_ret (aV (by rfl) (o4.eval (by rw [hz2];decide)) (S.at_ (l1:=[_])) underlying23 rfl (by rw [aC,dM];exact bBy)) D ⟨rfl,S.k⟩)
theorem uH(z:Int)(hz:-9223372036854775808<=z ∧ z<=9223372036854775807)(h:Bs)(hh:h.length=32)(nm:Bs)(hnl:nm.length<=9223372036854775807)(Ak:Option Addr)(ck:Nat)(sec:Bs)(w:World)(hk:Rd w 1 (.slice Ak sec.length ck) sec.length (bv sec))(hok:dV z nm sec=true):
 Calls prog 87 #[.agg (cL z h),.agg #[.string ⟨nm.toArray⟩,.slice Ak sec.length ck]] w fun r w'=>r=.returned (.agg (aA (eD z h nm sec))) ∧ Kp [] w w':=by
 unfold dV cR at hok;simp only [Bool.and_eq_true,decide_eq_true_eq] at hok;obtain ⟨n,rfl⟩:=Int.eq_ofNat_of_zero_le hok.1;exact aDe n (by omega) h hh nm (aGb hok.2.1.1) Ak ck sec hok.2.2 w hk
theorem aIi(z:Int)(hz:-9223372036854775808<=z ∧ z<=9223372036854775807)(h:Bs)(hh:h.length=32)(nm:Bs)(hnl:nm.length<=9223372036854775807)(Ak:Option Addr)(ck:Nat)(sec:Bs)(w:World)(hk:Rd w 1 (.slice Ak sec.length ck) sec.length (bv sec)):
 Calls prog 76 #[.agg (cL z h),.agg #[.string ⟨nm.toArray⟩,.slice Ak sec.length ck]] w fun r w'=>r=.returned (.tuple #[.agg (aA (jQ z h nm sec)),.int .i64 (if dV z nm sec then 0 else 2)]) ∧ Kp [] w w':=by
 refine aR func76 rfl 18 rfl (fun a0 hsz hdf hAr=>?_);have hz0:a0.tmps.size=18:=hsz;have D:=hdf;have o0:=hAr 0 _ rfl;have o1:=hAr 1 _ rfl;refine wp_seq (aWh w _ _ [] (Held.start w) hz0 o0 o1 (fun a1 w1 hs1 o5 h1=>?_));obtain ⟨hz1,D⟩:=dS hs1 hz0 D;obtain ⟨g2,g3,g4,o2,o3,o4,S⟩:=h1;have hb2:=S.at_ (l1:=[_,_]);have hb3:=S.at_ (l1:=[_])
 have hfail:∀ (a:Act) (W:World) (L:List Res),a.tmps.size=18->a.defers=[]->Sl a 4 (Pq g4 0)->Sl a 5 (.int .i64 (2:Int))->Held w W (aB g4 23 (aA (List.replicate 32 0)) :: L)->dV z nm sec=false->bodyPost prog f76 (fun r w'=>r=.returned (.tuple #[.agg (aA (jQ z h nm sec)),.int .i64 (if dV z nm sec then 0 else 2)]) ∧ Kp [] w w') .ret a W:=by
  intro a W L hs hd o4 o5 S hF;refine (bodyPost_ret (cG (by rfl) (o4.eval (by rw [hs];decide)) (S.at_ (l1:=[])) underlying23 rfl (by exact bBy)) hd ⟨?_,S.k⟩);unfold jQ;rw [hF];exact congrArg (fun x=>Ending.returned (.tuple #[.agg (aA (List.replicate 32 0)),x])) (o5.eval (by rw [hs];decide))
 by_cases hz1':z < 0
 . have hF:dV z nm sec=false:=by unfold dV;rw [decide_eq_false (by omega),Bool.false_and]
   refine wp_seq (wp_seq (aNz z hz1' h nm Ak ck sec hnl g2 g3 hb2 hb3 hz1 o2 o3 (fun a2 w2 hs2 k2 o13=>?_)));obtain ⟨hz2,D,o2,o3,o4⟩:=dF hs2 hz1 D o2 o3 o4;refine cS o13 ?_;refine wp_seq (aEq w g4 _ (S.kp k2) hz2 o4 (fun a3 w9 hs3 o5 S=>?_));obtain ⟨hz3,D,o2,o3,o4,o13⟩:=fH hs3 hz2 D o2 o3 o4 o13;refine wp_ret ?_;simp only [Exit.then];exact hfail a3 w9 _ hz3 D o4 o5 S hF
 . have hO:dV z nm sec=cR nm sec:=by unfold dV;rw [decide_eq_true (by omega),Bool.true_and]
   refine wp_seq (wp_seq (aLs z (by omega) h nm Ak ck sec hnl g2 g3 hb2 hb3 hz1 o2 o3 (fun a2 w2 hs2 k2 o13=>?_)));obtain ⟨hz2,D,o2,o3,o4⟩:=dF hs2 hz1 D o2 o3 o4
   cases hK:cR nm sec
   . rw [hK] at hO o13;refine cS o13 ?_;refine wp_seq (aEq w g4 _ (S.kp k2) hz2 o4 (fun a3 w9 hs3 o5 S=>?_));obtain ⟨hz3,D,o2,o3,o4,o13⟩:=fH hs3 hz2 D o2 o3 o4 o13;refine wp_ret ?_;simp only [Exit.then];exact hfail a3 w9 _ hz3 D o4 o5 S hO
   . rw [hK] at hO o13;refine dD o13 (wp_skip ?_);simp only [Exit.then];refine wp_seq (aYr w _ _ (aA (eD z h nm sec)) (bV hh) rfl (by rw [aC,dM]) (aI _) g2 g3 g4 [] (S.kp k2) (uH z hz h hh nm hnl Ak ck sec w2 (aT hk (S.k.trans k2 (by simp))) hO) hz2 o2 o3 o4 (fun a3 w3 hs3 o5 S3=>?_));obtain ⟨hz3,D,o4⟩:=eY hs3 hz2 D o4;refine wp_ret ?_;refine (bodyPost_ret (cG (by rfl) (o4.eval (by rw [hz3];decide)) (S3.at_ (l1:=[])) underlying23 rfl (by rw [aC,dM];exact bBy)) D ⟨?_,S3.k⟩);unfold jQ;rw [hO];exact congrArg (fun x=>Ending.returned (.tuple #[.agg (aA (eD z h nm sec)),x])) (o5.eval (by rw [hz3];decide))
theorem aE0(z:Int)(hz:-9223372036854775808<=z ∧ z<=9223372036854775807)(h:Bs)(hh:h.length=32)(A:Option Addr)(c:Nat)(l:List bF)(hok:dI l)(hll:l.length<=9223372036854775806)(nm:Bs)(hnl:nm.length<=9223372036854775807)(Ak:Option Addr)(ck:Nat)(sec:Bs)(w:World)(hv:Rd w 33 (.slice A l.length c) l.length (bB l))(hk:Rd w 1 (.slice Ak sec.length ck) sec.length (bv sec)):
 Calls prog 43 #[.agg (bD z h (.slice A l.length c)),.agg #[.string ⟨nm.toArray⟩,.slice Ak sec.length ck]] w fun e w'=>∃ v,e=.returned (.tuple #[.agg (if iV z l nm sec=0 then bD z h v else bT),.int .i64 (iV z l nm sec)]) ∧ (iV z l nm sec=0->Held w w' [aG 89 33 v (l.length+1) (bB (pJ l (nm,eD z h nm sec)))]) ∧ Kp [] w w':=by
 refine aR func43 rfl 40 rfl (fun a0 hsz hdf hAr=>?_);have hz0:a0.tmps.size=40:=hsz;have D:=hdf;have o0:=hAr 0 _ rfl;have o1:=hAr 1 _ rfl;refine wp_seq (aSg w _ _ [] (Held.start w) hz0 o0 o1 (fun a1 w1 hs1 o5 h1=>?_));obtain ⟨hz1,D⟩:=dS hs1 hz0 D;obtain ⟨g2,g3,g4,o2,o3,o4,S⟩:=h1;have hb2:=S.at_ (l1:=[_,_]);have hb3:=S.at_ (l1:=[_])
 have hfail:∀ (a:Act) (W:World) (L:List Res) (E:Int),a.tmps.size=40->a.defers=[]->Sl a 4 (Pq g4 0)->Sl a 5 (.int .i64 E)->Held w W (aB g4 28 bT :: L)->iV z l nm sec=E->E ≠ 0->bodyPost prog f43 (fun e w'=>∃ v,e=.returned (.tuple #[.agg (if iV z l nm sec=0 then bD z h v else bT),.int .i64 (iV z l nm sec)]) ∧ (iV z l nm sec=0->Held w w' [aG 89 33 v (l.length+1) (bB (pJ l (nm,eD z h nm sec)))]) ∧ Kp [] w w') .ret a W:=by
  intro a W L E hs hd o4 o5 S hE h0;refine (bodyPost_ret (cG (by rfl) (o4.eval (by rw [hs];decide)) (S.at_ (l1:=[])) underlying28 rfl (by rw [show bT.size=34 from rfl];exact bBz)) hd ⟨.slice none 0 0,?_,fun h1=>absurd (hE.symm.trans h1) h0,S.k⟩);rw [hE,if_neg h0];exact congrArg (fun x=>Ending.returned (.tuple #[.agg bT,x])) (o5.eval (by rw [hs];decide))
 cases hm:eH z l
 . skip
   refine wp_seq (wp_seq (aM1 z hz h hh A c l hok hll (aT hv S.k) nm Ak ck sec hnl g2 g3 hb2 hb3 hm hz1 o2 o3 (fun a2 w2 hs2 k2 o13=>?_)));obtain ⟨hz2,D,o2,o3,o4⟩:=dF hs2 hz1 D o2 o3 o4;refine cS o13 ?_;refine wp_seq (aEu w g4 _ (S.kp k2) hz2 o4 (fun a3 w9 hs3 o5 S=>?_));obtain ⟨hz3,D,o2,o3,o4,o13⟩:=fH hs3 hz2 D o2 o3 o4 o13;refine wp_ret ?_;simp only [Exit.then];exact hfail a3 w9 _ 2 hz3 D o4 o5 S (by unfold iV;rw [hm];rfl) (by decide)
 . obtain ⟨h64,hr⟩:=wX hm;have hz0':0<=z:=by unfold eH at hm;simp only [Bool.and_eq_true,decide_eq_true_eq] at hm;exact hm.1.1
   have hO:dV z nm sec=cR nm sec:=by unfold dV;rw [decide_eq_true hz0',Bool.true_and]
   refine wp_seq (wp_seq (aO3 z hz h hh A c l hok hll (aT hv S.k) nm Ak ck sec hnl g2 g3 hb2 hb3 hm hz1 o2 o3 (fun a2 w2 hs2 k2 o13=>?_)));obtain ⟨hz2,D,o2,o3,o4⟩:=dF hs2 hz1 D o2 o3 o4
   cases hK:cR nm sec
   . rw [hK] at hO o13;refine cS o13 ?_;refine wp_seq (aEu w g4 _ (S.kp k2) hz2 o4 (fun a3 w9 hs3 o5 S=>?_));obtain ⟨hz3,D,o2,o3,o4,o13⟩:=fH hs3 hz2 D o2 o3 o4 o13;refine wp_ret ?_;simp only [Exit.then];exact hfail a3 w9 _ 2 hz3 D o4 o5 S (by unfold iV;rw [hm,hO];rfl) (by decide)
   . rw [hK] at hO o13;refine dD o13 (wp_skip ?_);simp only [Exit.then];have S:=S.kp k2;have hb2:=S.at_ (l1:=[_,_]);have hb3:=S.at_ (l1:=[_]);refine wp_seq (wp_seq (aUd z hz h hh A c l hok hll (aT hv S.k) nm Ak ck sec g2 g3 hb2 hb3 hz2 o2 o3 (fun a3 w3 hs3 k3 o20=>?_)));obtain ⟨hz3,D,o2,o3,o4⟩:=dF hs3 hz2 D o2 o3 o4;have S:=S.kp k3
     cases hH:xR nm l
     . have hfn:¬ 0<=lH nm l:=by rw [zM hr,hH];decide
       refine dD o20 (wp_skip ?_) (by rw [decide_eq_false hfn]);simp only [Exit.then];refine wp_seq (wp_seq (aU4 z h hh A l.length c g2 (S.at_ (l1:=[_,_])) hz3 o2 (fun a4 hs4 o25=>?_)));obtain ⟨hz4,D,o2,o3,o4,o20⟩:=fH hs4 hz3 D o2 o3 o4 o20
       by_cases h6:l.length=64
       . skip
         refine cS o25 ?_ (by rw [h6];rfl);refine wp_seq (aQ5 w g4 _ S hz4 o4 (fun a5 w9 hs5 o5 S=>?_));obtain ⟨hz5,D,o2,o3,o4,o20,o25⟩:=jJ hs5 hz4 D o2 o3 o4 o20 o25;refine wp_ret ?_;simp only [Exit.then];exact hfail a5 w9 _ 380 hz5 D o4 o5 S (by unfold iV;rw [hm,hO,hH,if_neg (by decide),if_neg (by decide),if_neg (by decide),if_pos h6]) (by decide)
       . have hE:iV z l nm sec=0:=by unfold iV;rw [hm,hO,hH,if_neg (by decide),if_neg (by decide),if_neg (by decide),if_neg h6]
         have hne:(((l.length:Nat):Int) == 64)=false:=by rw [beq_eq_false_iff_ne];omega
         refine dD o25 (wp_skip ?_) (by rw [hne]);simp only [Exit.then];have S:Held w w3 [aB g4 28 bT,aB g2 28 (bD z h (.slice A l.length c)),aB g3 34 #[.string ⟨nm.toArray⟩,.slice Ak sec.length ck]]:=(S.pull 2 rfl).pull 1 rfl;refine wp_seq (bA4 w z h hh A c l hok h64 (fun V kV=>aT hv kV) nm Ak ck sec (fun V kV=>uH z hz h hh nm hnl Ak ck sec V (aT hk kV) hO) g2 g3 g4 _ hz4 o2 o3 o4 S (fun a5 vs gs w4 hs5 o5 S=>?_));obtain ⟨hz5,D,o4,o20⟩:=dU hs5 hz4 D o4 o20;refine wp_ret ?_;refine (bodyPost_ret (cG (by rfl) (o4.eval (by rw [hz5];decide)) (S.at_ (l1:=[_])) underlying28 rfl (by rw [aN hh];exact bBz)) D ⟨vs 11,?_,fun _=>S.some_of (List.singleton_sublist.2 (by simp)),S.k⟩);rw [hE,if_pos rfl];exact congrArg (fun x=>Ending.returned (.tuple #[.agg (bD z h (vs 11)),x])) (o5.eval (by rw [hz5];decide))
     . have hfn:0<=lH nm l:=(zM hr).2 hH;refine cS o20 ?_ (by rw [decide_eq_true hfn]);refine wp_seq (aW1 w g4 _ S hz3 o4 (fun a4 w9 hs4 o5 S=>?_));obtain ⟨hz4,D,o4⟩:=eY hs4 hz3 D o4;refine wp_ret ?_;simp only [Exit.then];exact hfail a4 w9 _ 8 hz4 D o4 o5 S (by unfold iV;rw [hm,hO,hH,if_neg (by decide),if_neg (by decide),if_pos rfl]) (by decide)
end
section
variable {Q:Exit->Act->World->Prop} {a:Act} {w:World}
open Go.RowKit
theorem aXn(w0:World)(ca:Array Value)(L:List Res)(S:Held w0 w L)(hsz:a.tmps.size=75)(o0:Sl a 0 (.agg ca)):bC false 0 f78 Q a w fun a' W q'=>Sl a' 4 (.slice none 0 0)->(∃ g2,Sl a' 2 (Pq g2 0) ∧ Held w0 W (aB g2 28 ca :: L))->q':=by
 refine bU fun hend=>?_;unfold Sl at o0;have S1:=LH (S.newBlk 28 ca);go_wp2_with fail
 try simp only [Act.put]
 exact hend _ _ tS sP (⟨_,cH,S1.out⟩)
theorem aPo(hsz:a.tmps.size=75):bK 1 f78 Q a w fun a' q'=>Sl a' 5 (.slice none 0 0)->q':=rO
theorem aRh(hsz:a.tmps.size=75):bK 2 f78 Q a w fun a' q'=>Sl a' 6 (Nq 0)->q':=rO
theorem aP4(hsz:a.tmps.size=75):bK 5 f78 Q a w fun a' q'=>Sl a' 7 (.bool false)->q':=rO
theorem aZ8(hsz:a.tmps.size=75):bK 6 f78 Q a w fun a' q'=>Sl a' 8 (Nq 0)->q':=rO
theorem aVz(A:Option Addr)(k n c:Nat)(hsz:a.tmps.size=75)(o1:Sl a 1 (.slice A n c))(o8:Sl a 8 (Nq k)):bK 7 f78 Q a w fun a' q'=>Sl a' 23 (.bool (decide (k < n)))->q':=rO
theorem aTx(k:Nat)(hk:k < 9223372036854775807)(hsz:a.tmps.size=75)(o8:Sl a 8 (Nq k)):bK 8 f78 Q a w fun a' q'=>Sl a' 8 (Nq (k+1))->q':=by
 have hw:wrap64 ((k:Int)+1)=(k:Int)+1:=by unfold wrap64;omega
 exact rO
theorem aVi(k:Nat)(hk:k < 9223372036854775807)(hsz:a.tmps.size=75)(o6:Sl a 6 (Nq k)):bK 4 f78 Q a w fun a' q'=>Sl a' 6 (Nq (k+1))->q':=by
 have hw:wrap64 ((k:Int)+1)=(k:Int)+1:=by unfold wrap64;omega
 exact rO
theorem aKg(b:Bool)(hsz:a.tmps.size=75)(o7:Sl a 7 (.bool b)):bK 10 f78 Q a w fun a' q'=>Sl a' 64 (.bool b)->q':=rO
theorem aKx(v:Value)(hsz:a.tmps.size=75)(o5:Sl a 5 (v)):bK 12 f78 Q a w fun a' q'=>Sl a' 4 (v)->q':=rO
theorem aLi(z:Int)(hz:-9223372036854775808<=z ∧ z<=9223372036854775807)(h:Bs)(hh:h.length=32)(A:Option Addr)(c:Nat)(l:List bF)(hok:dI l)(hll:l.length<=9223372036854775806)(hv:Rd w 33 (.slice A l.length c) l.length (bB l))(ix g2:Nat)(hb2:aM w g2 28 (bD z h (.slice A l.length c)))(hm:eH z l=false)(hsz:a.tmps.size=75)(o2:Sl a 2 (Pq g2 0))(o6:Sl a 6 (Nq ix)):bC false 3 f78 Q a w fun a' W q'=>Kp [] w W->Sl a' 17 (.bool false)->q':=by
 intro hend;have hap:=pa 3 f78;refine aH (l:=(aK 3 f78)) (fun i v W=>match i with|0=>v=.agg (bD z h (.slice A l.length c))|1=>v=.bool false|2=>v=.bool false|8=>v=.bool false|_=>True) hap ?_ ?_ ?_
 . exact fun _ _ _ _ h _=>h
 . and_intros <;> try (intro vs A' W hA hW hd hu K hK;try (refine aL _ rfl rfl ?_;conv=>arg 2;whnf))
   . exact dC (bD z h (.slice A l.length c)) (eO 2 o2) (aM.agg (hb2.k0 hW)) underlying28 (by rw [aN hh];exact bBz)
   . have e9:=vD 9 0;clear hA hd hu o2 o6;go_step;refine (kM z hz h hh l hok (by omega) A c W (aT hv hW)).mono ?_;rintro e w' ⟨rfl,k⟩;exact hK _ _ k (congrArg Value.bool hm)
   . exact aJ (vD 10 1)
   . exact sk
   . exact sk
   . exact sk
   . exact sk
   . exact sk
   . exact cM (vD 11 2) (eU 16 7)
   . trivial
 . intro vs W hW hp;rw [aF];exact hend _ W sQ hW (sW (hp 8 sB))
theorem aKh(z:Int)(hz:-9223372036854775808<=z ∧ z<=9223372036854775807)(h:Bs)(hh:h.length=32)(A:Option Addr)(c:Nat)(l:List bF)(hok:dI l)(hll:l.length<=9223372036854775806)(hv:Rd w 33 (.slice A l.length c) l.length (bB l))(ix g2:Nat)(hb2:aM w g2 28 (bD z h (.slice A l.length c)))(hm:eH z l=true)(hsz:a.tmps.size=75)(o2:Sl a 2 (Pq g2 0))(o6:Sl a 6 (Nq ix)):bC false 3 f78 Q a w fun a' W q'=>Kp [] w W->Sl a' 17 (.bool (decide (ix < l.length)))->q':=by
 intro hend;have hap:=pa 3 f78;refine aH (l:=(aK 3 f78)) (fun i v W=>match i with|0=>v=.agg (bD z h (.slice A l.length c))|1=>v=.bool true|2=>v=.bool true|3=>v=Nq ix|4=>v=Pq g2 33|5=>v=.slice A l.length c|6=>v=Nq (l.length)|7=>v=.bool (decide (ix < l.length))|8=>v=.bool (decide (ix < l.length))|_=>True) hap ?_ ?_ ?_
 . exact fun _ _ _ _ h _=>h
 . and_intros <;> try (intro vs A' W hA hW hd hu K hK;try (refine aL _ rfl rfl ?_;conv=>arg 2;whnf))
   . exact dC (bD z h (.slice A l.length c)) (eO 2 o2) (aM.agg (hb2.k0 hW)) underlying28 (by rw [aN hh];exact bBz)
   . have e9:=vD 9 0;clear hA hd hu o2 o6;go_step;refine (kM z hz h hh l hok (by omega) A c W (aT hv hW)).mono ?_;rintro e w' ⟨rfl,k⟩;exact hK _ _ k (congrArg Value.bool hm)
   . exact aJ (vD 10 1)
   . exact cC (eO 6 o6)
   . exact cC (eO 2 o2)
   . refine qH ?_;(conv=>arg 2;whnf);have c0:W.cell? ⟨g2,33,none⟩=some (.slice A l.length c):=by rw [(hb2.k0 hW).cell];exact cP hh
     exact aJ (vD 13 4)
   . exact cC (vD 14 5)
   . refine qH ?_;(conv=>arg 2;whnf);have e12:=vD 12 3;have e15:=vD 15 6;clear hA hd hu o2 o6;go_step;exact hK _ _ kR (by first|rfl|(refine congrArg Value.bool ?_;simp))
   . exact cM (vD 11 2) (vD 16 7)
   . trivial
 . intro vs W hW hp;rw [aF];exact hend _ W sQ hW (sW (hp 8 sB))
theorem aN8(hsz:a.tmps.size=75)(o7:Sl a 7 (.bool true)):bC true 9 f78 Q a w fun a' W q'=>Kp [] w.drew W->Sl a' 7 (.bool true)->q':=by
 intro hend;have hap:=pa 9 f78;refine gI (l:=(aK 9 f78)) (fun i v W=>match i with|0=>v=.bool true|1=>v=.bool true|7=>v=undef|21=>v=undef|37=>v=.bool true|38=>v=.bool true|_=>True) (by kernel_rfl) hap (by kernel_rfl) ?_ ?_ ?_
 . exact fun _ _ _ _ h _=>h
 . and_intros <;> try (intro vs A' W hA hW hd hu K hK;try (refine aL _ rfl rfl ?_;conv=>arg 2;whnf))
   . have e7:=eU 7 38;rw [show vs 38=.bool true from (hu 38 _ rfl (by kernel_rfl)).trans (o7.eval (sH 7 hsz rfl))] at e7;exact lK
   . exact aJ (vD 26 0)
   . exact sk
   . exact sk
   . exact sk
   . exact sk
   . exact sk
   . exact sk
   . exact qT 7 true (vD 33 7)
   . exact qT 7 true (vD 33 7)
   . exact qT 7 true (vD 33 7)
   . exact qT 7 true (vD 33 7)
   . exact qT 7 true (vD 33 7)
   . exact qT 7 true (vD 33 7)
   . exact qT 7 true (vD 33 7)
   . exact qT 7 true (vD 33 7)
   . exact qT 7 true (vD 33 7)
   . exact qT 7 true (vD 33 7)
   . exact qT 7 true (vD 33 7)
   . exact qT 7 true (vD 33 7)
   . exact sk
   . exact sk
   . exact qT 21 true (vD 47 21)
   . exact qT 21 true (vD 47 21)
   . exact qT 21 true (vD 47 21)
   . exact qT 21 true (vD 47 21)
   . exact qT 21 true (vD 47 21)
   . exact qT 21 true (vD 47 21)
   . exact qT 21 true (vD 47 21)
   . exact qT 21 true (vD 47 21)
   . exact qT 21 true (vD 47 21)
   . exact qT 21 true (vD 47 21)
   . exact qT 21 true (vD 47 21)
   . exact qT 21 true (vD 47 21)
   . exact qT 21 true (vD 47 21)
   . exact qT 21 true (vD 47 21)
   . exact sk
   . exact cM (vD 27 1) (eU 62 36)
   . exact aJ (vD 63 37)
   . trivial
 . intro vs W hW hp;rw [aF];exact hend _ W sQ hW (sW (hp 38 sB))
theorem aJw(ad:Addr)(k n c:Nat)(hk:k < n)(ns:ByteArray)(Ak:Option Addr)(m ck:Nat)(hc:∀ V,Kp [] w.drew V->∀ j u,([.string ns,.slice Ak m ck]:List Value)[j]?=some u->V.cell? ((ad.add (k * 2)).add j)=some u)(z:Int)(h:Bs)(hh:h.length=32)(a2:Addr)(q e ix:Nat)(hi:ix < q)(g2:Nat)(hb2:aM w.drew g2 28 (bD z h (.slice (some a2) q e)))(ms:ByteArray)(sm:Bs)(hsl:sm.length=32)(hs:∀ V,Kp [] w.drew V->∀ j u,(.string ms :: bv sm:List Value)[j]?=some u->V.cell? ((a2.add (ix * 33)).add j)=some u)(bk:Bool)(HKY:∀ V,Kp [] w.drew V->Calls prog 84 #[.agg #[.string ns,.slice Ak m ck]] V fun r w'=>r=.returned (.bool bk) ∧ Kp [] V w')(SF:Bs)(hSF:SF.length=32)(bq:Bool)(hbq:(ns.toList == ms.toList)=bq)(hbk:bk=false)(hsz:a.tmps.size=75)(o1:Sl a 1 (.slice (some ad) n c))(o2:Sl a 2 (Pq g2 0))(o6:Sl a 6 (Nq ix))(o7:Sl a 7 (.bool false))(o8:Sl a 8 (Nq k)):bC true 9 f78 Q a w fun a' W q'=>Kp [] w.drew W->Sl a' 7 (.bool false)->q':=by
 intro hend;have hap:=pa 9 f78;refine gI (l:=(aK 9 f78)) (fun i v W=>match i with|0=>v=.bool false|1=>v=.bool false|2=>v=.slice (some ad) n c|3=>v=Nq k|4=>v=.pointer (some (ad.add (k * 2)))|5=>v=.agg #[.string ns,.slice Ak m ck]|6=>v=.bool false|7=>v=.bool false|20=>v=.bool false|21=>v=.bool false|36=>v=.bool false|37=>v=.bool false|38=>v=.bool false|_=>True) (by kernel_rfl) hap (by kernel_rfl) ?_ ?_ ?_
 . exact fun _ _ _ _ h _=>h
 . and_intros <;> try (intro vs A' W hA hW hd hu K hK;try (refine aL _ rfl rfl ?_;conv=>arg 2;whnf))
   . have e7:=eU 7 38;rw [show vs 38=.bool false from (hu 38 _ rfl (by kernel_rfl)).trans (o7.eval (sH 7 hsz rfl))] at e7;exact lK
   . exact aJ (vD 26 0)
   . exact cC (eO 1 o1)
   . exact cC (eO 8 o8)
   . refine qH ?_;(conv=>arg 2;whnf);have h0:0<=(k:Int):=by omega
     have h1:(k:Int) < (n:Int):=by omega
     exact cM (vD 28 2) (vD 29 3)
   . refine qH ?_;(conv=>arg 2;whnf);have e30:=vD 30 4;clear hA hd hu o1 o2 o6 o7 o8;refine bQ (v:=.agg #[.string ns,.slice Ak m ck]) (w':=W) (dK rfl (by simpa [Act.eval] using e30) (bY W (ad.add (k * 2)) 34 (#[.string ns,.slice Ak m ck]).toList _ (hc _ hW) underlying34 rfl (by exact bC4))) ?_;exact hK _ _ kR rfl
   . refine qH ?_;(conv=>arg 2;whnf);have e31:=vD 31 5;clear hA hd hu o1 o2 o6 o7 o8;go_step;refine (HKY _ hW).mono ?_;rintro e w' ⟨rfl,k⟩;exact hK _ _ k (congrArg Value.bool hbk)
   . exact cC (vD 32 6)
   . exact sk
   . exact sk
   . exact sk
   . exact sk
   . exact sk
   . exact sk
   . exact sk
   . exact sk
   . exact sk
   . exact sk
   . exact sk
   . exact sk
   . exact xZ (vD 33 7) (eU 45 19)
   . exact cC (vD 46 20)
   . exact sk
   . exact sk
   . exact sk
   . exact sk
   . exact sk
   . exact sk
   . exact sk
   . exact sk
   . exact sk
   . exact sk
   . exact sk
   . exact sk
   . exact sk
   . exact sk
   . exact xZ (vD 47 21) (eU 61 35)
   . exact cM (vD 27 1) (vD 62 36)
   . exact aJ (vD 63 37)
   . trivial
 . intro vs W hW hp;rw [aF];exact hend _ W sQ hW (sW (hp 38 sB))
theorem aMe(ad:Addr)(k n c:Nat)(hk:k < n)(ns:ByteArray)(Ak:Option Addr)(m ck:Nat)(hc:∀ V,Kp [] w.drew V->∀ j u,([.string ns,.slice Ak m ck]:List Value)[j]?=some u->V.cell? ((ad.add (k * 2)).add j)=some u)(z:Int)(h:Bs)(hh:h.length=32)(a2:Addr)(q e ix:Nat)(hi:ix < q)(g2:Nat)(hb2:aM w.drew g2 28 (bD z h (.slice (some a2) q e)))(ms:ByteArray)(sm:Bs)(hsl:sm.length=32)(hs:∀ V,Kp [] w.drew V->∀ j u,(.string ms :: bv sm:List Value)[j]?=some u->V.cell? ((a2.add (ix * 33)).add j)=some u)(bk:Bool)(HKY:∀ V,Kp [] w.drew V->Calls prog 84 #[.agg #[.string ns,.slice Ak m ck]] V fun r w'=>r=.returned (.bool bk) ∧ Kp [] V w')(SF:Bs)(hSF:SF.length=32)(bq:Bool)(hbq:(ns.toList == ms.toList)=bq)(hbk:bk=true)(hbt:bq=false)(hsz:a.tmps.size=75)(o1:Sl a 1 (.slice (some ad) n c))(o2:Sl a 2 (Pq g2 0))(o6:Sl a 6 (Nq ix))(o7:Sl a 7 (.bool false))(o8:Sl a 8 (Nq k)):bC true 9 f78 Q a w fun a' W q'=>Kp [] w.drew W->Sl a' 7 (.bool false)->q':=by
 intro hend;have hap:=pa 9 f78;refine gI (l:=(aK 9 f78)) (fun i v W=>match i with|0=>v=.bool false|1=>v=.bool false|2=>v=.slice (some ad) n c|3=>v=Nq k|4=>v=.pointer (some (ad.add (k * 2)))|5=>v=.agg #[.string ns,.slice Ak m ck]|6=>v=.bool true|7=>v=.bool true|8=>v=.slice (some ad) n c|9=>v=Nq k|10=>v=.pointer (some (ad.add (k * 2)))|11=>v=.pointer (some (ad.add (k * 2)))|12=>v=.string ns|13=>v=Pq g2 33|14=>v=.slice (some a2) q e|15=>v=Nq ix|16=>v=.pointer (some (a2.add (ix * 33)))|17=>v=.pointer (some (a2.add (ix * 33)))|18=>v=.string ms|19=>v=.bool false|20=>v=.bool false|21=>v=.bool false|36=>v=.bool false|37=>v=.bool false|38=>v=.bool false|_=>True) (by kernel_rfl) hap (by kernel_rfl) ?_ ?_ ?_
 . exact fun _ _ _ _ h _=>h
 . and_intros <;> try (intro vs A' W hA hW hd hu K hK;try (refine aL _ rfl rfl ?_;conv=>arg 2;whnf))
   . have e7:=eU 7 38;rw [show vs 38=.bool false from (hu 38 _ rfl (by kernel_rfl)).trans (o7.eval (sH 7 hsz rfl))] at e7;exact lK
   . exact aJ (vD 26 0)
   . exact cC (eO 1 o1)
   . exact cC (eO 8 o8)
   . refine qH ?_;(conv=>arg 2;whnf);have h0:0<=(k:Int):=by omega
     have h1:(k:Int) < (n:Int):=by omega
     exact cM (vD 28 2) (vD 29 3)
   . refine qH ?_;(conv=>arg 2;whnf);have e30:=vD 30 4;clear hA hd hu o1 o2 o6 o7 o8;refine bQ (v:=.agg #[.string ns,.slice Ak m ck]) (w':=W) (dK rfl (by simpa [Act.eval] using e30) (bY W (ad.add (k * 2)) 34 (#[.string ns,.slice Ak m ck]).toList _ (hc _ hW) underlying34 rfl (by exact bC4))) ?_;exact hK _ _ kR rfl
   . refine qH ?_;(conv=>arg 2;whnf);have e31:=vD 31 5;clear hA hd hu o1 o2 o6 o7 o8;go_step;refine (HKY _ hW).mono ?_;rintro e w' ⟨rfl,k⟩;exact hK _ _ k (congrArg Value.bool hbk)
   . exact cC (vD 32 6)
   . exact cC (eO 1 o1)
   . exact cC (eO 8 o8)
   . refine qH ?_;(conv=>arg 2;whnf);have h0:0<=(k:Int):=by omega
     have h1:(k:Int) < (n:Int):=by omega
     exact cM (vD 34 8) (vD 35 9)
   . exact cC (vD 36 10)
   . refine qH ?_;(conv=>arg 2;whnf);have c0:W.cell? (ad.add (k * 2))=some (.string ns):=by have:=hc _ hW 0 (.string ns) rfl;rwa [mK] at this
     exact aJ (vD 37 11)
   . exact cC (eO 2 o2)
   . refine qH ?_;(conv=>arg 2;whnf);have c0:W.cell? ⟨g2,33,none⟩=some (.slice (some a2) q e):=by rw [(hb2.k0 hW).cell];exact cP hh
     exact aJ (vD 39 13)
   . exact cC (eO 6 o6)
   . refine qH ?_;(conv=>arg 2;whnf);have h0:0<=(ix:Int):=by omega
     have h1:(ix:Int) < (q:Int):=by omega
     exact cM (vD 40 14) (vD 41 15)
   . exact cC (vD 42 16)
   . refine qH ?_;(conv=>arg 2;whnf);have c0:W.cell? (a2.add (ix * 33))=some (.string ms):=by have:=hs _ hW 0 (.string ms) rfl;rwa [mK] at this
     exact aJ (vD 43 17)
   . refine qH ?_;(conv=>arg 2;whnf);have e38:=vD 38 12;have e44:=vD 44 18;clear hA hd hu o1 o2 o6 o7 o8;go_step;exact hK _ _ kR (by first|rfl|exact congrArg Value.bool (hbq.trans hbt))
   . exact xZ (vD 33 7) (vD 45 19)
   . exact cC (vD 46 20)
   . exact sk
   . exact sk
   . exact sk
   . exact sk
   . exact sk
   . exact sk
   . exact sk
   . exact sk
   . exact sk
   . exact sk
   . exact sk
   . exact sk
   . exact sk
   . exact sk
   . exact xZ (vD 47 21) (eU 61 35)
   . exact cM (vD 27 1) (vD 62 36)
   . exact aJ (vD 63 37)
   . trivial
 . intro vs W hW hp;rw [aF];exact hend _ W sQ hW (sW (hp 38 sB))
theorem aJ4(ad:Addr)(k n c:Nat)(hk:k < n)(ns:ByteArray)(Ak:Option Addr)(m ck:Nat)(hc:∀ V,Kp [] w.drew V->∀ j u,([.string ns,.slice Ak m ck]:List Value)[j]?=some u->V.cell? ((ad.add (k * 2)).add j)=some u)(z:Int)(h:Bs)(hh:h.length=32)(a2:Addr)(q e ix:Nat)(hi:ix < q)(g2:Nat)(hb2:aM w.drew g2 28 (bD z h (.slice (some a2) q e)))(ms:ByteArray)(sm:Bs)(hsl:sm.length=32)(hs:∀ V,Kp [] w.drew V->∀ j u,(.string ms :: bv sm:List Value)[j]?=some u->V.cell? ((a2.add (ix * 33)).add j)=some u)(bk:Bool)(HKY:∀ V,Kp [] w.drew V->Calls prog 84 #[.agg #[.string ns,.slice Ak m ck]] V fun r w'=>r=.returned (.bool bk) ∧ Kp [] V w')(SF:Bs)(hSF:SF.length=32)(bq:Bool)(hbq:(ns.toList == ms.toList)=bq)(hbk:bk=true)(hbt:bq=true)(HJ:∀ V,Kp [] w.drew V->Calls prog 87 #[.agg (cL z h),.agg #[.string ns,.slice Ak m ck]] V fun r w'=>r=.returned (.agg (aA SF)) ∧ Kp [] V w')(hsz:a.tmps.size=75)(o1:Sl a 1 (.slice (some ad) n c))(o2:Sl a 2 (Pq g2 0))(o6:Sl a 6 (Nq ix))(o7:Sl a 7 (.bool false))(o8:Sl a 8 (Nq k)):bC true 9 f78 Q a w fun a' W q'=>Kp [] w.drew W->Sl a' 7 (.bool (SF == sm))->q':=by
 intro hend;have hap:=pa 9 f78;refine gI (l:=(aK 9 f78)) (fun i v W=>match i with|0=>v=.bool false|1=>v=.bool false|2=>v=.slice (some ad) n c|3=>v=Nq k|4=>v=.pointer (some (ad.add (k * 2)))|5=>v=.agg #[.string ns,.slice Ak m ck]|6=>v=.bool true|7=>v=.bool true|8=>v=.slice (some ad) n c|9=>v=Nq k|10=>v=.pointer (some (ad.add (k * 2)))|11=>v=.pointer (some (ad.add (k * 2)))|12=>v=.string ns|13=>v=Pq g2 33|14=>v=.slice (some a2) q e|15=>v=Nq ix|16=>v=.pointer (some (a2.add (ix * 33)))|17=>v=.pointer (some (a2.add (ix * 33)))|18=>v=.string ms|19=>v=.bool true|20=>v=.bool true|21=>v=.bool true|22=>v=Pq g2 0|23=>v=.agg (cL z h)|24=>v=.slice (some ad) n c|25=>v=Nq k|26=>v=.pointer (some (ad.add (k * 2)))|27=>v=.agg #[.string ns,.slice Ak m ck]|28=>v=.agg (aA SF)|29=>v=Pq g2 33|30=>v=.slice (some a2) q e|31=>v=Nq ix|32=>v=.pointer (some (a2.add (ix * 33)))|33=>v=.pointer (some ((a2.add (ix * 33)).add 1))|34=>v=.agg (aA sm)|35=>v=.bool (SF == sm)|36=>v=.bool (SF == sm)|37=>v=.bool (SF == sm)|38=>v=.bool (SF == sm)|_=>True) (by kernel_rfl) hap (by kernel_rfl) ?_ ?_ ?_
 . exact fun _ _ _ _ h _=>h
 . and_intros <;> try (intro vs A' W hA hW hd hu K hK;try (refine aL _ rfl rfl ?_;conv=>arg 2;whnf))
   . have e7:=eU 7 38;rw [show vs 38=.bool false from (hu 38 _ rfl (by kernel_rfl)).trans (o7.eval (sH 7 hsz rfl))] at e7;exact lK
   . exact aJ (vD 26 0)
   . exact cC (eO 1 o1)
   . exact cC (eO 8 o8)
   . refine qH ?_;(conv=>arg 2;whnf);have h0:0<=(k:Int):=by omega
     have h1:(k:Int) < (n:Int):=by omega
     exact cM (vD 28 2) (vD 29 3)
   . refine qH ?_;(conv=>arg 2;whnf);have e30:=vD 30 4;clear hA hd hu o1 o2 o6 o7 o8;refine bQ (v:=.agg #[.string ns,.slice Ak m ck]) (w':=W) (dK rfl (by simpa [Act.eval] using e30) (bY W (ad.add (k * 2)) 34 (#[.string ns,.slice Ak m ck]).toList _ (hc _ hW) underlying34 rfl (by exact bC4))) ?_;exact hK _ _ kR rfl
   . refine qH ?_;(conv=>arg 2;whnf);have e31:=vD 31 5;clear hA hd hu o1 o2 o6 o7 o8;go_step;refine (HKY _ hW).mono ?_;rintro e w' ⟨rfl,k⟩;exact hK _ _ k (congrArg Value.bool hbk)
   . exact cC (vD 32 6)
   . exact cC (eO 1 o1)
   . exact cC (eO 8 o8)
   . refine qH ?_;(conv=>arg 2;whnf);have h0:0<=(k:Int):=by omega
     have h1:(k:Int) < (n:Int):=by omega
     exact cM (vD 34 8) (vD 35 9)
   . exact cC (vD 36 10)
   . refine qH ?_;(conv=>arg 2;whnf);have c0:W.cell? (ad.add (k * 2))=some (.string ns):=by have:=hc _ hW 0 (.string ns) rfl;rwa [mK] at this
     exact aJ (vD 37 11)
   . exact cC (eO 2 o2)
   . refine qH ?_;(conv=>arg 2;whnf);have c0:W.cell? ⟨g2,33,none⟩=some (.slice (some a2) q e):=by rw [(hb2.k0 hW).cell];exact cP hh
     exact aJ (vD 39 13)
   . exact cC (eO 6 o6)
   . refine qH ?_;(conv=>arg 2;whnf);have h0:0<=(ix:Int):=by omega
     have h1:(ix:Int) < (q:Int):=by omega
     exact cM (vD 40 14) (vD 41 15)
   . exact cC (vD 42 16)
   . refine qH ?_;(conv=>arg 2;whnf);have c0:W.cell? (a2.add (ix * 33))=some (.string ms):=by have:=hs _ hW 0 (.string ms) rfl;rwa [mK] at this
     exact aJ (vD 43 17)
   . refine qH ?_;(conv=>arg 2;whnf);have e38:=vD 38 12;have e44:=vD 44 18;clear hA hd hu o1 o2 o6 o7 o8;go_step;exact hK _ _ kR (by first|rfl|exact congrArg Value.bool (hbq.trans hbt))
   . exact xZ (vD 33 7) (vD 45 19)
   . exact cC (vD 46 20)
   . exact cC (eO 2 o2)
   . refine qH ?_;(conv=>arg 2;whnf);exact dC (cL z h) (vD 48 22) (eE (hb2.k0 hW)) underlying25 (by rw [bV hh];exact bC0)
   . exact cC (eO 1 o1)
   . exact cC (eO 8 o8)
   . refine qH ?_;(conv=>arg 2;whnf);have h0:0<=(k:Int):=by omega
     have h1:(k:Int) < (n:Int):=by omega
     exact cM (vD 50 24) (vD 51 25)
   . refine qH ?_;(conv=>arg 2;whnf);have e52:=vD 52 26;clear hA hd hu o1 o2 o6 o7 o8;refine bQ (v:=.agg #[.string ns,.slice Ak m ck]) (w':=W) (dK rfl (by simpa [Act.eval] using e52) (bY W (ad.add (k * 2)) 34 (#[.string ns,.slice Ak m ck]).toList _ (hc _ hW) underlying34 rfl (by exact bC4))) ?_;exact hK _ _ kR rfl
   . refine qH ?_;(conv=>arg 2;whnf);have e49:=vD 49 23;have e53:=vD 53 27;clear hA hd hu o1 o2 o6 o7 o8;go_step;refine (HJ _ hW).mono ?_;rintro e w' ⟨rfl,k⟩;exact hK _ _ k rfl
   . exact cC (eO 2 o2)
   . refine qH ?_;(conv=>arg 2;whnf);have c0:W.cell? ⟨g2,33,none⟩=some (.slice (some a2) q e):=by rw [(hb2.k0 hW).cell];exact cP hh
     exact aJ (vD 55 29)
   . exact cC (eO 6 o6)
   . refine qH ?_;(conv=>arg 2;whnf);have h0:0<=(ix:Int):=by omega
     have h1:(ix:Int) < (q:Int):=by omega
     exact cM (vD 56 30) (vD 57 31)
   . exact cC (vD 58 32)
   . refine qH ?_;(conv=>arg 2;whnf)
     have hcs:∀ j u,(aA sm).toList[j]?=some u->W.cell? (((a2.add (ix * 33)).add 1).add j)=some u:=fun j u hu=>by
      have:=hs _ hW (j+1) u (by rw [List.getElem?_cons_succ];exact hu)
      rw [dZ,Nat.add_comm 1 j];exact this
     exact dC (aA sm) (vD 59 33) hcs underlying23 (by rw [aC,hsl];exact bBy)
   . refine qH ?_;(conv=>arg 2;whnf);have e54:=vD 54 28;have e60:=vD 60 34;clear hA hd hu o1 o2 o6 o7 o8;refine bQ (v:=.bool (SF == sm)) (w':=W) (bH rfl (by simpa [Act.eval] using e54) (by simpa [Act.eval] using e60) eqGuardType23 (jT W SF sm hSF hsl)) ?_;exact hK _ _ kR rfl
   . exact xZ (vD 47 21) (vD 61 35)
   . exact cM (vD 27 1) (vD 62 36)
   . exact aJ (vD 63 37)
   . trivial
 . intro vs W hW hp;rw [aF];exact hend _ W sQ hW (sW (hp 38 sB))
theorem aNl(w0:World)(z:Int)(h:Bs)(hh:h.length=32)(a2:Addr)(q e ix:Nat)(hi:ix < q)(g2:Nat)(ns:ByteArray)(hs:w.cell? (a2.add (ix * 33))=some (.string ns))(n:Nat)(hn:n < 1000000)(v:Value)(xs:List Value)(L:List Res)(S:Held w0 w (aG 9 1 v n xs :: aB g2 28 (bD z h (.slice (some a2) q e)) :: L))(hsz:a.tmps.size=75)(o2:Sl a 2 (Pq g2 0))(o5:Sl a 5 (v))(o6:Sl a 6 (Nq ix)):bC false 11 f78 Q a w fun a' W q'=>(∃ v',Sl a' 5 v' ∧ Held w0 W (aG 9 1 v' (n+1) (xs ++ [.string ns]) :: aB g2 28 (bD z h (.slice (some a2) q e)) :: L))->q':=by
 refine bU fun hend=>?_;unfold Sl at o2 o5 o6;have S:=LH S;have c33:w.cell? ⟨g2,33,none⟩=some (.slice (some a2) q e):=by rw [(S.out.at_ (l1:=[_])).cell];exact cP hh
 have h0:0<=(ix:Int):=by omega
 have h1:(ix:Int) < (q:Int):=by omega
 have S1:=LH (S.out.newBlk 9 #[.string ns]);obtain ⟨i0,hi',hz,hsize,hby⟩:=info_parts bCs;have Hz:=LH hz;clear hz;have hle:Hid (n+1<=maxLen ∧ (n+1) * 16<=140737488355328):=LH ⟨by unfold maxLen;omega,by omega⟩;have HR:Hid (Rd (w.alloc (.cells #[.string ns] 9)) 1 (.slice (some ⟨w.heap.size,0,none⟩) 1 1) 1 [.string ns]):=LH ⟨rfl,_,_,rfl,Nat.le_refl _,by unfold maxLen;omega,(fun h=>by cases h),fun ad had j u hu=>by cases had;exact (S1.out.at_ (l1:=[])).agg j u hu⟩;go_wp2_with (at_builtin;refine gR _ rfl (.tmp 65) (.tmp 72) 129 rfl 9 i0 _ 1 16 underlying129 hi' Hz.out hsize hby rfl (by decide) _ n xs (aO o5) (S1.out.at_ (l1:=[_])) _ 1 [.string ns] aE HR.out (by intro u hu;rw [List.mem_singleton.1 hu];rfl) hle.out.1 hle.out.2 ?_;intro v' w' o3 g3 b3;have S2:=LH (Held.grow (l1:=[_]) S1.out o3 g3 b3);clear o3 g3 b3)
 try simp only [Act.put]
 exact hend _ _ tS (⟨v',cH,S2.out.drop⟩)
end
section
open Go.RowKit
theorem aFc(a b:Bs):(a == b)=(b == a):=by
 by_cases e:a=b
 . rw [e]
 . rw [beq_false_of_ne e,beq_false_of_ne (fun e2=>e e2.symm)]
theorem yP(z:Int)(hz:-9223372036854775808<=z ∧ z<=9223372036854775807)(h:Bs)(hh:h.length=32)(A:Option Addr)(c:Nat)(l:List bF)(hok:dI l)(hll:l.length<=9223372036854775806)(Ak:Option Addr)(ck:Nat)(ks:List fR)(hks:ks.length<=35184372088832)(hnm:∀ k,k ∈ ks->k.1.length<=maxLen)(vs:List Value)(w:World)(hv:Rd w 33 (.slice A l.length c) l.length (bB l))(hkv:wI w (.slice Ak ks.length ck) vs ks):
 Calls prog 78 #[.agg (bD z h (.slice A l.length c)),.slice Ak ks.length ck] w fun e w'=>∃ v,e=.returned v ∧ Held w w' [aG 9 1 v (dN z h l ks).length ((dN z h l ks).map bX)]:=by
 refine aR func78 rfl 75 rfl (fun a0 hsz hdf hAr=>?_);have hz0:a0.tmps.size=75:=hsz;have D:=hdf;have o0:=hAr 0 _ rfl;have o1:=hAr 1 _ rfl;refine wp_seq (aXn w _ [] (Held.start w) hz0 o0 (fun a1 w1 hs1 o4 h1=>?_));obtain ⟨hz1,D,o1⟩:=eY hs1 hz0 D o1;obtain ⟨g2,o2,S⟩:=h1;refine wp_seq (aPo hz1 (fun a2 hs2 o5=>?_));obtain ⟨hz2,D,o1,o2⟩:=dU hs2 hz1 D o1 o2;refine wp_seq (wp_seq (aRh hz2 (fun a3 hs3 o6=>?_)));obtain ⟨hz3,D,o1,o2,o5⟩:=dF hs3 hz2 D o1 o2 o5;have S:Held w w1 [aG 9 1 (.slice none 0 0) 0 [],aB g2 28 (bD z h (.slice A l.length c))]:=S.new (aG 9 1 (.slice none 0 0) 0 []) kR (show Ow w1 9 1 (.slice none 0 0) 0 [] from ⟨rfl,.inl ⟨rfl,rfl⟩⟩) (fun b hb=>by simp [aG,Value.ownBlock] at hb)
 have hend:∀ (a:Act) (W:World) (v:Value) (R:List (List UInt8)),a.tmps.size=75->a.defers=[]->Sl a 5 v->Held w W [aG 9 1 v R.length (R.map bX),aB g2 28 (bD z h (.slice A l.length c))]->R=dN z h l ks->(wK 3 f78).wp prog (bodyPost prog f78 fun e w'=>∃ v,e=.returned v ∧ Held w w' [aG 9 1 v (dN z h l ks).length ((dN z h l ks).map bX)]) a W:=by
  intro a W v R hs hd o5 S hR
  (conv=>arg 2;whnf)
  refine wp_seq (aKx v hs o5 (fun a2 hs2 o4=>?_));refine wp_ret ?_;rw [hR] at S;exact (bodyPost_ret (eN (by rfl) (o4.eval (by rw [hs2.size,hs];decide))) (hs2.defers.trans hd) ⟨v,rfl,S.some_of (List.singleton_sublist.2 (by simp))⟩)
 cases hm:eH z l
 . refine wp_block ?_
   (conv=>arg 2;whnf)
   refine wp_loop (fun a' w'=>a'=a3 ∧ w'=w1) (fun _ _=>0) ⟨rfl,rfl⟩ ?_;rintro a4 w4 ⟨rfl,rfl⟩;refine wp_seq (wp_seq (aLi z hz h hh A c l hok hll (aT hv S.k) 0 g2 (S.at_ (l1:=[_])) hm hz3 o2 o6 (fun a5 w5 hs5 k5 o17=>?_)));have hz5:=hs5.size.trans hz3;refine dD o17 (wp_exit ?_);simp only [Exit.then,Exit.inBlock];exact hend a5 w5 _ [] hz5 (hs5.defers.trans D) (hs5.q o5) (S.kp k5) (by unfold dN;rw [hm];rfl)
 . obtain ⟨h64,hr⟩:=wX hm;have hz0':0<=z:=by unfold eH at hm;simp only [Bool.and_eq_true,decide_eq_true_eq] at hm;exact hm.1.1
   refine wp_block ?_
   (conv=>arg 2;whnf)
   refine wp_loop (fun a' w'=>∃ (ix:Nat) (v:Value),ix<=l.length ∧ a'.tmps.size=75 ∧ a'.defers=[] ∧ Sl a' 1 (.slice Ak ks.length ck) ∧ Sl a' 2 (Pq g2 0) ∧ Sl a' 5 v ∧ Sl a' 6 (Nq ix) ∧ Held w w' [aG 9 1 v (((l.take (ix)).filter fun s=>ks.any fun k=>bO z h k s).map (·.1)).length ((((l.take (ix)).filter fun s=>ks.any fun k=>bO z h k s).map (·.1)).map bX),aB g2 28 (bD z h (.slice A l.length c))]) (fun a' _=>l.length - (intOf (a'.eval (.tmp 6))).toNat) ⟨0,_,Nat.zero_le _,hz3,D,o1,o2,o5,o6,S⟩ ?_
   iterate 9 (try clear o1)
   iterate 9 (try clear o2)
   iterate 9 (try clear o5)
   iterate 9 (try clear o6)
   iterate 9 (try clear S)
   iterate 9 (try clear D)
   rintro a5 w5 ⟨ix,v,hix,hz5,D,o1,o2,o5,o6,S⟩;have e6:=o6.eval (by rw [hz5];decide);refine wp_seq (wp_seq (aKh z hz h hh A c l hok hll (aT hv S.k) ix g2 (S.at_ (l1:=[_])) hm hz5 o2 o6 (fun a6 w6 hs6 k6 o17=>?_)));obtain ⟨hz6,D,o1,o2,o5,o6⟩:=fH hs6 hz5 D o1 o2 o5 o6;have S:=S.kp k6
   by_cases hlt:ix < l.length
   . refine cS o17 (wp_skip ?_) (by rw [decide_eq_true hlt]);simp only [Exit.then];obtain ⟨a2',hA⟩:=iT hv (by omega);have hva:=hv;rw [hA] at hva;obtain ⟨s,hs⟩:∃ s,l[ix]?=some s:=⟨_,List.getElem?_eq_getElem hlt⟩;have hsk:=hok s (List.mem_of_getElem? hs);have htk:l.take (ix+1)=l.take ix ++ [s]:=by rw [List.take_add_one,hs];rfl
     have hback:∀ (a9:Act) (w9:World) (v2:Value),a9.tmps.size=75->a9.defers=[]->Sl a9 1 (.slice Ak ks.length ck)->Sl a9 2 (Pq g2 0)->Sl a9 5 v2->Sl a9 6 (Nq ix)->Held w w9 [aG 9 1 v2 (((l.take (ix+1)).filter fun s=>ks.any fun k=>bO z h k s).map (·.1)).length ((((l.take (ix+1)).filter fun s=>ks.any fun k=>bO z h k s).map (·.1)).map bX),aB g2 28 (bD z h (.slice A l.length c))]->
      ∀ R,(Code.region 4 (aK 4 f78).toArray false).wp prog (Exit.then (fun a' w'=>(∃ (ix:Nat) (v:Value),ix<=l.length ∧ a'.tmps.size=75 ∧ a'.defers=[] ∧ Sl a' 1 (.slice Ak ks.length ck) ∧ Sl a' 2 (Pq g2 0) ∧ Sl a' 5 v ∧ Sl a' 6 (Nq ix) ∧ Held w w' [aG 9 1 v (((l.take (ix)).filter fun s=>ks.any fun k=>bO z h k s).map (·.1)).length ((((l.take (ix)).filter fun s=>ks.any fun k=>bO z h k s).map (·.1)).map bX),aB g2 28 (bD z h (.slice A l.length c))]) ∧ l.length - (intOf (a'.eval (.tmp 6))).toNat < l.length - (intOf (a5.eval (.tmp 6))).toNat) R) a9 w9:=by
      intro a9 w9 v2 hz9 D o1 o2 o5 o6 S R;refine aVi ix (by omega) hz9 o6 (fun a10 hs10 o6'=>?_);have hz10:=hs10.size.trans hz9;refine ⟨⟨ix+1,v2,by omega,hz10,hs10.defers.trans D,hs10.q o1,hs10.q o2,hs10.q o5,o6',S⟩,?_⟩;rw [e6,o6'.eval (by rw [hz10];decide)];simp only [intOf];omega
     refine wp_seq (wp_block ?_);refine wp_seq (aP4 hz6 (fun a7 hs7 o7=>?_));obtain ⟨hz7,D,o1,o2,o5,o6,o17⟩:=jJ hs7 hz6 D o1 o2 o5 o6 o17;refine wp_seq (wp_seq (aZ8 hz7 (fun a8 hs8 o8=>?_)));obtain ⟨hz8,D,o1,o2,o5,o6,o17,o7⟩:=jF hs8 hz7 D o1 o2 o5 o6 o17 o7;refine wp_block ?_
     (conv=>arg 2;whnf)
     refine wp_loop (fun a' w'=>∃ kx:Nat,kx<=ks.length ∧ a'.tmps.size=75 ∧ a'.defers=[] ∧ Sl a' 1 (.slice Ak ks.length ck) ∧ Sl a' 2 (Pq g2 0) ∧ Sl a' 5 v ∧ Sl a' 6 (Nq ix) ∧ Sl a' 7 (.bool ((ks.take kx).any fun k=>bO z h k s)) ∧ Sl a' 8 (Nq kx) ∧ Held w w' [aG 9 1 v (((l.take (ix)).filter fun s=>ks.any fun k=>bO z h k s).map (·.1)).length ((((l.take (ix)).filter fun s=>ks.any fun k=>bO z h k s).map (·.1)).map bX),aB g2 28 (bD z h (.slice A l.length c))]) (fun a' _=>ks.length - (intOf (a'.eval (.tmp 8))).toNat) ⟨0,Nat.zero_le _,hz8,D,o1,o2,o5,o6,o7,o8,S⟩ ?_
     iterate 9 (try clear o1)
     iterate 9 (try clear o2)
     iterate 9 (try clear o5)
     iterate 9 (try clear o6)
     iterate 9 (try clear o7)
     iterate 9 (try clear o8)
     iterate 9 (try clear o17)
     iterate 9 (try clear S)
     iterate 9 (try clear D)
     rintro a9 w9 ⟨kx,hkx,hz9,D,o1,o2,o5,o6,o7,o8,S⟩;have e8:=o8.eval (by rw [hz9];decide);refine wp_seq (wp_seq (aVz Ak kx ks.length ck hz9 o1 o8 (fun a10 hs10 o23=>?_)));obtain ⟨hz10,D,o1,o2,o5,o6,o7,o8⟩:=jF hs10 hz9 D o1 o2 o5 o6 o7 o8
     by_cases hlk:kx < ks.length
     . refine cS o23 (wp_skip ?_) (by rw [decide_eq_true hlk]);simp only [Exit.then];obtain ⟨kk,hkk⟩:∃ kk,ks[kx]?=some kk:=⟨_,List.getElem?_eq_getElem hlk⟩;have htk2:(ks.take (kx+1)).any (fun k=>bO z h k s)=((ks.take kx).any (fun k=>bO z h k s) || bO z h kk s):=by rw [List.take_add_one,hkk];simp
       have hback2:∀ (a':Act) (w':World),a'.tmps.size=75->a'.defers=[]->Sl a' 1 (.slice Ak ks.length ck)->Sl a' 2 (Pq g2 0)->Sl a' 5 v->Sl a' 6 (Nq ix)->Sl a' 7 (.bool ((ks.take (kx+1)).any fun k=>bO z h k s))->Sl a' 8 (Nq kx)->Held w w' [aG 9 1 v (((l.take (ix)).filter fun s=>ks.any fun k=>bO z h k s).map (·.1)).length ((((l.take (ix)).filter fun s=>ks.any fun k=>bO z h k s).map (·.1)).map bX),aB g2 28 (bD z h (.slice A l.length c))]->
        ∀ R,(Code.region 8 (aK 8 f78).toArray false).wp prog (Exit.then (fun a' w'=>(∃ kx:Nat,kx<=ks.length ∧ a'.tmps.size=75 ∧ a'.defers=[] ∧ Sl a' 1 (.slice Ak ks.length ck) ∧ Sl a' 2 (Pq g2 0) ∧ Sl a' 5 v ∧ Sl a' 6 (Nq ix) ∧ Sl a' 7 (.bool ((ks.take kx).any fun k=>bO z h k s)) ∧ Sl a' 8 (Nq kx) ∧ Held w w' [aG 9 1 v (((l.take (ix)).filter fun s=>ks.any fun k=>bO z h k s).map (·.1)).length ((((l.take (ix)).filter fun s=>ks.any fun k=>bO z h k s).map (·.1)).map bX),aB g2 28 (bD z h (.slice A l.length c))]) ∧ ks.length - (intOf (a'.eval (.tmp 8))).toNat < ks.length - (intOf (a9.eval (.tmp 8))).toNat) R) a' w':=by
        intro a' w' hza D o1 o2 o5 o6 o7 o8 S R;refine aTx kx (by omega) hza o8 (fun a12 hs12 o8'=>?_);have hz12:=hs12.size.trans hza;refine ⟨⟨kx+1,by omega,hz12,hs12.defers.trans D,hs12.q o1,hs12.q o2,hs12.q o5,hs12.q o6,hs12.q o7,o8',S⟩,?_⟩;rw [e8,o8'.eval (by rw [hz12];decide)];simp only [intOf];omega
       have hSd:=fun (V:World) (kV:Kp [] w9.drew V)=>S.k.drew.trans kV (by simp)
       refine wp_seq (wp_block ?_)
       cases hb0:(ks.take kx).any (fun k=>bO z h k s)
       . rw [hb0,Bool.false_or] at htk2;rw [hb0] at o7;obtain ⟨adk,hK⟩:∃ ad,Ak=some ad:=zG hkv (by omega);have hkv2:=hkv;rw [hK] at hkv2 o1;obtain ⟨As,cs,hkc,hks'⟩:=hkv2.at2 hkk;have hb2':aM w9.drew g2 28 (bD z h (.slice (some a2') l.length c)):=by rw [<- hA];exact (S.at_ (l1:=[_])).drew
         have hSF:(eD z h kk.1 kk.2).length=32:=dM ..;have HKY:=fun (V:World) (kV:Kp [] w9.drew V)=>tX ⟨kk.1.toArray⟩ (by rw [iX];have:=hnm kk (List.mem_of_getElem? hkk);unfold maxLen at this;omega) As kk.2.length cs V
         have hbq:((ByteArray.mk kk.1.toArray).toList == (ByteArray.mk s.1.toArray).toList)=(kk.1 == s.1):=by rw [oF,oF]
         have hsO:dV z kk.1 kk.2=cR kk.1 kk.2:=by unfold dV;rw [decide_eq_true hz0',Bool.true_and]
         cases hKo:cR kk.1 kk.2
         . have hM:bO z h kk s=false:=by unfold bO;rw [hsO,hKo,Bool.false_and,Bool.and_false]
           refine aJw adk kx ks.length ck hlk ⟨kk.1.toArray⟩ As kk.2.length cs (fun V kV=>hkc V (hSd V kV)) z h hh a2' l.length c ix hlt g2 hb2' ⟨s.1.toArray⟩ s.2 hsk.1 (fun V kV=>gF (aT hva (hSd V kV)) hok hs) (cR kk.1 kk.2) HKY (eD z h kk.1 kk.2) hSF (kk.1 == s.1) hbq hKo hz10 o1 o2 o6 o7 o8 (fun a11 w11 hs11 k11 o7=>?_);obtain ⟨hz11,D,o1,o2,o5,o6,o8,o23⟩:=jF hs11 hz10 D o1 o2 o5 o6 o8 o23;simp only [Exit.inBlock,Exit.then];rw [<- hK] at o1;exact hback2 a11 w11 hz11 D o1 o2 o5 o6 (by rw [htk2,hM];exact o7) o8 (S.kp (((Kp.refl [] w9).drew).trans k11 (by simp))) _
         . cases hN:(kk.1 == s.1)
           . have hM:bO z h kk s=false:=by unfold bO;rw [aFc s.1 kk.1,hN,Bool.false_and]
             refine aMe adk kx ks.length ck hlk ⟨kk.1.toArray⟩ As kk.2.length cs (fun V kV=>hkc V (hSd V kV)) z h hh a2' l.length c ix hlt g2 hb2' ⟨s.1.toArray⟩ s.2 hsk.1 (fun V kV=>gF (aT hva (hSd V kV)) hok hs) (cR kk.1 kk.2) HKY (eD z h kk.1 kk.2) hSF (kk.1 == s.1) hbq hKo hN hz10 o1 o2 o6 o7 o8 (fun a11 w11 hs11 k11 o7=>?_);obtain ⟨hz11,D,o1,o2,o5,o6,o8,o23⟩:=jF hs11 hz10 D o1 o2 o5 o6 o8 o23;simp only [Exit.inBlock,Exit.then];rw [<- hK] at o1;exact hback2 a11 w11 hz11 D o1 o2 o5 o6 (by rw [htk2,hM];exact o7) o8 (S.kp (((Kp.refl [] w9).drew).trans k11 (by simp))) _
           . have hM:bO z h kk s=(eD z h kk.1 kk.2 == s.2):=by unfold bO jQ;rw [show (s.1 == kk.1)=true from by rw [eq_of_beq hN];exact beq_self_eq_true _,hsO,hKo,if_pos rfl,Bool.true_and,Bool.true_and]
             refine aJ4 adk kx ks.length ck hlk ⟨kk.1.toArray⟩ As kk.2.length cs (fun V kV=>hkc V (hSd V kV)) z h hh a2' l.length c ix hlt g2 hb2' ⟨s.1.toArray⟩ s.2 hsk.1 (fun V kV=>gF (aT hva (hSd V kV)) hok hs) (cR kk.1 kk.2) HKY (eD z h kk.1 kk.2) hSF (kk.1 == s.1) hbq hKo hN (fun V kV=>uH z hz h hh kk.1 (by have:=hnm kk (List.mem_of_getElem? hkk);unfold maxLen at this;omega) As cs kk.2 V (aT hks' (hSd V kV)) (hsO.trans hKo)) hz10 o1 o2 o6 o7 o8 (fun a11 w11 hs11 k11 o7=>?_);obtain ⟨hz11,D,o1,o2,o5,o6,o8,o23⟩:=jF hs11 hz10 D o1 o2 o5 o6 o8 o23;simp only [Exit.inBlock,Exit.then];rw [<- hK] at o1;exact hback2 a11 w11 hz11 D o1 o2 o5 o6 (by rw [htk2,hM];exact o7) o8 (S.kp (((Kp.refl [] w9).drew).trans k11 (by simp))) _
       . rw [hb0,Bool.true_or] at htk2;rw [hb0] at o7;refine aN8 hz10 o7 (fun a11 w11 hs11 k11 o7=>?_);obtain ⟨hz11,D,o1,o2,o5,o6,o8,o23⟩:=jF hs11 hz10 D o1 o2 o5 o6 o8 o23;simp only [Exit.inBlock,Exit.then];exact hback2 a11 w11 hz11 D o1 o2 o5 o6 (by rw [htk2];exact o7) o8 (S.kp (((Kp.refl [] w9).drew).trans k11 (by simp))) _
     . refine dD o23 (wp_exit ?_) (by rw [decide_eq_false hlk]);simp only [Exit.then,Exit.inBlock];have hkl:kx=ks.length:=by omega
       rw [hkl,List.take_length] at o7;refine wp_seq (aKg _ hz10 o7 (fun a11 hs11 o64=>?_));obtain ⟨hz11,D,o1,o2,o5,o6⟩:=fH hs11 hz10 D o1 o2 o5 o6
       cases hb:ks.any (fun k=>bO z h k s)
       . have hR:(((l.take (ix+1)).filter fun s=>ks.any fun k=>bO z h k s).map (·.1))=(((l.take (ix)).filter fun s=>ks.any fun k=>bO z h k s).map (·.1)):=by rw [htk,List.filter_append,List.filter_cons_of_neg (by rw [hb];decide),List.filter_nil,List.append_nil]
         refine dD o64 (wp_skip ?_) (by rw [hb]);simp only [Exit.inBlock,Exit.then];exact hback a11 w9 v hz11 D o1 o2 o5 o6 (by rw [hR];exact S) _
       . have hR:(((l.take (ix+1)).filter fun s=>ks.any fun k=>bO z h k s).map (·.1))=(((l.take (ix)).filter fun s=>ks.any fun k=>bO z h k s).map (·.1)) ++ [s.1]:=by rw [htk,List.filter_append,List.filter_cons_of_pos (by rw [hb]),List.filter_nil,List.map_append];rfl
         have hRl:(((l.take (ix)).filter fun s=>ks.any fun k=>bO z h k s).map (·.1)).length<=64:=by rw [List.length_map];have:=List.length_filter_le (fun s=>ks.any fun k=>bO z h k s) (l.take ix);rw [List.length_take] at this;omega
         refine cS o64 ?_ (by rw [hb]);have hc0:=gF (aT hva S.k) hok hs 0 (bX s.1) rfl;rw [mK] at hc0;have S0:Held w w9 [aG 9 1 v (((l.take (ix)).filter fun s=>ks.any fun k=>bO z h k s).map (·.1)).length ((((l.take (ix)).filter fun s=>ks.any fun k=>bO z h k s).map (·.1)).map bX),aB g2 28 (bD z h (.slice (some a2') l.length c))]:=by rw [<- hA];exact S
         refine aNl w z h hh a2' l.length c ix hlt g2 ⟨s.1.toArray⟩ hc0 _ (by omega) v _ [] S0 hz11 o2 o5 o6 (fun a12 w12 hs12 h12=>?_);obtain ⟨hz12,D,o1,o2,o6⟩:=dF hs12 hz11 D o1 o2 o6;obtain ⟨v2,o5,S⟩:=h12;simp only [Exit.inBlock,Exit.then];rw [<- hA] at S;exact hback a12 w12 v2 hz12 D o1 o2 o5 o6 (by rw [hR,List.length_append,List.map_append];exact S) _
   . refine dD o17 (wp_exit ?_) (by rw [decide_eq_false hlt]);simp only [Exit.then,Exit.inBlock];have hil:ix=l.length:=by omega
     exact hend a6 w6 v _ hz6 D o5 S (by unfold dN nO;rw [hm,if_pos rfl,hil,List.take_length])
end
section
variable {Q:Exit->Act->World->Prop} {a:Act} {w:World}
open Go.RowKit Go.Shelf
attribute [local go_sem] Oper.semAt_some
theorem aUl(w0:World)(sv:Value)(A:Option Addr)(n c:Nat)(L:List Res)(S:Held w0 w L)(hsz:a.tmps.size=13)(o0:Sl a 0 (.agg #[sv,.slice A n c])):bC false 0 f34 Q a w fun a' W q'=>(∃ g,Sl a' 1 (Pq g 0) ∧ Held w0 W (aB g 34 #[sv,.slice A n c] :: L))->q':=by
 refine bU fun hend=>?_;unfold Sl at o0;have S1:=LH (S.newBlk 34 #[sv,.slice A n c]);go_wp2
 try simp only [Act.put]
 exact hend _ _ tS (⟨w.heap.size,cH,S1.out⟩)
theorem aYc(w0:World)(g1:Nat)(sv:Value)(hsv:∃ s,sv=.string s)(A:Option Addr)(n c:Nat)(x:Bs)(hx32:x.length=32)(cd:Int)(hb:aM w g1 34 #[sv,.slice A n c])(HC0:Calls prog 76 #[.agg (cL 0 (List.replicate 32 0)),.agg #[sv,.slice A n c]] w fun e w'=>e=.returned (.tuple #[.agg (aA x),.int .i64 cd]) ∧ Kp [] w w')(L:List Res)(S:Held w0 w L)(hsz:a.tmps.size=13)(o1:Sl a 1 (Pq g1 0)):bC false 1 f34 Q a w fun a' W q'=>Sl a' 4 (.int .i64 cd)->(Held w0 W L)->q':=by
 refine bU fun hend=>?_;unfold Sl at o1;have hch:Hid ((aA (x)).size=32):=LH (by rw [aC,hx32]);have Och:=LH (aI (x));obtain ⟨ch,Ech⟩:∃ cs,Hid (aA (x)=cs):=⟨_,LH rfl⟩;rw [Ech.out] at hch Och;rw [Ech.out] at HC0;have HB:=LH bCv;obtain ⟨cp,hcp⟩:∃ cp,Hid (cL 0 (List.replicate 32 0)=cp):=⟨_,LH rfl⟩;rw [hcp.out] at HC0 HB;have HC:=LH HC0;clear HC0;obtain ⟨s,rfl⟩:=hsv;obtain ⟨q1,q2,q3,q4⟩:=aM.c2 hb;clear hb;have S:=LH S;refine iB rfl 25 _ rfl [] (by simp) _ HB.out ?_;go_wp2_with fail
 refine HC.out.mono ?_;rintro e w1 ⟨rfl,k1⟩;have S1:=LH ((S.out.kp k1).newBlk 23 (aA (List.replicate 32 0)));clear k1;go_wp2_with (refine aD rfl 23 (.tmp 3) (.tmp 9) rfl w1.heap.size aE ch aE 23 _ (S1.out.at_ (l1:=[])) (by rw [hch.out];exact bBy) (by rw [hch.out];rfl) Och.out ?_;intro w7 b7 k7;have S7:=LH (Held.setBlk (l1:=[]) S1.out b7 k7);clear b7 k7)
 try simp only [Act.put]
 exact hend _ _ tS sP (S7.out.drop)
theorem aU5(cd:Int)(hsz:a.tmps.size=13)(o4:Sl a 4 (.int .i64 cd)):bK 2 f34 Q a w fun a' q'=>Sl a' 2 (.bool (cd == 0))->q':=rO
theorem aYu(w0:World)(cn:Array Value)(hcn:cn.size=34)(h1:∀ u,u ∈ cn.toList->u.oneCell'=true)(s:ByteArray)(A:Option Addr)(n c:Nat)(L:List Res)(S:Held w0 w L)(hsz:a.tmps.size=16)(o0:Sl a 0 (.agg cn))(o1:Sl a 1 (.agg #[.string s,.slice A n c])):bC false 0 f36 Q a w fun a' W q'=>Sl a' 4 (.int .i64 (0:Int))->(∃ g2 g3,Sl a' 2 (Pq g2 0) ∧ Sl a' 3 (Pq g3 0) ∧ Held w0 W (aB g3 34 #[.string s,.slice A n c] :: aB g2 28 cn :: L))->q':=by
 refine bU fun hend=>?_;unfold Sl at o0 o1;have S1:=LH ((S.newBlk 28 cn).newBlkN 34 #[.string s,.slice A n c] (g:=w.heap.size+1) (by simp));have hcn:=LH hcn;have h1:=LH h1;go_wp2
 try simp only [Act.put]
 exact hend _ _ tS sP (⟨w.heap.size,w.heap.size+1,cH,cH,S1.out⟩)
theorem aTa(g2:Nat)(cn:Array Value)(hcn:cn.size=34)(hb:aM w g2 28 cn)(z:Int)(HC0:Calls prog 35 #[.agg cn] w fun e w'=>e=.returned (.int .i64 z) ∧ Kp [] w w')(hsz:a.tmps.size=16)(o2:Sl a 2 (Pq g2 0)):bC false 1 f36 Q a w fun a' W q'=>Sl a' 8 (.bool (z != 0))->(Kp [] w W)->q':=by
 refine bU fun hend=>?_;unfold Sl at o2;have HC:=LH HC0;clear HC0;have HB:=LH hb;clear hb;have hcn:=LH hcn;go_wp2_with (refine aQ rfl 28 (.tmp 2) rfl g2 (aO o2) 28 _ HB.out _ underlying28 rfl (by rw [hcn.out];exact bBz) ?_)
 refine HC.out.mono ?_;rintro e w1 ⟨rfl,k1⟩;have k1:=LH k1;go_wp2_with fail
 try simp only [Act.put]
 exact hend _ _ tS sP (k1.out)
theorem aTd(hsz:a.tmps.size=16):bK 2 f36 Q a w fun a' q'=>Sl a' 4 (.int .i64 (2:Int))->q':=rO
theorem aPf(hsz:a.tmps.size=16):bK 5 f36 Q a w fun a' q'=>Sl a' 4 (.int .i64 (401:Int))->q':=rO
theorem aOq(hsz:a.tmps.size=16):bK 6 f36 Q a w fun a' q'=>Sl a' 4 (.int .i64 (0:Int))->q':=rO
theorem aYq(w0:World)(g2 g3:Nat)(cn:Array Value)(hcn:cn.size=34)(s:ByteArray)(A:Option Addr)(n c m:Nat)(names:List Value)(HC0:∀ V Ak ck,Kp [] w0 V->Rd V 2 (.slice Ak 1 ck) 1 [.string s,.slice A n c]->Calls prog 78 #[.agg cn,.slice Ak 1 ck] V fun e w'=>∃ v,e=.returned v ∧ Held V w' [aG 9 1 v m names])(L:List Res)(S:Held w0 w (aB g3 34 #[.string s,.slice A n c] :: aB g2 28 cn :: L))(hsz:a.tmps.size=16)(o2:Sl a 2 (Pq g2 0))(o3:Sl a 3 (Pq g3 0)):bC false 3 f36 Q a w fun a' W q'=>(∃ v,Sl a' 5 v ∧ Held w0 W (aG 9 1 v m names :: L))->q':=by
 refine bU fun hend=>?_;unfold Sl at o2 o3;have HC:=LH HC0;have HB:=LH (S.at_ (l1:=[_]));obtain ⟨q1,q2,q3,q4⟩:=aM.c2 (show aM w g3 34 #[.string s,.slice A n c] from S.at_ (l1:=[]));have hcn:=LH hcn;have S:=LH S;have S3:=LH (S.out.rownew (cZ w 34 2 1 #[.string s,.slice A n c] rfl (by decide)) ((Kp.refl [] w).alloc _) (fun g hg=>Nat.le_of_eq (Option.some.inj hg)));have HR:=LH (Rd.of_own (cZ w 34 2 1 #[.string s,.slice A n c] rfl (by decide)));go_wp2_with (refine aQ rfl 28 (.tmp 2) rfl g2 (aO o2) 28 _ HB.out _ underlying28 rfl (by rw [hcn.out];exact bBz) ?_)
 refine (HC.out _ _ _ S3.out.k HR.out).mono ?_;rintro e w1 ⟨v,rfl,H⟩;have S4:=LH ((S3.out.join H).perm List.perm_append_comm);clear H;go_wp2_with fail
 try simp only [Act.put]
 exact hend _ _ tS (⟨v,cH,S4.out.some_of (List.Sublist.cons_cons _ (List.Sublist.cons _ (List.Sublist.cons _ (List.Sublist.cons _ (List.Sublist.refl _)))))⟩)
theorem aPx(A:Option Addr)(n c:Nat)(hsz:a.tmps.size=16)(o5:Sl a 5 (.slice A n c)):bK 4 f36 Q a w fun a' q'=>Sl a' 15 (.bool ((n:Int) == 0))->q':=rO
theorem aZ9(w0:World)(cf:Array Value)(hcf:cf.size=101)(h1:∀ u,u ∈ cf.toList->u.oneCell'=true)(s:ByteArray)(A:Option Addr)(n c:Nat)(L:List Res)(S:Held w0 w L)(hsz:a.tmps.size=61)(o0:Sl a 0 (.agg cf))(o1:Sl a 1 (.agg #[.string s,.slice A n c])):bC false 0 f10 Q a w fun a' W q'=>Sl a' 4 (.int .i64 (0:Int))->(∃ g2 g3,Sl a' 2 (Pq g2 0) ∧ Sl a' 3 (Pq g3 0) ∧ Held w0 W (aB g3 34 #[.string s,.slice A n c] :: aB g2 31 cf :: L))->q':=by
 refine bU fun hend=>?_;unfold Sl at o0 o1;have S1:=LH ((S.newBlk 31 cf).newBlkN 34 #[.string s,.slice A n c] (g:=w.heap.size+1) (by simp));have hcf:=LH hcf;have h1:=LH h1;go_wp2
 try simp only [Act.put]
 exact hend _ _ tS sP (⟨w.heap.size,w.heap.size+1,cH,cH,S1.out⟩)
theorem aRq(s:ByteArray)(A:Option Addr)(n c:Nat)(g3:Nat)(hb3:aM w g3 34 #[.string s,.slice A n c])(b0:Bool)(HC0:Calls prog 34 #[.agg #[.string s,.slice A n c]] w fun e w'=>e=.returned (.bool b0) ∧ Kp [] w w')(hsz:a.tmps.size=61)(o3:Sl a 3 (Pq g3 0)):bC false 1 f10 Q a w fun a' W q'=>Sl a' 5 (.bool b0)->(Kp [] w W)->q':=by
 refine bU fun hend=>?_;unfold Sl at o3;have HC:=LH HC0;clear HC0;obtain ⟨q1,q2,q3,q4⟩:=aM.c2 hb3;clear hb3;go_wp2_with fail
 refine HC.out.mono ?_;rintro e w1 ⟨rfl,k1⟩;have k1:=LH k1;go_wp2_with fail
 try simp only [Act.put]
 exact hend _ _ tS sP (k1.out)
theorem aJr(f:FkD)(hf:f.Ok)(s1 s2 pv:Value)(g2:Nat)(hb:aM w g2 31 (f.cells s1 s2 pv))(hsz:a.tmps.size=61)(o2:Sl a 2 (Pq g2 0))(o5:Sl a 5 (.bool false)):bC false 2 f10 Q a w fun a' W q'=>Kp [] w W->Sl a' 23 (.bool true)->q':=by
 intro hend;have hap:=pa 2 f10;refine aH (l:=(aK 2 f10)) (fun i v W=>match i with|0=>v=.bool false|1=>v=.bool true|2=>v=.bool true|7=>v=.bool true|8=>v=.bool true|13=>v=.bool true|_=>True) hap ?_ ?_ ?_
 . exact fun _ _ _ _ h _=>h
 . and_intros <;> try (intro vs A' W hA hW hd hu K hK;try (refine aL _ rfl rfl ?_;conv=>arg 2;whnf))
   . exact aJ (eO 5 o5)
   . exact aJ (vD 10 0)
   . exact aJ (vD 11 1)
   . exact sk
   . exact sk
   . exact sk
   . exact sk
   . exact cM (vD 12 2) (eU 16 6)
   . exact aJ (vD 17 7)
   . exact sk
   . exact sk
   . exact sk
   . exact sk
   . exact cM (vD 18 8) (eU 22 12)
   . trivial
 . intro vs W hW hp;rw [aF];exact hend _ W sQ hW (sW (hp 13 sB))
theorem aIj(f:FkD)(hf:f.Ok)(s1 s2 pv:Value)(g2:Nat)(hb:aM w g2 31 (f.cells s1 s2 pv))(c1:Int)(HC1:∀ V,Kp [] w V->Calls prog 35 #[.agg (bD f.z1 f.h1 s1)] V fun e w'=>e=.returned (.int .i64 c1) ∧ Kp [] V w')(hc1:(c1 != 0)=true)(hsz:a.tmps.size=61)(o2:Sl a 2 (Pq g2 0))(o5:Sl a 5 (.bool true)):bC false 2 f10 Q a w fun a' W q'=>Kp [] w W->Sl a' 23 (.bool true)->q':=by
 intro hend;have hap:=pa 2 f10;refine aH (l:=(aK 2 f10)) (fun i v W=>match i with|0=>v=.bool true|1=>v=.bool false|2=>v=.bool false|3=>v=Pq g2 0|4=>v=.agg (bD f.z1 f.h1 s1)|5=>v=.int .i64 c1|6=>v=.bool true|7=>v=.bool true|8=>v=.bool true|13=>v=.bool true|_=>True) hap ?_ ?_ ?_
 . exact fun _ _ _ _ h _=>h
 . and_intros <;> try (intro vs A' W hA hW hd hu K hK;try (refine aL _ rfl rfl ?_;conv=>arg 2;whnf))
   . exact aJ (eO 5 o5)
   . exact aJ (vD 10 0)
   . exact aJ (vD 11 1)
   . exact cC (eO 2 o2)
   . refine qH ?_;(conv=>arg 2;whnf);exact dC (bD f.z1 f.h1 s1) (vD 13 3) (aM.sub (hb.k0 hW) (fun _ _=>FkD.n1 hf)) underlying28 (by rw [aN hf.h1];exact bBz)
   . refine qH ?_;(conv=>arg 2;whnf);have e14:=vD 14 4;clear hA hd hu o2 o5;go_step;refine (HC1 W hW).mono ?_;rintro e w' ⟨rfl,k1⟩;exact hK _ w' k1 rfl
   . exact cC (vD 15 5)
   . exact cM (vD 12 2) (vD 16 6)
   . exact aJ (vD 17 7)
   . exact sk
   . exact sk
   . exact sk
   . exact sk
   . exact cM (vD 18 8) (eU 22 12)
   . trivial
 . intro vs W hW hp;rw [aF];exact hend _ W sQ hW (sW (hp 13 sB))
theorem aLu(f:FkD)(hf:f.Ok)(s1 s2 pv:Value)(g2:Nat)(hb:aM w g2 31 (f.cells s1 s2 pv))(c1:Int)(HC1:∀ V,Kp [] w V->Calls prog 35 #[.agg (bD f.z1 f.h1 s1)] V fun e w'=>e=.returned (.int .i64 c1) ∧ Kp [] V w')(hc1:(c1 != 0)=false)(c2:Int)(HC2:∀ V,Kp [] w V->Calls prog 35 #[.agg (bD f.z2 f.h2 s2)] V fun e w'=>e=.returned (.int .i64 c2) ∧ Kp [] V w')(hsz:a.tmps.size=61)(o2:Sl a 2 (Pq g2 0))(o5:Sl a 5 (.bool true)):bC false 2 f10 Q a w fun a' W q'=>Kp [] w W->Sl a' 23 (.bool (c2 != 0))->q':=by
 intro hend;have hap:=pa 2 f10;refine aH (l:=(aK 2 f10)) (fun i v W=>match i with|0=>v=.bool true|1=>v=.bool false|2=>v=.bool false|3=>v=Pq g2 0|4=>v=.agg (bD f.z1 f.h1 s1)|5=>v=.int .i64 c1|6=>v=.bool false|7=>v=.bool false|8=>v=.bool false|9=>v=Pq g2 34|10=>v=.agg (bD f.z2 f.h2 s2)|11=>v=.int .i64 c2|12=>v=.bool (c2 != 0)|13=>v=.bool (c2 != 0)|_=>True) hap ?_ ?_ ?_
 . exact fun _ _ _ _ h _=>h
 . and_intros <;> try (intro vs A' W hA hW hd hu K hK;try (refine aL _ rfl rfl ?_;conv=>arg 2;whnf))
   . exact aJ (eO 5 o5)
   . exact aJ (vD 10 0)
   . exact aJ (vD 11 1)
   . exact cC (eO 2 o2)
   . refine qH ?_;(conv=>arg 2;whnf);exact dC (bD f.z1 f.h1 s1) (vD 13 3) (aM.sub (hb.k0 hW) (fun _ _=>FkD.n1 hf)) underlying28 (by rw [aN hf.h1];exact bBz)
   . refine qH ?_;(conv=>arg 2;whnf);have e14:=vD 14 4;clear hA hd hu o2 o5;go_step;refine (HC1 W hW).mono ?_;rintro e w' ⟨rfl,k1⟩;exact hK _ w' k1 rfl
   . exact cC (vD 15 5)
   . exact cM (vD 12 2) (vD 16 6)
   . exact aJ (vD 17 7)
   . exact cC (eO 2 o2)
   . refine qH ?_;(conv=>arg 2;whnf);exact dC (bD f.z2 f.h2 s2) (vD 19 9) (aM.sub (hb.k0 hW) (fun _ _=>FkD.n2 hf)) underlying28 (by rw [aN hf.h2];exact bBz)
   . refine qH ?_;(conv=>arg 2;whnf);have e20:=vD 20 10;clear hA hd hu o2 o5;go_step;refine (HC2 W hW).mono ?_;rintro e w' ⟨rfl,k1⟩;exact hK _ w' k1 rfl
   . exact cC (vD 21 11)
   . exact cM (vD 18 8) (vD 22 12)
   . trivial
 . intro vs W hW hp;rw [aF];exact hend _ W sQ hW (sW (hp 13 sB))
theorem aAx(hsz:a.tmps.size=61):bK 3 f10 Q a w fun a' q'=>Sl a' 4 (.int .i64 (2:Int))->q':=rO
theorem aFn(hsz:a.tmps.size=61):bK 5 f10 Q a w fun a' q'=>Sl a' 4 (.int .i64 (401:Int))->q':=rO
theorem aI3(hsz:a.tmps.size=61):bK 8 f10 Q a w fun a' q'=>Sl a' 4 (.int .i64 (404:Int))->q':=rO
theorem bA1(hsz:a.tmps.size=61):bK 9 f10 Q a w fun a' q'=>Sl a' 4 (.int .i64 (0:Int))->q':=rO
theorem aMv(f:FkD)(hf:f.Ok)(s1 s2 pv:Value)(g2:Nat)(hb:aM w g2 31 (f.cells s1 s2 pv))(s:ByteArray)(A:Option Addr)(n c:Nat)(g3:Nat)(hb3:aM w g3 34 #[.string s,.slice A n c])(c1:Int)(HC1:∀ V,Kp [] w V->Calls prog 36 #[.agg (bD f.z1 f.h1 s1),.agg #[.string s,.slice A n c]] V fun e w'=>e=.returned (.int .i64 c1) ∧ Kp [] V w')(hc1:(c1 != 0)=true)(hsz:a.tmps.size=61)(o2:Sl a 2 (Pq g2 0))(o3:Sl a 3 (Pq g3 0)):bC false 4 f10 Q a w fun a' W q'=>Kp [] w W->Sl a' 35 (.bool true)->q':=by
 intro hend;have hap:=pa 4 f10;refine aH (l:=(aK 4 f10)) (fun i v W=>match i with|0=>v=Pq g2 0|1=>v=.agg (bD f.z1 f.h1 s1)|2=>v=.agg #[.string s,.slice A n c]|3=>v=.int .i64 c1|4=>v=.bool true|5=>v=.bool true|11=>v=.bool true|_=>True) hap ?_ ?_ ?_
 . exact fun _ _ _ _ h _=>h
 . and_intros <;> try (intro vs A' W hA hW hd hu K hK;try (refine aL _ rfl rfl ?_;conv=>arg 2;whnf))
   . exact aJ (eO 2 o2)
   . exact dC (bD f.z1 f.h1 s1) (vD 24 0) (aM.sub (hb.k0 hW) (fun _ _=>FkD.n1 hf)) underlying28 (by rw [aN hf.h1];exact bBz)
   . obtain ⟨q1,q2,q3,q4⟩:=aM.c2 (hb3.k0 hW);exact aJ (eO 3 o3)
   . have e25:=vD 25 1;have e26:=vD 26 2;clear hA hd hu o2 o3;go_step;refine (HC1 W hW).mono ?_;rintro e w' ⟨rfl,k1⟩;exact hK _ w' k1 rfl
   . exact aJ (vD 27 3)
   . exact aJ (vD 28 4)
   . exact sk
   . exact sk
   . exact sk
   . exact sk
   . exact sk
   . exact cM (vD 29 5) (eU 34 10)
   . trivial
 . intro vs W hW hp;rw [aF];exact hend _ W sQ hW (sW (hp 11 sB))
theorem aNq(f:FkD)(hf:f.Ok)(s1 s2 pv:Value)(g2:Nat)(hb:aM w g2 31 (f.cells s1 s2 pv))(s:ByteArray)(A:Option Addr)(n c:Nat)(g3:Nat)(hb3:aM w g3 34 #[.string s,.slice A n c])(c1:Int)(HC1:∀ V,Kp [] w V->Calls prog 36 #[.agg (bD f.z1 f.h1 s1),.agg #[.string s,.slice A n c]] V fun e w'=>e=.returned (.int .i64 c1) ∧ Kp [] V w')(hc1:(c1 != 0)=false)(c2:Int)(HC2:∀ V,Kp [] w V->Calls prog 36 #[.agg (bD f.z2 f.h2 s2),.agg #[.string s,.slice A n c]] V fun e w'=>e=.returned (.int .i64 c2) ∧ Kp [] V w')(hsz:a.tmps.size=61)(o2:Sl a 2 (Pq g2 0))(o3:Sl a 3 (Pq g3 0)):bC false 4 f10 Q a w fun a' W q'=>Kp [] w W->Sl a' 35 (.bool (c2 != 0))->q':=by
 intro hend;have hap:=pa 4 f10;refine aH (l:=(aK 4 f10)) (fun i v W=>match i with|0=>v=Pq g2 0|1=>v=.agg (bD f.z1 f.h1 s1)|2=>v=.agg #[.string s,.slice A n c]|3=>v=.int .i64 c1|4=>v=.bool false|5=>v=.bool false|6=>v=Pq g2 34|7=>v=.agg (bD f.z2 f.h2 s2)|8=>v=.agg #[.string s,.slice A n c]|9=>v=.int .i64 c2|10=>v=.bool (c2 != 0)|11=>v=.bool (c2 != 0)|_=>True) hap ?_ ?_ ?_
 . exact fun _ _ _ _ h _=>h
 . and_intros <;> try (intro vs A' W hA hW hd hu K hK;try (refine aL _ rfl rfl ?_;conv=>arg 2;whnf))
   . exact aJ (eO 2 o2)
   . exact dC (bD f.z1 f.h1 s1) (vD 24 0) (aM.sub (hb.k0 hW) (fun _ _=>FkD.n1 hf)) underlying28 (by rw [aN hf.h1];exact bBz)
   . obtain ⟨q1,q2,q3,q4⟩:=aM.c2 (hb3.k0 hW);exact aJ (eO 3 o3)
   . have e25:=vD 25 1;have e26:=vD 26 2;clear hA hd hu o2 o3;go_step;refine (HC1 W hW).mono ?_;rintro e w' ⟨rfl,k1⟩;exact hK _ w' k1 rfl
   . exact aJ (vD 27 3)
   . exact aJ (vD 28 4)
   . exact cC (eO 2 o2)
   . refine qH ?_;(conv=>arg 2;whnf);exact dC (bD f.z2 f.h2 s2) (vD 30 6) (aM.sub (hb.k0 hW) (fun _ _=>FkD.n2 hf)) underlying28 (by rw [aN hf.h2];exact bBz)
   . refine qH ?_;(conv=>arg 2;whnf);obtain ⟨q1,q2,q3,q4⟩:=aM.c2 (hb3.k0 hW);exact aJ (eO 3 o3)
   . refine qH ?_;(conv=>arg 2;whnf);have e31:=vD 31 7;have e32:=vD 32 8;clear hA hd hu o2 o3;go_step;refine (HC2 W hW).mono ?_;rintro e w' ⟨rfl,k1⟩;exact hK _ w' k1 rfl
   . exact cC (vD 33 9)
   . exact cM (vD 29 5) (vD 34 10)
   . trivial
 . intro vs W hW hp;rw [aF];exact hend _ W sQ hW (sW (hp 11 sB))
theorem aX9(w0:World)(f:FkD)(hf:f.Ok)(s1 s2 pv:Value)(g2:Nat)(L:List Res)(hsz:a.tmps.size=61)(o2:Sl a 2 (Pq g2 0))
 (S0:Held w0 w (aB g2 31 (f.cells s1 s2 pv) :: L))
 (hend:∀ (a':Act) (vs:Nat->Value) (gs:Nat->Nat) (W:World),Same a a' [36,37,38,39,40,41,6,7]->Sl a' 6 (Pq (gs 6) 0)->Sl a' 7 (Pq (gs 7) 0)->Held w0 W (aB (gs 6) 25 (cL f.z1 f.h1) :: aB (gs 7) 25 (cL f.z2 f.h2) :: aB g2 31 (f.cells s1 s2 pv) :: L)->Q .normal a' W):(Code.region 6 (aK 6 f10).toArray true).wp prog Q a w:=by
 have hap:=pa 6 f10
 refine aP (Γ:=Nat) (l:=(aK 6 f10)) 2 [0,1,2,3,4,5,8,9,10,11]
  (fun i vs gs=>match i with|0=>vs 0=Pq g2 0|1=>vs 1=Pq g2 0|2=>vs 2=.agg (cL f.z1 f.h1)|3=>vs 3=Pq g2 34|4=>vs 4=Pq g2 34|5=>vs 5=.agg (cL f.z2 f.h2)|6=>vs 6=Pq (gs 6) 0|7=>vs 7=Pq (gs 7) 0|_=>True)
  (fun i vs gs=>match i with|6=>[aB (gs 6) 25 (cL 0 (List.replicate 32 0))]|7=>[aB (gs 7) 25 (cL 0 (List.replicate 32 0))]|8=>[aB (gs 6) 25 (cL f.z1 f.h1)]|9=>[aB (gs 7) 25 (cL f.z2 f.h2)]|10=>[aB g2 31 (f.cells s1 s2 pv)]|11=>L|_=>[])
  (fun i=>match i with|8=>[6]|9=>[7]|_=>[]) (fun i=>match i with|2=>[10]|5=>[10]|_=>[]) S0 (by kernel_rfl) hap (by kernel_rfl) (by kernel_rfl) (fun i=>match i with|0=>[0]|1=>[1]|2=>[2]|3=>[3]|4=>[4]|5=>[5]|6=>[6]|7=>[7]|8=>[6]|9=>[7]|_=>[]) (by kernel_rfl) ?_ (by kernel_rfl) ?_ ?_ ?_
 . exact lA
 . exact pA
 . clear S0 hend
   and_intros <;> try intro vs gs A' W LF hA S hR hd hu K hK
   . exact aJ (eO 2 o2)
   . exact aJ (vD 36 0)
   . exact dC (cL f.z1 f.h1) (vD 37 1) (fun j u hj=>by rw [Addr.add_lit,Nat.add_comm 0 j,(show aM W g2 31 (f.cells s1 s2 pv) from S.ok (aB g2 31 (f.cells s1 s2 pv)) (hR 10 (by simp) _ (List.mem_singleton.2 rfl))).cell];exact FkD.n1 hf (aCb hj)) underlying25 (by rw [bV hf.h1];exact bC0)
   . exact aJ (eO 2 o2)
   . exact aJ (vD 39 3)
   . exact dC (cL f.z2 f.h2) (vD 40 4) (fun j u hj=>by rw [Addr.add_lit,Nat.add_comm 34 j,(show aM W g2 31 (f.cells s1 s2 pv) from S.ok (aB g2 31 (f.cells s1 s2 pv)) (hR 10 (by simp) _ (List.mem_singleton.2 rfl))).cell];exact FkD.n2 hf (aCb hj)) underlying25 (by rw [bV hf.h2];exact bC0)
   . clear hA o2;go_step;exact hK W.heap.size _ _ (S.newBlk 25 (cL 0 (List.replicate 32 0))) rfl
   . clear hA o2;go_step;exact hK W.heap.size _ _ (S.newBlk 25 (cL 0 (List.replicate 32 0))) rfl
   . replace hK:=hK default;have e6:=vD 6 6;have e38:=vD 38 2;clear hA o2;have S1:Held w0 W (aB (gs 6) 25 (cL 0 (List.replicate 32 0)) :: LF):=S;refine aZ (.tmp 6) (.tmp 38) 25 rfl (gs 6) (by simpa [Act.eval] using e6) (cL f.z1 f.h1) (by simpa [Act.eval] using e38) 25 (cL 0 (List.replicate 32 0)) S1 (by rw [bV hf.h1];exact bC0) (by rw [bV hf.h1,bV (by simp)]) (oC _ _) ?_;intro w' S2;exact hK _ _ S2 trivial
   . replace hK:=hK default;have e7:=vD 7 7;have e41:=vD 41 5;clear hA o2;have S1:Held w0 W (aB (gs 7) 25 (cL 0 (List.replicate 32 0)) :: LF):=S;refine aZ (.tmp 7) (.tmp 41) 25 rfl (gs 7) (by simpa [Act.eval] using e7) (cL f.z2 f.h2) (by simpa [Act.eval] using e41) 25 (cL 0 (List.replicate 32 0)) S1 (by rw [bV hf.h2];exact bC0) (by rw [bV hf.h2,bV (by simp)]) (oC _ _) ?_;intro w' S2;exact hK _ _ S2 trivial
   . trivial
 . intro vs gs W S hp;have S:Held w0 W (aB (gs 6) 25 (cL f.z1 f.h1) :: aB (gs 7) 25 (cL f.z2 f.h2) :: aB g2 31 (f.cells s1 s2 pv) :: L):=by simpa only [List.flatMap_cons,List.flatMap_nil,List.append_nil,List.nil_append,List.cons_append,List.append_assoc] using S
   rw [aF];exact hend _ vs gs W sQ (sW (hp 6 sB)) (sW (hp 7 sB)) S
theorem aN7(f:FkD)(hf:f.Ok)(s1 s2 pv:Value)(g2:Nat)(hb:aM w g2 31 (f.cells s1 s2 pv))(hpv:∃ A n c,pv=.slice A n c)(g5 g6:Nat)(hb5:aM w g5 25 (cL f.z1 f.h1))(hb6:aM w g6 25 (cL f.z2 f.h2))(heq:(f.r == f.h1)=true)(hsz:a.tmps.size=61)(o2:Sl a 2 (Pq g2 0))(o6:Sl a 6 (Pq g5 0))(o7:Sl a 7 (Pq g6 0)):bC false 7 f10 Q a w fun a' W q'=>Kp [] w W->Sl a' 60 (.bool true)->q':=by
 intro hend;have hap:=pa 7 f10;refine aH (l:=(aK 7 f10)) (fun i v W=>match i with|0=>v=Pq g2 68|1=>v=.agg (aA f.r)|2=>v=Pq g5 1|3=>v=.agg (aA f.h1)|4=>v=.bool true|5=>v=.bool true|18=>v=.bool true|_=>True) hap ?_ ?_ ?_
 . exact fun _ _ _ _ h _=>h
 . and_intros <;> try (intro vs A' W hA hW hd hu K hK;try (refine aL _ rfl rfl ?_;conv=>arg 2;whnf))
   . exact aJ (eO 2 o2)
   . exact dC (aA f.r) (vD 42 0) (aM.sub (hb.k0 hW) (fun _ _=>FkD.rt hf)) underlying23 (by rw [aC,hf.r];exact bBy)
   . exact aJ (eO 6 o6)
   . exact dC (aA f.h1) (vD 44 2) (jV (hb5.k0 hW)) underlying23 (by rw [aC,hf.h1];exact bBy)
   . have e43:=vD 43 1;have e45:=vD 45 3;clear hA hd hu o2 o6 o7;refine bQ (v:=.bool (f.r == f.h1)) (w':=W) (bH rfl (by simpa [Act.eval] using e43) (by simpa [Act.eval] using e45) eqGuardType23 (jT W f.r f.h1 hf.r hf.h1)) ?_;exact hK _ _ kR (congrArg Value.bool heq)
   . exact aJ (vD 46 4)
   . exact sk
   . exact sk
   . exact sk
   . exact sk
   . exact sk
   . exact sk
   . exact sk
   . exact sk
   . exact sk
   . exact sk
   . exact sk
   . exact sk
   . exact cM (vD 47 5) (eU 59 17)
   . trivial
 . intro vs W hW hp;rw [aF];exact hend _ W sQ hW (sW (hp 18 sB))
theorem aIn(f:FkD)(hf:f.Ok)(s1 s2 pv:Value)(g2:Nat)(hb:aM w g2 31 (f.cells s1 s2 pv))(hpv:∃ A n c,pv=.slice A n c)(g5 g6:Nat)(hb5:aM w g5 25 (cL f.z1 f.h1))(hb6:aM w g6 25 (cL f.z2 f.h2))(heq:(f.r == f.h1)=false)(cd:Int)(HC1:∀ V,Kp [] w V->Calls prog 37 #[.int .i64 f.z1,.int .i64 f.z2,.agg (aA f.r),.agg (aA f.h2),pv] V fun e w'=>e=.returned (.int .i64 cd) ∧ Kp [] V w')(hsz:a.tmps.size=61)(o2:Sl a 2 (Pq g2 0))(o6:Sl a 6 (Pq g5 0))(o7:Sl a 7 (Pq g6 0)):bC false 7 f10 Q a w fun a' W q'=>Kp [] w W->Sl a' 60 (.bool (cd != 0))->q':=by
 intro hend;have hap:=pa 7 f10;refine aH (l:=(aK 7 f10)) (fun i v W=>match i with|0=>v=Pq g2 68|1=>v=.agg (aA f.r)|2=>v=Pq g5 1|3=>v=.agg (aA f.h1)|4=>v=.bool false|5=>v=.bool false|6=>v=Pq g5 0|7=>v=.int .i64 f.z1|8=>v=Pq g6 0|9=>v=.int .i64 f.z2|10=>v=Pq g2 68|11=>v=.agg (aA f.r)|12=>v=Pq g6 1|13=>v=.agg (aA f.h2)|14=>v=Pq g2 100|15=>v=pv|16=>v=.int .i64 cd|17=>v=.bool (cd != 0)|18=>v=.bool (cd != 0)|_=>True) hap ?_ ?_ ?_
 . exact fun _ _ _ _ h _=>h
 . and_intros <;> try (intro vs A' W hA hW hd hu K hK;try (refine aL _ rfl rfl ?_;conv=>arg 2;whnf))
   . exact aJ (eO 2 o2)
   . exact dC (aA f.r) (vD 42 0) (aM.sub (hb.k0 hW) (fun _ _=>FkD.rt hf)) underlying23 (by rw [aC,hf.r];exact bBy)
   . exact aJ (eO 6 o6)
   . exact dC (aA f.h1) (vD 44 2) (jV (hb5.k0 hW)) underlying23 (by rw [aC,hf.h1];exact bBy)
   . have e43:=vD 43 1;have e45:=vD 45 3;clear hA hd hu o2 o6 o7;refine bQ (v:=.bool (f.r == f.h1)) (w':=W) (bH rfl (by simpa [Act.eval] using e43) (by simpa [Act.eval] using e45) eqGuardType23 (jT W f.r f.h1 hf.r hf.h1)) ?_;exact hK _ _ kR (congrArg Value.bool heq)
   . exact aJ (vD 46 4)
   . exact cC (eO 6 o6)
   . refine qH ?_;(conv=>arg 2;whnf);have c0:W.cell? ⟨g5,0,none⟩=some (.int .i64 f.z1):=by rw [(hb5.k0 hW).cell];rfl
     exact aJ (vD 48 6)
   . exact cC (eO 7 o7)
   . refine qH ?_;(conv=>arg 2;whnf);have c0:W.cell? ⟨g6,0,none⟩=some (.int .i64 f.z2):=by rw [(hb6.k0 hW).cell];rfl
     exact aJ (vD 50 8)
   . exact cC (eO 2 o2)
   . refine qH ?_;(conv=>arg 2;whnf);exact dC (aA f.r) (vD 52 10) (aM.sub (hb.k0 hW) (fun _ _=>FkD.rt hf)) underlying23 (by rw [aC,hf.r];exact bBy)
   . exact cC (eO 7 o7)
   . refine qH ?_;(conv=>arg 2;whnf);exact dC (aA f.h2) (vD 54 12) (jV (hb6.k0 hW)) underlying23 (by rw [aC,hf.h2];exact bBy)
   . exact cC (eO 2 o2)
   . refine qH ?_;(conv=>arg 2;whnf);obtain ⟨Ap,np,cp,rfl⟩:=hpv;have c0:W.cell? ⟨g2,100,none⟩=some (.slice Ap np cp):=by rw [(hb.k0 hW).cell];exact FkD.pr hf
     exact aJ (vD 56 14)
   . refine qH ?_;(conv=>arg 2;whnf);have e49:=vD 49 7;have e51:=vD 51 9;have e53:=vD 53 11;have e55:=vD 55 13;have e57:=vD 57 15;clear hA hd hu o2 o6 o7;go_step;refine (HC1 W hW).mono ?_;rintro e w' ⟨rfl,k1⟩;exact hK _ w' k1 rfl
   . exact cC (vD 58 16)
   . exact cM (vD 47 5) (vD 59 17)
   . trivial
 . intro vs W hW hp;rw [aF];exact hend _ W sQ hW (sW (hp 18 sB))
end
section
variable {Q:Exit->Act->World->Prop} {a:Act} {w:World}
open Go.RowKit Go.Shelf
attribute [local go_sem] Oper.semAt_some
theorem aIt(s:ByteArray)(A:Option Addr)(n c:Nat):∀ u,u ∈ (#[.string s,.slice A n c]:Array Value).toList->u.oneCell'=true:=by
 intro u hu;simp at hu
 rcases hu with rfl|rfl <;> rfl
theorem aTs(w0:World)(L:List Res)(S:Held w0 w L)(hsz:a.tmps.size=3):bC false 0 f14 Q a w fun a' W q'=>(∃ g,Sl a' 0 (Pq g 0) ∧ Held w0 W (aB g 34 #[.string ⟨#[]⟩,.slice none 0 0] :: L))->q':=by
 refine bU fun hend=>?_;have S1:=LH (S.newBlk 34 #[.string ⟨#[]⟩,.slice none 0 0]);go_wp2
 try simp only [Act.put]
 exact hend _ _ tS (⟨w.heap.size,cH,S1.out⟩)
theorem aTe(w0:World)(g0:Nat)(L:List Res)(S:Held w0 w (aB g0 34 #[.string ⟨#[]⟩,.slice none 0 0] :: L))(hsz:a.tmps.size=3)(o0:Sl a 0 (Pq g0 0)):bC false 1 f14 Q a w fun a' W q'=>(∃ A c,Held w0 W (aG 5 1 (.slice A 2 c) 2 (bv [1,2]) :: aB g0 34 #[.string ⟨#[119]⟩,.slice A 2 c] :: L))->q':=by
 refine bU fun hend=>?_;unfold Sl at o0;have S2:=LH (S.rownew (cZ w 5 1 2 #[.int .u8 1,.int .u8 2] rfl (by decide)) ((Kp.refl [] w).alloc _) (fun g hg=>Nat.le_of_eq (Option.some.inj hg)));clear S
 go_wp2_with (first
  |(refine iB rfl 34 _ rfl [(0,.string ⟨#[119]⟩),(1,.slice (some ⟨w.heap.size,0,none⟩) 2 2)] aE _ (bCt ⟨#[119]⟩ _ 2 2) ?_)
  |(refine aD rfl 34 (.tmp 0) (.tmp 2) rfl g0 (aO o0) #[.string ⟨#[119]⟩,.slice (some ⟨w.heap.size,0,none⟩) 2 2] aE 34 _ (S2.out.at_ (l1:=[_])) bC4 rfl (aIt _ _ _ _) ?_;intro w7 b7 k7;have S7:=LH (Held.setBlk (l1:=[_]) S2.out b7 k7);clear b7 k7))
 try simp only [Act.put]
 exact hend _ _ tS (⟨_,_,S7.out⟩)
theorem kN(w:World):Calls prog 14 #[] w fun e w'=>∃ A c,e=.returned (.agg #[bX [119],.slice A 2 c]) ∧ Held w w' [aG 5 1 (.slice A 2 c) 2 (bv [1,2])]:=by
 refine aR func14 rfl 3 rfl (fun a0 hsz hdf hAr=>?_);have hz0:a0.tmps.size=3:=hsz;have D:=hdf;refine wp_seq (aTs w [] (Held.start w) hz0 (fun a1 w1 hs1 h1=>?_));obtain ⟨hz1,D⟩:=dS hs1 hz0 D;obtain ⟨g0,o0,S⟩:=h1;refine wp_seq (aTe w g0 [] S hz1 o0 (fun a2 w2 hs2 h2=>?_));obtain ⟨hz2,D,o0⟩:=eY hs2 hz1 D o0;obtain ⟨A,c,S⟩:=h2;refine wp_ret ?_;exact bodyPost_ret (aV (by rfl) (o0.eval (by rw [hz2];decide)) (S.at_ (l1:=[_])) underlying34 rfl bC4) D ⟨A,c,rfl,S.some_of (List.Sublist.cons_cons _ (List.nil_sublist _))⟩
theorem aRr(w0:World)(s:ByteArray)(Ak:Option Addr)(nk ck:Nat)(L:List Res)(S:Held w0 w L)(hsz:a.tmps.size=33)(o0:Sl a 0 (.agg #[.string s,.slice Ak nk ck])):bC false 0 f15 Q a w fun a' W q'=>Sl a' 5 (.bool false)->(∃ g2 g4,Sl a' 2 (Pq g2 0) ∧ Sl a' 4 (Pq g4 0) ∧ Held w0 W (aB g4 28 bT :: aB g2 34 #[.string s,.slice Ak nk ck] :: L))->q':=by
 refine bU fun hend=>?_;unfold Sl at o0;have S1:=LH ((S.newBlk 34 #[.string s,.slice Ak nk ck]).newBlkN 28 bT (g:=w.heap.size+1) (by simp));go_wp2
 try simp only [Act.put]
 exact hend _ _ tS sP (⟨w.heap.size,w.heap.size+1,cH,cH,S1.out⟩)
theorem aXt(w0:World)(A:Option Addr)(n c m:Nat)(ys:List Value)(h:Bs)(hh:h.length=32)(cn:Array Value)(hcn:cn.size=34)(h1:∀ u,u ∈ cn.toList->u.oneCell'=true)(L:List Res)(S:Held w0 w L)(HC1:Calls prog 42 #[.slice A n c] w fun r w'=>∃ v,r=.returned v ∧ Held w w' [aG 23 32 v m ys])(HC2:∀ V v,Ow V 23 32 v m ys->Calls prog 41 #[v] V fun r w'=>r=.returned (.agg (aA h)) ∧ Kp [] V w')(HC3:∀ V,Kp [] w0 V->Calls prog 40 #[.agg (cL (n:Int) h)] V fun e w'=>e=.returned (.tuple #[.agg cn,.int .i64 0]) ∧ Kp [] V w')(hsz:a.tmps.size=33)(o1:Sl a 1 (.slice A n c)):bC false 1 f15 Q a w fun a' W q'=>Sl a' 7 (.int .i64 (0:Int))->(∃ g6 v,Sl a' 6 (Pq g6 0) ∧ Held w0 W (aB g6 28 cn :: aG 23 32 v m ys :: L))->q':=by
 refine bU fun hend=>?_;unfold Sl at o1;have HC1:=LH HC1;have HC2:=LH HC2;have S:=LH S;have hcn:=LH hcn;have h1:=LH h1;have HB:=LH (bD2 (n:Int) h hh);obtain ⟨cp,hcp⟩:∃ cp,Hid (cL (n:Int) h=cp):=⟨_,LH rfl⟩;rw [hcp.out] at HC3 HB;obtain ⟨ch,hch⟩:∃ cs,Hid (aA h=cs):=⟨_,LH rfl⟩;rw [hch.out] at HB HC2;have HC3:=LH HC3;go_wp2_with fail
 refine HC1.out.mono ?_;rintro e w1 ⟨v,rfl,H⟩;obtain ⟨Av,cv,rfl,-⟩:=aS (H.at_ (l1:=[]));have S1:=LH ((S.out.join H).perm List.perm_append_comm);clear H;go_wp2_with fail
 refine (HC2.out w1 _ (S1.out.at_ (l1:=[]))).mono ?_;rintro e w2 ⟨rfl,k2⟩;have S2:=LH (S1.out.kp k2);clear k2;go_wp2_with (refine iB rfl 25 _ rfl [(0,.int .i64 (n:Int)),(1,.agg ch)] aE _ HB.out ?_)
 refine (HC3.out w2 S2.out.k).mono ?_;rintro e w3 ⟨rfl,k3⟩;have S3:=LH ((S2.out.kp k3).newBlk 28 bT);clear k3;go_wp2_with (refine aD rfl 28 (.tmp 6) (.tmp 18) rfl w3.heap.size aE cn aE 28 _ (S3.out.at_ (l1:=[])) (by rw [hcn.out];exact bBz) (by rw [hcn.out];rfl) h1.out ?_;intro w7 b7 k7;have S7:=LH (Held.setBlk (l1:=[]) S3.out b7 k7);clear b7 k7)
 try simp only [Act.put]
 exact hend _ _ tS sP (⟨w3.heap.size,_,cH,S7.out⟩)
theorem aY7(w0:World)(g2 g6:Nat)(s:ByteArray)(Ak:Option Addr)(nk ck:Nat)(cn:Array Value)(hcn:cn.size=34)(z:Int)(h:Bs)(hh:h.length=32)(m:Nat)(ys:List Value)(L:List Res)(S:Held w0 w L)(hb2:aM w g2 34 #[.string s,.slice Ak nk ck])(hb6:aM w g6 28 cn)(HC1:Calls prog 43 #[.agg cn,.agg #[.string s,.slice Ak nk ck]] w fun e w'=>∃ v,e=.returned (.tuple #[.agg (bD z h v),.int .i64 0]) ∧ Held w w' [aG 89 33 v m ys])(hsz:a.tmps.size=33)(o2:Sl a 2 (Pq g2 0))(o6:Sl a 6 (Pq g6 0)):bC false 2 f15 Q a w fun a' W q'=>Sl a' 9 (.int .i64 (0:Int))->(∃ g8 Av cv,Sl a' 8 (Pq g8 0) ∧ Held w0 W (aB g8 28 (bD z h (.slice Av m cv)) :: ([aG 89 33 (.slice Av m cv) m ys] ++ L)))->q':=by
 refine bU fun hend=>?_;unfold Sl at o2 o6;have HC1:=LH HC1;have S:=LH S;have hcn:=LH hcn;have HB6:=LH hb6;obtain ⟨q1,q2,q3,q4⟩:=aM.c2 hb2;clear hb2 hb6;go_wp2_with (refine aQ rfl 28 (.tmp 6) rfl g6 (aO o6) 28 _ HB6.out _ underlying28 rfl (by rw [hcn.out];exact bBz) ?_)
 refine HC1.out.mono ?_;rintro e w1 ⟨v,rfl,H⟩;obtain ⟨Av,cv,rfl,-⟩:=aS (H.at_ (l1:=[]));have S1:=LH ((S.out.join H).perm List.perm_append_comm);clear H;have hz3:=LH (aN (z:=z) (v:=.slice Av m cv) hh);have HO:=LH (cT (z:=z) (h:=h) (v:=.slice Av m cv) rfl);obtain ⟨c8,hc8⟩:∃ cs,Hid (bD z h (.slice Av m cv)=cs):=⟨_,LH rfl⟩;rw [hc8.out] at hz3 HO ⊢;have S3:=LH (S1.out.newBlk 28 bT);clear S1;go_wp2_with (refine aD rfl 28 (.tmp 8) (.tmp 24) rfl w1.heap.size aE c8 aE 28 _ (S3.out.at_ (l1:=[])) (by rw [hz3.out];exact bBz) (by rw [hz3.out];rfl) HO.out ?_;intro w7 b7 k7;have S7:=LH (Held.setBlk (l1:=[]) S3.out b7 k7);clear b7 k7)
 rw [<- hc8.out] at S7
 try simp only [Act.put]
 exact hend _ _ tS sP (⟨w1.heap.size,Av,cv,cH,S7.out⟩)
theorem aYy(w0:World)(g4 g8:Nat)(cn:Array Value)(hcn:cn.size=34)(h1:∀ u,u ∈ cn.toList->u.oneCell'=true)(L:List Res)(hb8:aM w g8 28 cn)(S:Held w0 w (aB g4 28 bT :: L))(hsz:a.tmps.size=33)(o4:Sl a 4 (Pq g4 0))(o7:Sl a 7 (.int .i64 (0:Int)))(o8:Sl a 8 (Pq g8 0))(o9:Sl a 9 (.int .i64 (0:Int))):bC false 3 f15 Q a w fun a' W q'=>Sl a' 5 (.bool true)->(Held w0 W (aB g4 28 cn :: L))->q':=by
 intro hend;have hap:cX ((aK 3 f15).take 7)=true:=by kernel_rfl
 refine rL (l:=(aK 3 f15)) 7 (fun i v W=>match i with|0=>v=.agg cn|1=>v=.int .i64 (0:Int)|2=>v=.bool true|3=>v=.bool true|4=>v=.int .i64 (0:Int)|5=>v=.bool true|6=>v=.bool true|_=>True) hap ?_ ?_ ?_
 . exact fun _ _ _ _ h _=>h
 . and_intros <;> try (intro vs A' W hA hW hd hu K hK;try (refine aL _ rfl rfl ?_;conv=>arg 2;whnf))
   . exact dC cn (eO 8 o8) (aM.agg (hb8.k0 hW)) underlying28 (by rw [hcn];exact bBz)
   . exact aJ (eO 7 o7)
   . exact aJ (vD 27 1)
   . exact aJ (vD 28 2)
   . exact cC (eO 9 o9)
   . exact cC (vD 30 4)
   . exact cM (vD 29 3) (vD 31 5)
   . trivial
 . intro vs W hW hp;rw [show bG vs ((aK 3 f15).take 7) 0 a=mJ [(26,vs 0),(27,vs 1),(28,vs 2),(29,vs 3),(30,vs 4),(31,vs 5),(32,vs 6)] a from by kernel_rfl];have hS:Same a (mJ [(26,vs 0),(27,vs 1),(28,vs 2),(29,vs 3),(30,vs 4),(31,vs 5),(32,vs 6)] a) [26,27,28,29,30,31,32]:=wF _ a;have n26:Sl (mJ [(26,vs 0),(27,vs 1),(28,vs 2),(29,vs 3),(30,vs 4),(31,vs 5),(32,vs 6)] a) 26 (.agg cn):=oT _ a 26 _ (by rw [show vs 0=_ from hp 0 (Nat.le_of_ble_eq_true (by kernel_rfl))];kernel_rfl);have n32:Sl (mJ [(26,vs 0),(27,vs 1),(28,vs 2),(29,vs 3),(30,vs 4),(31,vs 5),(32,vs 6)] a) 32 (.bool true):=oT _ a 32 _ (by rw [show vs 6=_ from hp 6 (Nat.le_of_ble_eq_true (by kernel_rfl))];kernel_rfl);clear hp hap;generalize mJ [(26,vs 0),(27,vs 1),(28,vs 2),(29,vs 3),(30,vs 4),(31,vs 5),(32,vs 6)] a=a1 at *;have hsz1:a1.tmps.size=33:=hS.size.trans hsz;have n4:=hS.keep 4 _ (by decide) o4;clear o4 o7 o8 o9;(conv=>arg 4;whnf);unfold Sl at n4 n26 n32;have hcn:=LH hcn;have h1:=LH h1;have S3:=LH (S.kp hW);clear hb8 S;go_wp2_with (refine aD rfl 28 (.tmp 4) (.tmp 26) rfl g4 (by simp [Act.eval,Act.put,hsz1,n4]) cn (by simp [Act.eval,Act.put,hsz1,n26]) 28 _ (S3.out.at_ (l1:=[])) (by rw [hcn.out];exact bBz) (by rw [hcn.out];rfl) h1.out ?_;intro w7 b7 k7;have S7:=LH (Held.setBlk (l1:=[]) S3.out b7 k7);clear b7 k7)
   try simp only [Act.put]
   exact hend _ _ ((hS.trans (d2:=[5]) tS).more (by decide +kernel)) (by unfold Sl;first|(simp [hsz1];done)|(simp [hsz1];omega)) (S7.out)
theorem aDv(nm:Bs)(Ak:Option Addr)(ck:Nat)(sec:Bs)(hkey:cR nm sec=true)(A:Option Addr)(c:Nat)(ls:List (List UInt8))(hls:ls.length<=1000000)(hlb:∀ e ∈ ls,e.length<=140737488355200)(w:World)(hk:Rd w 1 (.slice Ak sec.length ck) sec.length (bv sec))(hx:qZ w (.slice A ls.length c) ls):
 Calls prog 15 #[.agg #[bX nm,.slice Ak sec.length ck],.slice A ls.length c] w fun e w'=>∃ v,e=.returned (.tuple #[.agg (bD (ls.length:Int) (bJ (ls.map bE)) v),.bool true]) ∧ Held w w' [aG 89 33 v 1 (bB [(nm,eD (ls.length:Int) (bJ (ls.map bE)) nm sec)])]:=by
 have hnm:nm.length<=64:=by
  rw [uE] at hkey;simp only [Bool.and_eq_true,eZ,decide_eq_true_eq] at hkey;exact hkey.1.1.1.2
 have hrl:(bJ (ls.map bE)).length=32:=bS (kE ls);have hmay:eH (ls.length:Int) []=true:=by rw [uC];exact decide_eq_true (by omega)
 have hsE:iV (ls.length:Int) [] nm sec=0:=by
  unfold iV;rw [if_neg (by rw [hmay];decide),if_neg (by simp [dV,hkey])]
  rfl
 refine aR func15 rfl 33 rfl (fun a0 hsz hdf hAr=>?_);have hz0:a0.tmps.size=33:=hsz;have D:=hdf;have o0:=hAr 0 _ rfl;have o1:=hAr 1 _ rfl;refine wp_seq (aRr w ⟨nm.toArray⟩ Ak sec.length ck [] (Held.start w) hz0 o0 (fun a1 w1 hs1 o5 h1=>?_));obtain ⟨hz1,D,o1⟩:=eY hs1 hz0 D o1;obtain ⟨g2,g4,o2,o4,S⟩:=h1
 have HC3:∀ V,Kp [] w V->Calls prog 40 #[.agg (cL (ls.length:Int) (bJ (ls.map bE)))] V fun e w'=>e=.returned (.tuple #[.agg (bD (ls.length:Int) (bJ (ls.map bE)) (.slice none 0 0)),.int .i64 0]) ∧ Kp [] V w':=by
  intro V _;have:=aDx (ls.length:Int) (by omega) (bJ (ls.map bE)) hrl V
  rw [show aHa (ls.length:Int) (bJ (ls.map bE))=bD (ls.length:Int) (bJ (ls.map bE)) (.slice none 0 0) from by unfold aHa;rw [if_pos (by omega)],show eA (ls.length:Int) []=0 from by unfold eA;rw [if_pos hmay]] at this;exact this
 refine wp_seq (aXt w A ls.length c (ls.map bE).length (dA (ls.map bE)) (bJ (ls.map bE)) hrl _ (aN hrl) (cT rfl) _ S (by have:=zJ _ ls hls hlb w1 (hx.kp0 S.k);rw [List.length_map];exact this) (fun V v ho=>(by obtain ⟨Av,cv,rfl,-⟩:=aS ho;exact aJb Av cv (ls.map bE) (kE ls) V (Rd.of_own ho))) HC3 hz1 o1 (fun a2 w2 hs2 o7 h2=>?_));obtain ⟨hz2,D,o2,o4⟩:=dU hs2 hz1 D o2 o4;obtain ⟨g6,v6,o6,S⟩:=h2
 have HC4:Calls prog 43 #[.agg (bD (ls.length:Int) (bJ (ls.map bE)) (.slice none 0 0)),.agg #[.string ⟨nm.toArray⟩,.slice Ak sec.length ck]] w2 fun e w'=>∃ v,e=.returned (.tuple #[.agg (bD (ls.length:Int) (bJ (ls.map bE)) v),.int .i64 0]) ∧ Held w2 w' [aG 89 33 v 1 (bB [(nm,eD (ls.length:Int) (bJ (ls.map bE)) nm sec)])]:=by
  refine (aE0 (ls.length:Int) (by omega) (bJ (ls.map bE)) hrl none 0 [] (by intro s hs;cases hs) (by simp) nm (by omega) Ak ck sec w2 (fE 33 w2) (aT hk S.k)).mono ?_;rintro e w' ⟨v,rfl,h2,-⟩;rw [hsE,if_pos rfl];exact ⟨v,rfl,h2 hsE⟩
 refine wp_seq (aY7 w g2 g6 ⟨nm.toArray⟩ Ak sec.length ck _ (aN hrl) _ _ hrl _ _ _ S (S.at_ (l1:=[_,_,_])) (S.at_ (l1:=[])) HC4 hz2 o2 o6 (fun a3 w3 hs3 o9 h3=>?_));obtain ⟨hz3,D,o4,o7⟩:=dU hs3 hz2 D o4 o7;obtain ⟨g8,Av8,cv8,o8,S⟩:=h3;have hb8:=S.at_ (l1:=[]);have S:=S.pull 4 rfl;simp only [List.eraseIdx,List.cons_append,List.nil_append] at S;refine wp_seq (aYy w g4 g8 _ (aN hrl) (cT rfl) _ hb8 S hz3 o4 o7 o8 o9 (fun a4 w4 hs4 o5 S=>?_));obtain ⟨hz4,D,o4⟩:=eY hs4 hz3 D o4;refine wp_ret ?_;refine bodyPost_ret ((cG (by rfl) (o4.eval (by rw [hz4];decide)) (S.at_ (l1:=[])) underlying28 rfl (by rw [aN hrl];exact bBz)).trans (by rw [show (a4.tmps.getD 5 undef)=.bool true from o5.eval (by rw [hz4];decide)])) D ⟨.slice Av8 1 cv8,rfl,S.some_of (List.singleton_sublist.2 (by simp))⟩
end
section
section
variable {P:Program} {Q:Exit->Act->World->Prop}
def aEj (P:Program) (Q:Exit->Act->World->Prop) (PV:Nat->Value->Prop) (ST:Nat->(Nat->Value)->World->Prop) (fr:(Nat->Value)->Act) (u0:Nat->Value) (ops:Array Oper) (o:Oper) (i:Nat):Prop:=
 ∀ (vs:Nat->Value) (A:Act) (W:World),fr vs=A->ST i vs W->(∀ j,Nat.blt j i=true->PV j (vs j))->(∀ j,Nat.ble i j=true->vs j=u0 j)->
  ∀ K:Act->World->Prop,(∀ v W',PV i v->ST (i+1) (lN vs i v) W'->K (A.put o.dst v) W')->wpOp P ops (Qn Q) i K A W
def pX (P:Program) (Q:Exit->Act->World->Prop) (PV:Nat->Value->Prop) (ST:Nat->(Nat->Value)->World->Prop) (fr:(Nat->Value)->Act) (u0:Nat->Value) (ops:Array Oper):List Oper->Nat->Prop
 |[],_=>True
 |o :: l,i=>aEj P Q PV ST fr u0 ops o i ∧ pX P Q PV ST fr u0 ops l (i+1)
theorem yY{PV:Nat->Value->Prop}{ST:Nat->(Nat->Value)->World->Prop}{a0:Act}{l:List Oper}{ops:Array Oper}(hops:∀ (i:Nat) (o:Oper),l[i]?=some o->ops[i]?=some o)(hap:cX l=true)
 (hend:∀ vs W,ST l.length vs W->(∀ i,i < l.length->PV i (vs i))->Q .normal (bG vs l 0 a0) W):
 ∀ (rest:List Oper) (i:Nat) (vs:Nat->Value) (W:World),i<=l.length->l.drop i=rest->pX P Q PV ST (fun vs=>bG vs l 0 a0) (nH a0 l) ops rest i->ST i vs W->(∀ j,j < i->PV j (vs j))->(∀ j,i<=j->vs j=nH a0 l j)->
  wpList P ops Q rest (bG vs l 0 a0) W
 |[],i,vs,W,hil,hr,_,hS,hp,_=>by
  have hi:l.length<=i:=List.drop_eq_nil_iff.1 hr;obtain rfl:i=l.length:=by omega
  exact hend vs W hS (fun j hj=>hp j (by omega))
 |o :: rest,i,vs,W,hil,hr,hs,hS,hp,hu=>by
  have hol:l[i]?=some o:=by
   have:(l.drop i)[0]?=some o:=by rw [hr];rfl
   rwa [List.getElem?_drop,Nat.add_zero] at this
  have hr2:l.drop (i+1)=rest:=by
   rw [<- List.drop_drop,hr];rfl
  have hlt:=(List.getElem?_eq_some_iff.1 hol).1;refine oL (i:=i) (hops i o hol) (pG ?_);refine hs.1 vs _ W rfl hS (fun j hj=>hp j (by simpa [Nat.blt_eq] using hj)) (fun j hj=>hu j (by simpa [Nat.ble_eq] using hj)) _ fun v W' hv hS'=>?_;rw [fW vs i v l 0 a0 o hap (Nat.zero_le _) (by simpa using hol)];refine yY hops hap hend rest (i+1) _ W' hlt hr2 hs.2 hS' (fun j hj=>?_) (fun j hj=>?_)
  . by_cases e:j=i
    . subst e;simpa [lN] using hv
    . simp only [lN,if_neg e];exact hp j (by omega)
  . simp only [lN,if_neg (show j ≠ i by omega)];exact hu j (by omega)
theorem uQ{id:Nat}{a:Act}{w:World}{l:List Oper}(PV:Nat->Value->Prop)(ST:Nat->(Nat->Value)->World->Prop)(hap:cX l=true)(hS:ST 0 (nH a l) w)
 (hs:pX P Q PV ST (fun vs=>bG vs l 0 a) (nH a l) l.toArray l 0)
 (hend:∀ vs W,ST l.length vs W->(∀ i,i < l.length->PV i (vs i))->Q .normal (bG vs l 0 a) W):(Code.region id l.toArray false).wp P Q a w:=by
 refine wp_region_lit (l:=l) ?_;have h:=yY (P:=P) (Q:=Q) (a0:=a) (l:=l) (ops:=l.toArray) (fun i o h=>by simpa using h) hap hend l 0 (nH a l) w (Nat.zero_le _) rfl hs hS (fun j hj=>by omega) (fun _ _=>rfl)
 rwa [gB a l 0 (nH a l) (fun j o ho=>by simp [nH,ho])] at h
end
end
section
variable {Q:Exit->Act->World->Prop} {a:Act} {w:World}
open Go.RowKit Go.Shelf
attribute [local go_sem] Oper.semAt_some
theorem zI{w0 W:World}{L:List Res}(S:Held w0 W L)(C:Array Value)(l:Bs)(h:C.toList=bv l)(hn:l.length<=4096)(fr:Nat × Nat):Held w0 (W.alloc (.cells C 5 fr)) (nD (.slice (some ⟨W.heap.size,0,none⟩) l.length l.length) l.length (bv l) :: L):=by
 refine S.new _ ((Kp.refl [] W).alloc _) ⟨wL W 5 C l fr h hn rfl,fun g hg=>?_⟩ (fun b hb=>?_)
 . have:W.heap.size=g:=by injection hg
   subst this
   simp
 . have:b=W.heap.size:=aKv (n:=l.length) (c:=l.length) hb
   omega
theorem aPr(hsz:a.tmps.size=93):bK 0 f7 Q a w fun a' q'=>Sl a' 0 (.bool false)->q':=rO
theorem aZd(w0:World)(L:List Res)(S:Held w0 w L)(HS:Calls prog 14 #[] w fun e w'=>∃ A c,e=.returned (.agg #[bX [119],.slice A 2 c]) ∧ Held w w' [aG 5 1 (.slice A 2 c) 2 (bv [1,2])])(HN:∀ V A c,Kp [] w0 V->Rd V 1 (.slice A 2 c) 2 (bv [1,2])->Calls prog 13 #[.agg #[bX [119],.slice A 2 c]] V fun e w'=>∃ g u,e=.returned (.tuple #[Pq g 0,.int .i64 0]) ∧ Held V w' [aB g 85 (oW (bX [119]) u),aG 5 1 u 2 (bv [1,2])])(hsz:a.tmps.size=93):bC false 1 f7 Q a w fun a' W q'=>Sl a' 2 (.int .i64 (0:Int))->(∃ g u,Sl a' 1 (Pq g 0) ∧ Held w0 W (aB g 85 (oW (bX [119]) u) :: aG 5 1 u 2 (bv [1,2]) :: L))->q':=by
 refine bU fun hend=>?_;have HS:=LH HS;have S:=LH S;have hcv:=mG;go_wp2_with fail
 refine HS.out.mono ?_;rintro e w1 ⟨A,c,rfl,H⟩;have HR:=LH (Rd.of_own (H.at_ (l1:=[])));have S1:=LH ((S.out.join H).perm List.perm_append_comm);clear H;have hSV:∃ x,Hid (bX [119]=x):=⟨_,LH rfl⟩;obtain ⟨sv,hsv⟩:=hSV;rw [hsv.out] at HN ⊢;have HN:=LH HN;go_wp2_with fail
 refine (HN.out w1 A c S1.out.k HR.out).mono ?_;rintro e w2 ⟨g,u,rfl,H⟩;have S2:=LH ((S1.out.join H).perm List.perm_append_comm);clear H;rw [<- hsv.out] at S2;go_wp2_with fail
 try simp only [Act.put]
 exact hend _ _ tS sP (⟨g,u,cH,S2.out.some_of (List.Sublist.cons_cons _ (List.Sublist.cons_cons _ (List.Sublist.cons _ (List.Sublist.refl _))))⟩)
theorem aYd(w0:World)(z:Int)(h:Bs)(hh:h.length=32)(ys:List Value)(L:List Res)(S:Held w0 w L)(HS:Calls prog 14 #[] w fun e w'=>∃ A c,e=.returned (.agg #[bX [119],.slice A 2 c]) ∧ Held w w' [aG 5 1 (.slice A 2 c) 2 (bv [1,2])])(HN:∀ V A c x,Kp [] w0 V->Rd V 1 (.slice A 2 c) 2 (bv [1,2])->qZ V x [[97],[98]]->Calls prog 15 #[.agg #[bX [119],.slice A 2 c],x] V fun e w'=>∃ v,e=.returned (.tuple #[.agg (bD z h v),.bool true]) ∧ Held V w' [aG 89 33 v 1 ys])(hsz:a.tmps.size=93):bC false 2 f7 Q a w fun a' W q'=>Sl a' 4 (.bool true)->(∃ g Av cv,Sl a' 3 (Pq g 0) ∧ Held w0 W (aB g 28 (bD z h (.slice Av 1 cv)) :: aG 89 33 (.slice Av 1 cv) 1 ys :: L))->q':=by
 refine bU fun hend=>?_;have HS:=LH HS;have S:=LH S;have hcv:=mG;go_wp2_with fail
 refine HS.out.mono ?_;rintro e w1 ⟨A,c,rfl,H⟩;have HR:=LH (Rd.of_own (H.at_ (l1:=[])));have S1:=LH ((S.out.join H).perm List.perm_append_comm);clear H;have hSV:∃ x,Hid (bX [119]=x):=⟨_,LH rfl⟩;obtain ⟨sv,hsv⟩:=hSV;rw [hsv.out] at HN ⊢;have HN:=LH HN;have h1:=wL w1 5 #[.int .u8 97] [97] (1,2) rfl (by decide) (g:=w1.heap.size) rfl;have h2:=wL (w1.alloc (.cells #[.int .u8 97] 5 (1,2))) 5 #[.int .u8 98] [98] (1,2) rfl (by decide) (g:=w1.heap.size+1) (by simp);have hT:=LH (bAu 32 (g:=w1.heap.size+1+1) (by simp) (h1.alloc _) h2);have S3:=LH (((S1.out.alloc (.cells #[.int .u8 97] 5 (1,2))).alloc (.cells #[.int .u8 98] 5 (1,2))).alloc (.cells #[.slice (some ⟨w1.heap.size,0,none⟩) 1 1,.slice (some ⟨w1.heap.size+1,0,none⟩) 1 1] 32));have HR3:=LH (((HR.out.alloc (.cells #[.int .u8 97] 5 (1,2))).alloc (.cells #[.int .u8 98] 5 (1,2))).alloc (.cells #[.slice (some ⟨w1.heap.size,0,none⟩) 1 1,.slice (some ⟨w1.heap.size+1,0,none⟩) 1 1] 32));clear h1 h2;go_wp2_with fail
 refine (HN.out _ A c _ S3.out.k HR3.out hT.out).mono ?_;rintro e w2 ⟨v,rfl,H⟩;obtain ⟨Av,cv,rfl,-⟩:=aS (H.at_ (l1:=[]));have S4:=LH ((S3.out.join H).perm List.perm_append_comm);clear H;have hz3:=LH (aN (z:=z) (v:=.slice Av 1 cv) hh);have HO:=LH (cT (z:=z) (h:=h) (v:=.slice Av 1 cv) rfl);obtain ⟨c8,hc8⟩:∃ cs,Hid (bD z h (.slice Av 1 cv)=cs):=⟨_,LH rfl⟩;rw [hc8.out] at hz3 HO ⊢;have S5:=LH (S4.out.newBlk 28 bT);clear S4;go_wp2_with (refine aD rfl 28 (.tmp 3) (.tmp 22) rfl w2.heap.size aE c8 aE 28 _ (S5.out.at_ (l1:=[])) (by rw [hz3.out];exact bBz) (by rw [hz3.out];rfl) HO.out ?_;intro w7 b7 k7;have S7:=LH (Held.setBlk (l1:=[]) S5.out b7 k7);clear b7 k7)
 rw [<- hc8.out] at S7
 try simp only [Act.put]
 exact hend _ _ tS sP (⟨w2.heap.size,Av,cv,cH,S7.out.some_of (List.Sublist.cons_cons _ (List.Sublist.cons_cons _ (List.Sublist.cons _ (List.Sublist.refl _))))⟩)
theorem aWx(w0:World)(z:Int)(h:Bs)(hh:h.length=32)(ys:List Value)(L:List Res)(S:Held w0 w L)(HS:Calls prog 14 #[] w fun e w'=>∃ A c,e=.returned (.agg #[bX [119],.slice A 2 c]) ∧ Held w w' [aG 5 1 (.slice A 2 c) 2 (bv [1,2])])(HN:∀ V A c x,Kp [] w0 V->Rd V 1 (.slice A 2 c) 2 (bv [1,2])->qZ V x [[120]]->Calls prog 15 #[.agg #[bX [119],.slice A 2 c],x] V fun e w'=>∃ v,e=.returned (.tuple #[.agg (bD z h v),.bool true]) ∧ Held V w' [aG 89 33 v 1 ys])(hsz:a.tmps.size=93):bC false 3 f7 Q a w fun a' W q'=>Sl a' 6 (.bool true)->(∃ g Av cv,Sl a' 5 (Pq g 0) ∧ Held w0 W (aB g 28 (bD z h (.slice Av 1 cv)) :: aG 89 33 (.slice Av 1 cv) 1 ys :: L))->q':=by
 refine bU fun hend=>?_;have HS:=LH HS;have S:=LH S;have hcv:=mG;go_wp2_with fail
 refine HS.out.mono ?_;rintro e w1 ⟨A,c,rfl,H⟩;have HR:=LH (Rd.of_own (H.at_ (l1:=[])));have S1:=LH ((S.out.join H).perm List.perm_append_comm);clear H;have hSV:∃ x,Hid (bX [119]=x):=⟨_,LH rfl⟩;obtain ⟨sv,hsv⟩:=hSV;rw [hsv.out] at HN ⊢;have HN:=LH HN;have h1:=wL w1 5 #[.int .u8 120] [120] (1,2) rfl (by decide) (g:=w1.heap.size) rfl;have hT:=LH (bBl 32 (g:=w1.heap.size+1) (by simp) h1);have S3:=LH ((S1.out.alloc (.cells #[.int .u8 120] 5 (1,2))).alloc (.cells #[.slice (some ⟨w1.heap.size,0,none⟩) 1 1] 32));have HR3:=LH ((HR.out.alloc (.cells #[.int .u8 120] 5 (1,2))).alloc (.cells #[.slice (some ⟨w1.heap.size,0,none⟩) 1 1] 32));clear h1;go_wp2_with fail
 refine (HN.out _ A c _ S3.out.k HR3.out hT.out).mono ?_;rintro e w2 ⟨v,rfl,H⟩;obtain ⟨Av,cv,rfl,-⟩:=aS (H.at_ (l1:=[]));have S4:=LH ((S3.out.join H).perm List.perm_append_comm);clear H;have hz3:=LH (aN (z:=z) (v:=.slice Av 1 cv) hh);have HO:=LH (cT (z:=z) (h:=h) (v:=.slice Av 1 cv) rfl);obtain ⟨c8,hc8⟩:∃ cs,Hid (bD z h (.slice Av 1 cv)=cs):=⟨_,LH rfl⟩;rw [hc8.out] at hz3 HO ⊢;have S5:=LH (S4.out.newBlk 28 bT);clear S4;go_wp2_with (refine aD rfl 28 (.tmp 5) (.tmp 30) rfl w2.heap.size aE c8 aE 28 _ (S5.out.at_ (l1:=[])) (by rw [hz3.out];exact bBz) (by rw [hz3.out];rfl) HO.out ?_;intro w7 b7 k7;have S7:=LH (Held.setBlk (l1:=[]) S5.out b7 k7);clear b7 k7)
 rw [<- hc8.out] at S7
 try simp only [Act.put]
 exact hend _ _ tS sP (⟨w2.heap.size,Av,cv,cH,S7.out.some_of (List.Sublist.cons_cons _ (List.Sublist.cons_cons _ (List.Sublist.cons _ (List.Sublist.refl _))))⟩)
theorem aVs(w0:World)(g g3 g5:Nat)(cA cB:Array Value)(hcA:cA.size=34)(hcB:cB.size=34)(LA:List Res)(Q1 Q2:World->Prop)(HA3:∀ V,Held w0 V LA->aM V g3 28 cA)(HB5:∀ V,Q1 V->aM V g5 28 cB)(HT:∀ V u1 u2 u,Held w0 V (aG 32 1 u 2 [u1,u2] :: nD (u2) 1 (bv [98]) :: nD (u1) 1 (bv [97]) :: LA)->Calls prog 16 #[Pq g 0,.agg cA,u] V fun r w'=>r=.returned (.int .i64 0) ∧ Q1 w')(HH:∀ V,Q1 V->Calls prog 18 #[Pq g 0,.agg cB,.slice none 0 0] V fun r w'=>r=.returned (.int .i64 400) ∧ Q2 w')(hsz:a.tmps.size=93)(o1:Sl a 1 (Pq g 0))(o2:Sl a 2 (.int .i64 (0:Int)))(o3:Sl a 3 (Pq g3 0))(o4:Sl a 4 (.bool true))(o5:Sl a 5 (Pq g5 0))(o6:Sl a 6 (.bool true))
 (S0:Held w0 w LA):bC false 4 f7 Q a w fun a' W q'=>Sl a' 62 (.bool false)->(Q2 W)->q':=by
 intro hend;have hap:=pa 4 f7;refine uQ (l:=(aK 4 f7)) (fun i v=>match i with|0=>v=Pq g 0|1=>v=.bool false|2=>v=.bool false|3=>v=.int .i64 (0:Int)|4=>v=.bool false|5=>v=.bool false|6=>v=.bool false|7=>v=.bool true|8=>v=.bool false|9=>v=.bool false|10=>v=.bool false|11=>v=.bool true|12=>v=.bool false|13=>v=.bool false|14=>v=.bool false|15=>v=Pq g 0|16=>v=.agg cA|22=>v=.int .i64 (0:Int)|23=>v=.bool false|24=>v=.bool false|25=>v=.bool false|26=>v=Pq g 0|27=>v=.agg cB|28=>v=.int .i64 (400:Int)|29=>v=.bool false|30=>v=.bool false|_=>True) (fun (i:Nat) (vs:Nat->Value) (W:World)=>cond (Nat.blt i 18) (Held w0 W LA) (cond (Nat.blt i 19) (∃ W',W=W'.alloc (.cells #[.int .u8 97] 5) ∧ vs 17=.slice (some ⟨W'.heap.size,0,none⟩) 1 1 ∧ Held w0 W' (LA)) (cond (Nat.blt i 20) (Held w0 W (nD (vs 18) 1 (bv [97]) :: LA)) (cond (Nat.blt i 21) (∃ W',W=W'.alloc (.cells #[.int .u8 98] 5) ∧ vs 19=.slice (some ⟨W'.heap.size,0,none⟩) 1 1 ∧ Held w0 W' (nD (vs 18) 1 (bv [97]) :: LA)) (cond (Nat.blt i 22) (Held w0 W (nD (vs 20) 1 (bv [98]) :: nD (vs 18) 1 (bv [97]) :: LA)) (cond (Nat.blt i 23) (Held w0 W (aG 32 1 (vs 21) 2 [vs 18,vs 20] :: nD (vs 20) 1 (bv [98]) :: nD (vs 18) 1 (bv [97]) :: LA)) (cond (Nat.blt i 29) (Q1 W) ((Q2 W))))))))) hap S0 ?_ ?_
 . clear S0 hend
   and_intros <;> try (intro vs A' W hA S hd hu K hK;try (refine aL _ rfl rfl ?_;conv=>arg 2;whnf))
   . replace S:Held w0 W LA:=S;exact aJ (eO 1 o1)
   . replace S:Held w0 W LA:=S;exact aJ (vD 32 0)
   . replace S:Held w0 W LA:=S;exact aJ (vD 33 1)
   . replace S:Held w0 W LA:=S;exact cC (eO 2 o2)
   . replace S:Held w0 W LA:=S;exact cC (vD 35 3)
   . replace S:Held w0 W LA:=S;exact cM (vD 34 2) (vD 36 4)
   . replace S:Held w0 W LA:=S;exact aJ (vD 37 5)
   . replace S:Held w0 W LA:=S;exact cC (eO 4 o4)
   . replace S:Held w0 W LA:=S;exact cC (vD 39 7)
   . replace S:Held w0 W LA:=S;exact cM (vD 38 6) (vD 40 8)
   . replace S:Held w0 W LA:=S;exact aJ (vD 41 9)
   . replace S:Held w0 W LA:=S;exact cC (eO 6 o6)
   . replace S:Held w0 W LA:=S;exact cC (vD 43 11)
   . replace S:Held w0 W LA:=S;exact cM (vD 42 10) (vD 44 12)
   . replace S:Held w0 W LA:=S;exact aJ (vD 45 13)
   . replace S:Held w0 W LA:=S;exact cC (eO 1 o1)
   . replace S:Held w0 W LA:=S;refine qH ?_;(conv=>arg 2;whnf);exact dC cA (eO 3 o3) (aM.agg (show aM W g3 28 cA from HA3 W S)) underlying28 (by rw [hcA];exact bBz)
   . replace S:Held w0 W LA:=S;refine qH ?_;(conv=>arg 2;whnf);clear hA hd hu o1 o2 o3 o4 o5 o6;go_step;exact hK _ _ trivial ⟨W,rfl,rfl,S⟩
   . replace S:∃ W',W=W'.alloc (.cells #[.int .u8 97] 5) ∧ vs 17=.slice (some ⟨W'.heap.size,0,none⟩) 1 1 ∧ Held w0 W' (LA):=S;refine qH ?_;(conv=>arg 2;whnf);have e49:=eU 49 17;clear hA hd hu o1 o2 o3 o4 o5 o6;obtain ⟨W1,rfl,hv,S⟩:=S;rw [hv] at e49;have hcv:=mG W1 #[.int .u8 97] 1 1 W1.heap.size rfl;go_step;exact hK _ _ trivial (zI S #[.int .u8 97] [97] rfl (by decide) _)
   . replace S:Held w0 W (nD (vs 18) 1 (bv [97]) :: LA):=S;refine qH ?_;(conv=>arg 2;whnf);clear hA hd hu o1 o2 o3 o4 o5 o6;go_step;exact hK _ _ trivial ⟨W,rfl,rfl,S⟩
   . replace S:∃ W',W=W'.alloc (.cells #[.int .u8 98] 5) ∧ vs 19=.slice (some ⟨W'.heap.size,0,none⟩) 1 1 ∧ Held w0 W' (nD (vs 18) 1 (bv [97]) :: LA):=S;refine qH ?_;(conv=>arg 2;whnf);have e51:=eU 51 19;clear hA hd hu o1 o2 o3 o4 o5 o6;obtain ⟨W1,rfl,hv,S⟩:=S;rw [hv] at e51;have hcv:=mG W1 #[.int .u8 98] 1 1 W1.heap.size rfl;go_step;exact hK _ _ trivial (zI S #[.int .u8 98] [98] rfl (by decide) _)
   . replace S:Held w0 W (nD (vs 20) 1 (bv [98]) :: nD (vs 18) 1 (bv [97]) :: LA):=S;refine qH ?_;(conv=>arg 2;whnf);have e50:=eU 50 18;have e52:=eU 52 20;clear hA hd hu o1 o2 o3 o4 o5 o6;obtain ⟨A1,c1,hv1⟩:=eG (S.at_ (l1:=[_])).1;obtain ⟨A2,c2,hv2⟩:=eG (S.at_ (l1:=[])).1;rw [hv1] at e50 S;rw [hv2] at e52 S;go_step;refine hK _ _ trivial ?_
     show Held w0 _ (aG 32 1 _ 2 [vs 18,vs 20] :: nD (vs 20) 1 (bv [98]) :: nD (vs 18) 1 (bv [97]) :: LA)
     rw [hv1,hv2];exact S.rownew (cZ W 32 1 2 #[.slice A1 1 c1,.slice A2 1 c2] rfl (by decide)) ((Kp.refl [] W).alloc _) (fun g hg=>Nat.le_of_eq (Option.some.inj hg))
   . replace S:Held w0 W (aG 32 1 (vs 21) 2 [vs 18,vs 20] :: nD (vs 20) 1 (bv [98]) :: nD (vs 18) 1 (bv [97]) :: LA):=S;refine qH ?_;(conv=>arg 2;whnf);have e47:=vD 47 15;have e48:=vD 48 16;have e53:=eU 53 21;clear hA hd hu o1 o2 o3 o4 o5 o6;go_step;refine (HT W _ _ _ S).mono ?_;rintro e w' ⟨rfl,h1⟩;exact hK _ _ rfl h1
   . replace S:Q1 W:=S;exact cC (vD 54 22)
   . replace S:Q1 W:=S;exact cM (vD 46 14) (vD 55 23)
   . replace S:Q1 W:=S;exact aJ (vD 56 24)
   . replace S:Q1 W:=S;exact cC (eO 1 o1)
   . replace S:Q1 W:=S;refine qH ?_;(conv=>arg 2;whnf);exact dC cB (eO 5 o5) (aM.agg (HB5 W S)) underlying28 (by rw [hcB];exact bBz)
   . replace S:Q1 W:=S;refine qH ?_;(conv=>arg 2;whnf);have e58:=vD 58 26;have e59:=vD 59 27;clear hA hd hu o1 o2 o3 o4 o5 o6;go_step;refine (HH W S).mono ?_;rintro e w' ⟨rfl,h1⟩;exact hK _ _ rfl h1
   . replace S:Q2 W:=S;exact cC (vD 60 28)
   . replace S:Q2 W:=S;exact cM (vD 57 25) (vD 61 29)
   . trivial
 . intro vs W S hp;replace S:Q2 W:=S;rw [aF];exact hend _ W sQ (sW (hp 30 sB)) S
theorem aYg(w0:World)(p:Value)(cf:Value->Value->Value->Array Value)(hcf:∀ A1 n1 c1 A2 n2 c2 A3 n3 c3,(cf (.slice A1 n1 c1) (.slice A2 n2 c2) (.slice A3 n3 c3)).size=101 ∧ ∀ u,u ∈ (cf (.slice A1 n1 c1) (.slice A2 n2 c2) (.slice A3 n3 c3)).toList->u.oneCell'=true)(n1 n2 n3:Nat)(y1 y2 y3:List Value)(L:List Res)(HC:Calls prog 21 #[p] w fun e w'=>∃ s1 s2 p,e=.returned (.tuple #[.agg (cf s1 s2 p),.bool true]) ∧ Held w0 w' (aG 89 33 s1 n1 y1 :: aG 89 33 s2 n2 y2 :: aG 23 32 p n3 y3 :: L))(hsz:a.tmps.size=93)(o1:Sl a 1 (p)):bC false 6 f7 Q a w fun a' W q'=>Sl a' 8 (.bool true)->(∃ g s1 s2 p,Sl a' 7 (Pq g 0) ∧ Held w0 W (aB g 31 (cf s1 s2 p) :: aG 89 33 s1 n1 y1 :: aG 89 33 s2 n2 y2 :: aG 23 32 p n3 y3 :: L))->q':=by
 refine bU fun hend=>?_;unfold Sl at o1;have HC:=LH HC;have hcf:=LH hcf;go_wp2_with fail
 refine HC.out.mono ?_;rintro e w1 ⟨s1,s2,pv,rfl,S⟩;obtain ⟨A1,c1,rfl,-⟩:=aS (S.at_ (l1:=[]));obtain ⟨A2,c2,rfl,-⟩:=aS (S.at_ (l1:=[_]));obtain ⟨A3,c3,rfl,-⟩:=aS (S.at_ (l1:=[_,_]));have hz3:=LH (hcf.out A1 n1 c1 A2 n2 c2 A3 n3 c3);obtain ⟨c8,hc8⟩:∃ cs,Hid (cf (.slice A1 n1 c1) (.slice A2 n2 c2) (.slice A3 n3 c3)=cs):=⟨_,LH rfl⟩;rw [hc8.out] at hz3 ⊢;have S5:=LH (S.newBlk 31 eJ.toArray);clear S;go_wp2_with (refine aD rfl 31 (.tmp 7) (.tmp 66) rfl w1.heap.size aE c8 aE 31 _ (S5.out.at_ (l1:=[])) (by rw [hz3.out.1];exact bC3) (by rw [hz3.out.1];rfl) hz3.out.2 ?_;intro w7 b7 k7;have S7:=LH (Held.setBlk (l1:=[]) S5.out b7 k7);clear b7 k7)
 rw [<- hc8.out] at S7
 try simp only [Act.put]
 exact hend _ _ tS sP (⟨w1.heap.size,_,_,_,cH,S7.out⟩)
theorem aW9(g g3 g7:Nat)(f:FkD)(hf:f.Ok)(s1 s2 pv:Value)(hb7:aM w g7 31 (f.cells s1 s2 pv))(hz1:(f.cells s1 s2 pv)[0]?=some (.int .i64 1))(cA:Array Value)(hcA:cA.size=34)(hb3:aM w g3 28 cA)(HC1:∀ V A c,Kp [] w V->Rd V 1 (.slice A 2 c) 2 (bv [1,2])->Calls prog 9 #[.agg (f.cells s1 s2 pv),.agg #[bX [119],.slice A 2 c]] V fun e w'=>e=.returned (.int .i64 0) ∧ Kp [] V w')(HC2:∀ V,Kp [] w V->Calls prog 17 #[Pq g 0] V fun e w'=>e=.returned (.int .i64 2) ∧ Kp [] V w')(HC3:∀ V,Kp [] w V->Calls prog 16 #[Pq g 0,.agg cA,.slice none 0 0] V fun e w'=>e=.returned (.int .i64 400) ∧ Kp [] V w')(hsz:a.tmps.size=93)(o1:Sl a 1 (Pq g 0))(o3:Sl a 3 (Pq g3 0))(o7:Sl a 7 (Pq g7 0))(o8:Sl a 8 (.bool true)):bC true 7 f7 Q a w fun a' W q'=>Kp [] w.drew W->Sl a' 0 (.bool true)->q':=by
 intro hend;have hap:=pa 7 f7;refine cO (l:=(aK 7 f7)) (fun i v W=>match i with|0=>v=.bool true|1=>v=.bool true|2=>v=.agg (f.cells s1 s2 pv)|3=>∃ A c,v=.agg #[bX [119],.slice A 2 c] ∧ Go.Proofs.YtmkfopmdingaoaaGreatDoor.Rd W 1 (.slice A 2 c) 2 (bv [1,2])|4=>v=.int .i64 (0:Int)|5=>v=.bool true|6=>v=.bool true|7=>v=.bool true|8=>v=Pq g7 0|9=>v=Pq g7 0|10=>v=Pq g7 0|11=>v=.int .i64 (1:Int)|12=>v=.bool true|13=>v=.bool true|14=>v=.bool true|15=>v=Pq g 0|16=>v=.int .i64 (2:Int)|17=>v=.bool true|18=>v=.bool true|19=>v=.bool true|20=>v=Pq g 0|21=>v=.agg cA|22=>v=.int .i64 (400:Int)|23=>v=.bool true|24=>v=.bool true|25=>v=.bool true|_=>True) (by kernel_rfl) hap (by kernel_rfl) ?_ ?_ ?_
 . intro i v W W' h k;rcases i with _|i
   . exact h
   rcases i with _|i
   . exact h
   rcases i with _|i
   . exact h
   rcases i with _|i
   . obtain ⟨A,c,h1,h2⟩:=h;exact ⟨A,c,h1,aT h2 k⟩
   rcases i with _|i
   . exact h
   rcases i with _|i
   . exact h
   rcases i with _|i
   . exact h
   rcases i with _|i
   . exact h
   rcases i with _|i
   . exact h
   rcases i with _|i
   . exact h
   rcases i with _|i
   . exact h
   rcases i with _|i
   . exact h
   rcases i with _|i
   . exact h
   rcases i with _|i
   . exact h
   rcases i with _|i
   . exact h
   rcases i with _|i
   . exact h
   rcases i with _|i
   . exact h
   rcases i with _|i
   . exact h
   rcases i with _|i
   . exact h
   rcases i with _|i
   . exact h
   rcases i with _|i
   . exact h
   rcases i with _|i
   . exact h
   rcases i with _|i
   . exact h
   rcases i with _|i
   . exact h
   rcases i with _|i
   . exact h
   rcases i with _|i
   . exact h
   exact h
 . and_intros <;> try (intro vs A' W hA hW hd K hK;try (refine aL _ rfl rfl ?_;conv=>arg 2;whnf))
   . exact aJ (eO 8 o8)
   . exact aJ (vD 68 0)
   . refine qH ?_;(conv=>arg 2;whnf);exact dC (f.cells s1 s2 pv) (eO 7 o7) (aM.agg (hb7.kp (((Kp.refl [] w).drew).trans hW (by simp)) (by simp))) underlying31 (by rw [FkD.size hf];exact bC3)
   . refine qH ?_;(conv=>arg 2;whnf);clear hA hd o1 o3 o7 o8;go_step;refine (kN W).mono ?_;rintro e w' ⟨A,c,rfl,H⟩;exact hK _ w' H.k ⟨A,c,rfl,Rd.of_own (H.at_ (l1:=[]))⟩
   . refine qH ?_;(conv=>arg 2;whnf);have e70:=vD 70 2;have f3:∃ A c,(vs 3)=.agg #[bX [119],.slice A 2 c] ∧ Go.Proofs.YtmkfopmdingaoaaGreatDoor.Rd W 1 (.slice A 2 c) 2 (bv [1,2]):=hd 3 (by kernel_rfl);have e71:=eU 71 3;clear hA hd o1 o3 o7 o8;obtain ⟨A,c,hv,hr⟩:=f3;rw [hv] at e71;go_step;refine (HC1 W A c (((Kp.refl [] w).drew).trans hW (by simp)) hr).mono ?_;rintro e w' ⟨rfl,k1⟩;exact hK _ w' k1 rfl
   . exact cC (vD 72 4)
   . exact cM (vD 69 1) (vD 73 5)
   . exact aJ (vD 74 6)
   . exact cC (eO 7 o7)
   . exact cC (vD 76 8)
   . exact cC (vD 77 9)
   . refine qH ?_;(conv=>arg 2;whnf);have c0:W.cell? ⟨g7,0,none⟩=some (.int .i64 1):=by rw [(hb7.kp (((Kp.refl [] w).drew).trans hW (by simp)) (by simp)).cell];exact hz1
     exact aJ (vD 78 10)
   . exact cC (vD 79 11)
   . exact cM (vD 75 7) (vD 80 12)
   . exact aJ (vD 81 13)
   . exact cC (eO 1 o1)
   . refine qH ?_;(conv=>arg 2;whnf);have e83:=vD 83 15;clear hA hd o1 o3 o7 o8;go_step;refine (HC2 W (((Kp.refl [] w).drew).trans hW (by simp))).mono ?_;rintro e w' ⟨rfl,k1⟩;exact hK _ w' k1 rfl
   . exact cC (vD 84 16)
   . exact cM (vD 82 14) (vD 85 17)
   . exact aJ (vD 86 18)
   . exact cC (eO 1 o1)
   . refine qH ?_;(conv=>arg 2;whnf);exact dC cA (eO 3 o3) (aM.agg (hb3.kp (((Kp.refl [] w).drew).trans hW (by simp)) (by simp))) underlying28 (by rw [hcA];exact bBz)
   . refine qH ?_;(conv=>arg 2;whnf);have e88:=vD 88 20;have e89:=vD 89 21;clear hA hd o1 o3 o7 o8;go_step;refine (HC3 W (((Kp.refl [] w).drew).trans hW (by simp))).mono ?_;rintro e w' ⟨rfl,k1⟩;exact hK _ w' k1 rfl
   . exact cC (vD 90 22)
   . exact cM (vD 87 19) (vD 91 23)
   . exact aJ (vD 92 24)
   . trivial
 . intro vs W hW hp;rw [aF];exact hend _ W sQ hW (sW (hp 25 sB))
end
section
open Go.RowKit Go.Shelf
theorem zV(p:Value)(z:Int)(h:Bs)(hh:h.length=32)(A:Option Addr)(n c:Nat)(x:Value)(e0:Int)(he:e0 ≠ 0)(w:World)(HC:∀ V,Kp [] w V->Calls prog 44 #[p,.agg (bD z h (.slice A n c))] V fun e w'=>e=.returned (.int .i64 e0) ∧ Kp [] V w'):
 Calls prog 16 #[p,.agg (bD z h (.slice A n c)),x] w fun e w'=>e=.returned (.int .i64 e0) ∧ Kp [] w w':=by
 refine aR func16 rfl 130 rfl (fun a0 hsz hdf hAr=>?_);have hz0:a0.tmps.size=130:=hsz;have D:=hdf;have o0:=hAr 0 _ rfl;have o1:=hAr 1 _ rfl;have o2:=hAr 2 _ rfl;refine wp_seq (aEo w _ (aN hh) (cT rfl) _ (Held.start w) hz0 o1 (fun a1 w1 hs1 o6 h1=>?_));obtain ⟨hz1,D,o0⟩:=eY hs1 hz0 D o0;obtain ⟨g4,o4,S1⟩:=h1;refine wp_seq (wp_seq (aFg _ g4 _ (aN hh) (S1.at_ (l1:=[])) _ (HC w1 S1.k) hz1 o0 o4 (fun a2 w2 hs2 o7 k2=>?_)));obtain ⟨hz2,D⟩:=dS hs2 hz1 D;refine wp_seq (aGp _ hz2 o7 (fun a3 hs3 o19=>?_));obtain ⟨hz3,D,o7⟩:=eY hs3 hz2 D o7;have hq:(e0 != 0)=true:=by rw [bne_iff_ne];exact he
 refine cS o19 ?_ (by rw [hq]);refine wp_seq (aGi _ hz3 o7 (fun a4 hs4 o6=>?_));obtain ⟨hz4,D⟩:=dS hs4 hz3 D;refine wp_ret ?_;simp only [Exit.then];exact bodyPost_ret (bA (by rfl) (o6.eval (by rw [hz4];decide))) D ⟨rfl,S1.k.trans k2 (by simp)⟩
def aN2 (w0 w':World) (L:List Res) (g:Nat) (X:MS):Prop:=∃ L' M vs,Held w0 w' (aB g 85 M.cells :: aG 32 1 M.e X.es.length vs :: (L' ++ L)) ∧ MirR M vs X (L' ++ L)
theorem aBn(w0:World)(L:List Res)(LD0:LD w0)(g:Nat)(X:MS)(M:MirD)(vs:List Value)(R:MirR M vs X L)(n:NtD)(hn:n.Ok)(A:Option Addr)(c:Nat)(Ap:Option Addr)(cp:Nat)(pf:List (List UInt8))(hpf:dP pf)(w:World)(S:Held w0 w (aB g 85 M.cells :: aG 32 1 M.e X.es.length vs :: L))(HVn:SgR L A c n.l)(HVp:HsR L Ap cp pf):
 Calls prog 18 #[Pq g 0,.agg (bD n.z n.h (.slice A n.l.length c)),.slice Ap pf.length cp] w fun r w'=>tJ w0 w' L g (X.hearF n pf) r:=by
 have hmay:nX M.fd n.z n.h n.l M.nm M.sec=X.mayF n:=by unfold MS.mayF;rw [R.fd,R.nm,R.sec]
 have hXl:M.hl.length=X.es.length:=by rw [R.hl,X.hl_length]
 refine (aE4 w0 (aG 32 1 M.e X.es.length vs :: L) LD0 g M R.ok n.z hn.z n.h hn.h A c n.l hn.l hn.m Ap cp pf hpf w S (fun V hV=>HVn V (fun r hr=>hV r (List.mem_cons_of_mem _ hr))) (fun V hV=>R.rd V (fun r hr=>hV r (List.mem_cons_of_mem _ hr))) (fun V hV=>HVp V (fun r hr=>hV r (List.mem_cons_of_mem _ hr)))).mono ?_;rw [hmay,hXl,R.hl];rintro r w' ⟨cd,rfl,⟨h1,rfl,S⟩|⟨h1,k,hk,hkn,hW⟩|⟨h1,h2,rfl,S⟩⟩
 . have e:X.hearF n pf=(X.mayF n,X):=by unfold MS.hearF;rw [if_pos h1]
   rw [e];exact gW R S
 . have e:X.hearF n pf=X.withinF n:=by unfold MS.hearF;rw [if_neg (by rw [h1];decide),if_pos (by omega)]
   rw [e];exact qY hn hk R hW
 . have e:X.hearF n pf=(((eL (X.es.length:Int) n.z (bJ X.hl) n.h pf:Nat):Int),X):=by unfold MS.hearF;rw [if_neg (by rw [h1];decide),if_neg (by omega)]
   rw [e];exact gW R S
theorem aA7:dI []:=by
 intro s hs
 cases hs
theorem tI:dP []:=by
 intro s hs
 cases hs
theorem aKt{m:Int}{l:List (List UInt8)}:(dH m l).length<=65:=by rw [zL];exact tM _ _
theorem aGc{X:MS}{n:NtD}(hX:X.la.Ok)(hn:n.Ok):(aCn X n).Ok:=by
 exact ⟨hn.h,hX.h,bS (fun y hy=>X.hs y (List.mem_of_mem_take hy)),hn.l,hX.l,hn.m,hX.m,xS X.hs,by have:=aKt (m:=n.z) (l:=X.hl);show (dH n.z X.hl).length<=_;omega⟩
theorem aE6:∀ u ∈ qX,u.oneCell'=true:=by
 intro u hu;have:=cT (z:=0) (h:=List.replicate 32 0) (v:=.slice none 0 0) rfl u
 rw [jS] at this;exact this hu
def vR (nm sec:Bs) (Ak:Option Addr) (ck:Nat):MirD:=⟨nm,sec,Ak,ck,.slice none 0 0,[],none,0,qX,false,eJ,false⟩
theorem aGj{nm sec:List UInt8}{Ak:Option Addr}{ck:Nat}{L:List Res}(hnm:nm.length<=1000000)(h:∀ V,(∀ r ∈ L,r.ok V)->Rd V 1 (.slice Ak sec.length ck) sec.length (bv sec)):MirR (vR nm sec Ak ck) [] (MS.new nm sec) L:=
 ⟨⟨hnm,tI,Nat.zero_le _,xC,aE6,wJ,⟨none,0,rfl⟩⟩,rfl,rfl,rfl,fun V hV=>⟨h V hV,fE 32 V⟩,rfl,rfl,⟨none,0,rfl,fun V _=>fE 33 V⟩,⟨none,none,none,0,0,0,by rw [FkD.list];rfl,fun V _=>fE 33 V,fun V _=>fE 33 V,fun V _=>fE 32 V⟩,EnR.nil L⟩
theorem aFb{M:MirD}{vs:List Value}{X:MS}{L:List Res}(R:MirR M vs X L){g:Nat}(n:NtD)(hn:n.Ok)(A:Option Addr)(c:Nat)(V:World)(LDV:LD V)(hb:aM V g 85 M.cells)(hV:∀ r ∈ L,r.ok V)(HVn:Rd V 33 (.slice A n.l.length c) n.l.length (bB n.l)):
 Calls prog 44 #[Pq g 0,.agg (bD n.z n.h (.slice A n.l.length c))] V fun e w'=>e=.returned (.int .i64 (X.mayF n)) ∧ Kp [] V w':=by
 have hmay:nX M.fd n.z n.h n.l M.nm M.sec=X.mayF n:=by unfold MS.mayF;rw [R.fd,R.nm,R.sec]
 rw [<- hmay];exact tF n.z hn.z n.h hn.h A c n.l hn.l hn.m M.nm R.ok.nm M.Ak M.ck M.sec g M.cells M.fd V LDV hb aAf aAi (oQ R.ok.la R.ok.fk) (pC R.ok.la R.ok.fk) HVn (R.rd V hV).1
theorem aE1{M:MirD}{vs:List Value}{X:MS}{L:List Res}(R:MirR M vs X L){g:Nat}(V:World)(hb:aM V g 85 M.cells):
 Calls prog 17 #[Pq g 0] V fun e w'=>e=.returned (Nq (X.es.length)) ∧ Kp [] V w':=by
 have hXl:M.hl.length=X.es.length:=by rw [R.hl,X.hl_length]
 obtain ⟨Ae,ce,hMe⟩:=R.ok.e;rw [hXl] at hMe;exact kG g M.cells Ae X.es.length ce V hb (pC R.ok.la R.ok.fk) (by rw [<- hMe];exact pL)
theorem vJ(ls:List (List UInt8))(h:ls.length<=1000000):(iF ls).Ok:=aEc wU h
theorem aQ8:pB.fk.Ok:=aGc (X:=kX1) (vJ _ (by decide)) (vJ _ (by decide))
theorem tQ(ls:List (List UInt8))(hl:ls.length<=1000000)(hb:∀ e ∈ ls,e.length<=140737488355200)(w0:World):∀ V A c x,Kp [] w0 V->Rd V 1 (.slice A 2 c) 2 (bv [1,2])->qZ V x ls->Calls prog 15 #[.agg #[bX [119],.slice A 2 c],x] V fun e w'=>∃ v,e=.returned (.tuple #[.agg (bD (iF ls).z (iF ls).h v),.bool true]) ∧ Held V w' [aG 89 33 v 1 (bB (iF ls).l)]:=by
 intro V A c x _ hr hx;obtain ⟨Ax,cx,rfl,-⟩:=hx.open_;exact aDv [119] A c [1,2] wU Ax cx ls hl hb V hr hx
theorem aHx(w0:World)(LD0:LD w0):∀ V A c,Kp [] w0 V->Rd V 1 (.slice A 2 c) 2 (bv [1,2])->Calls prog 13 #[.agg #[bX [119],.slice A 2 c]] V fun e w'=>∃ g u,e=.returned (.tuple #[Pq g 0,.int .i64 0]) ∧ Held V w' [aB g 85 (oW (bX [119]) u),aG 5 1 u 2 (bv [1,2])]:=by
 intro V A c kV hr;refine (aH7 [119] (by decide) A c [1,2] (by decide) V (LD0.kp kV) hr).mono ?_;rintro e w' (⟨-,g,u,rfl,S⟩|⟨h,-⟩)
 . exact ⟨g,u,rfl,S⟩
 . rw [wU] at h;cases h
theorem iC(w:World)(LDw:LD w):Calls prog 7 #[] w fun e w'=>e=.returned (.bool true) ∧ Kp [] w w':=by
 refine aR func7 rfl 93 rfl (fun a0 hsz hdf hAr=>?_);have hz0:a0.tmps.size=93:=hsz;have D:=hdf;refine wp_seq (aPr hz0 (fun a1 hs1 o0=>?_));obtain ⟨hz1,D⟩:=dS hs1 hz0 D;refine wp_seq (aZd w [] (Held.start w) (kN w) (aHx w LDw) hz1 (fun a2 w1 hs2 o2 h1=>?_));obtain ⟨hz2,D⟩:=dS hs2 hz1 D;obtain ⟨g,u,o1,S1⟩:=h1;refine wp_seq (aYd w (iF [[97],[98]]).z (iF [[97],[98]]).h (vJ _ (by decide)).h (bB (iF [[97],[98]]).l) _ S1 (kN w1) (tQ [[97],[98]] (by decide) (by decide) w) hz2 (fun a3 w2 hs3 o4 h2=>?_));obtain ⟨hz3,D,o2,o1⟩:=dU hs3 hz2 D o2 o1;obtain ⟨g3,A3,c3,o3,S2⟩:=h2;refine wp_seq (aWx w (iF [[120]]).z (iF [[120]]).h (vJ _ (by decide)).h (bB (iF [[120]]).l) _ S2 (kN w2) (tQ [[120]] (by decide) (by decide) w) hz3 (fun a4 w3 hs4 o6 h3=>?_));obtain ⟨hz4,D,o2,o1,o4,o3⟩:=fH hs4 hz3 D o2 o1 o4 o3;obtain ⟨g5,A5,c5,o5,S3⟩:=h3;obtain ⟨Au,cu,rfl,-⟩:=aS (S3.at_ (l1:=[_,_,_,_,_]));have hT:=aZy;have hH:=aY3;have hG:=aN4;have okA:=vJ [[97],[98]] (by decide);have okB:=vJ [[120]] (by decide);have lA:(iF [[97],[98]]).l.length=1:=rfl;have lB:(iF [[120]]).l.length=1:=rfl;generalize iF [[97],[98]]=nA at *;generalize iF [[120]]=nB at *;obtain ⟨LR,hLR⟩:∃ LR:List Res,[aB g5 28 (bD nB.z nB.h (.slice A5 1 c5)),aG 89 33 (.slice A5 1 c5) 1 (bB nB.l),aB g3 28 (bD nA.z nA.h (.slice A3 1 c3)),aG 89 33 (.slice A3 1 c3) 1 (bB nA.l),aG 5 1 (.slice Au 2 cu) 2 (bv [1,2])]=LR:=⟨_,rfl⟩;have m5:aB g5 28 (bD nB.z nB.h (.slice A5 1 c5)) ∈ LR:=by rw [<- hLR];simp
 have m3:aB g3 28 (bD nA.z nA.h (.slice A3 1 c3)) ∈ LR:=by rw [<- hLR];simp
 have mB:aG 89 33 (.slice A5 1 c5) 1 (bB nB.l) ∈ LR:=by rw [<- hLR];simp
 have mA:aG 89 33 (.slice A3 1 c3) 1 (bB nA.l) ∈ LR:=by rw [<- hLR];simp
 have mU:aG 5 1 (.slice Au 2 cu) 2 (bv [1,2]) ∈ LR:=by rw [<- hLR];simp
 have S4:Held w w3 (aB g 85 (vR [119] [1,2] Au cu).cells :: aG 32 1 (vR [119] [1,2] Au cu).e kX0.es.length [] :: LR):=by
  have h1:=S3.pull 4 rfl;have h2:=(h1.rownew (World.ownsRow_nil _ _ _ _:Ow w3 32 1 (.slice none 0 0) 0 []) (Kp.refl [] w3) (fun g hg=>by cases hg)).pull 1 rfl;rw [<- hLR];exact h2
 have R0:MirR (vR [119] [1,2] Au cu) [] kX0 LR:=aGj (by decide) (fun V hV=>iR (e:=5) hV mU);clear S3 S2 S1;obtain ⟨LA,hLA⟩:∃ LA:List Res,aB g 85 (vR [119] [1,2] Au cu).cells :: aG 32 1 (vR [119] [1,2] Au cu).e kX0.es.length [] :: LR=LA:=⟨_,rfl⟩;have HA3:∀ V,Held w V LA->aM V g3 28 (bD nA.z nA.h (.slice A3 1 c3)):=fun V SV=>SV.ok (aB g3 28 (bD nA.z nA.h (.slice A3 1 c3))) (by rw [<- hLA];exact List.mem_cons_of_mem _ (List.mem_cons_of_mem _ m3))
 have HB5:∀ V,aN2 w V LR g kX1->aM V g5 28 (bD nB.z nB.h (.slice A5 1 c5)):=by
  rintro V ⟨L',M,vs,SV,-⟩;exact SV.ok (aB g5 28 (bD nB.z nB.h (.slice A5 1 c5))) (List.mem_cons_of_mem _ (List.mem_cons_of_mem _ (List.mem_append_right _ m5)))
 have HTk:∀ V u1 u2 u,Held w V (aG 32 1 u 2 [u1,u2] :: nD u2 1 (bv [98]) :: nD u1 1 (bv [97]) :: LA)->Calls prog 16 #[Pq g 0,.agg (bD nA.z nA.h (.slice A3 1 c3)),u] V fun r w'=>r=.returned (.int .i64 0) ∧ aN2 w w' LR g kX1:=by
  intro V u1 u2 u SV;obtain ⟨Ax,cx,rfl,-⟩:=aS (SV.at_ (l1:=[]));rw [<- hLA] at SV;have SV:=(SV.pull 4 rfl).pull 4 rfl;simp only [List.eraseIdx] at SV
  have:=aDm w (aG 32 1 (.slice Ax 2 cx) 2 [u1,u2] :: nD u2 1 (bv [98]) :: nD u1 1 (bv [97]) :: LR) LDw g kX0 _ [] (R0.more (fun r hr=>by simp [hr])) nA okA A3 c3 [[97],[98]] (by decide) (by decide) Ax cx [u1,u2] V SV (fun V hV=>by rw [lA];exact iR (e:=89) hV (by simp [mA])) (fun V kV hV=>⟨iR (e:=32) hV (by simp),fun i hi=>by
   rcases i with _|_|i
   . exact ⟨u1,rfl,(hV (nD u1 1 (bv [97])) (by simp)).1⟩
   . exact ⟨u2,rfl,(hV (nD u2 1 (bv [98])) (by simp)).1⟩
   . simp at hi;omega⟩)
  rw [lA,hT] at this;refine this.mono ?_;rintro r w' ⟨h1,L',M,vs,h2,h3⟩;exact ⟨h1,L' ++ [_,_,_],M,vs,by rw [List.append_assoc];exact h2,by rw [List.append_assoc];exact h3⟩
 have HHr:∀ V,aN2 w V LR g kX1->Calls prog 18 #[Pq g 0,.agg (bD nB.z nB.h (.slice A5 1 c5)),.slice none 0 0] V fun r w'=>r=.returned (.int .i64 400) ∧ aN2 w w' LR g pB:=by
  rintro V ⟨L',M,vs,SV,R⟩;have:=aBn w (L' ++ LR) LDw g kX1 M vs R nB okB A5 c5 none 0 [] tI V SV (fun V hV=>by rw [lB];exact iR (e:=89) hV (List.mem_append_right _ mB)) (fun V _=>fE 32 V)
  rw [lB,hH] at this;refine this.mono ?_;rintro r w' ⟨h1,L2,M,vs,h2,h3⟩;exact ⟨h1,L2 ++ L',M,vs,by rw [List.append_assoc];exact h2,by rw [List.append_assoc];exact h3⟩
 rw [hLA] at S4;refine wp_seq (wp_seq (aVs w g g3 g5 _ _ (aN okA.h) (aN okB.h) LA _ _ HA3 HB5 HTk HHr hz4 o1 o2 o3 o4 o5 o6 S4  (fun a5 w4 hs5 o62 hQ=>?_)));obtain ⟨hz5,D,o1,o3⟩:=dU hs5 hz4 D o1 o3;refine dD o62 (wp_skip ?_);simp only [Exit.then];obtain ⟨L',M,vs,S5,R⟩:=hQ;obtain ⟨A1,A2,Ap,c1,c2,cp,hfk,r1,r2,r3⟩:=R.fk;have okf:=aQ8;have hV5:∀ {V:World},(∀ r ∈ (aG 32 1 M.e pB.es.length vs :: (L' ++ LR)),r.ok V)->∀ r ∈ L' ++ LR,r.ok V:=fun hV r hr=>hV r (List.mem_cons_of_mem _ hr)
 refine wp_seq (aYg w _ pB.fk.cells (fun A1 n1 c1 A2 n2 c2 A3 n3 c3=>⟨FkD.size okf,FkD.one pB.fk _ _ _ _ _ _ _ _ _⟩) _ _ _ _ _ _ _ (aB1 w (aG 32 1 M.e pB.es.length vs :: (L' ++ LR)) g M R.ok (R.fd.trans rfl) pB.fk okf A1 A2 Ap c1 c2 cp hfk w4 S5 (fun V hV=>r1 V (hV5 hV)) (fun V hV=>r2 V (hV5 hV)) (fun V hV=>r3 V (hV5 hV))) hz5 o1 (fun a6 w5 hs6 o8 h5=>?_));obtain ⟨hz6,D,o1,o3⟩:=dU hs6 hz5 D o1 o3;obtain ⟨g7,s1,s2,pv,o7,S6⟩:=h5;obtain ⟨B1,d1,rfl,-⟩:=aS (S6.at_ (l1:=[_]));obtain ⟨B2,d2,rfl,-⟩:=aS (S6.at_ (l1:=[_,_]));obtain ⟨B3,d3,rfl,-⟩:=aS (S6.at_ (l1:=[_,_,_]));have hbM:=S6.at_ (l1:=[_,_,_,_]);have hVL:∀ V,Kp [] w5 V->∀ r ∈ L' ++ LR,r.ok V:=fun V kV r hr=>(S6.kp kV).ok r (by simp only [List.mem_cons];exact .inr (.inr (.inr (.inr (.inr (.inr hr))))))
 have hb3:aM w5 g3 28 (bD nA.z nA.h (.slice A3 1 c3)):=hVL w5 kR (aB g3 28 (bD nA.z nA.h (.slice A3 1 c3))) (List.mem_append_right _ m3);refine wp_seq (aW9 g g3 g7 pB.fk okf _ _ _ (S6.at_ (l1:=[])) (FkD.n1 okf (j:=0) rfl) _ (aN okA.h) hb3 (fun V A c kV hr=>by have:=uI pB.fk okf (by decide) (by decide) B1 B2 B3 d1 d2 d3 [119] (by decide) A c [1,2] V ((LDw.kp S6.k).kp kV) hr (Rd.of_own ((S6.kp kV).at_ (l1:=[_]))) (Rd.of_own ((S6.kp kV).at_ (l1:=[_,_]))) (Rd.of_own ((S6.kp kV).at_ (l1:=[_,_,_])));rw [aKm] at this;exact this) (fun V kV=>aE1 R V ((S6.kp kV).at_ (l1:=[_,_,_,_]))) (fun V kV=>zV _ nA.z nA.h okA.h A3 1 c3 _ 400 (by decide) V (fun V2 kV2=>by have kk:=kV.trans kV2 (by simp);have:=aFb R nA okA A3 c3 V2 ((LDw.kp S6.k).kp kk) ((S6.kp kk).at_ (l1:=[_,_,_,_])) (hVL V2 kk) (by rw [lA];exact iR (e:=89) (hVL V2 kk) (List.mem_append_right _ mA));rw [lA,hG] at this;exact this)) hz6 o1 o3 o7 o8 (fun a7 w6 hs7 k6 o0=>?_));obtain ⟨hz7,D⟩:=dS hs7 hz6 D;refine wp_ret ?_;exact bodyPost_ret (bA (by rfl) (o0.eval (by rw [hz7];decide))) D ⟨rfl,S6.k.trans (((Kp.refl [] w5).drew).trans k6 (by simp)) (by simp)⟩
theorem aAu(z:Int)(h:Bs)(l:List bF)(nm sec:Bs):((dN z h l [(nm,sec)]).contains nm=false) ↔ (dN z h l [(nm,sec)]).length=0:=by
 have key:∀ x ∈ dN z h l [(nm,sec)],x=nm:=by
  intro x hx;unfold dN at hx
  split at hx
  . unfold nO at hx;obtain ⟨s,hs,rfl⟩:=List.mem_map.1 hx;have:=(List.mem_filter.1 hs).2
    simp [bO] at this
    exact this.1
  . cases hx
 generalize dN z h l [(nm,sec)]=r at *
 cases r with
 |nil=>simp
 |cons a r=>
  have:=key a (List.mem_cons_self ..)
  subst this
  simp
theorem aB9(nm:Bs)(hnm:nm.length<=9223372036854775807)(A:Option Addr)(c:Nat)(sec:Bs)(w:World)(hv:Rd w 1 (.slice A sec.length c) sec.length (bv sec)):
 Calls prog 34 #[.agg #[bX nm,.slice A sec.length c]] w fun e w'=>e=.returned (.bool (cR nm sec)) ∧ Kp [] w w':=by
 refine aR func34 rfl 13 rfl (fun a0 hsz hdf hAr=>?_);have hz0:a0.tmps.size=13:=hsz;have D:=hdf;have o0:=hAr 0 _ rfl;refine wp_seq (aUl w _ A sec.length c [] (Held.start w) hz0 o0 (fun a1 w1 hs1 h1=>?_));obtain ⟨hz1,D⟩:=dS hs1 hz0 D;obtain ⟨g1,o1,S⟩:=h1;have HC:=aIi 0 (by omega) (List.replicate 32 0) (by simp) nm hnm A c sec w1 (aT hv S.k);refine wp_seq (aYc w g1 (bX nm) ⟨_,rfl⟩ A sec.length c _ (by unfold jQ;split;exact rE _ _;simp) _ (S.at_ (l1:=[])) HC _ S hz1 o1 (fun a2 w2 hs2 o4 S=>?_));obtain ⟨hz2,D⟩:=dS hs2 hz1 D;refine wp_seq (aU5 _ hz2 o4 (fun a3 hs3 o2=>?_));obtain ⟨hz3,D⟩:=dS hs3 hz2 D;refine wp_ret ?_;refine bodyPost_ret (bA (by rfl) (o2.eval (by rw [hz3];decide))) D ⟨?_,S.k⟩;have e:dV 0 nm sec=cR nm sec:=by simp [dV]
 show Ending.returned (.bool ((if dV 0 nm sec then (0:Int) else 2) == 0))=_
 rw [e]
 cases cR nm sec <;> rfl
theorem rD(z:Int)(hz:-9223372036854775808<=z ∧ z<=9223372036854775807)(h:Bs)(hh:h.length=32)(A:Option Addr)(c:Nat)(l:List bF)(hok:dI l)(hll:l.length<=1000000)(nm:Bs)(hnm:nm.length<=1000000)(Ak:Option Addr)(ck:Nat)(sec:Bs)(w:World)(hv:Rd w 33 (.slice A l.length c) l.length (bB l))(hk:Rd w 1 (.slice Ak sec.length ck) sec.length (bv sec)):
 Calls prog 36 #[.agg (bD z h (.slice A l.length c)),.agg #[bX nm,.slice Ak sec.length ck]] w fun e w'=>e=.returned (.int .i64 (cF z h l nm sec)) ∧ Kp [] w w':=by
 refine aR func36 rfl 16 rfl (fun a0 hsz hdf hAr=>?_);have hz0:a0.tmps.size=16:=hsz;have D:=hdf;have o0:=hAr 0 _ rfl;have o1:=hAr 1 _ rfl;refine wp_seq (aYu w _ (aN hh) (cT rfl) ⟨nm.toArray⟩ Ak sec.length ck [] (Held.start w) hz0 o0 o1 (fun a1 w1 hs1 o4 h1=>?_));obtain ⟨hz1,D⟩:=dS hs1 hz0 D;obtain ⟨g2,g3,o2,o3,S⟩:=h1;refine wp_seq (wp_seq (aTa g2 _ (aN hh) (S.at_ (l1:=[_])) _ (mH z hz h hh l hok (by omega) A c w1 (aT hv S.k)) hz1 o2 (fun a2 w2 hs2 o8 k2=>?_)));obtain ⟨hz2,D,o2,o3⟩:=dU hs2 hz1 D o2 o3;have S:=S.kp k2
 by_cases hc:eA z l=0
 . rw [hc] at o8;refine dD o8 (wp_skip ?_);simp only [Exit.then];refine wp_seq (aYq w g2 g3 _ (aN hh) ⟨nm.toArray⟩ Ak sec.length ck _ ((dN z h l [(nm,sec)]).map bX) (fun V Ar cr kV hr=>yP z hz h hh A c l hok (by omega) Ar cr [(nm,sec)] (by simp) (fun k hk=>by obtain rfl:=List.mem_singleton.1 hk;unfold maxLen;show nm.length<=_;omega) [bX nm,.slice Ak sec.length ck] V (aT hv kV) ⟨hr,fun i hi=>by obtain rfl:i=0:=(by simpa using hi);exact ⟨Ak,ck,rfl,rfl,aT hk kV⟩⟩) [] S hz2 o2 o3 (fun a3 w3 hs3 h3=>?_));obtain ⟨hz3,D⟩:=dS hs3 hz2 D;obtain ⟨v,o5,S⟩:=h3;obtain ⟨Av,cv,rfl,-⟩:=aS (S.at_ (l1:=[]));refine wp_seq (wp_seq (aPx Av _ cv hz3 o5 (fun a4 hs4 o15=>?_)));obtain ⟨hz4,D⟩:=dS hs4 hz3 D;have hone:=aAu z h l nm sec
   by_cases hct:(dN z h l [(nm,sec)]).length=0
   . rw [hct] at o15;refine cS o15 ?_;refine wp_seq (aPf hz4 (fun a5 hs5 o4=>?_));obtain ⟨hz5,D⟩:=dS hs5 hz4 D;refine wp_ret ?_
     try simp only [Exit.then,Exit.inBlock]
     refine bodyPost_ret (bA (by rfl) (o4.eval (by rw [hz5];decide))) D ⟨?_,S.k⟩;unfold cF;rw [if_neg (by omega),if_pos (hone.2 hct)]
   . have hq:((((dN z h l [(nm,sec)]).length:Nat):Int) == 0)=false:=by rw [beq_eq_false_iff_ne];omega
     refine dD o15 (wp_skip ?_) (by rw [hq]);simp only [Exit.then,Exit.inBlock];refine wp_seq (aOq hz4 (fun a5 hs5 o4=>?_));obtain ⟨hz5,D⟩:=dS hs5 hz4 D;refine wp_ret ?_;refine bodyPost_ret (bA (by rfl) (o4.eval (by rw [hz5];decide))) D ⟨?_,S.k⟩;unfold cF;rw [if_neg (by omega),if_neg (fun e=>hct (hone.1 e))]
 . have hq:(eA z l != 0)=true:=by rw [bne_iff_ne];exact hc
   refine cS o8 ?_ (by rw [hq]);refine wp_seq (aTd hz2 (fun a3 hs3 o4=>?_));obtain ⟨hz3,D⟩:=dS hs3 hz2 D;refine wp_ret ?_;simp only [Exit.then,Exit.inBlock];refine bodyPost_ret (bA (by rfl) (o4.eval (by rw [hz3];decide))) D ⟨?_,S.k⟩;unfold cF;rw [if_pos hc]
theorem aA3(f:FkD)(hf:f.Ok)(hz1:-9223372036854775808<=f.z1 ∧ f.z1<=9223372036854775807)(hz2:-9223372036854775808<=f.z2 ∧ f.z2<=9223372036854775807)(A1 A2 Ap:Option Addr)(c1 c2 cp:Nat)(nm:Bs)(hnm:nm.length<=9223372036854775807)(Ak:Option Addr)(ck:Nat)(sec:Bs)(w:World)(hk:Rd w 1 (.slice Ak sec.length ck) sec.length (bv sec))(hv1:Rd w 33 (.slice A1 f.l1.length c1) f.l1.length (bB f.l1))(hv2:Rd w 33 (.slice A2 f.l2.length c2) f.l2.length (bB f.l2))(hvp:Rd w 32 (.slice Ap f.pf.length cp) f.pf.length (dA f.pf)):
 Calls prog 10 #[.agg (f.cells (.slice A1 f.l1.length c1) (.slice A2 f.l2.length c2) (.slice Ap f.pf.length cp)),.agg #[bX nm,.slice Ak sec.length ck]] w fun e w'=>e=.returned (.int .i64 (fG f nm sec)) ∧ Kp [] w w':=by
 have HRt:∀ V,Kp [] w V->Calls prog 34 #[.agg #[bX nm,.slice Ak sec.length ck]] V fun e w'=>e=.returned (.bool (cR nm sec)) ∧ Kp [] V w':=fun V kV=>aB9 nm (by omega) Ak ck sec V (aT hk kV)
 have HN1:∀ V,Kp [] w V->Calls prog 35 #[.agg (bD f.z1 f.h1 (.slice A1 f.l1.length c1))] V fun e w'=>e=.returned (.int .i64 (eA f.z1 f.l1)) ∧ Kp [] V w':=fun V kV=>mH f.z1 hz1 f.h1 hf.h1 f.l1 hf.l1 (by have:=hf.n1;omega) A1 c1 V (aT hv1 kV)
 have HN2:∀ V,Kp [] w V->Calls prog 35 #[.agg (bD f.z2 f.h2 (.slice A2 f.l2.length c2))] V fun e w'=>e=.returned (.int .i64 (eA f.z2 f.l2)) ∧ Kp [] V w':=fun V kV=>mH f.z2 hz2 f.h2 hf.h2 f.l2 hf.l2 (by have:=hf.n2;omega) A2 c2 V (aT hv2 kV)
 have HS1:cR nm sec=true->∀ V,Kp [] w V->Calls prog 36 #[.agg (bD f.z1 f.h1 (.slice A1 f.l1.length c1)),.agg #[bX nm,.slice Ak sec.length ck]] V fun e w'=>e=.returned (.int .i64 (cF f.z1 f.h1 f.l1 nm sec)) ∧ Kp [] V w':=fun hky V kV=>rD f.z1 hz1 f.h1 hf.h1 A1 c1 f.l1 hf.l1 hf.n1 nm (by have:=(mF hky).1;omega) Ak ck sec V (aT hv1 kV) (aT hk kV)
 have HS2:cR nm sec=true->∀ V,Kp [] w V->Calls prog 36 #[.agg (bD f.z2 f.h2 (.slice A2 f.l2.length c2)),.agg #[bX nm,.slice Ak sec.length ck]] V fun e w'=>e=.returned (.int .i64 (cF f.z2 f.h2 f.l2 nm sec)) ∧ Kp [] V w':=fun hky V kV=>rD f.z2 hz2 f.h2 hf.h2 A2 c2 f.l2 hf.l2 hf.n2 nm (by have:=(mF hky).1;omega) Ak ck sec V (aT hv2 kV) (aT hk kV)
 refine aR func10 rfl 61 rfl (fun a0 hsz hdf hAr=>?_);have hz0:a0.tmps.size=61:=hsz;have D:=hdf;have o0:=hAr 0 _ rfl;have o1:=hAr 1 _ rfl;refine wp_seq (aZ9 w _ (FkD.size hf) (FkD.one f _ _ _ _ _ _ _ _ _) ⟨nm.toArray⟩ Ak sec.length ck [] (Held.start w) hz0 o0 o1 (fun a1 w1 hs1 o4 h1=>?_));obtain ⟨hz1,D⟩:=dS hs1 hz0 D;obtain ⟨g2,g3,o2,o3,S⟩:=h1;refine wp_seq (aRq ⟨nm.toArray⟩ Ak sec.length ck g3 (S.at_ (l1:=[])) _ (HRt w1 S.k) hz1 o3 (fun a2 w2 hs2 o5 k2=>?_));obtain ⟨hz2,D,o2,o3⟩:=dU hs2 hz1 D o2 o3;have S:=S.kp k2
 cases hkey:cR nm sec
 . rw [hkey] at o5;refine wp_seq (wp_seq (aJr f hf _ _ _ g2 (S.at_ (l1:=[_])) hz2 o2 o5 (fun a3 w2 hs3 k2 o23=>?_)));obtain ⟨hz3,D,o2,o3,o5⟩:=dF hs3 hz2 D o2 o3 o5;have S2:=S.kp k2;refine cS o23 ?_;refine wp_seq (aAx hz3 (fun a4 hs4 o4=>?_));obtain ⟨hz4,D⟩:=dS hs4 hz3 D;refine wp_ret ?_
   try simp only [Exit.then,Exit.inBlock]
   refine bodyPost_ret (bA (by rfl) (o4.eval (by rw [hz4];decide))) D ⟨?_,S2.k⟩;unfold fG;rw [if_pos (.inl hkey)]
 . rw [hkey] at o5
   by_cases hn1:eA f.z1 f.l1=0
   . have hq1:(eA f.z1 f.l1 != 0)=false:=by rw [hn1];rfl
     refine wp_seq (wp_seq (aLu f hf _ _ _ g2 (S.at_ (l1:=[_])) _ (fun V kV=>HN1 V (S.k.trans kV (by simp))) hq1 _ (fun V kV=>HN2 V (S.k.trans kV (by simp))) hz2 o2 o5 (fun a3 w2 hs3 k2 o23=>?_)));obtain ⟨hz3,D,o2,o3,o5⟩:=dF hs3 hz2 D o2 o3 o5;have S2:=S.kp k2
     by_cases hn2:eA f.z2 f.l2=0
     . refine dD o23 (wp_skip ?_) (by rw [hn2];rfl);simp only [Exit.then];have hno1:¬ (cR nm sec=false ∨ eA f.z1 f.l1 ≠ 0 ∨ eA f.z2 f.l2 ≠ 0):=by rw [hkey];simp [hn1,hn2]
       by_cases hs1:cF f.z1 f.h1 f.l1 nm sec=0
       . have hq2:(cF f.z1 f.h1 f.l1 nm sec != 0)=false:=by rw [hs1];rfl
         refine wp_seq (wp_seq (aNq f hf _ _ _ g2 (S2.at_ (l1:=[_])) ⟨nm.toArray⟩ Ak sec.length ck g3 (S2.at_ (l1:=[])) _ (fun V kV=>HS1 hkey V (S2.k.trans kV (by simp))) hq2 _ (fun V kV=>HS2 hkey V (S2.k.trans kV (by simp))) hz3 o2 o3 (fun a4 w3 hs4 k3 o35=>?_)));obtain ⟨hz4,D,o2,o3⟩:=dU hs4 hz3 D o2 o3;have S3:=S2.kp k3
         by_cases hs2:cF f.z2 f.h2 f.l2 nm sec=0
         . refine dD o35 (wp_skip ?_) (by rw [hs2];rfl);simp only [Exit.then];have hno2:¬ (cF f.z1 f.h1 f.l1 nm sec ≠ 0 ∨ cF f.z2 f.h2 f.l2 nm sec ≠ 0):=by simp [hs1,hs2]
           refine wp_seq (aX9 w f hf _ _ _ g2 _ hz4 o2 (S3.pull 1 rfl) (fun a5 vs gs w4 hs5 o6 o7 S4=>?_));obtain ⟨hz5,D,o2⟩:=eY hs5 hz4 D o2
           cases heq:(f.r == f.h1)
           . have hne:¬ f.r=f.h1:=fun e=>by rw [e] at heq;simp at heq
             refine wp_seq (wp_seq (aIn f hf _ _ _ g2 (S4.at_ (l1:=[_,_])) ⟨_,_,_,rfl⟩ _ _ (S4.at_ (l1:=[])) (S4.at_ (l1:=[_])) heq _ (fun V kV=>zC f.z1 f.z2 (by omega) f.r f.h2 hf.r hf.h2 Ap cp f.pf hf.pf V (aT hvp (S4.k.trans kV (by simp)))) hz5 o2 o6 o7 (fun a6 w5 hs6 k5 o60=>?_)));obtain ⟨hz6,D,o2,o6,o7⟩:=dF hs6 hz5 D o2 o6 o7;have S5:=S4.kp k5
             by_cases hc:eL f.z1 f.z2 f.r f.h2 f.pf=0
             . refine dD o60 (wp_skip ?_) (by rw [hc];rfl);simp only [Exit.then];refine wp_seq (bA1 hz6 (fun a7 hs7 o4=>?_));obtain ⟨hz7,D⟩:=dS hs7 hz6 D;refine wp_ret ?_
               try simp only [Exit.then,Exit.inBlock]
               refine bodyPost_ret (bA (by rfl) (o4.eval (by rw [hz7];decide))) D ⟨?_,S5.k⟩;unfold fG;rw [if_neg hno1,if_neg hno2,if_neg (by simp [hne,hc])]
             . have hq:((((eL f.z1 f.z2 f.r f.h2 f.pf:Nat):Int)) != 0)=true:=by rw [bne_iff_ne];omega
               refine cS o60 ?_ (by rw [hq]);refine wp_seq (aI3 hz6 (fun a7 hs7 o4=>?_));obtain ⟨hz7,D⟩:=dS hs7 hz6 D;refine wp_ret ?_
               try simp only [Exit.then,Exit.inBlock]
               refine bodyPost_ret (bA (by rfl) (o4.eval (by rw [hz7];decide))) D ⟨?_,S5.k⟩;unfold fG;rw [if_neg hno1,if_neg hno2,if_pos (.inr hc)]
           . have he:f.r=f.h1:=eq_of_beq heq;refine wp_seq (wp_seq (aN7 f hf _ _ _ g2 (S4.at_ (l1:=[_,_])) ⟨_,_,_,rfl⟩ _ _ (S4.at_ (l1:=[])) (S4.at_ (l1:=[_])) heq hz5 o2 o6 o7 (fun a6 w5 hs6 k5 o60=>?_)));obtain ⟨hz6,D,o2⟩:=eY hs6 hz5 D o2;have S5:=S4.kp k5;refine cS o60 ?_;refine wp_seq (aI3 hz6 (fun a7 hs7 o4=>?_));obtain ⟨hz7,D⟩:=dS hs7 hz6 D;refine wp_ret ?_
             try simp only [Exit.then,Exit.inBlock]
             refine bodyPost_ret (bA (by rfl) (o4.eval (by rw [hz7];decide))) D ⟨?_,S5.k⟩;unfold fG;rw [if_neg hno1,if_neg hno2,if_pos (.inl he)]
         . have hq:(cF f.z2 f.h2 f.l2 nm sec != 0)=true:=by rw [bne_iff_ne];exact hs2
           refine cS o35 ?_ (by rw [hq]);refine wp_seq (aFn hz4 (fun a5 hs5 o4=>?_));obtain ⟨hz5,D⟩:=dS hs5 hz4 D;refine wp_ret ?_
           try simp only [Exit.then,Exit.inBlock]
           refine bodyPost_ret (bA (by rfl) (o4.eval (by rw [hz5];decide))) D ⟨?_,S3.k⟩;unfold fG;rw [if_neg hno1,if_pos (.inr hs2)]
       . have hq2:(cF f.z1 f.h1 f.l1 nm sec != 0)=true:=by rw [bne_iff_ne];exact hs1
         refine wp_seq (wp_seq (aMv f hf _ _ _ g2 (S2.at_ (l1:=[_])) ⟨nm.toArray⟩ Ak sec.length ck g3 (S2.at_ (l1:=[])) _ (fun V kV=>HS1 hkey V (S2.k.trans kV (by simp))) hq2 hz3 o2 o3 (fun a4 w3 hs4 k3 o35=>?_)));obtain ⟨hz4,D,o2⟩:=eY hs4 hz3 D o2;have S3:=S2.kp k3;refine cS o35 ?_;refine wp_seq (aFn hz4 (fun a5 hs5 o4=>?_));obtain ⟨hz5,D⟩:=dS hs5 hz4 D;refine wp_ret ?_
         try simp only [Exit.then,Exit.inBlock]
         refine bodyPost_ret (bA (by rfl) (o4.eval (by rw [hz5];decide))) D ⟨?_,S3.k⟩;unfold fG;rw [if_neg hno1,if_pos (.inl hs1)]
     . have hq:(eA f.z2 f.l2 != 0)=true:=by rw [bne_iff_ne];exact hn2
       refine cS o23 ?_ (by rw [hq]);refine wp_seq (aAx hz3 (fun a4 hs4 o4=>?_));obtain ⟨hz4,D⟩:=dS hs4 hz3 D;refine wp_ret ?_
       try simp only [Exit.then,Exit.inBlock]
       refine bodyPost_ret (bA (by rfl) (o4.eval (by rw [hz4];decide))) D ⟨?_,S2.k⟩;unfold fG;rw [if_pos (.inr (.inr hn2))]
   . have hq1:(eA f.z1 f.l1 != 0)=true:=by rw [bne_iff_ne];exact hn1
     refine wp_seq (wp_seq (aIj f hf _ _ _ g2 (S.at_ (l1:=[_])) _ (fun V kV=>HN1 V (S.k.trans kV (by simp))) hq1 hz2 o2 o5 (fun a3 w2 hs3 k2 o23=>?_)));obtain ⟨hz3,D⟩:=dS hs3 hz2 D;have S2:=S.kp k2;refine cS o23 ?_;refine wp_seq (aAx hz3 (fun a4 hs4 o4=>?_));obtain ⟨hz4,D⟩:=dS hs4 hz3 D;refine wp_ret ?_
     try simp only [Exit.then,Exit.inBlock]
     refine bodyPost_ret (bA (by rfl) (o4.eval (by rw [hz4];decide))) D ⟨?_,S2.k⟩;unfold fG;rw [if_pos (.inr (.inl hn1))]
end
section
variable {Q:Exit->Act->World->Prop} {a:Act} {w:World}
open Go.RowKit Go.Shelf
attribute [local go_sem] Oper.semAt_some
theorem aW7(w0:World)(cf:Array Value)(hcf:cf.size=101)(h1:∀ u,u ∈ cf.toList->u.oneCell'=true)(s:ByteArray)(A:Option Addr)(n c:Nat)(L:List Res)(S:Held w0 w L)(hsz:a.tmps.size=74)(o0:Sl a 0 (.agg cf))(o1:Sl a 1 (.agg #[.string s,.slice A n c])):bC false 0 f3 Q a w fun a' W q'=>Sl a' 4 (.bool false)->(∃ g2 g3,Sl a' 2 (Pq g2 0) ∧ Sl a' 3 (Pq g3 0) ∧ Held w0 W (aB g3 34 #[.string s,.slice A n c] :: aB g2 31 cf :: L))->q':=by
 refine bU fun hend=>?_;unfold Sl at o0 o1;have S1:=LH ((S.newBlk 31 cf).newBlkN 34 #[.string s,.slice A n c] (g:=w.heap.size+1) (by simp));have hcf:=LH hcf;have h1:=LH h1;go_wp2
 try simp only [Act.put]
 exact hend _ _ tS sP (⟨w.heap.size,w.heap.size+1,cH,cH,S1.out⟩)
theorem aKn(n1 n2 np:Nat)(A1 A2 Ap:Option Addr)(c1 c2 cp:Nat)(cf:Array Value)(g2:Nat)(hb:aM w g2 31 cf)(k1:cf[33]?=some (.slice A1 n1 c1))(k2:cf[67]?=some (.slice A2 n2 c2))(kp:cf[100]?=some (.slice Ap np cp))(s:ByteArray)(A:Option Addr)(n c:Nat)(g3:Nat)(hb3:aM w g3 34 #[.string s,.slice A n c])(hk:100 < np)(hsz:a.tmps.size=74)(o2:Sl a 2 (Pq g2 0))(o3:Sl a 3 (Pq g3 0)):bC false 1 f3 Q a w fun a' W q'=>Kp [] w W->Sl a' 29 (.bool true)->q':=by
 intro hend;have hap:=pa 1 f3;refine aH (l:=(aK 1 f3)) (fun i v W=>match i with|0=>v=Pq g2 100|1=>v=.slice Ap np cp|2=>v=Nq np|3=>v=.bool true|4=>v=.bool true|10=>v=.bool true|11=>v=.bool true|17=>v=.bool true|18=>v=.bool true|23=>v=.bool true|_=>True) hap ?_ ?_ ?_
 . exact fun _ _ _ _ h _=>h
 . and_intros <;> try (intro vs A' W hA hW hd hu K hK;try (refine aL _ rfl rfl ?_;conv=>arg 2;whnf))
   . exact aJ (eO 2 o2)
   . have c0:W.cell? ⟨g2,100,none⟩=some (.slice Ap np cp):=by rw [(hb.k0 hW).cell];exact kp
     exact aJ (vD 6 0)
   . exact aJ (vD 7 1)
   . exact aJ (vD 8 2)
   . exact aJ (vD 9 3)
   . exact sk
   . exact sk
   . exact sk
   . exact sk
   . exact sk
   . exact cM (vD 10 4) (eU 15 9)
   . exact aJ (vD 16 10)
   . exact sk
   . exact sk
   . exact sk
   . exact sk
   . exact sk
   . exact cM (vD 17 11) (eU 22 16)
   . exact aJ (vD 23 17)
   . exact sk
   . exact sk
   . exact sk
   . exact sk
   . exact cM (vD 24 18) (eU 28 22)
   . trivial
 . intro vs W hW hp;rw [aF];exact hend _ W sQ hW (sW (hp 23 sB))
theorem aN9(n1 n2 np:Nat)(A1 A2 Ap:Option Addr)(c1 c2 cp:Nat)(cf:Array Value)(g2:Nat)(hb:aM w g2 31 cf)(k1:cf[33]?=some (.slice A1 n1 c1))(k2:cf[67]?=some (.slice A2 n2 c2))(kp:cf[100]?=some (.slice Ap np cp))(s:ByteArray)(A:Option Addr)(n c:Nat)(g3:Nat)(hb3:aM w g3 34 #[.string s,.slice A n c])(hk:np<=100 ∧ 70 < n1)(hsz:a.tmps.size=74)(o2:Sl a 2 (Pq g2 0))(o3:Sl a 3 (Pq g3 0)):bC false 1 f3 Q a w fun a' W q'=>Kp [] w W->Sl a' 29 (.bool true)->q':=by
 intro hend;have hap:=pa 1 f3;refine aH (l:=(aK 1 f3)) (fun i v W=>match i with|0=>v=Pq g2 100|1=>v=.slice Ap np cp|2=>v=Nq np|3=>v=.bool false|4=>v=.bool false|5=>v=Pq g2 0|6=>v=Pq g2 33|7=>v=.slice A1 n1 c1|8=>v=Nq n1|9=>v=.bool true|10=>v=.bool true|11=>v=.bool true|17=>v=.bool true|18=>v=.bool true|23=>v=.bool true|_=>True) hap ?_ ?_ ?_
 . exact fun _ _ _ _ h _=>h
 . and_intros <;> try (intro vs A' W hA hW hd hu K hK;try (refine aL _ rfl rfl ?_;conv=>arg 2;whnf))
   . exact aJ (eO 2 o2)
   . have c0:W.cell? ⟨g2,100,none⟩=some (.slice Ap np cp):=by rw [(hb.k0 hW).cell];exact kp
     exact aJ (vD 6 0)
   . exact aJ (vD 7 1)
   . exact aJ (vD 8 2)
   . exact aJ (vD 9 3)
   . exact cC (eO 2 o2)
   . exact cC (vD 11 5)
   . refine qH ?_;(conv=>arg 2;whnf);have c0:W.cell? ⟨g2,33,none⟩=some (.slice A1 n1 c1):=by rw [(hb.k0 hW).cell];exact k1
     exact aJ (vD 12 6)
   . exact cC (vD 13 7)
   . exact cC (vD 14 8)
   . exact cM (vD 10 4) (vD 15 9)
   . exact aJ (vD 16 10)
   . exact sk
   . exact sk
   . exact sk
   . exact sk
   . exact sk
   . exact cM (vD 17 11) (eU 22 16)
   . exact aJ (vD 23 17)
   . exact sk
   . exact sk
   . exact sk
   . exact sk
   . exact cM (vD 24 18) (eU 28 22)
   . trivial
 . intro vs W hW hp;rw [aF];exact hend _ W sQ hW (sW (hp 23 sB))
theorem aLx(n1 n2 np:Nat)(A1 A2 Ap:Option Addr)(c1 c2 cp:Nat)(cf:Array Value)(g2:Nat)(hb:aM w g2 31 cf)(k1:cf[33]?=some (.slice A1 n1 c1))(k2:cf[67]?=some (.slice A2 n2 c2))(kp:cf[100]?=some (.slice Ap np cp))(s:ByteArray)(A:Option Addr)(n c:Nat)(g3:Nat)(hb3:aM w g3 34 #[.string s,.slice A n c])(hk:np<=100 ∧ n1<=70 ∧ 70 < n2)(hsz:a.tmps.size=74)(o2:Sl a 2 (Pq g2 0))(o3:Sl a 3 (Pq g3 0)):bC false 1 f3 Q a w fun a' W q'=>Kp [] w W->Sl a' 29 (.bool true)->q':=by
 intro hend;have hap:=pa 1 f3;refine aH (l:=(aK 1 f3)) (fun i v W=>match i with|0=>v=Pq g2 100|1=>v=.slice Ap np cp|2=>v=Nq np|3=>v=.bool false|4=>v=.bool false|5=>v=Pq g2 0|6=>v=Pq g2 33|7=>v=.slice A1 n1 c1|8=>v=Nq n1|9=>v=.bool false|10=>v=.bool false|11=>v=.bool false|12=>v=Pq g2 34|13=>v=Pq g2 67|14=>v=.slice A2 n2 c2|15=>v=Nq n2|16=>v=.bool true|17=>v=.bool true|18=>v=.bool true|23=>v=.bool true|_=>True) hap ?_ ?_ ?_
 . exact fun _ _ _ _ h _=>h
 . and_intros <;> try (intro vs A' W hA hW hd hu K hK;try (refine aL _ rfl rfl ?_;conv=>arg 2;whnf))
   . exact aJ (eO 2 o2)
   . have c0:W.cell? ⟨g2,100,none⟩=some (.slice Ap np cp):=by rw [(hb.k0 hW).cell];exact kp
     exact aJ (vD 6 0)
   . exact aJ (vD 7 1)
   . exact aJ (vD 8 2)
   . exact aJ (vD 9 3)
   . exact cC (eO 2 o2)
   . exact cC (vD 11 5)
   . refine qH ?_;(conv=>arg 2;whnf);have c0:W.cell? ⟨g2,33,none⟩=some (.slice A1 n1 c1):=by rw [(hb.k0 hW).cell];exact k1
     exact aJ (vD 12 6)
   . exact cC (vD 13 7)
   . exact cC (vD 14 8)
   . exact cM (vD 10 4) (vD 15 9)
   . exact aJ (vD 16 10)
   . exact cC (eO 2 o2)
   . exact cC (vD 18 12)
   . refine qH ?_;(conv=>arg 2;whnf);have c0:W.cell? ⟨g2,67,none⟩=some (.slice A2 n2 c2):=by rw [(hb.k0 hW).cell];exact k2
     exact aJ (vD 19 13)
   . exact cC (vD 20 14)
   . exact cC (vD 21 15)
   . exact cM (vD 17 11) (vD 22 16)
   . exact aJ (vD 23 17)
   . exact sk
   . exact sk
   . exact sk
   . exact sk
   . exact cM (vD 24 18) (eU 28 22)
   . trivial
 . intro vs W hW hp;rw [aF];exact hend _ W sQ hW (sW (hp 23 sB))
theorem aO0(n1 n2 np:Nat)(A1 A2 Ap:Option Addr)(c1 c2 cp:Nat)(cf:Array Value)(g2:Nat)(hb:aM w g2 31 cf)(k1:cf[33]?=some (.slice A1 n1 c1))(k2:cf[67]?=some (.slice A2 n2 c2))(kp:cf[100]?=some (.slice Ap np cp))(s:ByteArray)(A:Option Addr)(n c:Nat)(g3:Nat)(hb3:aM w g3 34 #[.string s,.slice A n c])(hk:np<=100 ∧ n1<=70 ∧ n2<=70)(hsz:a.tmps.size=74)(o2:Sl a 2 (Pq g2 0))(o3:Sl a 3 (Pq g3 0)):bC false 1 f3 Q a w fun a' W q'=>Kp [] w W->Sl a' 29 (.bool (decide (300 < n)))->q':=by
 intro hend;have hap:=pa 1 f3;refine aH (l:=(aK 1 f3)) (fun i v W=>match i with|0=>v=Pq g2 100|1=>v=.slice Ap np cp|2=>v=Nq np|3=>v=.bool false|4=>v=.bool false|5=>v=Pq g2 0|6=>v=Pq g2 33|7=>v=.slice A1 n1 c1|8=>v=Nq n1|9=>v=.bool false|10=>v=.bool false|11=>v=.bool false|12=>v=Pq g2 34|13=>v=Pq g2 67|14=>v=.slice A2 n2 c2|15=>v=Nq n2|16=>v=.bool false|17=>v=.bool false|18=>v=.bool false|19=>v=Pq g3 1|20=>v=.slice A n c|21=>v=Nq n|22=>v=.bool (decide (300 < n))|23=>v=.bool (decide (300 < n))|_=>True) hap ?_ ?_ ?_
 . exact fun _ _ _ _ h _=>h
 . and_intros <;> try (intro vs A' W hA hW hd hu K hK;try (refine aL _ rfl rfl ?_;conv=>arg 2;whnf))
   . exact aJ (eO 2 o2)
   . have c0:W.cell? ⟨g2,100,none⟩=some (.slice Ap np cp):=by rw [(hb.k0 hW).cell];exact kp
     exact aJ (vD 6 0)
   . exact aJ (vD 7 1)
   . exact aJ (vD 8 2)
   . exact aJ (vD 9 3)
   . exact cC (eO 2 o2)
   . exact cC (vD 11 5)
   . refine qH ?_;(conv=>arg 2;whnf);have c0:W.cell? ⟨g2,33,none⟩=some (.slice A1 n1 c1):=by rw [(hb.k0 hW).cell];exact k1
     exact aJ (vD 12 6)
   . exact cC (vD 13 7)
   . exact cC (vD 14 8)
   . exact cM (vD 10 4) (vD 15 9)
   . exact aJ (vD 16 10)
   . exact cC (eO 2 o2)
   . exact cC (vD 18 12)
   . refine qH ?_;(conv=>arg 2;whnf);have c0:W.cell? ⟨g2,67,none⟩=some (.slice A2 n2 c2):=by rw [(hb.k0 hW).cell];exact k2
     exact aJ (vD 19 13)
   . exact cC (vD 20 14)
   . exact cC (vD 21 15)
   . exact cM (vD 17 11) (vD 22 16)
   . exact aJ (vD 23 17)
   . exact cC (eO 3 o3)
   . refine qH ?_;(conv=>arg 2;whnf);obtain ⟨q1,q2,q3,q4⟩:=aM.c2 (hb3.k0 hW);exact aJ (vD 25 19)
   . exact cC (vD 26 20)
   . refine qH ?_;(conv=>arg 2;whnf);have e27:=vD 27 21;clear hA hd hu o2 o3;go_step;exact hK _ _ kR (by first|rfl|(refine congrArg Value.bool ?_;exact decide_eq_decide.2 (by omega)))
   . exact cM (vD 24 18) (vD 28 22)
   . trivial
 . intro vs W hW hp;rw [aF];exact hend _ W sQ hW (sW (hp 23 sB))
theorem xN(HC:Calls prog 7 #[] w fun e w'=>e=.returned (.bool true) ∧ Kp [] w w')(hsz:a.tmps.size=74):bC false 2 f3 Q a w fun a' W q'=>Sl a' 4 (.bool true)->(Kp [] w W)->q':=by
 refine bU fun hend=>?_;have HC:=LH HC;go_wp2_with fail
 refine HC.out.mono ?_;rintro e w1 ⟨rfl,k1⟩;have k1:=LH k1;go_wp2_with fail
 try simp only [Act.put]
 exact hend _ _ tS sP (k1.out)
theorem aV3(w0:World)(g2:Nat)(f:FkD)(hf:f.Ok)(A1 A2 Ap:Option Addr)(c1 c2 cp:Nat)(L:List Res)(HV1:∀ V,Kp [] w0 V->Rd V 33 (.slice A1 f.l1.length c1) f.l1.length (bB f.l1))(HV2:∀ V,Kp [] w0 V->Rd V 33 (.slice A2 f.l2.length c2) f.l2.length (bB f.l2))(HVp:∀ V,Kp [] w0 V->Rd V 32 (.slice Ap f.pf.length cp) f.pf.length (dA f.pf))(hsz:a.tmps.size=74)(o2:Sl a 2 (Pq g2 0))
 (S0:Held w0 w (aB g2 31 (f.cells (.slice A1 f.l1.length c1) (.slice A2 f.l2.length c2) (.slice Ap f.pf.length cp)) :: L))
 (hend:∀ (a':Act) (vs:Nat->Value) (gs:Nat->Nat × Nat) (W:World),Same a a' [31,32,33,34,35,36,37,38,39,40,41,42,5]->Sl a' 5 (Pq (gs 12).1 0)->Held w0 W (aG 89 33 (.slice (some ⟨(gs 2).1,0,none⟩) (f.l1.length+1) (gs 2).2) (f.l1.length+1) (bB (f.l1 ++ [dX])) :: aG 89 33 (.slice (some ⟨(gs 5).1,0,none⟩) (f.l2.length+1) (gs 5).2) (f.l2.length+1) (bB (f.l2 ++ [dX])) :: aG 23 32 (vs 10) f.pf.length (dA f.pf) :: aB (gs 12).1 31 (f.cells (.slice (some ⟨(gs 2).1,0,none⟩) f.l1.length (gs 2).2) (.slice (some ⟨(gs 5).1,0,none⟩) f.l2.length (gs 5).2) (vs 10)) :: aB g2 31 (f.cells (.slice A1 f.l1.length c1) (.slice A2 f.l2.length c2) (.slice Ap f.pf.length cp)) :: L)->Q .normal a' W):(Code.region 3 (aK 3 f3).toArray true).wp prog Q a w:=by
 have hap:=pa 3 f3
 refine aP (Γ:=Nat × Nat) (l:=(aK 3 f3)) 2 [0,1,2,3,4,5,6,7,8,9,10,11,13,14,15]
  (fun i vs gs=>match i with|0=>vs 0=Pq g2 0|1=>vs 1=.agg (bD f.z1 f.h1 (.slice A1 f.l1.length c1))|2=>vs 2=.agg (bD f.z1 f.h1 (.slice (some ⟨(gs 2).1,0,none⟩) f.l1.length (gs 2).2))|3=>vs 3=Pq g2 34|4=>vs 4=.agg (bD f.z2 f.h2 (.slice A2 f.l2.length c2))|5=>vs 5=.agg (bD f.z2 f.h2 (.slice (some ⟨(gs 5).1,0,none⟩) f.l2.length (gs 5).2))|6=>vs 6=Pq g2 68|7=>vs 7=.agg (aA f.r)|8=>vs 8=Pq g2 100|9=>vs 9=.slice Ap f.pf.length cp|11=>vs 11=.agg (f.cells (.slice (some ⟨(gs 2).1,0,none⟩) f.l1.length (gs 2).2) (.slice (some ⟨(gs 5).1,0,none⟩) f.l2.length (gs 5).2) (vs 10))|12=>vs 12=Pq (gs 12).1 0|_=>True)
  (fun i vs gs=>match i with|2=>[aG 89 33 (.slice (some ⟨(gs 2).1,0,none⟩) (f.l1.length+1) (gs 2).2) (f.l1.length+1) (bB (f.l1 ++ [dX]))]|5=>[aG 89 33 (.slice (some ⟨(gs 5).1,0,none⟩) (f.l2.length+1) (gs 5).2) (f.l2.length+1) (bB (f.l2 ++ [dX]))]|10=>[aG 23 32 (vs 10) f.pf.length (dA f.pf)]|12=>[aB (gs 12).1 31 eJ.toArray]|13=>[aB (gs 12).1 31 (f.cells (.slice (some ⟨(gs 2).1,0,none⟩) f.l1.length (gs 2).2) (.slice (some ⟨(gs 5).1,0,none⟩) f.l2.length (gs 5).2) (vs 10))]|14=>[aB g2 31 (f.cells (.slice A1 f.l1.length c1) (.slice A2 f.l2.length c2) (.slice Ap f.pf.length cp))]|15=>L|_=>[])
  (fun i=>match i with|13=>[12]|_=>[]) (fun i=>match i with|1=>[14]|4=>[14]|7=>[14]|9=>[14]|11=>[10]|13=>[10]|_=>[]) S0 (by kernel_rfl) hap (by kernel_rfl) (by kernel_rfl) (fun i=>match i with|0=>[0]|1=>[1]|2=>[2]|3=>[3]|4=>[4]|5=>[5]|6=>[6]|7=>[7]|8=>[8]|9=>[9]|10=>[10]|11=>[2,5,10,11]|12=>[12]|13=>[2,5,10,12]|_=>[]) (by kernel_rfl) ?_ (by kernel_rfl) ?_ ?_ ?_
 . exact lA
 . exact pA
 . clear S0 hend
   and_intros <;> try intro vs gs A' W LF hA S hR hd hu K hK
   . exact aJ (eO 2 o2)
   . exact dC (bD f.z1 f.h1 (.slice A1 f.l1.length c1)) (vD 31 0) (aM.sub (show aM W g2 31 (f.cells (.slice A1 f.l1.length c1) (.slice A2 f.l2.length c2) (.slice Ap f.pf.length cp)) from S.ok (aB g2 31 (f.cells (.slice A1 f.l1.length c1) (.slice A2 f.l2.length c2) (.slice Ap f.pf.length cp))) (hR 14 (by simp) _ (List.mem_singleton.2 rfl))) (fun _ _=>FkD.n1 hf)) underlying28 (by rw [aN hf.h1];exact bBz)
   . have e32:=vD 32 1;clear hA o2;go_step;refine (wG f.z1 f.h1 hf.h1 A1 c1 f.l1 hf.l1 (by have:=hf.n1;omega) W (HV1 W S.k)).mono ?_;rintro e w' ⟨gr,cr,rfl,hcr,H⟩;exact hK (gr,cr) _ w' ((S.join H).perm List.perm_append_comm) rfl
   . exact aJ (eO 2 o2)
   . exact dC (bD f.z2 f.h2 (.slice A2 f.l2.length c2)) (vD 34 3) (aM.sub (show aM W g2 31 (f.cells (.slice A1 f.l1.length c1) (.slice A2 f.l2.length c2) (.slice Ap f.pf.length cp)) from S.ok (aB g2 31 (f.cells (.slice A1 f.l1.length c1) (.slice A2 f.l2.length c2) (.slice Ap f.pf.length cp))) (hR 14 (by simp) _ (List.mem_singleton.2 rfl))) (fun _ _=>FkD.n2 hf)) underlying28 (by rw [aN hf.h2];exact bBz)
   . have e35:=vD 35 4;clear hA o2;go_step;refine (wG f.z2 f.h2 hf.h2 A2 c2 f.l2 hf.l2 (by have:=hf.n2;omega) W (HV2 W S.k)).mono ?_;rintro e w' ⟨gr,cr,rfl,hcr,H⟩;exact hK (gr,cr) _ w' ((S.join H).perm List.perm_append_comm) rfl
   . exact aJ (eO 2 o2)
   . exact dC (aA f.r) (vD 37 6) (aM.sub (show aM W g2 31 (f.cells (.slice A1 f.l1.length c1) (.slice A2 f.l2.length c2) (.slice Ap f.pf.length cp)) from S.ok (aB g2 31 (f.cells (.slice A1 f.l1.length c1) (.slice A2 f.l2.length c2) (.slice Ap f.pf.length cp))) (hR 14 (by simp) _ (List.mem_singleton.2 rfl))) (fun _ _=>FkD.rt hf)) underlying23 (by rw [aC,hf.r];exact bBy)
   . exact aJ (eO 2 o2)
   . have c0:W.cell? ⟨g2,100,none⟩=some (.slice Ap f.pf.length cp):=by rw [(show aM W g2 31 (f.cells (.slice A1 f.l1.length c1) (.slice A2 f.l2.length c2) (.slice Ap f.pf.length cp)) from S.ok (aB g2 31 (f.cells (.slice A1 f.l1.length c1) (.slice A2 f.l2.length c2) (.slice Ap f.pf.length cp))) (hR 14 (by simp) _ (List.mem_singleton.2 rfl))).cell];exact FkD.pr hf
     exact aJ (vD 39 8)
   . have e40:=vD 40 9;clear hA o2;exact nV (.const (.slice none 0 0)) (.tmp 40) 29 23 rfl bC8 underlying29 rfl (by decide) rfl S (.slice Ap f.pf.length cp) f.pf.length (dA f.pf) (by simpa [Act.eval] using e40) (HVp W S.k) wH (by have:=hf.np;unfold maxLen;omega) (by have:=hf.np;omega) (fun v' w' S'=>hK default v' w' S' trivial)
   . have e33:=vD 33 2;have e36:=vD 36 5;have e38:=vD 38 7;have e41:=eU 41 10;clear hA o2;obtain ⟨Av,cv,pv,-,-⟩:=aS (show Ow W 23 32 (vs 10) f.pf.length (dA f.pf) from S.ok (aG 23 32 (vs 10) f.pf.length (dA f.pf)) (hR 10 (by simp) _ (List.mem_singleton.2 rfl)));rw [pv] at e41;refine gG 31 _ rfl [(0,.agg (bD f.z1 f.h1 (.slice (some ⟨(gs 2).1,0,none⟩) f.l1.length (gs 2).2))),(1,.agg (bD f.z2 f.h2 (.slice (some ⟨(gs 5).1,0,none⟩) f.l2.length (gs 5).2))),(2,.agg (aA f.r)),(3,.slice Av f.pf.length cv)] (by simp [Act.eval,e33,e36,e38,e41]) _ (bCi _ _ _ (aN hf.h1) (aN hf.h2) (by rw [aC,hf.r]) Av f.pf.length cv) ?_;exact hK default _ _ S (show Value.agg (f.cells (.slice (some ⟨(gs 2).1,0,none⟩) f.l1.length (gs 2).2) (.slice (some ⟨(gs 5).1,0,none⟩) f.l2.length (gs 5).2) (.slice Av f.pf.length cv))=.agg (f.cells (.slice (some ⟨(gs 2).1,0,none⟩) f.l1.length (gs 2).2) (.slice (some ⟨(gs 5).1,0,none⟩) f.l2.length (gs 5).2) (vs 10)) by rw [pv])
   . clear hA o2;go_step;exact hK (W.heap.size,0) _ _ (S.newBlk 31 eJ.toArray) rfl
   . have e5:=vD 5 12;have e42:=vD 42 11;clear hA o2;obtain ⟨Av,cv,pv,-,-⟩:=aS (show Ow W 23 32 (vs 10) f.pf.length (dA f.pf) from S.ok (aG 23 32 (vs 10) f.pf.length (dA f.pf)) (List.mem_cons_of_mem _ (hR 10 (by simp) _ (List.mem_singleton.2 rfl))));have S1:Held w0 W (aB (gs 12).1 31 eJ.toArray :: LF):=S;refine aZ (.tmp 5) (.tmp 42) 31 rfl (gs 12).1 (by simpa [Act.eval] using e5) (f.cells (.slice (some ⟨(gs 2).1,0,none⟩) f.l1.length (gs 2).2) (.slice (some ⟨(gs 5).1,0,none⟩) f.l2.length (gs 5).2) (vs 10)) (by simpa [Act.eval] using e42) 31 eJ.toArray S1 (by rw [FkD.size hf];exact bC3) (by rw [FkD.size hf];rfl) (by rw [pv];exact FkD.one f _ _ _ _ _ _ _ _ _) ?_;intro w' S2;exact hK default _ _ S2 trivial
   . trivial
 . intro vs gs W S hp;have S:Held w0 W (aG 89 33 (.slice (some ⟨(gs 2).1,0,none⟩) (f.l1.length+1) (gs 2).2) (f.l1.length+1) (bB (f.l1 ++ [dX])) :: aG 89 33 (.slice (some ⟨(gs 5).1,0,none⟩) (f.l2.length+1) (gs 5).2) (f.l2.length+1) (bB (f.l2 ++ [dX])) :: aG 23 32 (vs 10) f.pf.length (dA f.pf) :: aB (gs 12).1 31 (f.cells (.slice (some ⟨(gs 2).1,0,none⟩) f.l1.length (gs 2).2) (.slice (some ⟨(gs 5).1,0,none⟩) f.l2.length (gs 5).2) (vs 10)) :: aB g2 31 (f.cells (.slice A1 f.l1.length c1) (.slice A2 f.l2.length c2) (.slice Ap f.pf.length cp)) :: L):=by simpa only [List.flatMap_cons,List.flatMap_nil,List.append_nil,List.nil_append,List.cons_append,List.append_assoc] using S
   rw [aF];exact hend _ vs gs W sQ (sW (hp 12 sB)) S
end
end Go.Proofs.YtmkfopmdingaoaaGreatDoor
