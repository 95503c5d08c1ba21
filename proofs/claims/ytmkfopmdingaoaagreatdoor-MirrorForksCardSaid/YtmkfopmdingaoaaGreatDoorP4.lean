/- Several texts in one: ShaH, RshB, RshC, SigE, SigF, SigG, SigH, SigI, SigJ, SigN, SigO, SigP, SigQ, SigR, SigS, SigT, SigU, SigV, SigW, SigX, SigY. -/
import Derived.BigQuiet
import Derived.Lib.AppendZeros
import Derived.Lib.Overlaps
import Derived.Laws.Externs
import Derived.Lib.ConvBytes
import Derived.Great.BuildSlice
import Derived.Maps.OwnOps
import Derived.Maps.OwnSet
import Derived.Maps.Views
import Derived.StringKeys
import Derived.Test.YtmkfopmdingaoaaGreatDoorP3
set_option linter.unusedVariables false
set_option linter.unusedSimpArgs false
set_option maxRecDepth 100000
set_option maxHeartbeats 8000000
open Go.Proofs.Tryz
namespace Go.Proofs.YtmkfopmdingaoaaGreatDoor
section
open Go.RowKit
def bAo:List Nat:=[7,26,27,28,29,30,31,32,33,34,35,36,37,38,39,40,41,42,43,44]
def bAl:List Nat:=[6,7,22,23,24,25,26,27,28,29,30,31,32,33,34,35,36,37,38,39,40,41,42,43,44]
def bB8:List Nat:=[8,9,10,45,46,47,48,49,50,51,52,53,54,55,56,57,58,59,60,61,62,63,64,65,66,67,68,69,70,71,72,73,74,75,76,77,78,79,80,81,82,83,84,85,86,87,88,89,90,91,92,93,94,95,96,97]
def bB6:List Nat:=[11,12,13,14,15,16,17,18,19,20,21,114,115,116,117,118,119,120,121,122,123,124,125,126,127,128,129,130,131,132,133,134,135,136,137,138,139,140,141,142,143,144,145,146,147,148,149,150,151,152,153,154,155,156,157,158,159,160,161,162,163,164,165,166,167,168,169,170,171,172,173,174,175]
theorem aLe{Q:Exit->Act->World->Prop}{a:Act}{w0 w:World}(b:Bs)(n0 cb:Nat)(ad:Addr)(hn0:64<=n0)(hbl:64<=b.length)(HB:∀ V,Kp [] w0 V->∀ j,j < 64->V.cell? (ad.add j)=some (.int .u8 ((b.getD j 0).toNat:Int)))(k g5:Nat)(hlt:k < 16)(l:List Nat)(hl:l.length=k)(R:List Res)(hsz:a.tmps.size=209)
 (o1:Sl a 1 (.slice (some ad) n0 cb)) (o5:Sl a 5 (Pq g5 0)) (o6:Sl a 6 (.int .i64 (k:Int))) (o7:Sl a 7 (Nq 0))
 (S:Held w0 w (aB g5 226 (aW (pz l)) :: R))
 (hend:∀ a' W,Same a a' bAo->Held w0 W (aB g5 226 (aW (pz (l ++ [lM ((b.drop (4 * k)).take 4)]))) :: R)->Q .normal a' W):
 (Code.block 2 (dR 2 f155)).wp prog Q a w:=by
 have hpl:(pz l).length=64:=mY (by omega)
 have h00:(pz l).set k (lM ((b.drop (4 * k)).take 0))=pz l:=by
  refine List.ext_getElem? fun j=>?_
  by_cases hj:j=k
  . subst hj;rw [List.getElem?_set_self (by omega)];unfold pz;rw [List.getElem?_append_right (by omega),hl,Nat.sub_self,List.getElem?_replicate,if_pos (by omega)];simp [lM]
  . rw [List.getElem?_set_ne (fun h=>hj h.symm)]
 refine wp_block ?_
 (conv=>arg 2;whnf)
 refine wp_loop (fun a' w'=>∃ r:Nat,r<=4 ∧ Same a a' bAo ∧ Sl a' 7 (.int .i64 (r:Int)) ∧ Held w0 w' (aB g5 226 (aW ((pz l).set k (lM ((b.drop (4 * k)).take r)))) :: R)) (fun a' _=>4 - (intOf (a'.eval (.tmp 7))).toNat) ⟨0,by omega,Same.refl _ _,o7,by rw [h00];exact S⟩ ?_;clear o7 S;rintro a1 w1 ⟨r,hr,T,o7,S⟩;have o1:=T.keep 1 _ (by decide) o1;have o5:=T.keep 5 _ (by decide) o5;have o6:=T.keep 6 _ (by decide) o6;have hz1:=T.size.trans hsz;have eCtr:=o7.eval (by rw [hz1];decide);refine wp_seq (wp_seq (aK4 r hz1 o7 (fun a2 hs2 o27=>?_)));obtain ⟨hz2,-,o1,o5,o6,o7⟩:=fH hs2 hz1 rfl o1 o5 o6 o7;have T:=T.trans hs2
 by_cases hlt4:r < 4
 . refine cS o27 (wp_skip ?_) (by rw [decide_eq_true (by omega)]);refine wp_seq (wp_block ?_);have hq:4 * k+r < b.length:=by omega
   have hc:=(b.getD (4 * k+r) 0).toNat_lt
   have hnum:lM ((b.drop (4 * k)).take (r+1))=256 * lM ((b.drop (4 * k)).take r)+(b.getD (4 * k+r) 0).toNat:=by
    have e:(b.drop (4 * k))[r]?=some (b.getD (4 * k+r) 0):=by
     rw [List.getElem?_drop,List.getD_eq_getElem?_getD,List.getElem?_eq_getElem hq];rfl
    rw [List.take_add_one,e];exact oI _ _
   have hlt2:lM ((b.drop (4 * k)).take r) < 16777216:=by
    have:=aCm ((b.drop (4 * k)).take 3)
    have h3:∀ j,j<=3->lM ((b.drop (4 * k)).take j) < 256 ^ j:=by
     intro j
     induction j with
     |zero=>intro _;simp [lM]
     |succ j ih=>
      intro hj;have hjl:j < (b.drop (4 * k)).length:=by rw [List.length_drop];omega
      have:=ih (by omega)
      have hb:=((b.drop (4 * k))[j]).toNat_lt;rw [List.take_add_one,List.getElem?_eq_getElem hjl,show (some (b.drop (4 * k))[j]).toList=[(b.drop (4 * k))[j]] from rfl,oI,Nat.pow_succ];omega
    have:=h3 r (by omega)
    have h4:256 ^ r<=256 ^ 3:=Nat.pow_le_pow_right (by decide) (by omega);omega
   refine aMi w0 k r (4 * k+r) g5 _ _ n0 cb ad _ R hlt hlt4 (LH rfl) (by omega) (List.getElem?_set_self (by omega)) hc (LH (fun V kk=>HB V kk _ (by omega))) hz2 o1 o5 o6 o7 S (fun a3 w2 hs3 S=>?_);obtain ⟨hz3,-,o1,o5,o6,o7,o27⟩:=jJ hs3 hz2 rfl o1 o5 o6 o7 o27;have T:=T.trans hs3;rw [List.set_set,show (lM ((b.drop (4 * k)).take r) * 256+(b.getD (4 * k+r) 0).toNat) % 4294967296=lM ((b.drop (4 * k)).take (r+1)) from by rw [hnum];omega] at S;refine aIp r hlt4 hz3 o7 (fun a4 hs4 o7=>?_);obtain ⟨hz4,-,o1,o5,o6,o27⟩:=fH hs4 hz3 rfl o1 o5 o6 o27;have T:=T.trans hs4;refine ⟨⟨r+1,by omega,T.more (by decide +kernel),o7,S⟩,?_⟩
   show 4 - (intOf (a4.eval (.tmp 7))).toNat < 4 - (intOf (a1.eval (.tmp 7))).toNat
   rw [eCtr,o7.eval (by rw [hz4];decide)];simp [intOf];omega
 . obtain rfl:r=4:=by omega
   refine dD o27 (wp_exit ?_) (by rw [decide_eq_false (by omega)]);have e:(pz l).set k (lM ((b.drop (4 * k)).take 4))=pz (l ++ [lM ((b.drop (4 * k)).take 4)]):=by rw [<- sG (by omega),hl]
   rw [e] at S;exact hend _ _ (T.more (by decide +kernel)) S
theorem aJy{Q:Exit->Act->World->Prop}{a:Act}{w0 w:World}(b:Bs)(n0 cb:Nat)(ad:Addr)(hn0:64<=n0)(hbl:64<=b.length)(HB:∀ V,Kp [] w0 V->∀ j,j < 64->V.cell? (ad.add j)=some (.int .u8 ((b.getD j 0).toNat:Int)))(g5:Nat)(R:List Res)(hsz:a.tmps.size=209)
 (o1:Sl a 1 (.slice (some ad) n0 cb)) (o5:Sl a 5 (Pq g5 0)) (o6:Sl a 6 (Nq 0))
 (S:Held w0 w (aB g5 226 (aW (List.replicate 64 0)) :: R))
 (hend:∀ a' W,Same a a' bAl->Held w0 W (aB g5 226 (aW (pz (lL b 16))) :: R)->Q .normal a' W):
 (Code.block 0 (dR 0 f155)).wp prog Q a w:=by
 refine wp_block ?_
 (conv=>arg 2;whnf)
 refine wp_loop (fun a' w'=>∃ k:Nat,k<=16 ∧ Same a a' bAl ∧ Sl a' 6 (.int .i64 (k:Int)) ∧ Held w0 w' (aB g5 226 (aW (pz (lL b k))) :: R)) (fun a' _=>16 - (intOf (a'.eval (.tmp 6))).toNat) ⟨0,by omega,Same.refl _ _,o6,S⟩ ?_;clear o6 S;rintro a1 w1 ⟨k,hk,T,o6,S⟩;have o1:=T.keep 1 _ (by decide) o1;have o5:=T.keep 5 _ (by decide) o5;have hz1:=T.size.trans hsz;have eCtr:=o6.eval (by rw [hz1];decide);refine wp_seq (wp_seq (aO2 k hz1 o6 (fun a2 hs2 o23=>?_)));obtain ⟨hz2,-,o1,o5,o6⟩:=dF hs2 hz1 rfl o1 o5 o6;have T:=T.trans hs2
 by_cases hlt:k < 16
 . refine cS o23 (wp_skip ?_) (by rw [decide_eq_true (by omega)]);refine wp_seq (wp_block ?_);refine wp_seq (aJc hz2 (fun a3 hs3 o7=>?_));obtain ⟨hz3,-,o1,o5,o6,o23⟩:=fH hs3 hz2 rfl o1 o5 o6 o23;have T:=T.trans hs3;refine aLe b n0 cb ad hn0 hbl HB k g5 hlt _ (eP b k) R hz3 o1 o5 o6 o7 S (fun a4 w2 hs4 S=>?_);obtain ⟨hz4,-,o1,o5,o6,o23⟩:=fH hs4 hz3 rfl o1 o5 o6 o23;have T:=T.trans hs4;rw [<- uM b hlt] at S;refine aId k hlt hz4 o6 (fun a5 hs5 o6=>?_);obtain ⟨hz5,-,o1,o5,o23⟩:=dF hs5 hz4 rfl o1 o5 o23;have T:=T.trans hs5;refine ⟨⟨k+1,by omega,T.more (by decide +kernel),o6,S⟩,?_⟩
   show 16 - (intOf (a5.eval (.tmp 6))).toNat < 16 - (intOf (a1.eval (.tmp 6))).toNat
   rw [eCtr,o6.eval (by rw [hz5];decide)];simp [intOf];omega
 . obtain rfl:k=16:=by omega
   refine dD o23 (wp_exit ?_) (by rw [decide_eq_false (by omega)]);exact hend _ _ (T.more (by decide +kernel)) S
theorem aN0{Q:Exit->Act->World->Prop}{a:Act}{w0 w:World}(b:Bs)(g5:Nat)(R:List Res)(hsz:a.tmps.size=209)
 (o5:Sl a 5 (Pq g5 0)) (o8:Sl a 8 (Nq 16))
 (S:Held w0 w (aB g5 226 (aW (pz (lL b 16))) :: R))
 (hend:∀ a' W,Same a a' bB8->Held w0 W (aB g5 226 (aW (lL b 64)) :: R)->Q .normal a' W):
 (Code.block 4 (dR 4 f155)).wp prog Q a w:=by
 refine wp_block ?_
 (conv=>arg 2;whnf)
 refine wp_loop (fun a' w'=>∃ k:Nat,16<=k ∧ k<=64 ∧ Same a a' bB8 ∧ Sl a' 8 (.int .i64 (k:Int)) ∧ Held w0 w' (aB g5 226 (aW (pz (lL b k))) :: R)) (fun a' _=>64 - (intOf (a'.eval (.tmp 8))).toNat) ⟨16,by omega,by omega,Same.refl _ _,o8,S⟩ ?_;clear o8 S;rintro a1 w1 ⟨n,hn16,hn,T,o8,S⟩;have o5:=T.keep 5 _ (by decide) o5;have hz1:=T.size.trans hsz;have eCtr:=o8.eval (by rw [hz1];decide);refine wp_seq (wp_seq (aFy n hz1 o8 (fun a2 hs2 o46=>?_)));obtain ⟨hz2,-,o5,o8⟩:=dU hs2 hz1 rfl o5 o8;have T:=T.trans hs2
 by_cases hlt:n < 64
 . refine cS o46 (wp_skip ?_) (by rw [decide_eq_true (by omega)]);obtain ⟨j,rfl⟩:∃ j,n=j+16:=⟨n - 16,by omega⟩;have HWl:=aAy b (j+16);have HWn:=eP b (j+16);have Hnx:=tY b j;generalize hl:lL b (j+16)=l at *;have hpl:(pz l).length=64:=mY (by omega);have HA:(pz l)[j]?=some (l.getD j 0):=rA (eB (by omega));have HC:(pz l)[j+9]?=some (l.getD (j+9) 0):=rA (eB (by omega));have HX:(pz l)[j+1]?=some (l.getD (j+1) 0):=rA (eB (by omega));have HY:(pz l)[j+14]?=some (l.getD (j+14) 0):=rA (eB (by omega));have HM:(pz l)[j+16]?=some ((pz l).getD (j+16) 0):=eB (by omega);have HXl:=sA HWl (j+1);have HYl:=sA HWl (j+14);have HE:∀ x,(pz l).set (j+16) x=pz (l ++ [x]):=fun x=>by rw [<- HWn];exact sG (by omega) x
   generalize l.getD j 0=v at *;generalize l.getD (j+9) 0=c at *;generalize l.getD (j+1) 0=x at *;generalize l.getD (j+14) 0=y at *;refine wp_seq (wp_block ?_);refine wp_seq (aI0 j g5 x (pz l) (by omega) HX HXl (LH (fun V kk i x h=>bM ((S.at_ (l1:=[])).kp kk (by simp)) i x h)) hz2 o5 o8 (fun a3 W3 hs3 k3 o9=>?_));obtain ⟨hz3,-,o5,o8,o46⟩:=dF hs3 hz2 rfl o5 o8 o46;have T:=T.trans hs3;have S:=S.kp ((Kp.refl [] _).drew.trans k3 (by simp));refine wp_seq (aFi j g5 y (pz l) (by omega) HY HYl (LH (fun V kk i x h=>bM ((S.at_ (l1:=[])).kp kk (by simp)) i x h)) hz3 o5 o8 (fun a4 W4 hs4 k4 o10=>?_));obtain ⟨hz4,-,o5,o8,o46,o9⟩:=fH hs4 hz3 rfl o5 o8 o46 o9;have T:=T.trans hs4;have S:=S.kp ((Kp.refl [] _).drew.trans k4 (by simp));refine aG3 w0 j g5 _ _ v c _ (pz l) R (by omega) HA HC HM hz4 o5 o8 o9 o10 S (fun a5 W5 hs5 S=>?_);obtain ⟨hz5,-,o5,o8,o46,o9,o10⟩:=jJ hs5 hz4 rfl o5 o8 o46 o9 o10;have T:=T.trans hs5;rw [HE] at S;refine aFm (j+16) hlt hz5 o8 (fun a6 hs6 o8=>?_);obtain ⟨hz6,-,o5,o46,o9,o10⟩:=fH hs6 hz5 rfl o5 o46 o9 o10;have T:=T.trans hs6;refine ⟨⟨j+16+1,by omega,by omega,T.more (by decide +kernel),o8,?_⟩,?_⟩
   . rw [Hnx];exact S
   . show 64 - (intOf (a6.eval (.tmp 8))).toNat < 64 - (intOf (a1.eval (.tmp 8))).toNat
     rw [eCtr,o8.eval (by rw [hz6];decide)];simp [intOf];omega
 . obtain rfl:n=64:=by omega
   refine dD o46 (wp_exit ?_) (by rw [decide_eq_false (by omega)]);rw [aCy (eP b 64)] at S;exact hend _ _ (T.more (by decide +kernel)) S
theorem aNy{Q:Exit->Act->World->Prop}{a:Act}{w0 w:World}(st ws:List Nat)(hst:Ws st)(hsl:st.length=8)(hwl:ws.length=64)(g5:Nat)(R:List Res)(hsz:a.tmps.size=209)
 (o5:Sl a 5 (Pq g5 0)) (o19:Sl a 19 (Nq 0)) (o11:Sl a 11 (.int .u32 ((st.getD 0 0:Nat):Int))) (o12:Sl a 12 (.int .u32 ((st.getD 1 0:Nat):Int))) (o13:Sl a 13 (.int .u32 ((st.getD 2 0:Nat):Int))) (o14:Sl a 14 (.int .u32 ((st.getD 3 0:Nat):Int))) (o15:Sl a 15 (.int .u32 ((st.getD 4 0:Nat):Int))) (o16:Sl a 16 (.int .u32 ((st.getD 5 0:Nat):Int))) (o17:Sl a 17 (.int .u32 ((st.getD 6 0:Nat):Int))) (o18:Sl a 18 (.int .u32 ((st.getD 7 0:Nat):Int)))
 (S:Held w0 w (aB g5 226 (aW ws) :: R))
 (hend:∀ a' W,Same a a' bB6->Sl a' 11 (.int .u32 (((gP st ws 64).getD 0 0:Nat):Int))->Sl a' 12 (.int .u32 (((gP st ws 64).getD 1 0:Nat):Int))->Sl a' 13 (.int .u32 (((gP st ws 64).getD 2 0:Nat):Int))->Sl a' 14 (.int .u32 (((gP st ws 64).getD 3 0:Nat):Int))->Sl a' 15 (.int .u32 (((gP st ws 64).getD 4 0:Nat):Int))->Sl a' 16 (.int .u32 (((gP st ws 64).getD 5 0:Nat):Int))->Sl a' 17 (.int .u32 (((gP st ws 64).getD 6 0:Nat):Int))->Sl a' 18 (.int .u32 (((gP st ws 64).getD 7 0:Nat):Int))->Held w0 W (aB g5 226 (aW ws) :: R)->Q .normal a' W):
 (Code.block 6 (dR 6 f155)).wp prog Q a w:=by
 refine wp_block ?_
 (conv=>arg 2;whnf)
 refine wp_loop (fun a' w'=>∃ k:Nat,k<=64 ∧ Same a a' bB6 ∧ Sl a' 19 (.int .i64 (k:Int)) ∧ (Sl a' 11 (.int .u32 (((gP st ws k).getD 0 0:Nat):Int)) ∧ Sl a' 12 (.int .u32 (((gP st ws k).getD 1 0:Nat):Int)) ∧ Sl a' 13 (.int .u32 (((gP st ws k).getD 2 0:Nat):Int)) ∧ Sl a' 14 (.int .u32 (((gP st ws k).getD 3 0:Nat):Int)) ∧ Sl a' 15 (.int .u32 (((gP st ws k).getD 4 0:Nat):Int)) ∧ Sl a' 16 (.int .u32 (((gP st ws k).getD 5 0:Nat):Int)) ∧ Sl a' 17 (.int .u32 (((gP st ws k).getD 6 0:Nat):Int)) ∧ Sl a' 18 (.int .u32 (((gP st ws k).getD 7 0:Nat):Int))) ∧ Held w0 w' (aB g5 226 (aW ws) :: R)) (fun a' _=>64 - (intOf (a'.eval (.tmp 19))).toNat) ⟨0,by omega,Same.refl _ _,o19,⟨o11,o12,o13,o14,o15,o16,o17,o18⟩,S⟩ ?_;clear o19 S o11 o12 o13 o14 o15 o16 o17 o18;rintro a1 w1 ⟨k,hk,T,o19,⟨o11,o12,o13,o14,o15,o16,o17,o18⟩,S⟩;have o5:=T.keep 5 _ (by decide) o5;have hz1:=T.size.trans hsz;have eCtr:=o19.eval (by rw [hz1];decide);refine wp_seq (wp_seq (aFs k hz1 o19 (fun a2 hs2 o115=>?_)));obtain ⟨hz2,-,o5,o11,o12,o13,o14,o15,o16,o17,o18,o19⟩:=aF7 hs2 hz1 rfl o5 o11 o12 o13 o14 o15 o16 o17 o18 o19;have T:=T.trans hs2
 by_cases hlt:k < 64
 . refine cS o115 (wp_skip ?_) (by rw [decide_eq_true (by omega)]);have hv:=fZ st ws k;have hvl:=wQ hst ws k;have Hnext:gP st ws (k+1)=rnd (gP st ws k) (kT.getD k 0) (ws.getD k 0):=rfl;obtain ⟨v0,v1,v2,v3,v4,v5,v6,v7,hvv⟩:=aCa (hv.trans hsl);rw [hvv] at hvl Hnext o11 o12 o13 o14 o15 o16 o17 o18;simp only [List.getD_cons_zero,List.getD_cons_succ] at o11 o12 o13 o14 o15 o16 o17 o18;have HWt:∀ W,Kp [] w1 W->∀ V,Kp [] W V->V.cell? ⟨g5,k,none⟩=some (.int .u32 ((ws.getD k 0:Nat):Int)):=fun W k1 V k2=>bM ((S.at_ (l1:=[])).kp (k1.trans k2 (by simp)) (by simp)) k _ (eB (by rw [hwl];exact hlt))
   have HK:∀ V,Calls prog 164 #[.int .i64 (k:Int)] V fun e w'=>e=.returned (.int .u32 ((kT.getD k 0:Nat):Int)) ∧ Kp [] V w':=fun V=>aTk k hlt V
   generalize kT.getD k 0=kk at *;generalize ws.getD k 0=wk at *;refine wp_seq (wp_block ?_);refine wp_seq (aFv k g5 kk wk v4 v5 v6 v7 (hvl _ (by simp)) (hvl _ (by simp)) (hvl _ (by simp)) hlt (LH HK) (LH (HWt w1 kR)) hz2 o5 o15 o16 o17 o18 o19 (fun a3 W3 hs3 k3 o20=>?_));obtain ⟨hz3,-,o5,o11,o12,o13,o14,o15,o16,o17,o18,o19,o115⟩:=bB4 hs3 hz2 rfl o5 o11 o12 o13 o14 o15 o16 o17 o18 o19 o115;have T:=T.trans hs3;have S:=S.kp ((Kp.refl [] _).drew.trans k3 (by simp));refine wp_seq (aFu v0 v1 v2 (LH (hvl _ (by simp))) (LH (hvl _ (by simp))) (LH (hvl _ (by simp))) hz3 o11 o12 o13 (fun a4 W4 hs4 o21 k4=>?_));obtain ⟨hz4,-,o5,o11,o12,o13,o14,o15,o16,o17,o18,o19,o115,o20⟩:=aMg hs4 hz3 rfl o5 o11 o12 o13 o14 o15 o16 o17 o18 o19 o115 o20;have T:=T.trans hs4;have S:=S.kp k4;refine wp_seq (aGv v4 v5 v6 hz4 o15 o16 o17 (fun a5 hs5 o16 o17 o18=>?_));obtain ⟨hz5,-,o5,o11,o12,o13,o14,o15,o19,o115,o20,o21⟩:=aF7 hs5 hz4 rfl o5 o11 o12 o13 o14 o15 o19 o115 o20 o21;have T:=T.trans hs5;refine wp_seq (aI2 v3 _ hz5 o14 o20 (fun a6 hs6 o15=>?_));obtain ⟨hz6,-,o5,o11,o12,o13,o14,o16,o17,o18,o19,o115,o20,o21⟩:=aMg hs6 hz5 rfl o5 o11 o12 o13 o14 o16 o17 o18 o19 o115 o20 o21;have T:=T.trans hs6;refine wp_seq (aHi v0 v1 v2 hz6 o11 o12 o13 (fun a7 hs7 o12 o13 o14=>?_));obtain ⟨hz7,-,o5,o11,o15,o16,o17,o18,o19,o115,o20,o21⟩:=aF7 hs7 hz6 rfl o5 o11 o15 o16 o17 o18 o19 o115 o20 o21;have T:=T.trans hs7;refine aHq _ _ hz7 o20 o21 (fun a8 hs8 o11=>?_);obtain ⟨hz8,-,o5,o12,o13,o14,o15,o16,o17,o18,o19,o115,o20,o21⟩:=aMg hs8 hz7 rfl o5 o12 o13 o14 o15 o16 o17 o18 o19 o115 o20 o21;have T:=T.trans hs8;refine aHc k hlt hz8 o19 (fun a9 hs9 o19=>?_);obtain ⟨hz9,-,o5,o11,o12,o13,o14,o15,o16,o17,o18,o115,o20,o21⟩:=aMg hs9 hz8 rfl o5 o11 o12 o13 o14 o15 o16 o17 o18 o115 o20 o21;have T:=T.trans hs9;refine ⟨⟨k+1,by omega,T.more (by decide +kernel),o19,?_,S⟩,?_⟩
   . rw [Hnext];exact ⟨o11,o12,o13,o14,o15,o16,o17,o18⟩
   . show 64 - (intOf (a9.eval (.tmp 19))).toNat < 64 - (intOf (a1.eval (.tmp 19))).toNat
     rw [eCtr,o19.eval (by rw [hz9];decide)];simp [intOf];omega
 . obtain rfl:k=64:=by omega
   refine dD o115 (wp_exit ?_) (by rw [decide_eq_false (by omega)]);exact hend _ _ (T.more (by decide +kernel)) o11 o12 o13 o14 o15 o16 o17 o18 S
theorem aB3(st:List Nat)(hst:Ws st)(hsl:st.length=8)(b:Bs)(hbl:b.length=64)(v:Value)(w:World)(hv:Rd w 1 v 64 (bv b)):Calls prog 155 #[.agg (aW st),v] w fun e w'=>e=.returned (.agg (aW (iM st b))) ∧ Kp [] w w':=by
 obtain ⟨hl,A,cb,rfl,h1,h2,hA,hc⟩:=id hv;rcases A with _|ad
 . have:=hA rfl;omega
 have HB:∀ V,Kp [] w V->∀ j,j < 64->V.cell? (ad.add j)=some (.int .u8 ((b.getD j 0).toNat:Int)):=fun V kk j hj=>by
  obtain ⟨_,A',c',he,_,_,_,hc'⟩:=aT hv kk
  cases he;refine hc' ad rfl j _ ?_;rw [iA,List.getD_eq_getElem?_getD,List.getElem?_eq_getElem (by omega)]
  rfl
 refine aR func155 rfl 209 rfl (fun a0 hsz hdf hAr=>?_);have hz0:a0.tmps.size=209:=hsz;have o0:=hAr 0 _ rfl;have o1:=hAr 1 _ rfl;have D:=hdf;refine wp_seq (aLn w st [] (Held.start w) hz0 o0 (fun a1 w1 hs1 h=>?_));obtain ⟨hz1,D,o1⟩:=eY hs1 hz0 D o1;obtain ⟨g2,g4,o2,o4,S⟩:=h;refine wp_seq (aNj w _ S hz1 (fun a2 w2 hs2 h=>?_));obtain ⟨hz2,D,o1,o2,o4⟩:=dF hs2 hz1 D o1 o2 o4;obtain ⟨g5,o5,S⟩:=h;refine wp_seq (wp_seq (aIe hz2 (fun a3 hs3 o6=>?_)));obtain ⟨hz3,D,o1,o2,o4,o5⟩:=fH hs3 hz2 D o1 o2 o4 o5;refine aJy b 64 cb ad (by omega) (by omega) HB g5 _ hz3 o1 o5 o6 S (fun a4 w4 hs4 S=>?_);obtain ⟨hz4,D,o2,o4,o5⟩:=dF hs4 hz3 D o2 o4 o5;refine wp_seq (wp_seq (aNd hz4 (fun a5 hs5 o8=>?_)));obtain ⟨hz5,D,o2,o4,o5⟩:=dF hs5 hz4 D o2 o4 o5;refine aN0 b g5 _ hz5 o5 o8 S (fun a6 w6 hs6 S=>?_);obtain ⟨hz6,D,o2,o4,o5⟩:=dF hs6 hz5 D o2 o4 o5;obtain ⟨s0,s1,s2,s3,s4,s5,s6,s7,hss⟩:=aCa hsl;have hst':=hst;rw [hss] at S;refine wp_seq (aH3 g2 s0 s1 s2 s3 s4 s5 s6 s7 (LH (fun V kk i x h=>bM ((S.at_ (l1:=[_,_])).kp kk (by simp)) i x h)) hz6 o2 (fun a7 w7 hs7 k7 o11 o12 o13 o14 o15 o16 o17 o18=>?_));obtain ⟨hz7,D,o2,o4,o5⟩:=dF hs7 hz6 D o2 o4 o5;have S:=S.kp ((Kp.refl [] _).drew.trans k7 (by simp));refine wp_seq (wp_seq (aG4 hz7 (fun a8 hs8 o19=>?_)));obtain ⟨hz8,D,o2,o4,o5,o11,o12,o13,o14,o15,o16,o17,o18⟩:=bB4 hs8 hz7 D o2 o4 o5 o11 o12 o13 o14 o15 o16 o17 o18;rw [<- hss] at S;refine aNy st (lL b 64) hst hsl (eP b 64) g5 _ hz8 o5 o19 (by rw [hss];exact o11) (by rw [hss];exact o12) (by rw [hss];exact o13) (by rw [hss];exact o14) (by rw [hss];exact o15) (by rw [hss];exact o16) (by rw [hss];exact o17) (by rw [hss];exact o18) S (fun a9 w9 hs9 o11 o12 o13 o14 o15 o16 o17 o18 S=>?_);obtain ⟨hz9,D,o2,o4⟩:=dU hs9 hz8 D o2 o4;have hrl:=(fZ st (lL b 64) 64).trans hsl;have hblk:iM st b=List.zipWith (fun x y=>(x+y) % 4294967296) (gP st (lL b 64) 64) st:=rfl;obtain ⟨v0,v1,v2,v3,v4,v5,v6,v7,hvv⟩:=aCa hrl;rw [hvv] at o11 o12 o13 o14 o15 o16 o17 o18 hblk;simp only [List.getD_cons_zero,List.getD_cons_succ] at o11 o12 o13 o14 o15 o16 o17 o18;rw [hss] at S hblk;have S:=S.perm (List.Perm.swap _ _ _)
 refine wp_seq (aEx w g2 g4 s0 s1 s2 s3 s4 s5 s6 s7 v0 v1 v2 v3 v4 v5 v6 v7 (List.replicate 8 0) rfl [_] _ S hz9 o2 o4 o11 o12 o13 o14 o15 o16 o17 o18 (fun a10 w10 hs10 S=>?_));obtain ⟨hz10,D,o4⟩:=eY hs10 hz9 D o4
 have hfin:[(s0+v0) % 4294967296,(s1+v1) % 4294967296,(s2+v2) % 4294967296,(s3+v3) % 4294967296,(s4+v4) % 4294967296,(s5+v5) % 4294967296,(s6+v6) % 4294967296,(s7+v7) % 4294967296]=iM st b:=by
  rw [hss,hblk];simp only [List.zipWith_cons_cons,List.zipWith_nil_left,Nat.add_comm]
 rw [hfin] at S;refine wp_ret (bodyPost_ret (aV (by rfl) (o4.eval (by rw [hz10];decide)) (S.at_ (l1:=[])) underlying205 rfl (by rw [bI,dY,hsl];exact bC1)) D ⟨rfl,S.k⟩)
end
section
variable {Q:Exit->Act->World->Prop} {a:Act} {w:World}
open Go.RowKit
theorem aYj(w0:World)(st:List Nat)(n:Nat)(v:Value)(hs:st.length=8)(hv:v.oneCell'=true)(L:List Res)(S:Held w0 w L)(hsz:a.tmps.size=31)(o0:Sl a 0 (.agg (cJ st n v))):bC false 0 f142 Q a w fun a' W q'=>(∃ g2 g4,Sl a' 2 (Pq g2 0) ∧ Sl a' 4 (Pq g4 0) ∧ Held w0 W (aB g4 207 (cJ (List.replicate 8 0) 0 (.slice none 0 0)) :: aB g2 207 (cJ st n v) :: L))->q':=by
 refine bU fun hend=>?_;unfold Sl at o0;have S0:=LH ((S.newBlk 207 (cJ st n v)).newBlk 207 (cJ (List.replicate 8 0) 0 (.slice none 0 0)));simp only [World.size_alloc] at S0;generalize hca:cJ st n v=ca at *;go_wp2
 try simp only [Act.put]
 exact hend _ _ tS (⟨w.heap.size,w.heap.size+1,cH,cH,S0.out⟩)
theorem aXf(w0:World)(g2 n:Nat)(st:List Nat)(hs:st.length=8)(Ar Ax:Option Addr)(cr cx:Nat)(r l:Bs)(hl:r.length+l.length<=140737488355328)(L:List Res)(HRr:∀ V L',Held w0 V (L' ++ aB g2 207 (cJ st n (.slice Ar r.length cr)) :: L)->Rd V 1 (.slice Ar r.length cr) r.length (bv r))(HRx:∀ V L',Held w0 V (L' ++ aB g2 207 (cJ st n (.slice Ar r.length cr)) :: L)->Rd V 1 (.slice Ax l.length cx) l.length (bv l))(S:Held w0 w (aB g2 207 (cJ st n (.slice Ar r.length cr)) :: L))(hsz:a.tmps.size=31)(o1:Sl a 1 (.slice Ax l.length cx))(o2:Sl a 2 (Pq g2 0)):bC false 1 f142 Q a w fun a' W q'=>(∃ A c,Sl a' 5 (.slice A (r ++ l).length c) ∧ Held w0 W (aG 5 1 (.slice A (r ++ l).length c) (r ++ l).length (bv (r ++ l)) :: aB g2 207 (cJ st n (.slice Ar r.length cr)) :: L))->q':=by
 refine bU fun hend=>?_;unfold Sl at o1 o2;have c9:w.cell? ⟨g2,9,none⟩=some (.slice Ar r.length cr):=by rw [(S.at_ (l1:=[])).cell];exact qA hs
 have S:=LH S;have HRr:=LH HRr;have HRx:=LH HRx;have Hl:=LH hl;clear hl hs;obtain ⟨nr,hnr⟩:∃ nr,r.length=nr:=⟨_,rfl⟩;obtain ⟨nl,hnl⟩:∃ nl,l.length=nl:=⟨_,rfl⟩;have Hnr:=LH hnr;have Hnl:=LH hnl;rw [hnr] at c9;rw [hnl] at o1;clear hnr hnl
 go_wp2_with (at_builtin;first
  |(refine wM rfl (.const (.slice none 0 0)) (.tmp 7) rfl rfl S.out (.slice Ar nr cr) r (by simp [Act.eval,hsz]) (by rw [<- Hnr.out];exact HRr.out w [] S.out) (by have:=Hl.out;omega) ?_;intro v1 w1 S1;have S1:=LH S1;obtain ⟨A1,c1,hv1,_,_⟩:=aS (S1.out.at_ (l1:=[]));subst hv1)
  |(refine iG [] rfl (.tmp 8) (.tmp 9) rfl (.slice A1 r.length c1) r (by simp [Act.eval,hsz]) S1.out (.slice Ax nl cx) l (by simp [Act.eval,hsz]) (by rw [<- Hnl.out];exact HRx.out w1 [_] S1.out) Hl.out ?_;intro v2 w2 S2;have S2:=LH S2;obtain ⟨A2,c2,hv2,_,_⟩:=aS (S2.out.at_ (l1:=[]));subst hv2))
 try simp only [Act.put]
 exact hend _ _ tS (⟨A2,c2,cH,S2.out⟩)
theorem aZl(A:Option Addr)(n c:Nat)(hsz:a.tmps.size=31)(o5:Sl a 5 (.slice A n c)):bK 2 f142 Q a w fun a' q'=>Sl a' 13 (.bool (decide (64<=n)))->q':=rO
theorem aYk(A A1:Option Addr)(n m c c1:Nat)(hr:∀ w,(Instr.sliceAt 32 (.slice A n c) (some (.int .i64 (64:Int))) none none).run prog w=.ok (.slice A1 m c1) w)(hsz:a.tmps.size=31)(o5:Sl a 5 (.slice A n c)):bK 4 f142 Q a w fun a' q'=>Sl a' 5 (.slice A1 m c1)->q':=rO
theorem aUu(w0:World)(g2 n k c:Nat)(A:Option Addr)(st:List Nat)(v:Value)(hs:st.length=8)(hn:n+k < 9223372036854775808)(L:List Res)(S:Held w0 w (aB g2 207 (cJ st n v) :: L))(hsz:a.tmps.size=31)(o1:Sl a 1 (.slice A k c))(o2:Sl a 2 (Pq g2 0)):bC false 5 f142 Q a w fun a' W q'=>(Held w0 W (aB g2 207 (cJ st (n+k) v) :: L))->q':=by
 refine bU fun hend=>?_;unfold Sl at o1 o2;have c1:w.cell? ⟨g2,8,none⟩=some (.int .i64 (n:Int)):=by rw [(S.at_ (l1:=[])).cell];exact aAa hs
 have c2:=(S.at_ (l1:=[])).frozen 8;have S2:Hid (Held w0 (w.setCell ⟨g2,8,none⟩ (Nq (n+k))) _):=LH (S.set (l1:=[]) 8 (Nq (n+k)));rw [aA6 hs] at S2;have hw:=LH (show wrap64 ((n:Int)+(k:Int))=((n+k:Nat):Int) from by unfold wrap64;omega);clear S hs hn;go_wp2;rw [hw.out]
 try simp only [Act.put]
 exact hend _ _ tS (S2.out)
theorem aPn(w0:World)(g2 n m c:Nat)(A:Option Addr)(st:List Nat)(v:Value)(hs:st.length=8)(L:List Res)(S:Held w0 w (aB g2 207 (cJ st n v) :: L))(hsz:a.tmps.size=31)(o2:Sl a 2 (Pq g2 0))(o5:Sl a 5 (.slice A m c)):bC false 6 f142 Q a w fun a' W q'=>(Held w0 W (aB g2 207 (cJ st n (.slice A m c)) :: L))->q':=by
 refine bU fun hend=>?_;unfold Sl at o2 o5;have c1:w.cell? ⟨g2,9,none⟩=some v:=by rw [(S.at_ (l1:=[])).cell];exact qA hs
 have c2:=(S.at_ (l1:=[])).frozen 9;have S2:Hid (Held w0 (w.setCell ⟨g2,9,none⟩ (.slice A m c)) _):=LH (S.set (l1:=[]) 9 (.slice A m c));rw [wY hs] at S2;clear S hs;go_wp2
 try simp only [Act.put]
 exact hend _ _ tS (S2.out)
theorem aSo(w0:World)(g2 g4 n m c:Nat)(A:Option Addr)(st:List Nat)(hs:st.length=8)(L1 L2:List Res)(S:Held w0 w (aB g2 207 (cJ st n (.slice A m c)) :: (L1 ++ aB g4 207 (cJ (List.replicate 8 0) 0 (.slice none 0 0)) :: L2)))(hsz:a.tmps.size=31)(o2:Sl a 2 (Pq g2 0))(o4:Sl a 4 (Pq g4 0)):bC false 7 f142 Q a w fun a' W q'=>(Held w0 W (aB g2 207 (cJ st n (.slice A m c)) :: (L1 ++ aB g4 207 (cJ st n (.slice A m c)) :: L2)))->q':=by
 refine bU fun hend=>?_;unfold Sl at o2 o4;have S:=LH S;have hz:=LH (gA (n:=n) (v:=.slice A m c) hs);have hO:=LH (uS (st:=st) (n:=n) (v:=.slice A m c) rfl);obtain ⟨ch,hch⟩:∃ ch,Hid (cJ st n (.slice A m c)=ch):=⟨_,LH rfl⟩;rw [hch.out] at S hz hO;clear hs
 go_wp2_with (first
  |(refine aQ rfl 207 (.tmp 2) rfl g2 (aO o2) 207 _ (S.out.at_ (l1:=[])) _ underlying207 rfl (by rw [hz.out];exact bC9) ?_)
  |(refine aD rfl 207 (.tmp 4) (.tmp 30) rfl g4 (aO o4) ch aE 207 _ (S.out.at_ (l1:=_ :: L1)) (by rw [hz.out];exact bC9) (by rw [hz.out];rfl) hO.out ?_;intro w7 b7 k7;have S7:=LH (Held.setBlk (l1:=_ :: L1) S.out b7 k7);clear b7 k7))
 rw [<- hch.out] at S7
 try simp only [Act.put]
 exact hend _ _ tS (S7.out)
theorem aSw(w0:World)(g2 n m c c1:Nat)(A A1:Option Addr)(st:List Nat)(v:Value)(b:Bs)(hs:st.length=8)(hst:Ws st)(hb:b.length=64)(hr:∀ w,(Instr.sliceAt 32 (.slice A m c) none (some (.int .i64 (64:Int))) none).run prog w=.ok (.slice A1 64 c1) w)(L:List Res)(r0:Res)(hr0:r0 ∈ L)(HB:∀ V,r0.ok V->Rd V 1 (.slice A1 64 c1) 64 (bv b))(hsz:a.tmps.size=31)(o2:Sl a 2 (Pq g2 0))(o5:Sl a 5 (.slice A m c))
 (S0:Held w0 w (aB g2 207 (cJ st n v) :: L)):bC true 3 f142 Q a w fun a' W q'=>Held w0 W (aB g2 207 (cJ (iM st b) n v) :: L)->q':=by
 intro hend;have hap:=pa 3 f142
 refine aP (Γ:=Unit) (l:=(aK 3 f142)) 3 [0,1,2,3,4,5,6,7,9]
  (fun i vs gs=>match i with|0=>vs 0=Pq g2 0|1=>vs 1=.agg (aW st)|2=>vs 2=.slice A m c|3=>vs 3=.slice A1 64 c1|4=>vs 4=.agg (aW (iM st b))|5=>vs 5=Pq g2 0|_=>True)
  (fun i vs gs=>match i with|6=>[aB g2 207 (cJ (iM st b) n v)]|8=>[aB g2 207 (cJ st n v)]|9=>L|_=>[])
  (fun i=>match i with|6=>[8]|_=>[]) (fun i=>match i with|1=>[8]|4=>[8,9]|_=>[]) S0 (by kernel_rfl) hap (by kernel_rfl) (by kernel_rfl) (fun i=>match i with|0=>[0]|1=>[1]|2=>[2]|3=>[3]|4=>[4]|5=>[5]|_=>[]) (by kernel_rfl) ?_ (by kernel_rfl) ?_ ?_ ?_
 . intro s vs vs' gs gs' h
   iterate 10 (rcases s with _|s;· (first|exact ⟨rfl,id⟩|(simp only [List.mem_cons,List.not_mem_nil,or_false,forall_eq] at h;simp [h])))
   exact ⟨rfl,id⟩
 . simp only [List.range,List.range.loop,List.flatMap_cons,List.flatMap_nil,List.append_nil];exact List.Perm.refl _
 . clear S0 hend
   and_intros <;> try intro vs gs A' W LF hA S hR hd hu K hK
   . exact aJ (eO 2 o2)
   . exact dC (aW st) (vD 14 0) (qJ (show aM W g2 207 (cJ st n v) from S.ok (aB g2 207 (cJ st n v)) (hR 8 (List.mem_singleton.2 rfl) _ (List.mem_singleton.2 rfl))) hs) underlying205 (by rw [bI,hs];exact bC1)
   . exact aJ (eO 5 o5)
   . have hr:=hr W;exact aJ (vD 16 2)
   . replace hK:=hK default;have e15:=vD 15 1;have e17:=vD 17 3;clear hA o2 o5;generalize hca:aW st=ca at *;go_step;rw [<- hca];refine (aB3 st hst hs b hb _ _ (HB W (S.ok r0 (hR 9 (List.mem_cons_of_mem _ (List.mem_singleton.2 rfl)) r0 hr0)))).mono ?_;rintro e w' ⟨rfl,kq⟩;exact hK _ _ (S.kp kq) rfl
   . exact aJ (eO 2 o2)
   . replace hK:=hK default;have e19:=vD 19 5;have e18:=vD 18 4;clear hA o2 o5;have S1:Held w0 W (aB g2 207 (cJ st n v) :: LF):=S;refine eW (.tmp 19) (.tmp 18) 205 rfl g2 0 (by simpa [Act.eval] using e19) (aW (iM st b)) (by simpa [Act.eval] using e18) 207 _ (S1.at_ (l1:=[])) (by rw [bI,dY,hs];exact bC1) (by rw [bI,dY,hs,gA hs];omega) (fO _) (fun w' hbk k=>hK undef _ ?_ trivial);rw [aAz hs _ ((dY _ _).trans hs)] at hbk;exact Held.setBlk (l1:=[]) S1 hbk k
   . trivial
 . intro vs gs W S hp;have S:Held w0 W (aB g2 207 (cJ (iM st b) n v) :: L):=by simpa only [List.flatMap_cons,List.flatMap_nil,List.append_nil,List.nil_append,List.cons_append,List.append_assoc] using S
   rw [aF];exact hend _ W sQ  S
def bBj:List Nat:=[5,11,12,13,14,15,16,17,18,19,20,21]
def aEl (w0:World) (L:List Res) (st:List Nat) (n:Nat) (a:Bs) (k:Nat) (e:Ending) (w':World):Prop:=
 ∃ A c v,e=.returned (.agg (cJ (fB st a (a.length / 64)) (n+k) (.slice A (a.length % 64) c))) ∧ Held w0 w' (aG 5 1 v a.length (bv a) :: L) ∧ ∀ V,(aG 5 1 v a.length (bv a)).ok V->Rd V 1 (.slice A (a.length % 64) c) (a.length % 64) (bv (a.drop (64 * (a.length / 64))))
theorem wA(w0:World)(L:List Res)(st:List Nat)(n:Nat)(hs:st.length=8)(hst:Ws st)(Ar Ax:Option Addr)(cr cx:Nat)(r l:Bs)(hl:r.length+l.length<=140737488355328)(hn:n+l.length < 9223372036854775808)(w:World)(S:Held w0 w L)
 (HRr:∀ V L',Held w0 V (L' ++ L)->Rd V 1 (.slice Ar r.length cr) r.length (bv r)) (HRx:∀ V L',Held w0 V (L' ++ L)->Rd V 1 (.slice Ax l.length cx) l.length (bv l)):
 Calls prog 142 #[.agg (cJ st n (.slice Ar r.length cr)),.slice Ax l.length cx] w (aEl w0 L st n (r ++ l) l.length):=by
 refine aR func142 rfl 31 rfl (fun a0 hsz hdf hAr=>?_);have hz0:a0.tmps.size=31:=hsz;have D:=hdf;have o0:=hAr 0 _ rfl;have o1:=hAr 1 _ rfl;refine wp_seq (aYj w0 st n (.slice Ar r.length cr) hs rfl _ S hz0 o0 (fun a1 w1 hs1 h=>?_));obtain ⟨hz1,D,o1⟩:=eY hs1 hz0 D o1;obtain ⟨g2,g4,o2,o4,S⟩:=h;have S:=S.perm (List.Perm.swap _ _ _);refine wp_seq (aXf w0 g2 n st hs Ar Ax cr cx r l hl (aB g4 207 (cJ (List.replicate 8 0) 0 (.slice none 0 0)) :: L) (fun V L' SV=>HRr V (L' ++ [_,_]) (by rw [List.append_assoc];exact SV)) (fun V L' SV=>HRx V (L' ++ [_,_]) (by rw [List.append_assoc];exact SV)) S hz1 o1 o2 (fun a2 w2 hs2 h=>?_));obtain ⟨hz2,D,o1,o2,o4⟩:=dF hs2 hz1 D o1 o2 o4;obtain ⟨A0,c0,o5,S⟩:=h;have S:=S.perm (List.Perm.swap _ _ _);obtain ⟨al,hal⟩:∃ al,r ++ l=al:=⟨_,rfl⟩;rw [hal] at S o5 ⊢;obtain ⟨N,hN⟩:∃ N,al.length=N:=⟨_,rfl⟩;obtain ⟨row,hrow⟩:∃ row,aG 5 1 (.slice A0 al.length c0) al.length (bv al)=row:=⟨_,rfl⟩;have hR0:∀ V,row.ok V->Rd V 1 (.slice A0 al.length c0) al.length (bv al):=fun V h=>by rw [<- hrow] at h;exact Rd.of_own h
 rw [hrow] at S;refine wp_seq (wp_block ?_)
 (conv=>arg 2;whnf)
 refine wp_loop (fun a' w'=>∃ (q:Nat) (A:Option Addr) (c m:Nat),64 * q+m=al.length ∧ Same a2 a' bBj ∧ Sl a' 5 (.slice A m c) ∧ (∀ V,row.ok V->Rd V 1 (.slice A m c) m (bv (al.drop (64 * q)))) ∧ Held w0 w' (aB g2 207 (cJ (fB st al q) n (.slice Ar r.length cr)) :: row :: aB g4 207 (cJ (List.replicate 8 0) 0 (.slice none 0 0)) :: L)) (fun a' _=>rK (a'.eval (.tmp 5))) ⟨0,A0,c0,al.length,by omega,Same.refl _ _,o5,fun V h=>hR0 V h,S⟩ ?_;clear o5 S hR0;rintro a1 w3 ⟨q,A,c,m,hm,T,o5,HB,S⟩;have hz1:=T.size.trans hz2;have o1:=T.keep 1 _ (by decide) o1;have o2:=T.keep 2 _ (by decide) o2;have o4:=T.keep 4 _ (by decide) o4;have eCtr:=o5.eval (by rw [hz1];decide);refine wp_seq (wp_seq (aZl A m c hz1 o5 (fun a2 hs2 o13=>?_)));obtain ⟨hz2,-,o1,o2,o4,o5⟩:=fH hs2 hz1 rfl o1 o2 o4 o5;have T:=T.trans hs2
 by_cases hlt:64<=m
 . refine cS o13 (wp_skip ?_) (by rw [decide_eq_true hlt]);have hrow0:row ∈ (row :: aB g4 207 (cJ (List.replicate 8 0) 0 (.slice none 0 0)) :: L):=List.mem_cons_self ..;obtain ⟨hlm,A',c',he,hmc,-⟩:=HB w3 (S.ok row (List.mem_cons_of_mem _ hrow0))
   cases he;have hdl:(al.drop (64 * q)).length=m:=by rw [List.length_drop];omega
   obtain ⟨A1,c1,run1,rd1,-⟩:=aXa A m c 64 64 rfl hlt hmc;obtain ⟨A2,c2,run2,rd2,-⟩:=aFj A m c 64 (m - 64) 64 rfl (by omega);have hs':=nC hs al q;have hb64:((al.drop (64 * q)).take 64).length=64:=by rw [List.length_take];omega
   refine wp_block ?_;refine wp_seq (aSw w0 g2 n m c c1 A A1 (fB st al q) (.slice Ar r.length cr) ((al.drop (64 * q)).take 64) hs' (bAb hst al q) hb64 run1 _ row hrow0 (fun V hV=>by have:=rd1 V _ (HB V hV);simpa using this) hz2 o2 o5 S (fun a3 w4 hs3 S=>?_));obtain ⟨hz3,-,o1,o2,o4,o5,o13⟩:=jJ hs3 hz2 rfl o1 o2 o4 o5 o13;have T:=T.trans hs3;refine aYk A A2 m (m - 64) c c2 run2 hz3 o5 (fun a4 hs4 o5=>?_);obtain ⟨hz4,-,o1,o2,o4,o13⟩:=fH hs4 hz3 rfl o1 o2 o4 o13;have T:=T.trans hs4;refine ⟨⟨q+1,A2,c2,m - 64,by omega,T.more (by decide +kernel),o5,fun V hV=>?_,S⟩,?_⟩
   . have:=rd2 V _ (HB V hV)
     rw [List.drop_drop,List.take_of_length_le (by rw [List.length_drop];omega)] at this;rw [show 64 * (q+1)=64 * q+64 from by omega];exact this
   . show rK _ < rK _
     rw [eCtr,o5.eval (by rw [hz4];decide)]
     show m - 64 < m
     omega
 . refine dD o13 (wp_exit ?_) (by rw [decide_eq_false hlt]);have D2:=T.defers.trans D;have hq:q=al.length / 64:=by omega
   have hmm:m=al.length % 64:=by omega
   have hs':=nC hs al q;refine wp_seq (aUu w0 g2 n l.length cx Ax _ _ hs' hn _ S hz2 o1 o2 (fun a3 w5 hs3 S=>?_));obtain ⟨hz3,-,o1,o2,o4,o5⟩:=fH hs3 hz2 rfl o1 o2 o4 o5;have D2:=hs3.defers.trans D2;refine wp_seq (aPn w0 g2 _ m c A _ _ hs' _ S hz3 o2 o5 (fun a4 w6 hs4 S=>?_));obtain ⟨hz4,-,o1,o2,o4,o5⟩:=fH hs4 hz3 rfl o1 o2 o4 o5;have D2:=hs4.defers.trans D2;refine wp_seq (aSo w0 g2 g4 _ m c A _ hs' [_] _ S hz4 o2 o4 (fun a5 w7 hs5 S=>?_));obtain ⟨hz5,-,o1,o2,o4,o5⟩:=fH hs5 hz4 rfl o1 o2 o4 o5;have D2:=hs5.defers.trans D2;refine wp_ret (bodyPost_ret (aV (by rfl) (o4.eval (by rw [hz5];decide)) (S.at_ (l1:=[_,_])) underlying207 rfl (by rw [gA hs'];exact bC9)) D2 ?_);subst hq hmm;refine ⟨A,c,_,rfl,?_,fun V hV=>HB V (by rw [<- hrow];exact hV)⟩;have S:=S.drop.dropAt (l1:=[_]);rw [<- hrow] at S;exact S
theorem aYt(w0:World)(st:List Nat)(n:Nat)(v:Value)(L:List Res)(S:Held w0 w L)(hsz:a.tmps.size=35)(o0:Sl a 0 (.agg (cJ st n v))):bC false 0 f143 Q a w fun a' W q'=>(∃ g1 g2,Sl a' 1 (Pq g1 0) ∧ Sl a' 2 (Pq g2 0) ∧ Held w0 W (aB g2 23 (aA (List.replicate 32 0)) :: aB g1 207 (cJ st n v) :: L))->q':=by
 refine bU fun hend=>?_;unfold Sl at o0;have S0:=LH ((S.newBlk 207 (cJ st n v)).newBlk 23 (aA (List.replicate 32 0)));simp only [World.size_alloc] at S0;generalize hca:cJ st n v=ca at *;go_wp2
 try simp only [Act.put]
 exact hend _ _ tS (⟨w.heap.size,w.heap.size+1,cH,cH,S0.out⟩)
theorem aQh(g n:Nat)(cs:Array Value)(hc:cs[8]?=some (.int .i64 (n:Int)))(hb:aM w g 207 cs)(hn:n < 1152921504606846976)(hsz:a.tmps.size=35)(o1:Sl a 1 (Pq g 0)):bK 1 f143 Q a w fun a' q'=>Sl a' 3 (.int .u64 ((8 * n:Nat):Int))->q':=by
 refine jG fun hend=>?_;unfold Sl at o1;have c1:w.cell? ⟨g,8,none⟩=some (.int .i64 (n:Int)):=by rw [hb.cell];exact hc
 have hw:=LH (show ((n:Int) * 8) % 18446744073709551616=((8 * n:Nat):Int) from by omega);have hn:=LH hn;clear hb hc;go_wp2
 first|rw [hw.out]|skip
 try simp only [Act.put]
 exact hend _ tS sP
theorem aXc(w0:World)(L:List Res)(S:Held w0 w L)(hsz:a.tmps.size=35):bC false 2 f143 Q a w fun a' W q'=>(∃ A c,Sl a' 4 (.slice A 1 c) ∧ Held w0 W (aG 5 1 (.slice A 1 c) 1 (bv [128]) :: L))->q':=by
 refine bU fun hend=>?_;have S1:=LH (S.rownew (cZ w 5 1 1 #[.int .u8 128] rfl (by decide)) ((Kp.refl [] w).alloc _) (fun g hg=>Nat.le_of_eq (Option.some.inj hg)));go_wp2
 try simp only [Act.put]
 exact hend _ _ tS (⟨_,_,cH,S1.out⟩)
theorem aSt(g m p cm cp:Nat)(Am Ap:Option Addr)(cs:Array Value)(hc:cs[9]?=some (.slice Am m cm))(hb:aM w g 207 cs)(hm:m < 1000)(hp:p < 1000)(hsz:a.tmps.size=35)(o1:Sl a 1 (Pq g 0))(o4:Sl a 4 (.slice Ap p cp)):bK 3 f143 Q a w fun a' q'=>Sl a' 19 (.bool ((((m+p+8) % 64:Nat):Int) != 0))->q':=by
 refine jG fun hend=>?_;unfold Sl at o1 o4;have c1:w.cell? ⟨g,9,none⟩=some (.slice Am m cm):=by rw [hb.cell];exact hc
 have hw1:wrap64 ((m:Int)+(p:Int))=(m:Int)+(p:Int):=by unfold wrap64;omega
 have hw2:wrap64 ((m:Int)+(p:Int)+8)=((m+p+8:Nat):Int):=by unfold wrap64;omega
 have ht:Int.tmod ((m+p+8:Nat):Int) 64=(((m+p+8) % 64:Nat):Int):=rfl;obtain ⟨q,hq⟩:∃ q,(m+p+8) % 64=q:=⟨_,rfl⟩;rw [hq] at ht hend;obtain ⟨s,hs⟩:∃ s,m+p+8=s:=⟨_,rfl⟩;rw [hs] at ht hw2;clear hb hc hq hs hm hp;go_wp2_with fail
 try simp only [Act.put]
 exact hend _ tS sP
theorem aUq(w0:World)(A:Option Addr)(c:Nat)(xs:Bs)(hx:xs.length<=1000)(L:List Res)(S:Held w0 w (aG 5 1 (.slice A xs.length c) xs.length (bv xs) :: L))(hsz:a.tmps.size=35)(o4:Sl a 4 (.slice A xs.length c)):bC false 4 f143 Q a w fun a' W q'=>(∃ A c,Sl a' 4 (.slice A (xs ++ [0]).length c) ∧ Held w0 W (aG 5 1 (.slice A (xs ++ [0]).length c) (xs ++ [0]).length (bv (xs ++ [0])) :: L))->q':=by
 refine bU fun hend=>?_;unfold Sl at o4;have S1:=LH (S.alloc (.cells #[.int .u8 0] 5));have HR:=LH (jM w 5 #[.int .u8 0] [0] rfl (by simp));have Hx:=LH hx;clear S hx;obtain ⟨nx,hnx⟩:∃ nx,xs.length=nx:=⟨_,rfl⟩;have Hnx:=LH hnx;rw [hnx] at o4;clear hnx;go_wp2_with (at_builtin;refine iG [] rfl (.tmp 20) (.tmp 21) rfl (.slice A nx c) xs (by simp [Act.eval,hsz]) (by rw [<- Hnx.out];exact S1.out) (.slice (some ⟨w.heap.size,0,none⟩) 1 1) [0] (by simp [Act.eval,hsz]) HR.out (by have:=Hx.out;simp;omega) ?_;intro v2 w2 S2;have S2:=LH S2;obtain ⟨A2,c2,hv2,_,_⟩:=aS (S2.out.at_ (l1:=[]));subst hv2)
 try simp only [Act.put]
 exact hend _ _ tS (⟨A2,c2,cH,S2.out⟩)
theorem aYv(w0:World)(g1 n N cx cr:Nat)(Ax Ar:Option Addr)(st:List Nat)(xs r:Bs)(v:Value)(hv:v=.slice Ar r.length cr)(hs:st.length=8)(hst:Ws st)(hx:xs.length<=1000)(hr1:r.length<=1000)(hn:n < 1152921504606846976)(L:List Res)(r0:Res)(hr0:r0 ∈ L)(HB:∀ V,r0.ok V->Rd V 1 v r.length (bv r))(hsz:a.tmps.size=35)(o1:Sl a 1 (Pq g1 0))(o3:Sl a 3 (.int .u64 (N:Int)))(o4:Sl a 4 (.slice Ax xs.length cx))
 (S0:Held w0 w (aG 5 1 (.slice Ax xs.length cx) xs.length (bv xs) :: aB g1 207 (cJ st n v) :: L))
 (hend:∀ (a':Act) (vs:Nat->Value) (gs:Nat->(Option Addr × Nat × Value)) (W:World),Same a a' [23,24,25,26,27,28]->Held w0 W (aG 5 1 (vs 3) 8 (bv (be 8 N)) :: aG 5 1 (vs 4) (xs ++ be 8 N).length (bv (xs ++ be 8 N)) :: aG 5 1 (gs 5).2.2 (r ++ (xs ++ be 8 N)).length (bv (r ++ (xs ++ be 8 N))) :: aB g1 207 (cJ (fB st (r ++ (xs ++ be 8 N)) ((r ++ (xs ++ be 8 N)).length / 64)) (n+(xs ++ be 8 N).length) (.slice (gs 5).1 ((r ++ (xs ++ be 8 N)).length % 64) (gs 5).2.1)) :: L)->Q .normal a' W):(Code.region 5 (aK 5 f143).toArray true).wp prog Q a w:=by
 have hap:=pa 5 f143
 refine aP (Γ:=(Option Addr × Nat × Value)) (l:=(aK 5 f143)) 3 [0,1,2,3,4,5,6,9]
  (fun i vs gs=>match i with|0=>vs 0=.agg (cJ st n v)|1=>vs 1=.slice Ax xs.length cx|2=>vs 2=.int .u64 (N:Int)|3=>∃ A c,vs 3=.slice A 8 c|4=>∃ A c,vs 4=.slice A (xs ++ be 8 N).length c|5=>vs 5=.agg (cJ (fB st (r ++ (xs ++ be 8 N)) ((r ++ (xs ++ be 8 N)).length / 64)) (n+(xs ++ be 8 N).length) (.slice (gs 5).1 ((r ++ (xs ++ be 8 N)).length % 64) (gs 5).2.1))|_=>True)
  (fun i vs gs=>match i with|3=>[aG 5 1 (vs 3) 8 (bv (be 8 N))]|4=>[aG 5 1 (vs 4) (xs ++ be 8 N).length (bv (xs ++ be 8 N))]|5=>[aG 5 1 (gs 5).2.2 (r ++ (xs ++ be 8 N)).length (bv (r ++ (xs ++ be 8 N)))]|6=>[aB g1 207 (cJ (fB st (r ++ (xs ++ be 8 N)) ((r ++ (xs ++ be 8 N)).length / 64)) (n+(xs ++ be 8 N).length) (.slice (gs 5).1 ((r ++ (xs ++ be 8 N)).length % 64) (gs 5).2.1))]|7=>[aG 5 1 (.slice Ax xs.length cx) xs.length (bv xs)]|8=>[aB g1 207 (cJ st n v)]|9=>L|_=>[])
  (fun i=>match i with|4=>[7]|6=>[8]|_=>[]) (fun i=>match i with|0=>[8]|4=>[3]|5=>[4,9]|_=>[]) S0 (by kernel_rfl) hap (by kernel_rfl) (by kernel_rfl) (fun i=>match i with|0=>[0]|1=>[1]|2=>[2]|3=>[3]|4=>[4]|5=>[5]|6=>[5]|_=>[]) (by kernel_rfl) ?_ (by kernel_rfl) ?_ ?_ ?_
 . intro s vs vs' gs gs' h
   iterate 10 (rcases s with _|s;· (first|exact ⟨rfl,id⟩|(simp only [List.mem_cons,List.not_mem_nil,or_false,forall_eq] at h;simp [h])))
   exact ⟨rfl,id⟩
 . simp only [List.range,List.range.loop,List.flatMap_cons,List.flatMap_nil,List.append_nil];exact List.Perm.refl _
 . clear S0 hend
   and_intros <;> try intro vs gs A' W LF hA S hR hd hu K hK
   . exact dC (cJ st n v) (eO 1 o1) (aM.agg (show aM W g1 207 (cJ st n v) from S.ok (aB g1 207 (cJ st n v)) (hR 8 (List.mem_singleton.2 rfl) _ (List.mem_singleton.2 rfl)))) underlying207 (by rw [gA hs];exact bC9)
   . exact aJ (eO 4 o4)
   . exact aJ (eO 3 o3)
   . replace hK:=hK default;have e25:=vD 25 2;clear hA o1 o3 o4;go_step;refine (aBa w0 LF N _ S).mono ?_;rintro e w' ⟨u,rfl,S2⟩;obtain ⟨A1,c1,hu,_,_⟩:=aS (S2.at_ (l1:=[]));exact hK _ _ S2 ⟨A1,c1,hu⟩
   . replace hK:=hK default;have e24:=vD 24 1;have f3:∃ A c,vs 3=.slice A 8 c:=hd 3 (by kernel_rfl);have e26:=eU 26 3;clear hA o1 o3 o4;have h3:=iN (e:=5) S (List.mem_cons_of_mem _ (hR 3 (List.mem_singleton.2 rfl) _ (List.mem_singleton.2 rfl)));refine lO (.tmp 24) (.tmp 26) 32 5 rfl bC2 underlying32 rfl (by decide) (.slice Ax xs.length cx) xs.length (bv xs) (by simpa [Act.eval] using e24) S (vs 3) 8 (bv (be 8 N)) (by simpa [Act.eval] using e26) h3 (eI _) (by unfold maxLen;omega) (by omega) (fun v' w' S'=>?_);rw [<- fX,show xs.length+8=(xs ++ be 8 N).length from by simp] at S';obtain ⟨A1,c1,hu,_,_⟩:=aS (S'.at_ (l1:=[]));exact hK v' w' S' ⟨A1,c1,hu⟩
   . have e23:=vD 23 0;have f4:∃ A c,vs 4=.slice A (xs ++ be 8 N).length c:=hd 4 (by kernel_rfl);have e27:=eU 27 4;clear hA o1 o3 o4;obtain ⟨A1,c1,hq⟩:=f4;rw [hq] at e27;have h4:aG 5 1 (vs 4) (xs ++ be 8 N).length (bv (xs ++ be 8 N)) ∈ LF:=hR 4 (List.mem_cons_self ..) _ (List.mem_singleton.2 rfl);have h9:r0 ∈ LF:=hR 9 (List.mem_cons_of_mem _ (List.mem_singleton.2 rfl)) r0 hr0;rw [hq] at h4;have HT:=wA w0 LF st n hs hst Ar A1 cr c1 r (xs ++ be 8 N) (by simp;omega) (by simp;omega) W S (fun V L' SV=>by have:=HB V (SV.ok r0 (List.mem_append_right _ h9));rw [hv] at this;exact this) (fun V L' SV=>Rd.of_own (SV.ok _ (List.mem_append_right _ h4)));rw [<- hv] at HT;generalize hca:cJ st n v=ca at *;generalize hln:(xs ++ be 8 N).length=ln at *;go_step;refine HT.mono ?_
     rintro e w' ⟨A2,c2,u,rfl,S2,H2⟩;subst hln;exact hK (A2,c2,u) _ _ S2 rfl
   . have e1:=eO 1 o1;have e28:=vD 28 5;clear hA o1 o3 o4;have S1:Held w0 W (aB g1 207 (cJ st n v) :: LF):=S;have hsz2:(cJ (fB st (r ++ (xs ++ be 8 N)) ((r ++ (xs ++ be 8 N)).length / 64)) (n+(xs ++ be 8 N).length) (.slice (gs 5).1 ((r ++ (xs ++ be 8 N)).length % 64) (gs 5).2.1)).size=10:=gA (nC hs _ _);refine eW (.tmp 1) (.tmp 28) 207 rfl g1 0 (by simpa [Act.eval] using e1) (cJ (fB st (r ++ (xs ++ be 8 N)) ((r ++ (xs ++ be 8 N)).length / 64)) (n+(xs ++ be 8 N).length) (.slice (gs 5).1 ((r ++ (xs ++ be 8 N)).length % 64) (gs 5).2.1)) (by simpa [Act.eval] using e28) 207 _ (S1.at_ (l1:=[])) (by rw [hsz2];exact bC9) (by rw [hsz2,gA hs];exact Nat.le_refl _) (uS rfl) (fun w' hbk k=>hK default undef _ ?_ trivial);rw [rZ _ _ (by rw [hsz2,gA hs])] at hbk;exact Held.setBlk (l1:=[]) S1 hbk k
   . trivial
 . intro vs gs W S hp;have S:Held w0 W (aG 5 1 (vs 3) 8 (bv (be 8 N)) :: aG 5 1 (vs 4) (xs ++ be 8 N).length (bv (xs ++ be 8 N)) :: aG 5 1 (gs 5).2.2 (r ++ (xs ++ be 8 N)).length (bv (r ++ (xs ++ be 8 N))) :: aB g1 207 (cJ (fB st (r ++ (xs ++ be 8 N)) ((r ++ (xs ++ be 8 N)).length / 64)) (n+(xs ++ be 8 N).length) (.slice (gs 5).1 ((r ++ (xs ++ be 8 N)).length % 64) (gs 5).2.1)) :: L):=by simpa only [List.flatMap_cons,List.flatMap_nil,List.append_nil,List.nil_append,List.cons_append,List.append_assoc] using S
   rw [aF];exact hend _ vs gs W sQ  S
theorem aV8(w0:World)(L:List Res)(S:Held w0 w L)(hsz:a.tmps.size=35):bC false 6 f143 Q a w fun a' W q'=>(∃ g,Sl a' 5 (Pq g 0) ∧ Held w0 W (aB g 23 (aA (List.replicate 32 0)) :: L))->q':=by
 refine bU fun hend=>?_;have S0:=LH (S.newBlk 23 (aA (List.replicate 32 0)));go_wp2
 try simp only [Act.put]
 exact hend _ _ tS (⟨w.heap.size,cH,S0.out⟩)
theorem aY9(w0:World)(g1 g5 n:Nat)(st:List Nat)(v:Value)(hs:st.length=8)(L:List Res)(hsz:a.tmps.size=35)(o1:Sl a 1 (Pq g1 0))(o5:Sl a 5 (Pq g5 0))
 (S0:Held w0 w (aB g5 23 (aA (List.replicate 32 0)) :: aB g1 207 (cJ st n v) :: L)):RG2 7 f143 Q a w fun a' vs gs W q'=>Held w0 W (aG 5 1 (vs 3) 32 (bv (st.flatMap (be 4))) :: aB g5 23 (aA (st.flatMap (be 4))) :: aB g1 207 (cJ st n v) :: L)->q':=by
 intro hend;have hap:=pa 7 f143
 refine aP (Γ:=Unit) (l:=(aK 7 f143)) 3 [0,1,2,3,4,6,7]
  (fun i vs gs=>match i with|0=>vs 0=.slice (some ⟨g5,0,none⟩) 32 32|1=>vs 1=Pq g1 0|2=>vs 2=.agg (aW st)|3=>∃ A c,vs 3=.slice A 32 c|_=>True)
  (fun i vs gs=>match i with|3=>[aG 5 1 (vs 3) 32 (bv (st.flatMap (be 4)))]|4=>[aB g5 23 (aA (st.flatMap (be 4)))]|5=>[aB g5 23 (aA (List.replicate 32 0))]|6=>[aB g1 207 (cJ st n v)]|7=>L|_=>[])
  (fun i=>match i with|4=>[5]|_=>[]) (fun i=>match i with|2=>[6]|4=>[3]|_=>[]) S0 (by kernel_rfl) hap (by kernel_rfl) (by kernel_rfl) (fun i=>match i with|0=>[0]|1=>[1]|2=>[2]|3=>[3]|_=>[]) (by kernel_rfl) ?_ (by kernel_rfl) ?_ ?_ ?_
 . intro s vs vs' gs gs' h
   iterate 8 (rcases s with _|s;· (first|exact ⟨rfl,id⟩|(simp only [List.mem_cons,List.not_mem_nil,or_false,forall_eq] at h;simp [h])))
   exact ⟨rfl,id⟩
 . simp only [List.range,List.range.loop,List.flatMap_cons,List.flatMap_nil,List.append_nil];exact List.Perm.refl _
 . clear S0 hend
   and_intros <;> try intro vs gs A' W LF hA S hR hd hu K hK
   . exact aJ (eO 5 o5)
   . exact aJ (eO 1 o1)
   . exact dC (aW st) (vD 30 1) (qJ (show aM W g1 207 (cJ st n v) from S.ok (aB g1 207 (cJ st n v)) (hR 6 (List.mem_singleton.2 rfl) _ (List.mem_singleton.2 rfl))) hs) underlying205 (by rw [bI,hs];exact bC1)
   . replace hK:=hK default;have e31:=vD 31 2;clear hA o1 o5;generalize hca:aW st=ca at *;go_step;rw [<- hca];refine (aAe w0 LF st hs _ S).mono ?_;rintro e w' ⟨u,rfl,S2⟩;obtain ⟨A1,c1,hu,_,_⟩:=aS (S2.at_ (l1:=[]));exact hK _ _ S2 ⟨A1,c1,hu⟩
   . replace hK:=hK default;have e29:=vD 29 0;have f3:∃ A c,vs 3=.slice A 32 c:=hd 3 (by kernel_rfl);have e32:=eU 32 3;clear hA o1 o5;have S1:Held w0 W (aB g5 23 (aA (List.replicate 32 0)) :: LF):=S;have h3:=iN (e:=5) S1 (List.mem_cons_of_mem _ (hR 3 (List.mem_singleton.2 rfl) _ (List.mem_singleton.2 rfl)));have hfl:(st.flatMap (be 4)).length=32:=by rw [aGh,hs]
     refine qN (.tmp 29) (.tmp 32) 32 32 rfl 5 underlying32 (by kernel_rfl) g5 0 32 32 (by simpa [Act.eval] using e29) _ (by simpa [Act.eval] using e32) 32 (bv (st.flatMap (be 4))) h3 23 _ (S1.at_ (l1:=[])) (by rw [aC];exact Nat.le_refl _) (eI _) 32 rfl (fun w' hbk k=>hK _ _ ?_ trivial);rw [List.take_of_length_le (by rw [aX];omega),show (splice (aA (List.replicate 32 0)).toList 0 (bv (st.flatMap (be 4)))).toArray=aA (st.flatMap (be 4)) from by unfold splice;rw [List.take_zero,List.nil_append,List.drop_of_length_le (by rw [aX,hfl];exact Nat.le_refl _),List.append_nil];rfl] at hbk;exact Held.setBlk (l1:=[]) S1 hbk k
   . trivial
 . intro vs gs W S hp;have S:Held w0 W (aG 5 1 (vs 3) 32 (bv (st.flatMap (be 4))) :: aB g5 23 (aA (st.flatMap (be 4))) :: aB g1 207 (cJ st n v) :: L):=by simpa only [List.flatMap_cons,List.flatMap_nil,List.append_nil,List.nil_append,List.cons_append,List.append_assoc] using S
   rw [aF];exact hend _ vs gs W sQ  S
theorem aWf(w0:World)(g5 g2:Nat)(cs c2:Bs)(hl:cs.length=32)(h2:c2.length=32)(L1 L2 L3:List Res)(S:Held w0 w (L1 ++ aB g5 23 (aA cs) :: (L2 ++ aB g2 23 (aA c2) :: L3)))(hsz:a.tmps.size=35)(o2:Sl a 2 (Pq g2 0))(o5:Sl a 5 (Pq g5 0)):bC false 8 f143 Q a w fun a' W q'=>(Held w0 W ((L1 ++ aB g5 23 (aA cs) :: L2) ++ aB g2 23 (aA cs) :: L3))->q':=by
 refine bU fun hend=>?_;unfold Sl at o2 o5;have S:=LH S;have HL:=LH hl;have H2:=LH h2;clear hl h2;have S':Hid (Held w0 w ((L1 ++ aB g5 23 (aA cs) :: L2) ++ aB g2 23 (aA c2) :: L3)):=LH (by have:=S.out;simpa [List.append_assoc] using this)
 go_wp2_with (first
  |(refine aQ rfl 23 (.tmp 5) rfl g5 (aO o5) 23 _ S.out.at_ _ underlying23 rfl (by rw [aC,HL.out];exact bBy) ?_)
  |(refine aD rfl 23 (.tmp 2) (.tmp 34) rfl g2 (aO o2) (aA cs) aE 23 _ S'.out.at_ (by rw [aC,HL.out];exact bBy) (by rw [aC,aC,HL.out,H2.out]) (aI cs) ?_;intro w7 b7 k7;have S7:=LH (Held.setBlk S'.out b7 k7);clear b7 k7))
 try simp only [Act.put]
 exact hend _ _ tS (S7.out)
def bBs:List Nat:=[4,11,12,13,14,15,16,17,18,19,20,21,22]
def mL (j:Nat):List UInt8:=128 :: List.replicate j 0
theorem mE(j:Nat):(mL j).length=1+j:=by unfold mL;simp;omega
theorem aDf(j:Nat):mL j ++ [0]=mL (j+1):=by unfold mL;rw [List.cons_append,<- List.replicate_succ']
theorem bBu(m r j:Nat)(hr:r=m % 64):((r+(1+j)+8) % 64=0) ↔ ((m+1+j) % 64=56):=by omega
theorem aG2(w0:World)(L:List Res)(m:Bs)(hm:m.length < 1152921504606846976)(A:Option Addr)(c:Nat)(r0:Res)(hr0:r0 ∈ L)(w:World)(S:Held w0 w L)
 (HB:∀ V,r0.ok V->Rd V 1 (.slice A (m.length % 64) c) (m.length % 64) (bv (m.drop (64 * (m.length / 64))))):
 Calls prog 143 #[.agg (cJ (jO m (m.length / 64)) m.length (.slice A (m.length % 64) c))] w fun e w'=>e=.returned (.agg (aA (dE m))) ∧ Held w0 w' L:=by
 have hs:=iI m (m.length / 64);have hst:=aCk m (m.length / 64);obtain ⟨rr,hrr⟩:∃ rr,m.drop (64 * (m.length / 64))=rr:=⟨_,rfl⟩;have hrl:rr.length=m.length % 64:=by rw [<- hrr,List.length_drop];omega
 have hr64:rr.length < 64:=by omega
 rw [hrr,<- hrl] at HB;rw [<- hrl];refine aR func143 rfl 35 rfl (fun a0 hsz hdf hAr=>?_);have hz0:a0.tmps.size=35:=hsz;have D:=hdf;have o0:=hAr 0 _ rfl;refine wp_seq (aYt w0 _ _ _ _ S hz0 o0 (fun a1 w1 hs1 h=>?_));obtain ⟨hz1,D⟩:=dS hs1 hz0 D;obtain ⟨g1,g2,o1,o2,S⟩:=h;have S:=S.perm (List.Perm.swap _ _ _);refine wp_seq (aQh g1 _ _ (aAa hs) (S.at_ (l1:=[])) hm hz1 o1 (fun a2 hs2 o3=>?_));obtain ⟨hz2,D,o1,o2⟩:=dU hs2 hz1 D o1 o2;refine wp_seq (aXc w0 _ S hz2 (fun a3 w3 hs3 h=>?_));obtain ⟨hz3,D,o1,o2,o3⟩:=dF hs3 hz2 D o1 o2 o3;obtain ⟨Ap,cp,o4,S⟩:=h;refine wp_seq (wp_block ?_)
 (conv=>arg 2;whnf)
 refine wp_loop (fun a' w'=>∃ (j:Nat) (Ap:Option Addr) (cp:Nat),j<=iE m.length ∧ Same a3 a' bBs ∧ Sl a' 4 (.slice Ap (mL j).length cp) ∧ Held w0 w' (aG 5 1 (.slice Ap (mL j).length cp) (mL j).length (bv (mL j)) :: aB g1 207 (cJ (jO m (m.length / 64)) m.length (.slice A rr.length c)) :: aB g2 23 (aA (List.replicate 32 0)) :: L)) (fun a' _=>65 - rK (a'.eval (.tmp 4))) ⟨0,Ap,cp,by omega,Same.refl _ _,o4,S⟩ ?_;clear o4 S;rintro a1 w1 ⟨j,Ap,cp,hj,T,o4,S⟩;have hz1:=T.size.trans hz3;have o1:=T.keep 1 _ (by decide) o1;have o2:=T.keep 2 _ (by decide) o2;have o3:=T.keep 3 _ (by decide) o3;have eCtr:=o4.eval (by rw [hz1];decide);have hpl:=mE j;have hpz:=(mP m.length).2;have hiff:=bBu m.length rr.length j hrl;refine wp_seq (wp_seq (aSt g1 rr.length _ c cp A Ap _ (qA hs) (S.at_ (l1:=[_])) (by omega) (by rw [hpl];omega) hz1 o1 o4 (fun a2 hs2 o19=>?_)));obtain ⟨hz2,-,o1,o2,o3,o4⟩:=fH hs2 hz1 rfl o1 o2 o3 o4;have T:=T.trans hs2;rw [hpl] at o19
 by_cases hlt:(rr.length+(1+j)+8) % 64=0
 . refine dD o19 (wp_exit ?_) (by rw [hlt];rfl);obtain rfl:=yH _ _ (hiff.1 hlt) hj
   have D2:=T.defers.trans D;refine wp_seq (aYv w0 g1 m.length (8 * m.length) cp c Ap A _ (mL (iE m.length)) rr (.slice A rr.length c) rfl hs hst (by rw [hpl];omega) (by omega) hm (aB g2 23 (aA (List.replicate 32 0)) :: L) r0 (List.mem_cons_of_mem _ hr0) HB hz2 o1 o3 o4 S (fun a3 vs5 gs5 w5 hs3 S=>?_));obtain ⟨hz3,-,o1,o2⟩:=dU hs3 hz2 rfl o1 o2;have D2:=hs3.defers.trans D2;have hal:m ++ (mL (iE m.length) ++ be 8 (8 * m.length))=pad m:=by unfold pad mL;rfl
   have hpm:=aKy m
   have hpl2:(pad m).length=64 * (m.length / 64)+(rr ++ (mL (iE m.length) ++ be 8 (8 * m.length))).length:=by
    rw [<- hal];simp only [List.length_append];omega
   have hst2:fB (jO m (m.length / 64)) (rr ++ (mL (iE m.length) ++ be 8 (8 * m.length))) ((rr ++ (mL (iE m.length) ++ be 8 (8 * m.length))).length / 64)=jO (pad m) ((pad m).length / 64):=by
    rw [<- hrr,aOf (by omega),hal,hrr]
    congr 1
    omega
   rw [hst2] at S;have hs2:=iI (pad m) ((pad m).length / 64);refine wp_seq (aV8 w0 _ S hz3 (fun a4 w6 hs4 h=>?_));obtain ⟨hz4,-,o1,o2⟩:=dU hs4 hz3 rfl o1 o2;have D2:=hs4.defers.trans D2;obtain ⟨g5,o5,S⟩:=h;have S:=S.perm (List.Perm.cons _ (List.perm_middle (l₁:=[_,_,_])));refine wp_seq (aY9 w0 g1 g5 _ _ _ hs2 _ hz4 o1 o5 S (fun a5 vs7 gs7 w7 hs5 S=>?_));obtain ⟨hz5,-,o1,o2,o5⟩:=dF hs5 hz4 rfl o1 o2 o5;have D2:=hs5.defers.trans D2;have ef:(jO (pad m) ((pad m).length / 64)).flatMap (be 4)=dE m:=rfl;rw [ef] at S;refine wp_seq (aWf w0 g5 g2 _ _ (aY m) rfl [_] [_,_,_,_] _ S hz5 o2 o5 (fun a6 w8 hs6 S=>?_));obtain ⟨hz6,-,o1,o2,o5⟩:=dF hs6 hz5 rfl o1 o2 o5;have D2:=hs6.defers.trans D2;refine wp_ret (bodyPost_ret (aV (by rfl) (o2.eval (by rw [hz6];decide)) (S.at_ (l1:=[_,_,_,_,_,_])) underlying23 rfl (by rw [aC,aY];exact bBy)) D2 ⟨rfl,?_⟩);exact S.drop.drop.drop.drop.drop.drop.drop
 . refine cS o19 (wp_skip ?_) (by rw [bne_iff_ne.2 (by omega)]);have hjl:=aCh _ _ (fun h=>hlt (hiff.2 h)) hj;refine wp_block ?_;refine aUq w0 Ap cp _ (by rw [hpl];omega) _ S hz2 o4 (fun a3 w4 hs3 h=>?_);obtain ⟨hz3,-,o1,o2,o3⟩:=dF hs3 hz2 rfl o1 o2 o3;have T:=T.trans hs3;obtain ⟨A2,c2,o4,S⟩:=h;rw [aDf] at o4 S;refine ⟨⟨j+1,A2,c2,hjl,T.more (by decide +kernel),o4,S⟩,?_⟩
   show 65 - rK _ < 65 - rK _
   rw [eCtr,o4.eval (by rw [hz3];decide)]
   show 65 - (mL (j+1)).length < 65 - (mL j).length
   rw [mE,mE];omega
theorem pD(w0:World)(L:List Res)(A:Option Addr)(c:Nat)(m:Bs)(hm:m.length<=140737488355328)(w:World)(S:Held w0 w L)(HX:∀ V L',Held w0 V (L' ++ L)->Rd V 1 (.slice A m.length c) m.length (bv m)):
 Calls prog 124 #[.slice A m.length c] w fun e w'=>e=.returned (.agg (aA (dE m))) ∧ Held w0 w' L:=by
 have HX:=LH HX;have S0:=LH (S.newBlk 23 (aA (List.replicate 32 0)));clear S;have HT:Hid (∀ V,Held w0 V (aB w.heap.size 23 (aA (List.replicate 32 0)) :: L)->Calls prog 142 #[.agg (cJ hF 0 (.slice none 0 0)),.slice A m.length c] V (aEl w0 (aB w.heap.size 23 (aA (List.replicate 32 0)) :: L) hF 0 m m.length)):=LH (fun V SV=>wA w0 _ hF 0 rfl aOh none A 0 c [] m (by simpa using hm) (by omega) V SV (fun V' L' _=>Rd.nil _ _) (fun V' L' SV'=>HX.out V' (L' ++ [_]) (by rw [List.append_assoc];exact SV')));generalize hg2:w.heap.size=g2 at *;obtain ⟨ch,hch⟩:∃ ch,Hid (cJ hF 0 (.slice none 0 0)=ch):=⟨_,LH rfl⟩;have HN:=LH aF8;rw [hch.out] at HT HN;have hO:=LH (aI (dE m));have hsz1:Hid ((aA (dE m)).size=32):=LH (by rw [aC,aY])
 have HE:Hid (∀ V A c v,Held w0 V (aG 5 1 v m.length (bv m) :: aB g2 23 (aA (List.replicate 32 0)) :: L)->(∀ V,(aG 5 1 v m.length (bv m)).ok V->Rd V 1 (.slice A (m.length % 64) c) (m.length % 64) (bv (m.drop (64 * (m.length / 64)))))->
  Calls prog 143 #[.agg (cJ (fB hF m (m.length / 64)) (0+m.length) (.slice A (m.length % 64) c))] V fun e w'=>e=.returned (.agg (aA (dE m))) ∧ Held w0 w' (aG 5 1 v m.length (bv m) :: aB g2 23 (aA (List.replicate 32 0)) :: L)):=LH (fun V A c v SV HB=>by
  rw [aO5,Nat.zero_add];exact aG2 w0 _ m (by omega) A c _ (List.mem_cons_self ..) V SV HB)
 obtain ⟨cq,hcq⟩:∃ cq,Hid (aA (dE m)=cq):=⟨_,LH rfl⟩;rw [hcq.out] at HE hO hsz1 ⊢;generalize hln:m.length=ml at *;go_enter func124,ntmps124;go_wp2_with fail
 refine (HN.out _).mono ?_;rintro e w2 ⟨rfl,k2⟩;have S2:=LH (S0.out.kp k2);clear k2;go_wp2_with fail
 refine (HT.out _ S2.out).mono ?_;rintro e w3 ⟨A3,c3,v3,rfl,S3,H3⟩;rw [hln] at S3 H3;have HE3:=LH (HE.out w3 A3 c3 v3 S3 H3);clear S3 H3;obtain ⟨cu,hcu⟩:∃ cu,cJ (fB hF m (ml / 64)) (0+ml) (.slice A3 (ml % 64) c3)=cu:=⟨_,rfl⟩;rw [hln,hcu];rw [hcu] at HE3;clear hcu;go_wp2_with fail
 refine HE3.out.mono ?_;rintro e w4 ⟨rfl,S4⟩;have S4:=LH S4;go_wp2_with (refine aD rfl 23 (.tmp 2) (.tmp 6) rfl g2 (by simp [Act.eval,Act.put]) cq (by simp [Act.eval,Act.put]) 23 _ (S4.out.at_ (l1:=[_])) (by rw [hsz1.out];exact bBy) (by rw [hsz1.out];rfl) hO.out ?_;intro w5 b5 k5;have S5:=LH (Held.setBlk (l1:=[_]) S4.out b5 k5);clear b5 k5)
 refine bodyPost_ret (aV (by rfl) rfl (S5.out.at_ (l1:=[_])) underlying23 rfl (by rw [hsz1.out];exact bBy)) rfl ?_;exact ⟨rfl,S5.out.drop.drop⟩
theorem aX7(w0:World)(L:List Res)(S:Held w0 w L)(hsz:a.tmps.size=54):bC false 0 f114 Q a w fun a' W q'=>(∃ g,Sl a' 4 (Pq g 0) ∧ Held w0 W (aB g 23 (aA (List.replicate 32 0)) :: L))->q':=by
 refine bU fun hend=>?_;have S0:=LH (S.newBlk 23 (aA (List.replicate 32 0)));go_wp2
 try simp only [Act.put]
 exact hend _ _ tS (⟨w.heap.size,cH,S0.out⟩)
theorem aUw(w0:World)(A:Option Addr)(c:Nat)(s:Bs)(hl:s.length<=140737488355328)(L:List Res)(hr:Rd w 1 (.slice A s.length c) s.length (bv s))(S:Held w0 w L)(hsz:a.tmps.size=54)(o0:Sl a 0 (.slice A s.length c)):bC false 1 f114 Q a w fun a' W q'=>(∃ A c,Sl a' 5 (.slice A s.length c) ∧ Held w0 W (aG 5 1 (.slice A (s).length c) (s).length (bv (s)) :: L))->q':=by
 refine bU fun hend=>?_;unfold Sl at o0;have S:=LH S;have hr:=LH hr;have hl:=LH hl;obtain ⟨ns,hns⟩:∃ ns,s.length=ns:=⟨_,rfl⟩;have Hns:=LH hns;rw [hns] at o0;clear hns;go_wp2_with (at_builtin;refine wM rfl (.const (.slice none 0 0)) (.tmp 11) rfl rfl S.out (.slice A ns c) s (by simp [Act.eval,hsz]) (by rw [<- Hns.out];exact hr.out) hl.out ?_;intro v1 w1 S1;have S1:=LH S1;obtain ⟨A1,c1,hv1,_,_⟩:=aS (S1.out.at_ (l1:=[]));subst hv1)
 try simp only [Act.put]
 exact hend _ _ tS (⟨A1,c1,cH,S1.out⟩)
theorem aTj(A:Option Addr)(n c:Nat)(hsz:a.tmps.size=54)(o5:Sl a 5 (.slice A n c)):bK 2 f114 Q a w fun a' q'=>Sl a' 15 (.bool (decide (64 < n)))->q':=rO
theorem aRi(A:Option Addr)(n c:Nat)(hsz:a.tmps.size=54)(o5:Sl a 5 (.slice A n c)):bK 5 f114 Q a w fun a' q'=>Sl a' 22 (.bool (decide (n < 64)))->q':=rO
theorem aZg(w0:World)(A:Option Addr)(c:Nat)(s:Bs)(hl:s.length<=140737488355328)(L:List Res)(S:Held w0 w (aG 5 1 (.slice A (s).length c) (s).length (bv (s)) :: L))(hsz:a.tmps.size=54)(o5:Sl a 5 (.slice A s.length c)):bC false 3 f114 Q a w fun a' W q'=>(∃ g,Sl a' 6 (Pq g 0) ∧ Held w0 W (aB g 23 (aA (dE s)) :: aG 5 1 (.slice A (s).length c) (s).length (bv (s)) :: L))->q':=by
 refine bU fun hend=>?_;unfold Sl at o5;have HR:=LH (pD w0 _ A c s hl w S (fun V L' SV=>Rd.of_own SV.at_));have hO:=LH (aI (dE (s)));have hsz1:Hid ((aA (dE (s))).size=32):=LH (by rw [aC,aY]);obtain ⟨ch,hch⟩:∃ ch,Hid (aA (dE (s))=ch):=⟨_,LH rfl⟩;rw [hch.out] at HR hO hsz1;obtain ⟨ns,hns⟩:∃ ns,s.length=ns:=⟨_,rfl⟩;have Hns:=LH hns;rw [hns] at o5 HR;clear hns;clear S hl;go_wp2_with fail
 refine HR.out.mono ?_;rintro e w4 ⟨rfl,S4⟩;have S4:=LH (S4.newBlk 23 (aA (List.replicate 32 0)));rw [<- Hns.out] at S4;go_wp2_with (refine aD rfl 23 (.tmp 6) (.tmp 17) rfl w4.heap.size aE ch aE 23 _ (S4.out.at_ (l1:=[])) (by rw [hsz1.out];exact bBy) (by rw [hsz1.out];rfl) hO.out ?_;intro w5 b5 k5;have S5:=LH (Held.setBlk (l1:=[]) S4.out b5 k5);clear b5 k5)
 rw [<- hch.out] at S5
 try simp only [Act.put]
 exact hend _ _ tS (⟨_,cH,S5.out⟩)
theorem aS7(w0:World)(g6:Nat)(h:Bs)(hh:h.length=32)(L:List Res)(S:Held w0 w (aB g6 23 (aA h) :: L))(hsz:a.tmps.size=54)(o6:Sl a 6 (Pq g6 0)):bC false 4 f114 Q a w fun a' W q'=>(∃ A c,Sl a' 5 (.slice A h.length c) ∧ Held w0 W (aG 5 1 (.slice A (h).length c) (h).length (bv (h)) :: aB g6 23 (aA h) :: L))->q':=by
 refine bU fun hend=>?_;unfold Sl at o6;have hr:=LH (Rd.of_hash (S.at_ (l1:=[])) hh);have S:=LH S;have hh:=LH hh;go_wp2_with (at_builtin;refine wM rfl (.const (.slice none 0 0)) (.tmp 18) rfl rfl S.out (.slice (some ⟨g6,0,none⟩) 32 32) h (by simp [Act.eval,hsz]) (by rw [hh.out];exact hr.out) (by rw [hh.out];decide) ?_;intro v1 w1 S1;have S1:=LH S1;obtain ⟨A1,c1,hv1,_,_⟩:=aS (S1.out.at_ (l1:=[]));subst hv1)
 try simp only [Act.put]
 exact hend _ _ tS (⟨A1,c1,(by unfold Sl;simp [hsz];exact hh.out.symm),S1.out⟩)
theorem aWd(w0:World)(A:Option Addr)(c:Nat)(xs:Bs)(hx:xs.length<=1000)(L:List Res)(S:Held w0 w (aG 5 1 (.slice A (xs).length c) (xs).length (bv (xs)) :: L))(hsz:a.tmps.size=54)(o5:Sl a 5 (.slice A xs.length c)):bC false 6 f114 Q a w fun a' W q'=>(∃ A c,Sl a' 5 (.slice A (xs ++ [0]).length c) ∧ Held w0 W (aG 5 1 (.slice A (xs ++ [0]).length c) (xs ++ [0]).length (bv (xs ++ [0])) :: L))->q':=by
 refine bU fun hend=>?_;unfold Sl at o5;have S1:=LH (S.alloc (.cells #[.int .u8 0] 5));have HR:=LH (jM w 5 #[.int .u8 0] [0] rfl (by simp));have Hx:=LH hx;clear S hx;obtain ⟨nx,hnx⟩:∃ nx,xs.length=nx:=⟨_,rfl⟩;have Hnx:=LH hnx;rw [hnx] at o5;clear hnx;go_wp2_with (at_builtin;refine iG [] rfl (.tmp 23) (.tmp 24) rfl (.slice A nx c) xs (by simp [Act.eval,hsz]) (by rw [<- Hnx.out];exact S1.out) (.slice (some ⟨w.heap.size,0,none⟩) 1 1) [0] (by simp [Act.eval,hsz]) HR.out (by have:=Hx.out;simp;omega) ?_;intro v2 w2 S2;have S2:=LH S2;obtain ⟨A2,c2,hv2,_,_⟩:=aS (S2.out.at_ (l1:=[]));subst hv2)
 try simp only [Act.put]
 exact hend _ _ tS (⟨A2,c2,cH,S2.out⟩)
theorem aXo(hsz:a.tmps.size=54):bK 7 f114 Q a w fun a' q'=>Sl a' 7 (.slice none 0 0)->Sl a' 8 (.slice none 0 0)->q':=rO
theorem aV2(hsz:a.tmps.size=54):bK 8 f114 Q a w fun a' q'=>Sl a' 9 (Nq 0)->q':=rO
theorem aPq(k:Nat)(hsz:a.tmps.size=54)(o9:Sl a 9 (.int .i64 (k:Int))):bK 9 f114 Q a w fun a' q'=>Sl a' 27 (.bool (decide ((k:Int) < 64)))->q':=rO
theorem aJf(k:Nat)(hk:k < 64)(hsz:a.tmps.size=54)(o9:Sl a 9 (.int .i64 (k:Int))):bK 10 f114 Q a w fun a' q'=>Sl a' 9 (Nq (k+1))->q':=rO
theorem aKa(w0:World)(k c ck:Nat)(A:Option Addr)(adk:Addr)(xs:Bs)(b:UInt8)(hk:k < 64)(hx:xs.length<=1000)(hc:w.cell? (adk.add k)=some (.int .u8 (b.toNat:Int)))(LL:List Res)(S:Held w0 w (aG 5 1 (.slice A (xs).length c) (xs).length (bv (xs)) :: LL))(hsz:a.tmps.size=54)(o5:Sl a 5 (.slice (some adk) 64 ck))(o7:Sl a 7 (.slice A xs.length c))(o9:Sl a 9 (.int .i64 (k:Int))):bC false 11 f114 Q a w fun a' W q'=>(∃ A2 c2,Sl a' 7 (.slice A2 (xs ++ [b ^^^ 54]).length c2) ∧ Held w0 W (aG 5 1 (.slice A2 (xs ++ [b ^^^ 54]).length c2) (xs ++ [b ^^^ 54]).length (bv (xs ++ [b ^^^ 54])) :: LL))->q':=by
 refine bU fun hend=>?_;unfold Sl at o5 o7 o9;have hxb:=tH b 54;rw [show ((54:UInt8).toNat:Int)=54 from rfl] at hxb;have S1:=LH (S.alloc (.cells #[.int .u8 ((b ^^^ 54).toNat:Int)] 5));have HR:=LH (jM w 5 #[.int .u8 ((b ^^^ 54).toNat:Int)] [b ^^^ 54] rfl (by simp));have Hx:=LH hx;clear S hx;generalize b ^^^ 54=y at *;obtain ⟨nx,hnx⟩:∃ nx,xs.length=nx:=⟨_,rfl⟩;have Hnx:=LH hnx;rw [hnx] at o7;clear hnx;go_wp2_with (at_builtin;refine iG [] rfl (.tmp 30) (.tmp 36) rfl (.slice A nx c) xs (by simp [Act.eval,hsz]) (by rw [<- Hnx.out];exact S1.out) (.slice (some ⟨w.heap.size,0,none⟩) 1 1) [y] (by simp [Act.eval,hsz]) HR.out (by have:=Hx.out;simp;omega) ?_;intro v2 w2 S2;have S2:=LH S2;obtain ⟨A2,c2,hv2,_,_⟩:=aS (S2.out.at_ (l1:=[]));subst hv2)
 try simp only [Act.put]
 exact hend _ _ tS (⟨A2,c2,cH,S2.out⟩)
theorem aJt(w0:World)(k c ck:Nat)(A:Option Addr)(adk:Addr)(xs:Bs)(b:UInt8)(hk:k < 64)(hx:xs.length<=1000)(hc:w.cell? (adk.add k)=some (.int .u8 (b.toNat:Int)))(r0:Res)(LL:List Res)(S:Held w0 w (r0 :: aG 5 1 (.slice A (xs).length c) (xs).length (bv (xs)) :: LL))(hsz:a.tmps.size=54)(o5:Sl a 5 (.slice (some adk) 64 ck))(o8:Sl a 8 (.slice A xs.length c))(o9:Sl a 9 (.int .i64 (k:Int))):bC false 12 f114 Q a w fun a' W q'=>(∃ A2 c2,Sl a' 8 (.slice A2 (xs ++ [b ^^^ 92]).length c2) ∧ Held w0 W (r0 :: aG 5 1 (.slice A2 (xs ++ [b ^^^ 92]).length c2) (xs ++ [b ^^^ 92]).length (bv (xs ++ [b ^^^ 92])) :: LL))->q':=by
 refine bU fun hend=>?_;unfold Sl at o5 o8 o9;have hxb:=tH b 92;rw [show ((92:UInt8).toNat:Int)=92 from rfl] at hxb;have S1:=LH (S.alloc (.cells #[.int .u8 ((b ^^^ 92).toNat:Int)] 5));have HR:=LH (jM w 5 #[.int .u8 ((b ^^^ 92).toNat:Int)] [b ^^^ 92] rfl (by simp));have Hx:=LH hx;clear S hx;generalize b ^^^ 92=y at *;obtain ⟨nx,hnx⟩:∃ nx,xs.length=nx:=⟨_,rfl⟩;have Hnx:=LH hnx;rw [hnx] at o8;clear hnx;go_wp2_with (at_builtin;refine iG [_] rfl (.tmp 38) (.tmp 44) rfl (.slice A nx c) xs (by simp [Act.eval,hsz]) (by rw [<- Hnx.out];exact S1.out) (.slice (some ⟨w.heap.size,0,none⟩) 1 1) [y] (by simp [Act.eval,hsz]) HR.out (by have:=Hx.out;simp;omega) ?_;intro v2 w2 S2;have S2:=LH S2;obtain ⟨A2,c2,hv2,_,_⟩:=aS (S2.out.at_ (l1:=[_]));subst hv2)
 try simp only [Act.put]
 exact hend _ _ tS (⟨A2,c2,cH,S2.out⟩)
theorem aIg(w0:World)(A Ax:Option Addr)(c cx:Nat)(s x:Bs)(hl:s.length+x.length<=140737488355328)(L:List Res)(S:Held w0 w (aG 5 1 (.slice A (s).length c) (s).length (bv (s)) :: L))(hx:Rd w 1 (.slice Ax x.length cx) x.length (bv x))(hsz:a.tmps.size=54)(o1:Sl a 1 (.slice Ax x.length cx))(o7:Sl a 7 (.slice A s.length c)):bC false 13 f114 Q a w fun a' W q'=>(∃ g A c,Sl a' 10 (Pq g 0) ∧ Held w0 W (aB g 23 (aA (dE (s ++ x))) :: aG 5 1 (.slice A (s ++ x).length c) (s ++ x).length (bv (s ++ x)) :: L))->q':=by
 refine bU fun hend=>?_;unfold Sl at o1 o7;have HR:Hid (∀ V A c,Held w0 V (aG 5 1 (.slice A (s ++ x).length c) (s ++ x).length (bv (s ++ x)) :: L)->Calls prog 124 #[.slice A (s ++ x).length c] V fun e w'=>e=.returned (.agg (aA (dE (s ++ x)))) ∧ Held w0 w' (aG 5 1 (.slice A (s ++ x).length c) (s ++ x).length (bv (s ++ x)) :: L)):=LH (fun V A c SV=>pD w0 _ A c (s ++ x) (by rw [List.length_append];exact hl) V SV (fun V' L' SV'=>Rd.of_own SV'.at_));have hO:=LH (aI (dE (s ++ x)));have hsz1:Hid ((aA (dE (s ++ x))).size=32):=LH (by rw [aC,aY]);obtain ⟨ch,hch⟩:∃ ch,Hid (aA (dE (s ++ x))=ch):=⟨_,LH rfl⟩;rw [hch.out] at HR hO hsz1;have S:=LH S;have Hx:=LH hx;have Hl:=LH hl;clear hl hx;obtain ⟨ns,hns⟩:∃ ns,s.length=ns:=⟨_,rfl⟩;have Hns:=LH hns;rw [hns] at o7;clear hns;obtain ⟨nx,hnx⟩:∃ nx,x.length=nx:=⟨_,rfl⟩;have Hnx:=LH hnx;rw [hnx] at o1;clear hnx;go_wp2_with (at_builtin;refine iG [] rfl (.tmp 46) (.tmp 47) rfl (.slice A ns c) s (by simp [Act.eval,hsz]) (by rw [<- Hns.out];exact S.out) (.slice Ax nx cx) x (by simp [Act.eval,hsz]) (by rw [<- Hnx.out];exact Hx.out) Hl.out ?_;intro v2 w2 S2;obtain ⟨A2,c2,hv2,_,_⟩:=aS (S2.at_ (l1:=[]));subst hv2;have HR2:=LH (HR.out w2 A2 c2 S2);clear S2;obtain ⟨nz,hnz⟩:∃ nz,(s ++ x).length=nz:=⟨_,rfl⟩;rw [hnz] at HR2 ⊢;have Hnz:=LH hnz;clear hnz)
 refine HR2.out.mono ?_;rintro e w4 ⟨rfl,S4⟩;have S4:=LH (S4.newBlk 23 (aA (List.replicate 32 0)));rw [<- Hnz.out] at S4;go_wp2_with (refine aD rfl 23 (.tmp 10) (.tmp 49) rfl w4.heap.size aE ch aE 23 _ (S4.out.at_ (l1:=[])) (by rw [hsz1.out];exact bBy) (by rw [hsz1.out];rfl) hO.out ?_;intro w5 b5 k5;have S5:=LH (Held.setBlk (l1:=[]) S4.out b5 k5);clear b5 k5)
 rw [<- hch.out] at S5
 try simp only [Act.put]
 exact hend _ _ tS (⟨_,A2,c2,cH,S5.out⟩)
theorem aK0(w0:World)(A:Option Addr)(c g10 g4:Nat)(s h:Bs)(hs:s.length=64)(hh:h.length=32)(L1 L:List Res)(S:Held w0 w (aG 5 1 (.slice A (s).length c) (s).length (bv (s)) :: aB g10 23 (aA h) :: (L1 ++ aB g4 23 (aA (List.replicate 32 0)) :: L)))(hsz:a.tmps.size=54)(o4:Sl a 4 (Pq g4 0))(o8:Sl a 8 (.slice A s.length c))(o10:Sl a 10 (Pq g10 0)):bC false 14 f114 Q a w fun a' W q'=>(∃ A c,Held w0 W (aG 5 1 (.slice A (s ++ h).length c) (s ++ h).length (bv (s ++ h)) :: aB g10 23 (aA h) :: (L1 ++ aB g4 23 (aA (dE (s ++ h))) :: L)))->q':=by
 refine bU fun hend=>?_;unfold Sl at o4 o8 o10;have HR:Hid (∀ V A c,Held w0 V (aG 5 1 (.slice A (s ++ h).length c) (s ++ h).length (bv (s ++ h)) :: aB g10 23 (aA h) :: (L1 ++ aB g4 23 (aA (List.replicate 32 0)) :: L))->Calls prog 124 #[.slice A (s ++ h).length c] V fun e w'=>e=.returned (.agg (aA (dE (s ++ h)))) ∧ Held w0 w' (aG 5 1 (.slice A (s ++ h).length c) (s ++ h).length (bv (s ++ h)) :: aB g10 23 (aA h) :: (L1 ++ aB g4 23 (aA (List.replicate 32 0)) :: L))):=LH (fun V A c SV=>pD w0 _ A c (s ++ h) (by rw [List.length_append];omega) V SV (fun V' L' SV'=>Rd.of_own SV'.at_));have hr:=LH (Rd.of_hash (S.at_ (l1:=[_])) hh);have hO:=LH (aI (dE (s ++ h)));have hsz1:Hid ((aA (dE (s ++ h))).size=32):=LH (by rw [aC,aY]);obtain ⟨ch,hch⟩:∃ ch,Hid (aA (dE (s ++ h))=ch):=⟨_,LH rfl⟩;rw [hch.out] at HR hO hsz1;have S:=LH S;have Hh:=LH hh;have Hs:=LH hs;clear hh hs;obtain ⟨ns,hns⟩:∃ ns,s.length=ns:=⟨_,rfl⟩;have Hns:=LH hns;rw [hns] at o8;clear hns;go_wp2_with (at_builtin;refine iG [] rfl (.tmp 50) (.tmp 51) rfl (.slice A ns c) s (by simp [Act.eval,hsz]) (by rw [<- Hns.out];exact S.out) (.slice (some ⟨g10,0,none⟩) 32 32) h (by simp [Act.eval,hsz]) (by rw [Hh.out];exact hr.out) (by rw [Hs.out,Hh.out];decide) ?_;intro v2 w2 S2;obtain ⟨A2,c2,hv2,_,_⟩:=aS (S2.at_ (l1:=[]));subst hv2;have HR2:=LH (HR.out w2 A2 c2 S2);clear S2;obtain ⟨nz,hnz⟩:∃ nz,(s ++ h).length=nz:=⟨_,rfl⟩;rw [hnz] at HR2 ⊢;have Hnz:=LH hnz;clear hnz)
 refine HR2.out.mono ?_;rintro e w4 ⟨rfl,S4⟩;have S4:=LH S4;rw [<- Hnz.out] at S4;go_wp2_with (refine aD rfl 23 (.tmp 4) (.tmp 53) rfl g4 (aO o4) ch aE 23 _ (S4.out.at_ (l1:=_ :: _ :: L1)) (by rw [hsz1.out];exact bBy) (by rw [hsz1.out];rfl) hO.out ?_;intro w5 b5 k5;have S5:=LH (Held.setBlk (l1:=_ :: _ :: L1) S4.out b5 k5);clear b5 k5)
 rw [<- hch.out] at S5
 try simp only [Act.put]
 exact hend _ _ tS (⟨A2,c2,S5.out⟩)
def aOa:List Nat:=[5,20,21,22,23,24,25]
def aOc:List Nat:=[7,8,9,26,27,28,29,30,31,32,33,34,35,36,37,38,39,40,41,42,43,44,45]
theorem aPs{Q:Exit->Act->World->Prop}{a:Act}{w0 w:World}(kk:Bs)(hkl:kk.length<=64)(A:Option Addr)(c:Nat)(L:List Res)(hsz:a.tmps.size=54)(o5:Sl a 5 (.slice A kk.length c))(S:Held w0 w (aG 5 1 (.slice A kk.length c) kk.length (bv kk) :: L))
 (hend:∀ (a':Act) (W:World) (A:Option Addr) (c:Nat),Same a a' aOa->Sl a' 5 (.slice A 64 c)->Held w0 W (aG 5 1 (.slice A 64 c) 64 (bv (kk ++ List.replicate (64 - kk.length) 0)) :: L)->Q .normal a' W):
 (Code.block 0 (dR 0 f114)).wp prog Q a w:=by
 refine wp_block ?_
 (conv=>arg 2;whnf)
 refine wp_loop (fun a' w'=>∃ (j:Nat) (A:Option Addr) (c:Nat),kk.length+j<=64 ∧ Same a a' aOa ∧ Sl a' 5 (.slice A (kk ++ List.replicate j 0).length c) ∧ Held w0 w' (aG 5 1 (.slice A (kk ++ List.replicate j 0).length c) (kk ++ List.replicate j 0).length (bv (kk ++ List.replicate j 0)) :: L)) (fun a' _=>64 - rK (a'.eval (.tmp 5))) ⟨0,A,c,by omega,Same.refl _ _,by rw [List.replicate_zero,List.append_nil];exact o5,by rw [List.replicate_zero,List.append_nil];exact S⟩ ?_;clear o5 S;rintro a1 w1 ⟨j,A,c,hj,T,o5,S⟩;have hz1:=T.size.trans hsz;have eCtr:=o5.eval (by rw [hz1];decide);have hl:(kk ++ List.replicate j 0).length=kk.length+j:=by simp
 refine wp_seq (wp_seq (aRi A _ c hz1 o5 (fun a2 hs2 o22=>?_)));have hz2:=hs2.size.trans hz1;have o5:=hs2.q o5;have T:=T.trans hs2;rw [hl] at o22
 by_cases hlt:kk.length+j < 64
 . refine cS o22 (wp_skip ?_) (by rw [decide_eq_true hlt]);refine wp_block ?_;refine aWd w0 A c _ (by rw [hl];omega) _ S hz2 o5 (fun a3 w2 hs3 h=>?_);have hz3:=hs3.size.trans hz2;have o22:=hs3.q o22;have T:=T.trans hs3;obtain ⟨A2,c2,o5,S⟩:=h;have e:kk ++ List.replicate j 0 ++ [0]=kk ++ List.replicate (j+1) 0:=by rw [List.append_assoc,<- List.replicate_succ']
   rw [e] at o5 S;refine ⟨⟨j+1,A2,c2,by omega,T.more (by decide +kernel),o5,S⟩,?_⟩
   show 64 - rK _ < 64 - rK _
   rw [eCtr,o5.eval (by rw [hz3];decide)]
   show 64 - (kk ++ List.replicate (j+1) 0).length < 64 - (kk ++ List.replicate j 0).length
   rw [hl,List.length_append,List.length_replicate];omega
 . refine dD o22 (wp_exit ?_) (by rw [decide_eq_false hlt]);obtain rfl:j=64 - kk.length:=by omega
   have h64:(kk ++ List.replicate (64 - kk.length) 0).length=64:=by rw [hl];omega
   rw [h64] at o5 S;exact hend _ _ A c (T.more (by decide +kernel)) o5 S
theorem aSb{Q:Exit->Act->World->Prop}{a:Act}{w0 w:World}(kk:Bs)(hkl:kk.length=64)(Ak:Option Addr)(ck:Nat)(L:List Res)(hsz:a.tmps.size=54)(o5:Sl a 5 (.slice Ak 64 ck))(o7:Sl a 7 (.slice none 0 0))(o8:Sl a 8 (.slice none 0 0))(o9:Sl a 9 (Nq 0))(S:Held w0 w (aG 5 1 (.slice Ak 64 ck) 64 (bv kk) :: L))
 (hend:∀ (a':Act) (W:World) (A7 A8:Option Addr) (c7 c8:Nat),Same a a' aOc->Sl a' 7 (.slice A7 (cK kk 54).length c7)->Sl a' 8 (.slice A8 (cK kk 92).length c8)->Held w0 W (aG 5 1 (.slice A7 (cK kk 54).length c7) (cK kk 54).length (bv (cK kk 54)) :: aG 5 1 (.slice A8 (cK kk 92).length c8) (cK kk 92).length (bv (cK kk 92)) :: aG 5 1 (.slice Ak 64 ck) 64 (bv kk) :: L)->Q .normal a' W):
 (Code.block 2 (dR 2 f114)).wp prog Q a w:=by
 refine wp_block ?_
 (conv=>arg 2;whnf)
 refine wp_loop (fun a' w'=>∃ (k:Nat) (A7 A8:Option Addr) (c7 c8:Nat),k<=64 ∧ Same a a' aOc ∧ Sl a' 9 (.int .i64 (k:Int)) ∧ Sl a' 7 (.slice A7 (cK (kk.take k) 54).length c7) ∧ Sl a' 8 (.slice A8 (cK (kk.take k) 92).length c8) ∧ Held w0 w' (aG 5 1 (.slice A7 (cK (kk.take k) 54).length c7) (cK (kk.take k) 54).length (bv (cK (kk.take k) 54)) :: aG 5 1 (.slice A8 (cK (kk.take k) 92).length c8) (cK (kk.take k) 92).length (bv (cK (kk.take k) 92)) :: aG 5 1 (.slice Ak 64 ck) 64 (bv kk) :: L)) (fun a' _=>64 - (intOf (a'.eval (.tmp 9))).toNat)
  ⟨0,none,none,0,0,by omega,Same.refl _ _,o9,o7,o8,(S.rownew (World.ownsRow_nil _ _ _ _) (Kp.refl [] _) (by simp [Value.ownBlock])).rownew (World.ownsRow_nil _ _ _ _) (Kp.refl [] _) (by simp [Value.ownBlock])⟩ ?_
 clear o7 o8 o9 S;rintro a1 w1 ⟨k,A7,A8,c7,c8,hk,T,o9,o7,o8,S⟩;have hz1:=T.size.trans hsz;have o5:=T.keep 5 _ (by decide) o5;have eCtr:=o9.eval (by rw [hz1];decide);have ht:∀ t,(cK (kk.take k) t).length<=1000:=fun t=>by unfold cK;rw [List.length_map,List.length_take];omega
 refine wp_seq (wp_seq (aPq k hz1 o9 (fun a2 hs2 o27=>?_)));obtain ⟨hz2,-,o5,o7,o8,o9⟩:=fH hs2 hz1 rfl o5 o7 o8 o9;have T:=T.trans hs2
 by_cases hlt:k < 64
 . refine cS o27 (wp_skip ?_) (by rw [decide_eq_true (by omega)]);have hR:=Rd.of_own (S.at_ (l1:=[_,_]));obtain ⟨-,A',c',he,-,-,hA,hc⟩:=id hR
   cases he
   obtain ⟨adk,rfl⟩:∃ adk,Ak=some adk:=by
    rcases Ak with _|adk
    . have:=hA rfl;omega
    . exact ⟨adk,rfl⟩
   have hkk:k < kk.length:=by omega
   have hcell:∀ V,Kp [] w1 V->True:=fun _ _=>trivial
   have hc1:w1.cell? (adk.add k)=some (.int .u8 (kk[k].toNat:Int)):=hc adk rfl k _ (by rw [iA,List.getElem?_eq_getElem hkk];rfl);have htn:∀ t,cK (kk.take k) t ++ [kk[k] ^^^ t]=cK (kk.take (k+1)) t:=fun t=>by unfold cK;rw [List.take_add_one,List.getElem?_eq_getElem hkk];simp only [Option.toList_some,List.map_append,List.map_cons,List.map_nil]
   refine wp_seq (wp_block ?_);refine wp_seq (aKa w0 k c7 ck A7 adk _ kk[k] hlt (ht _) hc1 _ S hz2 o5 o7 o9 (fun a3 w2 hs3 h=>?_));obtain ⟨hz3,-,o5,o8,o9,o27⟩:=fH hs3 hz2 rfl o5 o8 o9 o27;have T:=T.trans hs3;obtain ⟨A7,c7,o7,S⟩:=h;rw [htn] at o7 S
   have hc2:w2.cell? (adk.add k)=some (.int .u8 (kk[k].toNat:Int)):=by
    obtain ⟨-,A',c',he,-,-,-,hc⟩:=Rd.of_own (S.at_ (l1:=[_,_]))
    cases he;exact hc adk rfl k _ (by rw [iA,List.getElem?_eq_getElem hkk];rfl)
   refine aJt w0 k c8 ck A8 adk _ kk[k] hlt (ht _) hc2 _ _ S hz3 o5 o8 o9 (fun a4 w3 hs4 h=>?_);obtain ⟨hz4,-,o5,o9,o27,o7⟩:=fH hs4 hz3 rfl o5 o9 o27 o7;have T:=T.trans hs4;obtain ⟨A8,c8,o8,S⟩:=h;rw [htn] at o8 S;refine aJf k hlt hz4 o9 (fun a5 hs5 o9=>?_);obtain ⟨hz5,-,o5,o27,o7,o8⟩:=fH hs5 hz4 rfl o5 o27 o7 o8;have T:=T.trans hs5;refine ⟨⟨k+1,A7,A8,c7,c8,by omega,T.more (by decide +kernel),o9,o7,o8,S⟩,?_⟩
   show 64 - (intOf _).toNat < 64 - (intOf _).toNat
   rw [eCtr,o9.eval (by rw [hz5];decide)];simp [intOf];omega
 . obtain rfl:k=64:=by omega
   refine dD o27 (wp_exit ?_) (by rw [decide_eq_false (by omega)]);rw [List.take_of_length_le (by omega)] at o7 o8 S;exact hend _ _ A7 A8 c7 c8 (T.more (by decide +kernel)) o7 o8 S
theorem aF9(w0:World)(L:List Res)(A:Option Addr)(c:Nat)(sec:Bs)(hs:sec.length<=140737488355328)(Ax:Option Addr)(cx:Nat)(x:Bs)(hx:64+x.length<=140737488355328)(w:World)(S:Held w0 w L)
 (HS:∀ V L',Held w0 V (L' ++ L)->Rd V 1 (.slice A sec.length c) sec.length (bv sec)) (HX:∀ V L',Held w0 V (L' ++ L)->Rd V 1 (.slice Ax x.length cx) x.length (bv x)):
 Calls prog 114 #[.slice A sec.length c,.slice Ax x.length cx] w fun e w'=>e=.returned (.agg (aA (xE sec x))) ∧ Held w0 w' L:=by
 refine aR func114 rfl 54 rfl (fun a0 hsz hdf hAr=>?_);have hz0:a0.tmps.size=54:=hsz;have D:=hdf;have o0:=hAr 0 _ rfl;have o1:=hAr 1 _ rfl;refine wp_seq (aX7 w0 _ S hz0 (fun a1 w1 hs1 h=>?_));obtain ⟨hz1,D,o0,o1⟩:=dU hs1 hz0 D o0 o1;obtain ⟨g4,o4,S⟩:=h;refine wp_seq (aUw w0 A c sec hs _ (HS _ [_] S) S hz1 o0 (fun a2 w2 hs2 h=>?_));obtain ⟨hz2,D,o1,o4⟩:=dU hs2 hz1 D o1 o4;obtain ⟨A5,c5,o5,S⟩:=h
 have tail:∀ (a3:Act) (w3:World) (kk:Bs) (A5:Option Addr) (c5:Nat) (L1:List Res),kk.length<=64->kk ++ List.replicate (64 - kk.length) 0=iY sec->a3.tmps.size=54->a3.defers=[]->Sl a3 1 (.slice Ax x.length cx)->Sl a3 4 (Pq g4 0)->Sl a3 5 (.slice A5 kk.length c5)->Held w0 w3 (aG 5 1 (.slice A5 kk.length c5) kk.length (bv kk) :: (L1 ++ aB g4 23 (aA (List.replicate 32 0)) :: L))->
  (wK 2 f114).wp prog (bodyPost prog f114 fun e w'=>e=.returned (.agg (aA (xE sec x))) ∧ Held w0 w' L) a3 w3:=by
  intro a3 w3 kk A5 c5 L1 hkl hkk hz3 D o1 o4 o5 S;refine wp_seq (aPs kk hkl A5 c5 _ hz3 o5 S (fun a4 w4 A6 c6 hs4 o5 S=>?_));obtain ⟨hz4,D,o1,o4⟩:=dU hs4 hz3 D o1 o4;rw [hkk] at S;refine wp_seq (aXo hz4 (fun a5 hs5 o7 o8=>?_));obtain ⟨hz5,D,o1,o4,o5⟩:=dF hs5 hz4 D o1 o4 o5;refine wp_seq (wp_seq (aV2 hz5 (fun a6 hs6 o9=>?_)));obtain ⟨hz6,D,o1,o4,o5,o7,o8⟩:=jJ hs6 hz5 D o1 o4 o5 o7 o8;refine aSb (iY sec) (gE sec) A6 c6 _ hz6 o5 o7 o8 o9 S (fun a7 w7 A7 A8 c7 c8 hs7 o7 o8 S=>?_);obtain ⟨hz7,D,o1,o4,o5⟩:=dF hs7 hz6 D o1 o4 o5
  have hr:=HX w7 ([_,_,_] ++ L1 ++ [_]) (by
   have:=S
   simpa [List.append_assoc] using this)
  have h54:(cK (iY sec) 54).length=64:=by unfold cK;rw [List.length_map,gE]
  have h92:(cK (iY sec) 92).length=64:=by unfold cK;rw [List.length_map,gE]
  refine wp_seq (aIg w0 A7 Ax c7 cx _ x (by rw [h54];exact hx) _ S hr hz7 o1 o7 (fun a8 w8 hs8 h=>?_));obtain ⟨hz8,D,o1,o4,o5,o8⟩:=fH hs8 hz7 D o1 o4 o5 o8;obtain ⟨g10,A13,c13,o10,S⟩:=h;have S:=S.perm ((List.Perm.cons _ (List.Perm.swap _ _ _)).trans (List.Perm.swap _ _ _));refine wp_seq (aK0 w0 A8 c8 g10 g4 _ _ h92 (aY _) (_ :: _ :: L1) L S hz8 o4 o8 o10 (fun a9 w9 hs9 h=>?_));obtain ⟨hz9,D,o1,o4,o5⟩:=dF hs9 hz8 D o1 o4 o5;obtain ⟨A14,c14,S⟩:=h;refine wp_ret (bodyPost_ret (aV (by rfl) (o4.eval (by rw [hz9];decide)) (S.at_ (l1:=_ :: _ :: _ :: _ :: L1)) underlying23 rfl (by rw [aC,aY];exact bBy)) D ⟨rfl,?_⟩);exact S.drop.drop.sub ((List.sublist_cons_self _ _).trans (List.sublist_append_right _ _))
 refine wp_seq (wp_seq (aTj A5 sec.length c5 hz2 o5 (fun a3 hs3 o15=>?_)));obtain ⟨hz3,D,o1,o4,o5⟩:=dF hs3 hz2 D o1 o4 o5
 by_cases hlt:64 < sec.length
 . refine cS o15 ?_ (by rw [decide_eq_true hlt]);refine wp_seq (aZg w0 A5 c5 sec hs _ S hz3 o5 (fun a4 w3 hs4 h=>?_));obtain ⟨hz4,D,o1,o4,o15⟩:=dF hs4 hz3 D o1 o4 o15;obtain ⟨g6,o6,S⟩:=h;refine aS7 w0 g6 _ (aY sec) _ S hz4 o6 (fun a5 w4 hs5 h=>?_);obtain ⟨hz5,D,o1,o4,o15⟩:=dF hs5 hz4 D o1 o4 o15;obtain ⟨A6,c6,o5,S⟩:=h;exact tail _ _ (dE sec) A6 c6 [_,_] (by rw [aY];omega) (by unfold iY;rw [if_pos hlt]) hz5 D o1 o4 o5 S
 . refine dD o15 (wp_skip ?_) (by rw [decide_eq_false hlt]);exact tail _ _ sec A5 c5 [] (by omega) (by unfold iY;rw [if_neg hlt]) hz3 D o1 o4 o5 S
end
section
open Go.RowKit
def okB (c:UInt8):Bool:=decide (33<=c.toNat) && decide (c.toNat<=126)
theorem lD(l:Bs):eZ l=(decide (0 < l.length) && decide (l.length<=64) && l.all okB):=rfl
theorem nG{l:List UInt8}{k:Nat}(h:k < l.length):(l.take (k+1)).all okB=((l.take k).all okB && okB l[k]):=by
 rw [List.take_add_one,List.getElem?_eq_getElem h,Option.toList_some,List.all_append,List.all_cons,List.all_nil,Bool.and_true]
theorem rB{l:List UInt8}{k:Nat}(h:k < l.length)(hb:okB l[k]=false):l.all okB=false:=by
 rw [List.all_eq_false];exact ⟨l[k],List.getElem_mem h,by simp [hb]⟩
theorem uV{s:ByteArray}(h:0 < s.size):s.toList.isEmpty=false:=by
 rw [Lib.toList_data]
 cases hl:s.data.toList with
 |nil=>have:s.data.toList.length=s.size:=rfl;rw [hl] at this;simp at this;omega
 |cons _ _=>rfl
theorem sK(s:ByteArray)(hs:s.size<=9223372036854775807)(w:World):Calls prog 71 #[.string s] w fun e w'=>e=.returned (.bool (eZ s.data.toList)) ∧ w=w':=by
 have hsz:s.data.toList.length=s.size:=rfl;go_enter func71,ntmps71;go_wp2
 go_loopw [3,6] (fun _ i wr=>∃ k:Nat,k<=s.size ∧ i=.int .i64 (k:Int) ∧ Hid ((s.data.toList.take k).all okB=true) ∧ w=wr) (fun _ i _=>s.size - (intOf i).toNat)
 case atStart=>exact ⟨0,by omega,rfl,LH rfl,rfl⟩
 case round=>
  obtain ⟨k,hk,rfl,HA,rfl⟩:=hrel
  by_cases hlt:k < s.size
  . have hx:=lR s k hlt w;have hkl:k < s.data.toList.length:=hlt;have hok:okB s[k]=(decide (33<=s[k].toNat) && decide (s[k].toNat<=126)):=rfl;have hts:=LH (nG hkl);have htf:=LH (rB hkl);have he:s.data.toList[k]=s[k]:=rfl;rw [he] at hts htf;have hc:=s[k].toNat_lt;generalize hcc:s[k]=c at *
    by_cases h1:c.toNat < 33
    . have Hb:Hid (eZ s.data.toList=false):=LH (by rw [lD,htf.out (by rw [hok];simp;omega),Bool.and_false]);clear hts htf hok he hcc;go_wp2
      go_ret
      exact ⟨by rw [Hb.out];rfl,rfl⟩
    . by_cases h2:126 < c.toNat
      . have Hb:Hid (eZ s.data.toList=false):=LH (by rw [lD,htf.out (by rw [hok];simp;omega),Bool.and_false]);clear hts htf hok he hcc;go_wp2
        go_ret
        exact ⟨by rw [Hb.out];rfl,rfl⟩
      . have Hb:Hid ((s.data.toList.take (k+1)).all okB=true):=LH (by rw [hts.out,HA.out,hok];simp;omega);clear hts htf hok he hcc;go_wp2
        go_roundw
        case rel=>exact ⟨k+1,by omega,by go_num,Hb,trivial⟩
        case measure=>simp [intOf];omega
  . obtain rfl:k=s.size:=by omega
    have hall:Hid (eZ s.data.toList=(decide (0 < s.size) && decide (s.size<=64))):=LH (by
     rw [lD,show s.data.toList.all okB=true from by have:=HA.out;rwa [List.take_of_length_le (by omega)] at this,Bool.and_true];rfl)
    by_cases h0:s.size=0
    . have hse:s={ data:=#[] }:=by
       have:s.data.size=0:=h0
       cases s with|mk d=>simp at this;simp [this]
      subst hse;go_wp2
      go_ret
      exact ⟨by rw [hall.out];rfl,rfl⟩
    . have hem:s.toList.isEmpty=false:=uV (by omega);have hd:Hid ((decide (0 < s.size) && decide (s.size<=64))=decide ((s.size:Int)<=64)):=LH (by rw [decide_eq_true (show 0 < s.size by omega),Bool.true_and];congr 1;exact propext ⟨fun h=>by omega,fun h=>by omega⟩);go_wp2
      go_ret
      exact ⟨by rw [hall.out,hd.out];rfl,rfl⟩
theorem vX(s:ByteArray)(hs:s.size<=9223372036854775807)(w:World):Calls prog 110 #[.string s] w fun e w'=>e=.returned (.bool (eZ s.data.toList)) ∧ w=w':=by
 have hsz:s.data.toList.length=s.size:=rfl
 by_cases h0:s.size < 1
 . have Hb:Hid (eZ s.data.toList=false):=LH (by rw [lD,hsz,decide_eq_false (by omega),Bool.false_and,Bool.false_and]);have hz:(s.size:Int) < 1:=by omega
   go_enter func110,ntmps110;go_wp2
   go_ret
   exact ⟨by rw [Hb.out];rfl,rfl⟩
 . by_cases h64:64 < s.size
   . have Hb:Hid (eZ s.data.toList=false):=LH (by rw [lD,hsz,decide_eq_false (show ¬ s.size<=64 by omega),Bool.and_false,Bool.false_and]);have hz:¬ (s.size:Int) < 1:=by omega
     have hz2:(64:Int) < (s.size:Int):=by omega
     clear hsz;go_enter func110,ntmps110;go_wp2
     all_goals
      go_ret
      exact ⟨by rw [Hb.out];rfl,rfl⟩
   . have hz:¬ (s.size:Int) < 1:=by omega
     have hz2:¬ (64:Int) < (s.size:Int):=by omega
     have hb0:eZ s.data.toList=s.data.toList.all okB:=by rw [lD,hsz,decide_eq_true (show 0 < s.size by omega),decide_eq_true (show s.size<=64 by omega)];rfl
     have hb:=LH hb0;clear hb0;go_enter func110,ntmps110;go_wp2
     go_loopw [3] (fun i wr=>∃ k:Nat,k<=s.size ∧ i=.int .i64 (k:Int) ∧ Hid ((s.data.toList.take k).all okB=true) ∧ w=wr) (fun i _=>s.size - (intOf i).toNat)
     case atStart=>exact ⟨0,by omega,rfl,LH rfl,rfl⟩
     case round=>
      obtain ⟨k,hk,rfl,HA,rfl⟩:=hrel
      by_cases hlt:k < s.size
      . have hx:=lR s k hlt w;have hkl:k < s.data.toList.length:=hlt;have hok:okB s[k]=(decide (33<=s[k].toNat) && decide (s[k].toNat<=126)):=rfl;have hts:=LH (nG hkl);have htf:=LH (rB hkl);have he:s.data.toList[k]=s[k]:=rfl;rw [he] at hts htf;have hc:=s[k].toNat_lt;generalize hcc:s[k]=c at *
        by_cases h1:c.toNat < 33
        . have Hb:Hid (eZ s.data.toList=false):=LH (by rw [hb.out,htf.out (by rw [hok];simp;omega)]);clear hts htf hok he hcc;go_wp2
          go_ret
          exact ⟨by rw [Hb.out];rfl,rfl⟩
        . by_cases h2:126 < c.toNat
          . have Hb:Hid (eZ s.data.toList=false):=LH (by rw [hb.out,htf.out (by rw [hok];simp;omega)]);clear hts htf hok he hcc;go_wp2
            go_ret
            exact ⟨by rw [Hb.out];rfl,rfl⟩
          . have Hb:Hid ((s.data.toList.take (k+1)).all okB=true):=LH (by rw [hts.out,HA.out,hok];simp;omega);clear hts htf hok he hcc;go_wp2
            go_roundw
            case rel=>exact ⟨k+1,by omega,by go_num,Hb,trivial⟩
            case measure=>simp [intOf];omega
      . obtain rfl:k=s.size:=by omega
        have hall:Hid (eZ s.data.toList=true):=LH (by
         rw [hb.out];have:=HA.out;rwa [List.take_of_length_le (by omega)] at this)
        go_wp2
        go_ret
        exact ⟨by rw [hall.out];rfl,rfl⟩
theorem uE(nm sec:Bs):cR nm sec=(eZ nm && decide (0 < sec.length) && decide (sec.length<=256)):=rfl
theorem aH9(s:ByteArray)(hs:s.size<=9223372036854775807)(A:Option Addr)(n c:Nat)(w:World):Calls prog 100 #[.agg #[.string s,.slice A n c]] w fun e w'=>e=.returned (.bool (eZ s.data.toList && decide (0 < n) && decide (n<=256))) ∧ Kp [] w w':=by
 have S0:=LH ((Held.start w).newBlk 34 #[.string s,.slice A n c]);obtain ⟨c0,c1,-⟩:=aM.c2 (S0.out.at_ (l1:=[]));have HS:=LH (fun V=>sK s hs V);generalize eZ s.data.toList=b at *;go_enter func100,ntmps100;go_wp2_with fail
 refine (HS.out _).mono ?_;rintro e w' ⟨rfl,rfl⟩
 cases b
 . go_wp2
   go_ret
   exact ⟨rfl,S0.out.k⟩
 . by_cases h0:0 < n
   . have hz:(0:Int) < (n:Int):=by omega
     go_wp2
     go_ret
     refine ⟨?_,S0.out.k⟩;simp [h0]
     omega
   . obtain rfl:n=0:=by omega
     go_wp2
     go_ret
     exact ⟨rfl,S0.out.k⟩
theorem tX(s:ByteArray)(hs:s.size<=9223372036854775807)(A:Option Addr)(n c:Nat)(w:World):Calls prog 84 #[.agg #[.string s,.slice A n c]] w fun e w'=>e=.returned (.bool (eZ s.data.toList && decide (0 < n) && decide (n<=256))) ∧ Kp [] w w':=by
 have S0:=LH ((Held.start w).newBlk 34 #[.string s,.slice A n c]);obtain ⟨c0,c1,-⟩:=aM.c2 (S0.out.at_ (l1:=[]));have HS:=LH (fun V=>vX s hs V);generalize eZ s.data.toList=b at *;go_enter func84,ntmps84;go_wp2_with fail
 refine (HS.out _).mono ?_;rintro e w' ⟨rfl,rfl⟩
 cases b
 . go_wp2
   go_ret
   exact ⟨rfl,S0.out.k⟩
 . by_cases h0:0 < n
   . have hz:(1:Int)<=(n:Int):=by omega
     go_wp2
     go_ret
     refine ⟨?_,S0.out.k⟩;simp [h0]
     omega
   . obtain rfl:n=0:=by omega
     go_wp2
     go_ret
     exact ⟨rfl,S0.out.k⟩
end
section
open Go.RowKit
theorem oY:∀ a b:List UInt8,Op.bytesLess a b=decide (dW a b < 0)
 |[],[]=>rfl
 |[],_ :: _=>rfl
 |_ :: _,[]=>rfl
 |x :: a,y :: b=>by
  rw [gU];unfold Op.bytesLess;have ih:=oY a b
  by_cases h1:x.toNat < y.toNat
  . rw [if_pos h1];simp [UInt8.lt_iff_toNat_lt,h1]
  . rw [if_neg h1]
    by_cases h2:y.toNat < x.toNat
    . rw [if_pos h2];have:¬ x=y:=fun e=>by subst e;omega
      simp [UInt8.lt_iff_toNat_lt,h1,this]
    . rw [if_neg h2];have:x=y:=UInt8.toNat_inj.1 (by omega)
      subst this;simp [ih]
theorem aLc(a b:Bs):(a == b)=decide (dW a b=0):=by
 rw [Bool.eq_iff_iff,beq_iff_eq,decide_eq_true_iff];exact ⟨fun h=>by subst h;exact fI a,pM⟩
theorem aJ7(a b:Bs):(Op.bytesLess a b || a == b)=decide (dW a b<=0):=by
 rw [oY,aLc,Bool.eq_iff_iff,Bool.or_eq_true,decide_eq_true_iff,decide_eq_true_iff,decide_eq_true_iff];omega
def bX (s:Bs):Value:=.string ⟨s.toArray⟩
theorem oF(s:Bs):(ByteArray.mk s.toArray).toList=s:=by rw [Lib.toList_data]
theorem iX(s:Bs):(ByteArray.mk s.toArray).size=s.length:=by show s.toArray.size=_;simp
def vW (s:bF):List Value:=bX s.1 :: bv s.2
def dQ (s:bF):Array Value:=(vW s).toArray
def bB (l:List bF):List Value:=l.flatMap vW
def dI (l:List bF):Prop:=∀ s,s ∈ l->s.2.length=32 ∧ s.1.length<=9223372036854775807
theorem jD{s:bF}(h:s.2.length=32):(vW s).length=33:=by simp [vW,aX,h]
theorem fL{s:bF}(h:s.2.length=32):(dQ s).size=33:=by simp only [dQ,List.size_toArray];exact jD h
theorem mM(s:bF):∀ u,u ∈ (dQ s).toList->u.oneCell'=true:=by
 intro u hu;simp only [dQ,List.toList_toArray,vW,List.mem_cons] at hu;rcases hu with rfl|hu
 . rfl
 . exact eI _ u hu
theorem eK:∀ {l:List bF},dI l->(bB l).length=l.length * 33
 |[],_=>rfl
 |s :: l,h=>by
  show (vW s ++ bB l).length=_
  rw [List.length_append,jD (h s (by simp)).1,eK (fun x hx=>h x (by simp [hx])),List.length_cons];omega
theorem wZ:∀ {l:List bF} {k:Nat} {s:bF},dI l->l[k]?=some s->∀ j u,(vW s)[j]?=some u->(bB l)[k * 33+j]?=some u
 |[],_,_,_,h=>by simp at h
 |s :: l,0,_,hok,h=>fun j u hu=>by
  obtain rfl:s=_:=by simpa using h
  show (vW s ++ bB l)[0 * 33+j]?=_
  rw [Nat.zero_mul,Nat.zero_add,List.getElem?_append_left (List.getElem?_eq_some_iff.1 hu).1];exact hu
 |s :: l,k+1,x,hok,h=>fun j u hu=>by
  show (vW s ++ bB l)[(k+1) * 33+j]?=_
  have h1:=jD (hok s (by simp)).1;rw [List.getElem?_append_right (by omega),h1,show (k+1) * 33+j - 33=k * 33+j from by omega];exact wZ (fun y hy=>hok y (by simp [hy])) (by simpa using h) j u hu
theorem gF{W:World}{ad:Addr}{c n:Nat}{l:List bF}(h:Rd W 33 (.slice (some ad) n c) n (bB l))(hok:dI l){k:Nat}{s:bF}(hk:l[k]?=some s):∀ j u,(vW s)[j]?=some u->W.cell? ((ad.add (k * 33)).add j)=some u:=by
 intro j u hu;obtain ⟨-,A',c',he,-,-,-,hc⟩:=h
 cases he;rw [dZ];exact hc ad rfl _ u (wZ hok hk j u hu)
def pK (z:Int) (h:Bs) (v:Value):List Value:=.int .i64 z :: (bv h ++ [v])
def bD (z:Int) (h:Bs) (v:Value):Array Value:=(pK z h v).toArray
section
variable {z:Int} {h:List UInt8} {v:Value}
theorem aN(hh:h.length=32):(bD z h v).size=34:=by simp [bD,pK,aX,hh]
theorem cT(hv:v.oneCell'=true):∀ u,u ∈ (bD z h v).toList->u.oneCell'=true:=by
 intro u hu;simp only [bD,List.toList_toArray,pK,List.mem_cons,List.mem_append,List.not_mem_nil,or_false] at hu;rcases hu with rfl|hu|rfl
 . rfl
 . exact eI _ u hu
 . exact hv
theorem cP(hh:h.length=32):(bD z h v)[33]?=some v:=by
 simp only [bD,List.getElem?_toArray,pK,List.getElem?_cons_succ];rw [List.getElem?_append_right (by rw [aX];omega),aX,hh];rfl
theorem kF:(bD z h v)[0]?=some (.int .i64 z):=rfl
theorem lV(hh:h.length=32)(u:Value):(bD z h v).setIfInBounds 33 u=bD z h u:=by
 unfold bD pK;rw [List.setIfInBounds_toArray,List.set_cons_succ,List.set_append_right _ _ (by rw [aX];omega),aX,hh];rfl
theorem eE{w:World}{g:Nat}{t:TypeId}(b:aM w g t (bD z h v)):∀ j u,(cL z h).toList[j]?=some u->w.cell? ((⟨g,0,none⟩:Addr).add j)=some u:=by
 intro j u hu;refine b.agg j u ?_;simp only [bD,List.toList_toArray,pK];have e:Value.int .i64 z :: (bv h ++ [v])=(cL z h).toList ++ [v]:=rfl;rw [e,List.getElem?_append_left (List.getElem?_eq_some_iff.1 hu).1];exact hu
end
theorem bBz:(prog.info? 28).map (·.size)=some 34:=by kernel_rfl
theorem bC5:(prog.info? 89).map (·.size)=some 33:=by kernel_rfl
theorem bC7:(prog.info? 89).map (fun i=>(i.zero,i.size,i.bytes))=some (some (.agg (dQ ([],List.replicate 32 0))),33,48):=by kernel_rfl
end
section
open Go.RowKit
def jY (l:List bF) (k:Nat):List UInt8:=match k with
 |0=>[]
 |k+1=>(l.getD k ([],[])).1
theorem qV{l:List bF}{k:Nat}{s:bF}(h:l[k]?=some s):dB (jY l k) (l.drop k)=(eZ s.1 && decide (0 < dW s.1 (jY l k)) && dB s.1 (l.drop (k+1))):=by
 have hk:=(List.getElem?_eq_some_iff.1 h).1;have hs:=(List.getElem?_eq_some_iff.1 h).2;rw [List.drop_eq_getElem_cons hk,hs]
 rfl
theorem nZ{l:List bF}{k:Nat}{s:bF}(h:l[k]?=some s):jY l (k+1)=s.1:=by
 show (l.getD k ([],[])).1=_
 rw [List.getD_eq_getElem?_getD,h]
 rfl
theorem gQ(s:Bs):∃ b:ByteArray,Hid (bX s=.string b) ∧ Hid (b.toList=s) ∧ b.size=s.length ∧ Hid (b.data.toList=s):=⟨⟨s.toArray⟩,LH rfl,LH (oF s),iX s,LH rfl⟩
def eA (z:Int) (l:List bF):Int:=if eH z l then 0 else 2
theorem kP(z:Int)(hz:-9223372036854775808<=z ∧ z<=9223372036854775807)(h:Bs)(hh:h.length=32)(l:List bF)(hok:dI l)(hll:l.length<=9223372036854775807)(A:Option Addr)(c:Nat)(w:World)(LDw:LD w)(hv:Rd w 33 (.slice A l.length c) l.length (bB l)):
 Calls prog 31 #[.agg (bD z h (.slice A l.length c))] w fun e w'=>e=.returned (.int .i64 (eA z l)) ∧ Kp [] w w':=by
 have S0:=LH ((Held.start w).newBlk 28 (bD z h (.slice A l.length c)));have hpA:=LH (eE (S0.out.at_ (l1:=[])));have c33:(w.alloc (.cells (bD z h (.slice A l.length c)) 28)).cell? ⟨w.heap.size,33,none⟩=some (.slice A l.length c):=by rw [(S0.out.at_ (l1:=[])).cell];exact cP hh
 have HP:=LH (bV (s:=z) hh);have HT:=LH (fun V (hk:Kp [] w V)=>vS z hz h hh V (LDw.kp hk));have HV:=LH hv;clear hv;have hchk:∀ b,eH z l=b->eA z l=if b then 0 else 2:=fun b hb=>by unfold eA;rw [hb]
 have Hchk:=LH hchk;clear hchk;obtain ⟨ca,hca⟩:∃ ca,bD z h (.slice A l.length c)=ca:=⟨_,rfl⟩;rw [hca] at S0 hpA c33 ⊢;obtain ⟨cp,hcp⟩:∃ cp,Hid (cL z h=cp):=⟨_,LH rfl⟩;rw [hcp.out] at hpA HP HT;clear hca;unfold tW at HT;obtain ⟨ts,hts⟩:∃ ts:ByteArray,(⟨(txt z h).toArray⟩:ByteArray)=ts:=⟨_,rfl⟩;rw [hts] at HT;clear hts;have hcg:=fun V (hk:Kp [] (w.alloc (.cells ca 28)) V)=>iO c33 hk
 have Hcg:=LH hcg;clear hcg;go_enter func31,ntmps31;go_wp2_with (refine bW rfl 25 (.tmp 9) rfl ⟨w.heap.size,0,none⟩ (by simp [Act.eval,Act.put]) cp.toList _ hpA.out underlying25 rfl (by rw [Array.length_toList,HP.out];exact bC0) ?_)
 refine (HT.out _ S0.out.k).mono ?_;rintro e w1 ⟨rfl,k1⟩;have S1:=LH (S0.out.kp k1);have c33:=Hcg.out w1 k1;clear k1 HT hpA
 by_cases hz0:z < 0
 . have e:txE z=2:=if_pos hz0;rw [e];have Hm:=LH (Hchk.out false (by unfold eH;rw [decide_eq_false (by omega),Bool.false_and,Bool.false_and]));go_wp2
   go_ret
   exact ⟨by rw [Hm.out];rfl,S1.out.k⟩
 . have e:txE z=0:=if_neg hz0;rw [e];clear e
   by_cases h64:64 < l.length
   . have h64':(64:Int) < (l.length:Int):=by omega
     have Hm:=LH (Hchk.out false (by unfold eH;rw [decide_eq_false (show ¬ l.length<=64 by omega),Bool.and_false,Bool.false_and]));go_wp2
     go_ret
     exact ⟨by rw [Hm.out];rfl,S1.out.k⟩
   . have h64':¬ (64:Int) < (l.length:Int):=by omega
     have hma:eH z l=dB [] l:=by unfold eH;rw [decide_eq_true (by omega),decide_eq_true (show l.length<=64 by omega)];rfl
     have Hma:=LH hma;clear hma;go_wp2
     go_loopw [5,7,25] (fun last _ i wr=>∃ k:Nat,k<=l.length ∧ i=.int .i64 (k:Int) ∧ last=bX (jY l k) ∧ Hid (dB [] l=dB (jY l k) (l.drop k)) ∧ Kp [] w wr) (fun _ _ i _=>l.length - (intOf i).toNat)
     case atStart=>exact ⟨0,by omega,rfl,rfl,LH rfl,S1.out.k⟩
     case round=>
      clear c33;obtain ⟨k,hk,rfl,rfl,HA,K⟩:=hrel;have K:=LH K
      by_cases hlt:k < l.length
      . obtain ⟨s,hs⟩:∃ s,l[k]?=some s:=⟨_,List.getElem?_eq_getElem hlt⟩;have hsk:=hok s (List.mem_of_getElem? hs)
        obtain ⟨ad,rfl⟩:∃ ad,A=some ad:=by
         obtain ⟨-,A',c',he,-,-,hA,-⟩:=HV.out
         cases he;rcases A with _|ad
         . have:=hA rfl;omega
         . exact ⟨ad,rfl⟩
        have hat:=LH (gF (aT HV.out K.out) hok hs);have hrd:=LH (qV hs);have hln:=LH (nZ hs);have hsz:=LH (fL hsk.1);have hone:=LH (mM s);have hlist:(dQ s).toList=vW s:=rfl;obtain ⟨ns,hns,hnl,hnz,hnd⟩:=gQ s.1;obtain ⟨ls,hls,hll2,-,-⟩:=gQ (jY l k);have HS:=LH (fun V=>sK ns (by rw [hnz];exact hsk.2) V);rw [hnd.out] at HS;have hle:Hid ((Op.bytesLess ns.toList ls.toList || ns.toList == ls.toList)=decide (dW s.1 (jY l k)<=0)):=LH (by rw [hnl.out,hll2.out];exact aJ7 _ _);obtain ⟨cs,hcs⟩:∃ cs,Hid (dQ s=cs):=⟨_,LH rfl⟩;have hc0:Hid (cs[0]?=some (.string ns)):=LH (by rw [<- hcs.out,<- hns.out];rfl);rw [<- hlist] at hat;rw [hcs.out] at hat hsz hone;rw [hls.out];clear hnz hsk hlist hs;have S3:=LH ((Held.start wr).newBlk 89 (dQ ([],List.replicate 32 0)));generalize hlk:jY l k=lk at *
        go_wp2_with (first
         |(refine bW rfl 89 (.tmp 27) rfl (ad.add (k * 33)) (by simp [Act.eval,Act.put]) cs.toList _ hat.out underlying89 rfl (by rw [Array.length_toList,hsz.out];exact bC5) ?_)
         |(refine aD rfl 89 (.tmp 7) (.tmp 28) rfl wr.heap.size (by simp [Act.eval,Act.put]) cs (by simp [Act.eval,Act.put]) 89 _ (S3.out.at_ (l1:=[])) (by rw [hsz.out];exact bC5) (by rw [hsz.out];rfl) hone.out ?_;intro w5 b5 k5;have S5:=LH (Held.setBlk (l1:=[]) S3.out b5 k5);have c5:w5.cell? ⟨wr.heap.size,0,none⟩=some (.string ns):=(by rw [b5.cell];exact hc0.out);clear b5 k5))
        refine (HS.out _).mono ?_;rintro e w6 ⟨rfl,rfl⟩;have K5:=LH (K.out.trans S5.out.k (by simp))
        by_cases hnm:eZ s.1=true
        . rw [hnm]
          by_cases hcm:dW s.1 lk<=0
          . have hle:=hle.out;rw [decide_eq_true hcm] at hle;have Hm:=LH (Hchk.out false (by rw [Hma.out,HA.out,hrd.out,decide_eq_false (by omega),Bool.and_false,Bool.false_and]));clear hcm hnm;go_wp2
            go_ret
            exact ⟨by rw [Hm.out];rfl,K5.out⟩
          . have hle:=hle.out;rw [decide_eq_false hcm] at hle;have Hr:Hid (dB [] l=dB (jY l (k+1)) (l.drop (k+1))):=LH (by rw [HA.out,hrd.out,hnm,decide_eq_true (show 0 < dW s.1 lk by omega),hln.out];rfl);clear hcm hnm;go_wp2
            go_roundw
            case rel=>exact ⟨k+1,by omega,by go_num,by rw [hln.out,hns.out],Hr,K5.out⟩
            case measure=>simp [intOf];omega
        . have hnm':eZ s.1=false:=by simpa using hnm
          rw [hnm'];have Hm:=LH (Hchk.out false (by rw [Hma.out,HA.out,hrd.out,hnm',Bool.false_and,Bool.false_and]));clear hnm hnm';go_wp2
          go_ret
          exact ⟨by rw [Hm.out];rfl,K5.out⟩
      . obtain rfl:k=l.length:=by omega
        have Hm:=LH (Hchk.out true (by rw [Hma.out,HA.out,List.drop_length];rfl));go_wp2
        go_ret
        exact ⟨by rw [Hm.out];rfl,K.out⟩
theorem aI6(a b:Bs):(!Op.bytesLess a b)=decide (0<=dW a b):=by
 rw [oY,Bool.eq_iff_iff,Bool.not_eq_true',decide_eq_false_iff_not,decide_eq_true_iff];omega
theorem aK8{s:List UInt8}(h:eZ s=true):0 < dW s []:=by
 cases s with
 |nil=>cases h
 |cons x s=>simp [dW,Lib.compareBytes]
theorem mK(ad:Addr):ad.add 0=ad:=by unfold Addr.add;simp
theorem kM(z:Int)(hz:-9223372036854775808<=z ∧ z<=9223372036854775807)(h:Bs)(hh:h.length=32)(l:List bF)(hok:dI l)(hll:l.length<=9223372036854775807)(A:Option Addr)(c:Nat)(w:World)(hv:Rd w 33 (.slice A l.length c) l.length (bB l)):
 Calls prog 77 #[.agg (bD z h (.slice A l.length c))] w fun e w'=>e=.returned (.bool (eH z l)) ∧ Kp [] w w':=by
 have S0:=LH ((Held.start w).newBlk 28 (bD z h (.slice A l.length c)));have c33:(w.alloc (.cells (bD z h (.slice A l.length c)) 28)).cell? ⟨w.heap.size,33,none⟩=some (.slice A l.length c):=by rw [(S0.out.at_ (l1:=[])).cell];exact cP hh
 have c0:(w.alloc (.cells (bD z h (.slice A l.length c)) 28)).cell? ⟨w.heap.size,0,none⟩=some (.int .i64 z):=by rw [(S0.out.at_ (l1:=[])).cell];rfl
 have HV:=LH hv;clear hv;obtain ⟨ca,hca⟩:∃ ca,bD z h (.slice A l.length c)=ca:=⟨_,rfl⟩;rw [hca] at S0 c33 c0 ⊢;clear hca;have hcg:=fun V (hk:Kp [] (w.alloc (.cells ca 28)) V)=>iO c33 hk
 have Hcg:=LH hcg;clear hcg
 by_cases hz0:z < 0
 . have Hm:Hid (eH z l=false):=LH (by unfold eH;rw [decide_eq_false (by omega),Bool.false_and,Bool.false_and]);go_enter func77,ntmps77;go_wp2
   go_ret
   exact ⟨by rw [Hm.out];rfl,S0.out.k⟩
 . by_cases h64:64 < l.length
   . have h64':(64:Int) < (l.length:Int):=by omega
     have Hm:Hid (eH z l=false):=LH (by unfold eH;rw [decide_eq_false (show ¬ l.length<=64 by omega),Bool.and_false,Bool.false_and]);go_enter func77,ntmps77;go_wp2
     all_goals
      go_ret
      exact ⟨by rw [Hm.out];rfl,S0.out.k⟩
   . have h64':¬ (64:Int) < (l.length:Int):=by omega
     have hma:eH z l=dB [] l:=by unfold eH;rw [decide_eq_true (by omega),decide_eq_true (show l.length<=64 by omega)];rfl
     have Hma:=LH hma;clear hma;go_enter func77,ntmps77;go_wp2
     go_loopw [3] (fun i wr=>∃ k:Nat,k<=l.length ∧ i=.int .i64 (k:Int) ∧ Hid (dB [] l=dB (jY l k) (l.drop k)) ∧ Kp [] (w.alloc (.cells ca 28)) wr) (fun i _=>l.length - (intOf i).toNat)
     case atStart=>exact ⟨0,by omega,rfl,LH rfl,Kp.refl _ _⟩
     case round=>
      clear c33 c0;obtain ⟨k,hk,rfl,HA,K⟩:=hrel;have c33:=Hcg.out wr K;have K:=LH K;have K0:=LH (S0.out.k.trans K.out (by simp))
      by_cases hlt:k < l.length
      . obtain ⟨s,hs⟩:∃ s,l[k]?=some s:=⟨_,List.getElem?_eq_getElem hlt⟩;have hsk:=hok s (List.mem_of_getElem? hs)
        obtain ⟨ad,rfl⟩:∃ ad,A=some ad:=by
         obtain ⟨-,A',c',he,-,-,hA,-⟩:=HV.out
         cases he;rcases A with _|ad
         . have:=hA rfl;omega
         . exact ⟨ad,rfl⟩
        have hrd:=LH (qV hs);have hln:=LH (nZ hs);obtain ⟨ns,hns,hnl,hnz,hnd⟩:=gQ s.1;have HS:=LH (fun V=>vX ns (by rw [hnz];exact hsk.2) V);rw [hnd.out] at HS
        have hat:=fun V (kk:Kp [] wr V)=>by
         have:=gF (aT HV.out (K0.out.trans kk (by simp))) hok hs 0 (bX s.1) rfl
         rwa [mK,hns.out] at this
        have q1:=hat wr.drew ((Kp.refl [] _).drew);have q0:=hat wr (Kp.refl [] _)
        by_cases hnm:eZ s.1=true
        . rcases k with _|j
          . have q0:=hat wr (Kp.refl [] _);simp only [Nat.zero_mul,mK] at q0;have Hr:Hid (dB [] l=dB (jY l (0+1)) (l.drop (0+1))):=LH (by rw [HA.out,hrd.out,hnm,decide_eq_true (show 0 < dW s.1 (jY l 0) from aK8 hnm),hln.out];rfl);rw [hnm] at HS;clear hnm hat q1;go_wp2
            go_quiet ((go_at_call 110;exact Calls.quiet_of_same ((HS.out _).mono (fun e w' h=>⟨h.1,h.2.symm⟩))))
            go_wp2
            go_roundw
            case rel=>exact ⟨1,by omega,rfl,Hr,K.out.drewN _⟩
            case measure=>simp [intOf];omega
          . obtain ⟨p,hp⟩:∃ p,l[j]?=some p:=⟨_,List.getElem?_eq_getElem (by omega)⟩;have hlj:=LH (nZ hp);obtain ⟨ps,hps,hpl,-,-⟩:=gQ p.1;have q2:=gF (aT HV.out K0.out) hok hp 0 (bX p.1) rfl;rw [mK,hps.out] at q2;have hj1:wrap64 (((j+1:Nat):Int) - 1)=(j:Int):=by unfold wrap64;omega
            have hj2:(j:Int) < (l.length:Int):=by omega
            have hge:Hid ((!Op.bytesLess ps.toList ns.toList)=decide (0<=dW p.1 s.1)):=LH (by rw [hpl.out,hnl.out];exact aI6 _ _);have hsym:=uB p.1 s.1;rw [hlj.out] at hrd;rw [hnm] at HS
            by_cases hcm:0 < dW s.1 p.1
            . have hge:=hge.out;rw [decide_eq_false (by omega)] at hge;have Hr:Hid (dB [] l=dB (jY l (j+1+1)) (l.drop (j+1+1))):=LH (by rw [HA.out,hlj.out,hrd.out,hnm,decide_eq_true hcm,hln.out];rfl);clear hnm hat q1 hcm hsym;go_wp2
              go_quiet ((go_at_call 110;exact Calls.quiet_of_same ((HS.out _).mono (fun e w' h=>⟨h.1,h.2.symm⟩))))
              go_wp2
              go_roundw
              case rel=>exact ⟨j+1+1,by omega,by go_num,Hr,K.out.drewN _⟩
              case measure=>simp [intOf];omega
            . have hge:=hge.out;rw [decide_eq_true (by omega)] at hge;have Hm:=LH (show eH z l=false from by rw [Hma.out,HA.out,hlj.out,hrd.out,decide_eq_false hcm,Bool.and_false,Bool.false_and]);clear hnm hat q1 hcm hsym;go_wp2
              go_quiet ((go_at_call 110;exact Calls.quiet_of_same ((HS.out _).mono (fun e w' h=>⟨h.1,h.2.symm⟩))))
              go_wp2
              go_ret
              exact ⟨by rw [Hm.out];rfl,K0.out.drewN _⟩
        . have hnm':eZ s.1=false:=by simpa using hnm
          rw [hnm'] at HS;have Hm:=LH (show eH z l=false from by rw [Hma.out,HA.out,hrd.out,hnm',Bool.false_and,Bool.false_and]);clear hnm hnm' hat q1;go_wp2
          go_quiet ((go_at_call 110;exact Calls.quiet_of_same ((HS.out _).mono (fun e w' h=>⟨h.1,h.2.symm⟩))))
          go_wp2
          go_ret
          exact ⟨by rw [Hm.out];rfl,K0.out.drewN _⟩
      . obtain rfl:k=l.length:=by omega
        have Hm:=LH (show eH z l=true from by rw [Hma.out,HA.out,List.drop_length];rfl);go_wp2
        go_ret
        exact ⟨by rw [Hm.out];rfl,K0.out⟩
def bT:Array Value:=bD 0 (List.replicate 32 0) (.slice none 0 0)
theorem bCf(ps:List (Nat × Value)):prog.built 28 ps=Instr.fill (#[(0,33),(33,1)][·]?) bT ps:=by
 unfold Program.built
 kernel_rfl
theorem bDi(z:Int)(hh:Bs)(hl:hh.length=32):prog.built 28 [(0,.agg (cL z hh))]=some (bD z hh (.slice none 0 0)):=by
 rw [bCf];have hs:(cL z hh).size=33:=bV hl;have hs0:bT.size=34:=rfl
 have h:((cL z hh).zipIdx.foldl (fun cs (x:Value × Nat)=>cs.setIfInBounds (0+x.2) x.1) bT)=bD z hh (.slice none 0 0):=by
  have h1:=eM 0 (cL z hh).toList 0 bT;rw [show (cL z hh).zipIdx.foldl (fun cs (x:Value × Nat)=>cs.setIfInBounds (0+x.2) x.1) bT=((cL z hh).toList.zipIdx 0).foldl (fun cs (x:Value × Nat)=>cs.setIfInBounds (0+x.2) x.1) bT from by rw [<- Array.foldl_toList,Array.toList_zipIdx],h1];rw [hs0,List.take_of_length_le (l:=(cL z hh).toList) (by rw [Array.length_toList,hs];decide),Array.length_toList,hs]
  rfl
 unfold Instr.fill
 show (if (decide ((cL z hh).size ≠ 33) || decide (0+(cL z hh).size > bT.size))=true then none else Instr.fill (#[(0,33),(33,1)][·]?) ((cL z hh).zipIdx.foldl (fun cs (x:Value × Nat)=>cs.setIfInBounds (0+x.2) x.1) bT) [])=_
 rw [hs,hs0,h]
 rfl
theorem bCd:prog.built 28 []=some bT:=by rw [bCf];rfl
theorem mH(z:Int)(hz:-9223372036854775808<=z ∧ z<=9223372036854775807)(h:Bs)(hh:h.length=32)(l:List bF)(hok:dI l)(hll:l.length<=9223372036854775807)(A:Option Addr)(c:Nat)(w:World)(hv:Rd w 33 (.slice A l.length c) l.length (bB l)):
 Calls prog 35 #[.agg (bD z h (.slice A l.length c))] w fun e w'=>e=.returned (.int .i64 (eA z l)) ∧ Kp [] w w':=by
 have S0:=LH ((Held.start w).newBlk 28 (bD z h (.slice A l.length c)));have HR:=LH (fun V (k:Kp [] w V)=>kM z hz h hh l hok hll A c V (aT hv k));have hz1:=LH (aN (z:=z) (v:=.slice A l.length c) hh);have hck:Hid (eA z l=if eH z l then 0 else 2):=LH rfl;clear hv;obtain ⟨ca,hca⟩:∃ ca,bD z h (.slice A l.length c)=ca:=⟨_,rfl⟩;rw [hca] at S0 hz1 HR ⊢;clear hca;generalize eH z l=b at *;go_enter func35,ntmps35;go_wp2_with (refine aQ rfl 28 (.tmp 1) rfl w.heap.size (by simp [Act.eval,Act.put]) 28 _ (S0.out.at_ (l1:=[])) _ underlying28 rfl (by rw [hz1.out];exact bBz) ?_)
 refine (HR.out _ S0.out.k).mono ?_;rintro e w1 ⟨rfl,k1⟩;have K:=LH (S0.out.k.trans k1 (by simp));clear k1
 cases b
 . go_wp2
   go_ret
   exact ⟨by rw [hck.out];rfl,K.out⟩
 . go_wp2
   go_ret
   exact ⟨by rw [hck.out];rfl,K.out⟩
theorem fE(s:Nat)(V:World):Rd V s (.slice none 0 0) 0 []:=⟨by simp,none,0,rfl,Nat.le_refl _,Nat.zero_le _,fun _=>⟨rfl,rfl⟩,fun ad h=>by cases h⟩
def aHa (z:Int) (h:Bs):Array Value:=if 0<=z then bD z h (.slice none 0 0) else bT
theorem uC(z:Int):eH z []=decide (0<=z):=by
 unfold eH dB
 simp
theorem aDx(z:Int)(hz:-9223372036854775808<=z ∧ z<=9223372036854775807)(h:Bs)(hh:h.length=32)(w:World):
 Calls prog 40 #[.agg (cL z h)] w fun e w'=>e=.returned (.tuple #[.agg (aHa z h),.int .i64 (eA z [])]) ∧ Kp [] w w':=by
 have S0:=LH (((Held.start w).newBlk 25 (cL z h)).newBlkN 28 bT (g:=w.heap.size+1) (by simp));have HB:=LH (bDi z h hh);have HB0:=LH bCd;have hp1:=LH (bV (s:=z) hh);have hz1:=LH (aN (z:=z) (v:=.slice none 0 0) hh);have hzz:Hid (bT.size=34):=LH rfl;have hO:=LH (cT (z:=z) (h:=h) (v:=.slice none 0 0) rfl);have hOz:Hid (∀ u,u ∈ bT.toList->u.oneCell'=true):=LH (cT (v:=.slice none 0 0) rfl);have HC:=LH (fun V=>kM z hz h hh [] (fun s hs=>by cases hs) (by simp) none 0 V (fE 33 V));have hck:Hid (eA z []=if 0<=z then 0 else 2):=LH (by unfold eA;rw [uC];by_cases h0:0<=z <;> simp [h0]);have hnA:Hid (aHa z h=if 0<=z then bD z h (.slice none 0 0) else bT):=LH rfl;obtain ⟨cn,hcn⟩:∃ cn,bD z h (.slice none 0 0)=cn:=⟨_,rfl⟩;obtain ⟨cp,hcp⟩:∃ cp,cL z h=cp:=⟨_,rfl⟩;rw [List.length_nil] at HC;rw [hcn] at HB hz1 hO HC hnA;rw [hcp] at HB hp1 S0 ⊢;clear hcn hcp;generalize aHa z h=cr at *;have hmn:eH z []=decide (0<=z):=uC z;rw [hmn] at HC;clear hmn;generalize eA z []=ck at *;go_enter func40,ntmps40
 go_wp2_with (first
  |(refine aQ rfl 25 (.tmp 1) rfl w.heap.size (by simp [Act.eval,Act.put]) 25 _ (S0.out.at_ (l1:=[_])) _ underlying25 rfl (by rw [hp1.out];exact bC0) ?_)
  |(refine bR rfl 28 _ rfl [(0,.agg cp)] (by simp [Act.eval,Act.put]) _ HB.out ?_)
  |(refine aD rfl 28 (.tmp 4) (.tmp 6) rfl (w.heap.size+1+1) (by simp [Act.eval,Act.put]) cn (by simp [Act.eval,Act.put]) 28 bT (aM.newN _ 28 _ (by simp)) (by rw [hz1.out];exact bBz) (by rw [hz1.out];rfl) hO.out ?_;intro w5 b5 k5;have S5:=LH (Held.setBlk (l1:=[]) (S0.out.newBlkN 28 bT (g:=w.heap.size+1+1) (by simp)) b5 k5);clear b5 k5)
  |(refine aQ rfl 28 (.tmp 4) rfl (w.heap.size+1+1) (by simp [Act.eval,Act.put]) 28 _ (S5.out.at_ (l1:=[])) _ underlying28 rfl (by rw [hz1.out];exact bBz) ?_))
 refine (HC.out _).mono ?_;rintro e w6 ⟨rfl,k6⟩;have S6:=LH (S5.out.kp k6);clear k6 S5 S0
 by_cases h0:0<=z
 . rw [if_pos h0] at hck hnA;rw [decide_eq_true h0];clear h0
   go_wp2_with (first
    |(refine aQ rfl 28 (.tmp 4) rfl (w.heap.size+1+1) (by simp [Act.eval,Act.put]) 28 _ (S6.out.at_ (l1:=[])) _ underlying28 rfl (by rw [hz1.out];exact bBz) ?_)
    |(refine aD rfl 28 (.tmp 2) (.tmp 11) rfl (w.heap.size+1) (by simp [Act.eval,Act.put]) cn (by simp [Act.eval,Act.put]) 28 _ (S6.out.at_ (l1:=[_])) (by rw [hz1.out];exact bBz) (by rw [hz1.out];rfl) hO.out ?_;intro w7 b7 k7;have S7:=LH (Held.setBlk (l1:=[_]) S6.out b7 k7);clear b7 k7))
   refine bodyPost_ret (cG (by rfl) rfl (S7.out.at_ (l1:=[_])) underlying28 rfl (by rw [hz1.out];exact bBz)) rfl ?_;exact ⟨by rw [hck.out,hnA.out];rfl,S7.out.k⟩
 . rw [if_neg h0] at hck hnA;rw [decide_eq_false h0];clear h0;obtain ⟨cz,hcz⟩:∃ cz,Hid (bT=cz):=⟨_,LH rfl⟩;rw [hcz.out] at HB0 hzz hOz hnA
   go_wp2_with (first
    |(refine bR rfl 28 _ rfl [] (by simp [Act.eval,Act.put]) _ HB0.out ?_)
    |(refine aD rfl 28 (.tmp 2) (.tmp 10) rfl (w.heap.size+1) (by simp [Act.eval,Act.put]) cz (by simp [Act.eval,Act.put]) 28 _ (S6.out.at_ (l1:=[_])) (by rw [hzz.out];exact bBz) (by rw [hzz.out];rfl) hOz.out ?_;intro w7 b7 k7;have S7:=LH (Held.setBlk (l1:=[_]) S6.out b7 k7);clear b7 k7))
   refine bodyPost_ret (cG (by rfl) rfl (S7.out.at_ (l1:=[_])) underlying28 rfl (by rw [hzz.out];exact bBz)) rfl ?_;exact ⟨by rw [hck.out,hnA.out];rfl,S7.out.k⟩
theorem aF2(a b:Bs)(ha:a.length=32)(hb:b.length=32)(w:World):Calls prog 105 #[.agg (aA a),.agg (aA b)] w fun e w'=>e=.returned (.bool (a == b)) ∧ Kp [] w w':=by
 have S0:=LH (((Held.start w).newBlk 23 (aA a)).newBlkN 23 (aA b) (g:=w.heap.size+1) (by simp));have hE:=fun V=>lT V a b ha hb
 have h1:Hid ((aA a).size=32):=LH (by rw [aC,ha]);have h2:Hid ((aA b).size=32):=LH (by rw [aC,hb]);generalize aA a=ca at *;generalize aA b=cb at *;generalize (a == b)=r at *;clear ha hb;go_enter func105,ntmps105
 go_wp2_with (first
  |(refine aQ rfl 23 (.tmp 2) rfl w.heap.size (by simp [Act.eval,Act.put]) 23 _ (S0.out.at_ (l1:=[_])) _ underlying23 rfl (by rw [h1.out];exact bBy) ?_)
  |(refine aQ rfl 23 (.tmp 3) rfl (w.heap.size+1) (by simp [Act.eval,Act.put]) 23 _ (S0.out.at_ (l1:=[])) _ underlying23 rfl (by rw [h2.out];exact bBy) ?_))
 go_ret
 exact ⟨rfl,S0.out.k⟩
theorem nJ:∀ {a b c:List UInt8},dW a b < 0->dW b c < 0->dW a c < 0
 |[],[],_,h,_=>by simp [fI] at h
 |[],_ :: _,[],_,h=>by simp [dW,Lib.compareBytes] at h
 |[],_ :: _,_ :: _,_,_=>by simp [dW,Lib.compareBytes]
 |_ :: _,[],_,h,_=>by simp [dW,Lib.compareBytes] at h
 |_ :: _,_ :: _,[],_,h=>by simp [dW,Lib.compareBytes] at h
 |x :: a,y :: b,z :: c,h1,h2=>by
  rw [gU] at h1 h2 ⊢
  by_cases h3:x.toNat < y.toNat
  . by_cases h4:y.toNat < z.toNat
    . rw [if_pos (by omega)];decide
    . rw [if_neg h4] at h2
      by_cases h5:z.toNat < y.toNat
      . rw [if_pos h5] at h2;omega
      . rw [if_pos (by omega)];decide
  . rw [if_neg h3] at h1
    by_cases h4:y.toNat < x.toNat
    . rw [if_pos h4] at h1;omega
    . rw [if_neg h4] at h1
      by_cases h5:y.toNat < z.toNat
      . rw [if_pos (by omega)];decide
      . rw [if_neg h5] at h2
        by_cases h6:z.toNat < y.toNat
        . rw [if_pos h6] at h2;omega
        . rw [if_neg h6] at h2;rw [if_neg (by omega),if_neg (by omega)];exact nJ h1 h2
def sY (nm:Bs) (l:List bF):Nat:=(l.takeWhile fun s=>decide (dW s.1 nm < 0)).length
def xR (nm:Bs) (l:List bF):Bool:=match l[sY nm l]? with
 |some x=>decide (dW x.1 nm=0)
 |none=>false
theorem kX:∀ {l:List bF} {a:List UInt8},dB a l=true->∀ x,x ∈ l->dW a x.1 < 0
 |[],_,_,x,hx=>by cases hx
 |s :: l,a,h,x,hx=>by
  unfold dB at h;simp only [Bool.and_eq_true,decide_eq_true_eq] at h;have hs:dW a s.1 < 0:=by rw [uB s.1 a];omega
  rcases List.mem_cons.1 hx with rfl|hx
  . exact hs
  . exact nJ hs (kX h.2 x hx)
theorem iT{W:World}{A:Option Addr}{c n:Nat}{l:List bF}(h:Rd W 33 (.slice A n c) n (bB l))(hn:0 < n):∃ ad,A=some ad:=by
 obtain ⟨-,A',c',he,-,-,hA,-⟩:=h
 cases he;rcases A with _|ad
 . have:=hA rfl;omega
 . exact ⟨ad,rfl⟩
theorem lW:∀ (l:List bF),∀ u,u ∈ bB l->u.oneCell'=true
 |[],u,h=>by cases h
 |s :: l,u,h=>by
  rcases List.mem_append.1 (show u ∈ vW s ++ bB l from h) with h|h
  . exact mM s u (by simpa [dQ] using h)
  . exact lW l u h
theorem jI(a b:List bF):bB (a ++ b)=bB a ++ bB b:=by unfold bB;rw [List.flatMap_append]
theorem oH{w:World}{g:Nat}(e:TypeId)(s:Nat)(hg:g=w.heap.size):Ow (w.alloc (.cells #[] e)) e s (.slice (some ⟨g,0,none⟩) 0 0) 0 []:=by
 subst hg;exact cZ w e s 0 #[] (by simp) (by decide)
theorem qM(w:World)(a:Option Addr)(n c:Nat):(binOp .eql 26 (.slice a n c) (.slice none 0 0)).run prog w=.ok (.bool a.isNone) w:=
 Lib.run_eql_slice_nil (P:=prog) w 26 89 a n c 0 0 underlying26
theorem aAo(w0:World)(L:List Res)(A:Option Addr)(c:Nat)(l:List bF)(hok:dI l)(hll:l.length<=1000000)(w:World)(S:Held w0 w L)(HV:∀ V,Held w0 V L->Rd V 33 (.slice A l.length c) l.length (bB l)):
 Calls prog 89 #[.slice A l.length c] w fun e w'=>∃ v,e=.returned v ∧ Held w0 w' (aG 89 33 v l.length (bB l) :: L):=by
 have HV:=LH HV;have S:=LH S;have HO:=LH (lW l);rcases A with _|ad
 . have h0:l.length=0 ∧ c=0:=by
    obtain ⟨-,A',c',he,-,-,hA,-⟩:=HV.out w S.out
    cases he;exact hA rfl
   obtain rfl:l=[]:=List.eq_nil_of_length_eq_zero h0.1
   obtain rfl:=h0.2
   clear h0;have hq:=fun V=>qM V none 0 0
   simp only [Option.isNone_none] at hq;go_enter func89,ntmps89;go_wp2
   go_ret
   exact ⟨_,rfl,S.out.rownew (World.ownsRow_nil _ _ _ _) (Kp.refl [] w) (by simp [Value.ownBlock])⟩
 . have hq:=fun V n=>qM V (some ad) n c
   simp only [Option.isNone_some] at hq;have S1:=LH (S.out.rownew (oH 89 33 (g:=w.heap.size) rfl) ((Kp.refl [] w).alloc _) (by simp [Value.ownBlock]));obtain ⟨i0,hi,hz,hsize,hby⟩:=info_parts bC7;have Hz:=LH hz;clear hz;have hle:Hid (l.length<=maxLen ∧ l.length * 48<=140737488355328):=LH ⟨by unfold maxLen;omega,by omega⟩;generalize hcs:bB l=cs at *;generalize l.length=n at *;go_enter func89,ntmps89;go_wp2_with (at_builtin;refine gR _ rfl (.tmp 5) (.tmp 6) 26 rfl 89 i0 _ 33 48 underlying26 hi Hz.out hsize hby rfl (by decide) _ 0 [] (by simp [Act.eval,Act.put]) (S1.out.at_ (l1:=[])) _ n cs (by simp [Act.eval,Act.put]) (HV.out _ S1.out.drop) HO.out (by rw [Nat.zero_add];exact hle.out.1) (by rw [Nat.zero_add];exact hle.out.2) ?_;intro v' w' o2 g2 b2;have S2:=LH (Held.grow (l1:=[]) S1.out o2 g2 b2);clear o2 g2 b2)
   rw [Nat.zero_add,List.nil_append] at S2
   go_ret
   exact ⟨_,rfl,S2.out⟩
end
section
open Go.RowKit
section
variable {P:Program} {w:World} {o:Oper} {a:Act} {Q:Exit->Act->World->Prop} (size:Nat) (d s:Operand) (dT sT:TypeId)
end
theorem Held.blk_row{w0 w:World}{L:List Res}{e:TypeId}{s n g c:Nat}{cur:Array Value}{xs:List Value}(h:Held w0 w (aB g e cur :: L))(hs:cur.size=c * s)(hx:cur.toList.take (n * s)=xs)(hn:n<=c)(hc:c<=maxLen):
 Held w0 w (aG e s (.slice (some ⟨g,0,none⟩) n c) n xs :: L):=
 h.turn (aG e s (.slice (some ⟨g,0,none⟩) n c) n xs) kR ⟨by
  rw [<- hx,List.length_take,Array.length_toList,hs];exact Nat.min_eq_left (Nat.mul_le_mul_right s hn),.inr ⟨g,c,cur,rfl,Nat.zero_le _,h.at_ (l1:=[]),hn,hc,hs,hx⟩⟩ (fun b hb=>.inl (by simpa [aG,aB,Value.ownBlock] using hb))
end
section
open Go.RowKit
theorem aBv{w:World}{vb:Nat}{t:TypeId}{s:bF}(hb:aM w vb t (dQ s))(hs:s.2.length=32):Rd w 33 (.slice (some ⟨vb,0,none⟩) 1 1) 1 (dQ s).toList:=
 ⟨by rw [Array.length_toList,fL hs],_,_,rfl,Nat.le_refl _,by unfold maxLen;omega,(fun h=>by cases h),fun ad had j u hu=>by cases had;exact hb.agg j u hu⟩
theorem uN:prog.elem 26=89:=by kernel_rfl
theorem rU:prog.underlying 26=some (.slice (prog.elem 26)):=by rw [uN];exact underlying26
theorem zE(w:World):(sizeOf 89).run prog w=.ok 33 w:=by
 obtain ⟨i0,hi,-,hs,-⟩:=info_parts bC7;simp only [sizeOf,typeInfo];simp [hi,hs,go_sem]
theorem aIr(A:Option Addr)(n c k:Nat)(hk:k<=n)(w:World):(Instr.sliceAt 26 (.slice A n c) (some (.int .i64 (k:Int))) none none).run prog w=.ok (sliced A k n c 33) w:=by
 rw [run_sliceAt_slice w 26 _ _ _ _ rU,run_slice_l w 26 A n c rU .i64 k (by omega) (by omega),uN,zE];simp only [Result.andThen_ok,Int.toNat_natCast]
theorem eN{P:Program}{fn:Func}{w:World}{tmps:Array Value}{u:Nat}{x:Value}(h:fn.results=#[.tmp u])(hx:tmps.getD u undef=x):(results fn tmps).run P w=.ok x w:=by
 simp only [Array.getD_eq_getD_getElem?] at hx;simp [results,h,hx]
theorem yO(w:World)(s:ByteArray)(hs:s.size<=100000000):∃ v w',(convert 9 32 (.string s)).run prog w=.ok v w' ∧ Held w w' [nD v s.size (bv s.data.toList)]:=by
 refine ⟨_,_,Lib.run_convert_string_bytes (P:=prog) w 9 32 5 s underlying9 underlying32 underlying5,?_⟩;have hle:=grownCap_ge w s.size 0 5;have hmx:=grownCap_le_maxLen w s.size 0 5 (by unfold maxLen;omega);have hk:Kp [] w (Lib.bytesWorld w 5 s):=⟨rfl,rfl,rfl,by rw [Lib.bytesWorld_size];omega,fun j hj _=>Lib.bytesWorld_at_old w _ s j hj⟩;refine (Held.start w).new (nD _ _ _) hk ⟨⟨by rw [aX];simp,_,_,rfl,hle,hmx,(fun h=>by cases h),fun ad had j u hu=>?_⟩,fun g hg=>?_⟩ (fun b hb=>?_)
 . cases had;have hj:j < s.size:=by have:=(List.getElem?_eq_some_iff.1 hu).1;rw [aX] at this;simpa using this
   have:=Lib.bytesWorld_cell w 5 s j hj
   rw [Addr.add_lit,Nat.zero_add,this];simp only [bv,List.getElem?_map] at hu;have hj2:j < s.data.toList.length:=by simpa using hj
   rw [List.getElem?_eq_getElem hj2] at hu;rw [List.getD_eq_getElem?_getD,List.getElem?_eq_getElem hj2]
   simpa using hu
 . cases hg;rw [Lib.bytesWorld_size];exact Nat.lt_succ_self _
 . simp only [nD,Value.ownBlock,Option.toList_some,List.mem_singleton] at hb;omega
theorem qO{ops:Array Oper}{rest:List Oper}{o:Oper}{a:Act}{w0 w:World}{L:List Res}{Q:Exit->Act->World->Prop}(hg:o.guard=none)(x:Operand)(ho:o.op=.convert 9 32 x)(s:ByteArray)(hx:a.eval x=.string s)(hs:s.size<=100000000)(n:Nat)(hn:s.size=n)(S:Held w0 w L)
 (h:∀ v w',Held w0 w' (nD v n (bv s.data.toList) :: L)->wpList prog ops Q rest (a.put o.dst v) w'):wpList prog ops Q (o :: rest) a w:=
 wpList_plain hg fun K hK=>by
  subst hn;obtain ⟨v,w',hrun,S'⟩:=yO w s hs;refine bQ (v:=v) (w':=w') ?_ (hK _ _ (h v w' ?_))
  . simp [execOp,ho,hx,hrun,Result.andThen]
  . exact S.new _ S'.k (S'.at_ (l1:=[])) (fun b hb=>S'.base _ (List.mem_singleton.2 rfl) b hb)
def dV (z:Int) (nm sec:Bs):Bool:=decide (0<=z) && cR nm sec
def eD (z:Int) (h nm sec:Bs):List UInt8:=xE sec (nm ++ [10] ++ fK z.toNat h)
def jQ (z:Int) (h nm sec:Bs):List UInt8:=if dV z nm sec then eD z h nm sec else List.replicate 32 0
theorem dM(z:Int)(h nm sec:Bs):(eD z h nm sec).length=32:=by unfold eD xE;exact aY _
theorem rI(z:Int)(h nm sec:Bs):(jQ z h nm sec).length=32:=by
 unfold jQ
 split
 . exact dM ..
 . simp
theorem bCb:prog.built 23 []=some (aA (List.replicate 32 0)):=by kernel_rfl
theorem sF(n:Nat)(hn:n < 9223372036854775808)(h:Bs)(hh:h.length=32):(fK n h).length<=1000:=by
 rw [yX,iD,hh];have:=sR hn
 omega
theorem aJ6{w:World}{g:Nat}{t:TypeId}{u v:Value}{n m:Nat}{l1 l2:List UInt8}(hb:aM w g t #[u,v])(h1:Rd w 1 u n (bv l1))(h2:Rd w 1 v m (bv l2)):xY w (.slice (some ⟨g,0,none⟩) 2 2) [u,v] [l1,l2]:=by
 have e1:n=l1.length:=by have:=h1.1;rw [aX] at this;omega
 have e2:m=l2.length:=by have:=h2.1;rw [aX] at this;omega
 subst e1 e2;refine ⟨⟨rfl,_,_,rfl,Nat.le_refl _,by unfold maxLen;omega,(fun h=>by cases h),fun ad had j x hx=>?_⟩,fun i hi=>?_⟩
 . cases had;exact hb.agg j x hx
 . rcases i with _|_|i
   . exact ⟨u,rfl,h1⟩
   . exact ⟨v,rfl,h2⟩
   . have hi:i+1+1 < 2:=hi;omega
theorem aC2(z:Int)(hz:-9223372036854775808<=z ∧ z<=9223372036854775807)(h:Bs)(hh:h.length=32)(nm:ByteArray)(hnm:nm.size<=9223372036854775807)(A:Option Addr)(c:Nat)(sec:Bs)(w:World)(LDw:LD w)(hv:Rd w 1 (.slice A sec.length c) sec.length (bv sec)):
 Calls prog 69 #[.agg (cL z h),.agg #[.string nm,.slice A sec.length c]] w fun e w'=>e=.returned (.tuple #[.agg (aA (jQ z h nm.data.toList sec)),.int .i64 (if dV z nm.data.toList sec then 0 else 2)]) ∧ Kp [] w w':=by
 have S0:=LH ((((Held.start w).newBlk 25 (cL z h)).newBlkN 34 #[.string nm,.slice A sec.length c] (g:=w.heap.size+1) (by simp)).newBlkN 23 (aA (List.replicate 32 0)) (g:=w.heap.size+1+1) (by simp));have HT:=LH (fun V (hk:Kp [] w V)=>vS z hz h hh V (LDw.kp hk));have hp1:=LH (bV (s:=z) hh);have HM:=LH (fun V=>aH9 nm hnm A sec.length c V);have hvv:=LH hv;have HB0:=LH bCb;have HV:Hid (jQ z h nm.data.toList sec=if dV z nm.data.toList sec then eD z h nm.data.toList sec else List.replicate 32 0):=LH rfl;have HK:Hid (dV z nm.data.toList sec=(decide (0<=z) && (eZ nm.data.toList && decide (0 < sec.length) && decide (sec.length<=256)))):=LH rfl;have hO:=LH (aI (List.replicate 32 0));unfold tW at HT;clear hv;obtain ⟨cp,hcp⟩:∃ cp,cL z h=cp:=⟨_,rfl⟩;rw [hcp] at S0 hp1 HT ⊢;clear hcp
 by_cases hz0:z < 0
 . have Hok:Hid (dV z nm.data.toList sec=false):=LH (by rw [HK.out,decide_eq_false (by omega),Bool.false_and]);have e:txE z=2:=if_pos hz0;rw [e] at HT;rw [Hok.out] at HV ⊢;clear HM hvv HK;generalize txt z h=tx at *;generalize sec.length=sl at *;obtain ⟨ca,hca⟩:∃ ca,Hid (aA (List.replicate 32 0)=ca):=⟨_,LH rfl⟩;go_enter func69,ntmps69;go_wp2_with (refine aQ rfl 25 (.tmp 2) rfl w.heap.size (by simp [Act.eval,Act.put]) 25 _ (S0.out.at_ (l1:=[_,_])) _ underlying25 rfl (by rw [hp1.out];exact bC0) ?_)
   refine (HT.out _ S0.out.k).mono ?_;rintro e w1 ⟨rfl,k1⟩;have S1:=LH (S0.out.kp k1);clear k1 S0
   go_wp2_with (first
    |(refine bR rfl 23 _ rfl [] (by simp [Act.eval,Act.put]) _ HB0.out ?_)
    |(refine aD rfl 23 (.tmp 4) (.tmp 20) rfl (w.heap.size+1+1) (by simp [Act.eval,Act.put]) (aA (List.replicate 32 0)) (by simp [Act.eval,Act.put]) 23 _ (S1.out.at_ (l1:=[])) (by exact bBy) (by rfl) hO.out ?_;intro w7 b7 k7;have S7:=LH (Held.setBlk (l1:=[]) S1.out b7 k7);clear b7 k7))
   refine bodyPost_ret (cG (by rfl) rfl (S7.out.at_ (l1:=[])) underlying23 rfl (by exact bBy)) rfl ?_;exact ⟨by rw [HV.out];rfl,S7.out.k⟩
 . have e:txE z=0:=if_neg hz0;have e2:txt z h=fK z.toNat h:=if_neg hz0;rw [e,e2] at HT;clear e e2;have HTL:Hid ((fK z.toNat h).length<=1000):=LH (sF _ (by omega) h hh);rw [decide_eq_true (show 0<=z by omega),Bool.true_and] at HK;obtain ⟨ts,hts,-,htz,htd⟩:=gQ (fK z.toNat h);have hts:(⟨(fK z.toNat h).toArray⟩:ByteArray)=ts:=by have:=hts.out;unfold bX at this;injection this
   rw [hts] at HT;have htz:=LH htz;clear hts
   have hsumF:Hid (eD z h nm.data.toList sec=xE sec [(nm ++ { data:=#[10] }).data.toList,ts.data.toList].flatten):=LH (by
    rw [htd.out];unfold eD;congr 1;simp)
   have hkb:Hid ((eZ nm.data.toList && decide (0 < sec.length) && decide (sec.length<=256))=true->nm.size<=64 ∧ sec.length<=256):=LH (fun hb=>by
    rw [lD] at hb;simp only [Bool.and_eq_true,decide_eq_true_eq] at hb;exact ⟨hb.1.1.1.2,hb.2⟩)
   have hmm:=fun (w5:World) (L:List Res) (x:Value) (vs:List Value) (S:Held w w5 L) (hb:(eZ nm.data.toList && decide (0 < sec.length) && decide (sec.length<=256))=true) (HX:∀ V,Held w V L->xY V x vs [(nm ++ { data:=#[10] }).data.toList,ts.data.toList])=>aLp w L A c sec (by have:=(hkb.out hb).2;omega) x vs _ (by
    have h1:=(hkb.out hb).1;have h2:=HTL.out;have h3:ts.data.toList.length=ts.size:=rfl
    have h4:(nm ++ { data:=#[10] }).data.toList.length=nm.size+1:=by
     show (nm ++ { data:=#[10] }).size=_
     rw [ByteArray.size_append];rfl
    rw [<- htz.out] at h2;simp only [List.flatten_cons,List.flatten_nil,List.append_nil,List.length_append,h3,h4];omega) w5 S (fun V SV=>aT hvv.out SV.k) HX
   rw [<- hsumF.out] at hmm;have Hmm:=LH hmm;clear hmm;have hO2:=LH (aI (eD z h nm.data.toList sec));have hZ2:Hid ((aA (eD z h nm.data.toList sec)).size=32):=LH (by rw [aC,dM]);obtain ⟨sm,hsm⟩:∃ sm,Hid (aA (eD z h nm.data.toList sec)=sm):=⟨_,LH rfl⟩;rw [hsm.out] at Hmm hO2 hZ2;generalize hbb:(eZ nm.data.toList && decide (0 < sec.length) && decide (sec.length<=256))=b at *;generalize hsl:sec.length=sl at *;clear hbb hsl
   have hsz1:Hid (b=true->(nm ++ { data:=#[10] }).size<=100000000 ∧ ts.size<=100000000):=LH (fun hb=>by
    have h1:=(hkb.out hb).1;have h2:=HTL.out;rw [ByteArray.size_append,htz.out];exact ⟨by show nm.size+1<=_;omega,by omega⟩)
   have hsz2:Hid (b=true->nm.size<=64):=LH (fun hb=>(hkb.out hb).1);clear hkb;rw [HK.out] at HV ⊢;clear HK;go_enter func69,ntmps69;go_wp2_with (refine aQ rfl 25 (.tmp 2) rfl w.heap.size (by simp [Act.eval,Act.put]) 25 _ (S0.out.at_ (l1:=[_,_])) _ underlying25 rfl (by rw [hp1.out];exact bC0) ?_)
   refine (HT.out _ S0.out.k).mono ?_;rintro e w1 ⟨rfl,k1⟩;have S1:=LH (S0.out.kp k1);clear k1 S0;obtain ⟨c0,c1,m1⟩:=aM.c2 (S1.out.at_ (l1:=[_]));go_wp2_with fail
   refine (HM.out _).mono ?_;rintro e w2 ⟨rfl,k2⟩;have S2:=LH (S1.out.kp k2);clear k2 S1 c0 c1 m1;obtain ⟨c0,c1,m1⟩:=aM.c2 (S2.out.at_ (l1:=[_]))
   cases b
   . go_wp2_with (first
      |(refine bR rfl 23 _ rfl [] (by simp [Act.eval,Act.put]) _ HB0.out ?_)
      |(refine aD rfl 23 (.tmp 4) (.tmp 20) rfl (w.heap.size+1+1) (by simp [Act.eval,Act.put]) (aA (List.replicate 32 0)) (by simp [Act.eval,Act.put]) 23 _ (S2.out.at_ (l1:=[])) (by exact bBy) (by rfl) hO.out ?_;intro w7 b7 k7;have S7:=LH (Held.setBlk (l1:=[]) S2.out b7 k7);clear b7 k7))
     refine bodyPost_ret (cG (by rfl) rfl (S7.out.at_ (l1:=[])) underlying23 rfl (by exact bBy)) rfl ?_;exact ⟨by rw [HV.out];rfl,S7.out.k⟩
   . have hz5:=(hsz1.out rfl).1;have hz6:=(hsz1.out rfl).2;have hz5:=LH hz5;obtain ⟨l5,hl5⟩:∃ l5,Hid ((nm ++ { data:=#[10] }).size=l5):=⟨_,LH rfl⟩;obtain ⟨l6,hl6⟩:∃ l6,Hid (ts.size=l6):=⟨_,LH rfl⟩;have hz6:=LH hz6;have hcc:¬ 9223372036854775807 < nm.size+1:=by have:=(hsz2.out rfl);omega
     go_wp2_with (first
      |(refine qO rfl (.tmp 25) rfl (nm ++ { data:=#[10] }) (by simp [Act.eval,Act.put]) hz5.out l5 hl5.out S2.out ?_;intro v3 w3 s3;obtain ⟨A3,c3,hv3⟩:=eG (s3.at_ (l1:=[])).1;subst hv3;have S3:=LH s3;clear s3)
      |(refine qO rfl (.tmp 27) rfl ts (by simp [Act.eval,Act.put]) hz6.out l6 hl6.out S3.out ?_;intro v4 w4 s4;obtain ⟨A4,c4,hv4⟩:=eG (s4.at_ (l1:=[])).1;subst hv4;have S4:=LH s4;clear s4))
     have S5:=LH (S4.out.newBlk 32 #[.slice A3 l5 c3,.slice A4 l6 c4]);refine (Hmm.out _ _ _ [_,_] S5.out (by trivial) (fun V SV=>aJ6 (SV.at_ (l1:=[])) (SV.at_ (l1:=[_,_])).1 (SV.at_ (l1:=[_])).1)).mono ?_;rintro e w6 ⟨rfl,s6⟩;have S6:=LH s6;clear s6;go_wp2_with (refine aD rfl 23 (.tmp 4) (.tmp 30) rfl (w.heap.size+1+1) (by simp [Act.eval,Act.put]) sm (by simp [Act.eval,Act.put]) 23 _ (S6.out.at_ (l1:=[_,_,_])) (by rw [hZ2.out];exact bBy) (by rw [hZ2.out];rfl) hO2.out ?_;intro w7 b7 k7;have S7:=LH (Held.setBlk (l1:=[_,_,_]) S6.out b7 k7);clear b7 k7)
     refine bodyPost_ret (cG (by rfl) rfl (S7.out.at_ (l1:=[_,_,_])) underlying23 rfl (by rw [hZ2.out];exact bBy)) rfl ?_;exact ⟨by rw [HV.out];simp only [if_true];rw [hsm.out];rfl,S7.out.k⟩
theorem bDc(ps:List (Nat × Value)):prog.built 89 ps=Instr.fill (#[(0,1),(1,32)][·]?) (dQ ([],List.replicate 32 0)) ps:=by
 unfold Program.built
 kernel_rfl
theorem bCz(s:bF)(hs:s.2.length=32):prog.built 89 [(0,bX s.1),(1,.agg (aA s.2))]=some (dQ s):=by
 rw [bDc];have hz:(aA s.2).size=32:=by rw [aC,hs]
 have h1:=eM 1 (aA s.2).toList 0 (dQ (s.1,List.replicate 32 0));have hz1:(dQ (s.1,List.replicate 32 0)).size=33:=fL (by simp)
 have e:((aA s.2).zipIdx.foldl (fun cs (x:Value × Nat)=>cs.setIfInBounds (1+x.2) x.1) (dQ (s.1,List.replicate 32 0)))=dQ s:=by
  rw [show (aA s.2).zipIdx.foldl (fun cs (x:Value × Nat)=>cs.setIfInBounds (1+x.2) x.1) (dQ (s.1,List.replicate 32 0))=((aA s.2).toList.zipIdx 0).foldl (fun cs (x:Value × Nat)=>cs.setIfInBounds (1+x.2) x.1) (dQ (s.1,List.replicate 32 0)) from by rw [<- Array.foldl_toList,Array.toList_zipIdx],h1];rw [hz1,List.take_of_length_le (l:=(aA s.2).toList) (by rw [Array.length_toList,hz];decide),Array.length_toList,hz]
  show (#[bX s.1].toList ++ bv s.2 ++ []).toArray=_
  rw [List.append_nil];rfl
 have f1:Instr.fill (#[(0,1),(1,32)][·]?) (dQ (s.1,List.replicate 32 0)) [(1,.agg (aA s.2))]=some (dQ s):=by
  unfold Instr.fill
  show (if (decide ((aA s.2).size ≠ 32) || decide (1+(aA s.2).size > (dQ (s.1,List.replicate 32 0)).size))=true then none else Instr.fill (#[(0,1),(1,32)][·]?) ((aA s.2).zipIdx.foldl (fun cs (x:Value × Nat)=>cs.setIfInBounds (1+x.2) x.1) (dQ (s.1,List.replicate 32 0))) [])=some (dQ s)
  rw [hz,hz1,e]
  rfl
 unfold Instr.fill;exact f1
theorem zB{cs:Array Value}(hc:cs.size=33):Instr.fill (fun i=>some (i * 33,33)) ((Array.range (1 * 33)).map ((dQ ([],List.replicate 32 0))[· % (dQ ([],List.replicate 32 0)).size]!)) [(0,.agg cs)]=some cs:=by
 have hz:((Array.range (1 * 33)).map ((dQ ([],List.replicate 32 0))[· % (dQ ([],List.replicate 32 0)).size]!)).size=33:=by simp
 generalize (Array.range (1 * 33)).map ((dQ ([],List.replicate 32 0))[· % (dQ ([],List.replicate 32 0)).size]!)=z at *;have h1:=eM 0 cs.toList 0 z
 have e:cs.zipIdx.foldl (fun r (x:Value × Nat)=>r.setIfInBounds (0+x.2) x.1) z=cs:=by
  rw [show cs.zipIdx.foldl (fun r (x:Value × Nat)=>r.setIfInBounds (0+x.2) x.1) z=(cs.toList.zipIdx 0).foldl (fun r (x:Value × Nat)=>r.setIfInBounds (0+x.2) x.1) z from by rw [<- Array.foldl_toList,Array.toList_zipIdx],h1];rw [hz,List.take_of_length_le (l:=cs.toList) (by rw [Array.length_toList,hc];decide),Array.length_toList,hc,List.drop_of_length_le (by rw [Array.length_toList,hz];decide)]
  simp
 unfold Instr.fill
 show (if (decide (cs.size ≠ 33) || decide (0+cs.size > z.size))=true then none else Instr.fill (fun i=>some (i * 33,33)) (cs.zipIdx.foldl (fun r (x:Value × Nat)=>r.setIfInBounds (0+x.2) x.1) z) [])=some cs
 rw [hc,hz,e]
 rfl
def iV (z:Int) (l:List bF) (nm sec:Bs):Int:=if eH z l=false then 2 else if dV z nm sec=false then 2 else if xR nm l then 8 else if l.length=64 then 380 else 0
def pJ (l:List bF) (s:bF):List bF:=l.take (sY s.1 l) ++ s :: l.drop (sY s.1 l)
theorem wX{z:Int}{l:List bF}(h:eH z l=true):l.length<=64 ∧ dB [] l=true:=by
 unfold eH at h;simp only [Bool.and_eq_true,decide_eq_true_eq] at h;exact ⟨h.1.2,h.2⟩
def Cnt (w:World) (b m:Nat) (f:List UInt8->Nat):Prop:=∃ D:DataW Unit,w.ownsMap prog 9 (plainElem prog 3) b m D ∧ ∀ s,D.atKey (.string s) (.lit (.int .i64 0))=.lit (.int .i64 (f s:Int))
def eX (b m:Nat) (f:List UInt8->Nat):Res where
 fp:=[b]
 ok:=fun w=>Cnt w b m f
 keep:=fun _ _ _ h hk hn=>by
  obtain ⟨D,h,hf⟩:=h;have hlt:=h.lt;obtain ⟨es,clock,hb,rest⟩:=h;exact ⟨D,⟨es,clock,(hk.block b hlt (hn b (by simp))).trans hb,rest⟩,hf⟩
 lt:=fun _ h g hg=>by
  obtain ⟨D,h,hf⟩:=h;simp at hg;subst hg;exact h.lt
theorem aL8(w:World):Cnt (w.alloc (.map #[] 0)) w.heap.size 0 (fun _=>0):=⟨.map [],World.ownsMap_made ..,fun _=>rfl⟩
theorem aD3{w:World}{b m:Nat}{f:List UInt8->Nat}(h:Cnt w b m f)(s:ByteArray)(hs:s.size<=maxLen):(Instr.lookup 158 (.map (some b)) (.string s) false).run prog w=.ok (.int .i64 (f s.data.toList:Int)) w:=by
 obtain ⟨D,h,hf⟩:=h;obtain ⟨c,hrun,hat,-⟩:=h.lookup_int (Maps.string_keyed underlying9) underlying158 underlying3 (by kernel_rfl) (WideMaps.keyOf_string_mk underlying9 hs);rw [hf] at hat;have:(f s.data.toList:Int)=c:=by simp only [DataW.lit.injEq,Lit.int.injEq,true_and] at hat;exact hat
 rw [hrun,this]
theorem aPu{x:Nat}(hx:x < 9223372036854775808):(Lit.int .i64 (x:Int)).wf=true:=by
 have h1:IntKind.i64.min=-9223372036854775808:=by decide
 have h2:IntKind.i64.max=9223372036854775807:=by decide
 show (decide (IntKind.i64.min<=(x:Int)) && decide ((x:Int)<=IntKind.i64.max))=true
 rw [h1,h2,Bool.and_eq_true,decide_eq_true_iff,decide_eq_true_iff];omega
theorem aIx{w:World}{b m:Nat}{f:List UInt8->Nat}(h:Cnt w b m f)(hm:m < maxLen)(s:ByteArray)(hs:s.size<=maxLen)(x:Nat)(hx:x < 9223372036854775808):
 ∃ w',(Instr.mapUpdate 158 (.map (some b)) (.string s) (.int .i64 (x:Int))).run prog w=.ok () w' ∧ Cnt w' b (m+1) (fun t=>if t=s.data.toList then x else f t) ∧ Kp [b] w w':=by
 obtain ⟨D,h,hf⟩:=h;have hmap:=h.isMap;obtain ⟨w',hrun,h',hg⟩:=h.update (Maps.string_keyed underlying9) underlying158 hm (WideMaps.keyOf_string_mk underlying9 hs) (plainElem_int underlying3 (a:=(x:Int)) (aPu hx));refine ⟨w',hrun,⟨_,h',fun t=>?_⟩,Kp.of_grown hg⟩
 show _=DataW.lit (.int .i64 ((if t=s.data.toList then x else f t:Nat):Int))
 by_cases e:t=s.data.toList
 . rw [if_pos e,e];exact Maps.atKey_put_same hmap (by trivial) _ _
 . rw [if_neg e,Maps.atKey_put_other (fun h=>e (by simpa using h))];exact hf t
end
section
variable {Q:Exit->Act->World->Prop} {a:Act} {w:World}
open Go.RowKit
theorem qI{P:Program}{ops:Array Oper}{rest:List Oper}{o:Oper}{a:Act}{w:World}{Q:Exit->Act->World->Prop}(j d:Nat)(b:Bool)(hg:o.guard=some (j,b))(hj:(ops[j]?).bind (·.dst)=some d)(hd:a.tmps[d]?.getD undef=.bool b)
 (ty:TypeId) (x:Operand) (ho:o.op=.load ty x) (ad:Addr) (hx:a.eval x=.pointer (some ad)) (cs:List Value) (ds:TypeDesc) (hc:∀ j u,cs[j]?=some u->w.cell? (ad.add j)=some u) (hu:P.underlying ty=some ds) (hds:nW ds=true) (hi:(P.info? ty).map (·.size)=some cs.length)
 (h:wpList P ops Q rest (a.put o.dst (.agg cs.toArray)) w):wpList P ops Q (o :: rest) a w:=
 nR j d b hg hj hd fun K hK=>by
  unfold Oper.wp;rw [dK ho hx (bY w ad ty cs ds hc hu hds hi)];exact hK _ _ h
theorem aJl{w:World}{g:Nat}{t:TypeId}{s:bF}(hb:aM w g t (dQ s)):∀ j u,(aA s.2).toList[j]?=some u->w.cell? ((⟨g,1,none⟩:Addr).add j)=some u:=by
 intro j u hu;rw [Addr.add_lit,Nat.add_comm];have:=hb.agg (j+1) u (by show (bX s.1 :: bv s.2)[j+1]?=_;rw [List.getElem?_cons_succ];exact hu)
 rwa [Addr.add_lit,Nat.zero_add] at this
theorem bCs:(prog.info? 9).map (fun i=>(i.zero,i.size,i.bytes))=some (some (.string ⟨#[]⟩),1,16):=by kernel_rfl
theorem bC4:(prog.info? 34).map (·.size)=some 2:=by kernel_rfl
theorem aYs(w0:World)(ca:Array Value)(L:List Res)(S:Held w0 w L)(hsz:a.tmps.size=80)(o0:Sl a 0 (.agg ca)):bC false 0 f73 Q a w fun a' W q'=>(∃ gN,Sl a' 2 (Pq gN 0) ∧ Held w0 W (aB gN 28 ca :: L))->q':=by
 refine bU fun hend=>?_;unfold Sl at o0;have S0:=LH (S.newBlk 28 ca);go_wp2_with fail
 try simp only [Act.put]
 exact hend _ _ tS (⟨_,cH,S0.out⟩)
theorem aWp(w0:World)(L:List Res)(S:Held w0 w L)(hsz:a.tmps.size=80):bC false 1 f73 Q a w fun a' W q'=>(∃ v,Sl a' 5 v ∧ Held w0 W (aG 9 1 v 0 [] :: L))->q':=by
 refine bU fun hend=>?_;have S1:=LH (S.rownew (oH 9 1 (g:=w.heap.size) rfl) ((Kp.refl [] w).alloc _) (by simp [Value.ownBlock]));go_wp2_with fail
 try simp only [Act.put]
 exact hend _ _ tS (⟨_,cH,S1.out⟩)
theorem aS8(w0:World)(gN:Nat)(ca:Array Value)(hz:ca.size=34)(ck:Int)(b:Bool)(hb:(ck != 0)=b)(L:List Res)(S:Held w0 w (aB gN 28 ca :: L))(HC:∀ V,Held w0 V (aB gN 28 ca :: L)->Calls prog 31 #[.agg ca] V fun e w'=>e=.returned (.int .i64 ck) ∧ Kp [] V w')(hsz:a.tmps.size=80)(o2:Sl a 2 (Pq gN 0)):bC false 2 f73 Q a w fun a' W q'=>Sl a' 18 (.bool b)->(Held w0 W (aB gN 28 ca :: L))->q':=by
 refine bU fun hend=>?_;unfold Sl at o2;have S:=LH S;have HC:=LH (HC _ S.out);have hz:=LH hz;go_wp2_with (refine aQ rfl 28 (.tmp 2) rfl gN (aO o2) 28 _ (S.out.at_ (l1:=[])) _ underlying28 rfl (by rw [hz.out];exact bBz) ?_)
 refine HC.out.mono ?_;rintro e w1 ⟨rfl,k1⟩;have S1:=LH (S.out.kp k1);clear k1;go_wp2_with fail
 try simp only [Act.put]
 exact hend _ _ tS sP (S1.out)
theorem aOy(v:Value)(hsz:a.tmps.size=80)(o5:Sl a 5 (v)):bK 3 f73 Q a w fun a' q'=>Sl a' 4 (v)->q':=by
 refine jG fun hend=>?_;unfold Sl at o5;go_wp2_with fail
 try simp only [Act.put]
 exact hend _ tS sP
theorem aUa(w0:World)(L:List Res)(S:Held w0 w L)(hsz:a.tmps.size=80):bC false 4 f73 Q a w fun a' W q'=>(∃ g,Sl a' 6 (.map (some g)) ∧ Held w0 W (eX g 0 (fun _=>0) :: L))->q':=by
 refine bU fun hend=>?_;have hmk:(Instr.makeMap 158 none).run prog w=.ok (.map (some w.heap.size)) (w.alloc (.map #[] 0)):=rfl;have S1:=LH (S.new (eX w.heap.size 0 (fun _=>0)) ((Kp.refl [] w).alloc (.map #[] 0)) (aL8 w) (fun b hb=>by simp [eX] at hb;omega));go_wp2_with fail
 try simp only [Act.put]
 exact hend _ _ tS (⟨w.heap.size,cH,S1.out⟩)
theorem aWg(A:Option Addr)(n c:Nat)(hsz:a.tmps.size=80)(o1:Sl a 1 (.slice A n c)):bK 5 f73 Q a w fun a' q'=>Sl a' 21 (.slice A n c)->Sl a' 22 (Nq n)->Sl a' 23 (Nq 0)->q':=by
 refine jG fun hend=>?_;unfold Sl at o1;go_wp2_with fail
 try simp only [Act.put]
 exact hend _ tS sP sP sP
theorem aTr(k n:Nat)(hsz:a.tmps.size=80)(o22:Sl a 22 (Nq n))(o23:Sl a 23 (Nq k)):bK 6 f73 Q a w fun a' q'=>Sl a' 24 (.bool (decide (k < n)))->q':=by
 refine jG fun hend=>?_;unfold Sl at o22 o23;go_wp2_with fail
 try simp only [Act.put]
 exact hend _ tS sP
theorem aSy(w0:World)(ad:Addr)(k n c:Nat)(hk:k < n)(nm:ByteArray)(v:Value)(hv:∃ A n c,v=.slice A n c)(hc:∀ j u,([.string nm,v]:List Value)[j]?=some u->w.cell? ((ad.add (k * 2)).add j)=some u)(L:List Res)(S:Held w0 w L)(hsz:a.tmps.size=80)(o21:Sl a 21 (.slice (some ad) n c))(o23:Sl a 23 (Nq k)):bC false 7 f73 Q a w fun a' W q'=>(∃ g,Sl a' 8 (Pq g 0) ∧ Held w0 W (aB g 34 #[.string nm,v] :: L))->q':=by
 refine bU fun hend=>?_;unfold Sl at o21 o23;obtain ⟨A2,n2,c2,rfl⟩:=hv;have S:=LH S;have h0:0<=(k:Int):=by omega
 have h1:(k:Int) < (n:Int):=by omega
 have HC:=LH hc;have HO:Hid (∀ u,u ∈ (#[.string nm,.slice A2 n2 c2]:Array Value).toList->u.oneCell'=true):=LH (by intro u hu;simp at hu;rcases hu with rfl|rfl <;> rfl);have HI:=LH bC4;clear hc;have S1:=LH (S.out.newBlk 34 #[.string ⟨#[]⟩,.slice none 0 0])
 go_wp2_with (first
  |(refine bW rfl 34 (.tmp 25) rfl (ad.add (k * 2)) aE [.string nm,.slice A2 n2 c2] _ HC.out underlying34 rfl (by exact HI.out) ?_)
  |(refine aD rfl 34 (.tmp 8) (.tmp 26) rfl w.heap.size aE #[.string nm,.slice A2 n2 c2] aE 34 _ (S1.out.at_ (l1:=[])) (by exact HI.out) (by rfl) HO.out ?_;intro w7 b7 k7;have S7:=LH (Held.setBlk (l1:=[]) S1.out b7 k7);clear b7 k7))
 try simp only [Act.put]
 exact hend _ _ tS (⟨_,cH,S7.out⟩)
theorem aRt(w0:World)(gN:Nat)(z:Int)(h:Bs)(hh:h.length=32)(A:Option Addr)(n c:Nat)(L:List Res)(S:Held w0 w (aB gN 28 (bD z h (.slice A n c)) :: L))(hsz:a.tmps.size=80)(o2:Sl a 2 (Pq gN 0)):bK 8 f73 Q a w fun a' q'=>Sl a' 28 (.slice A n c)->Sl a' 29 (Nq n)->Sl a' 30 (Nq 0)->q':=by
 refine jG fun hend=>?_;unfold Sl at o2;have c33:w.cell? ⟨gN,33,none⟩=some (.slice A n c):=by rw [(S.at_ (l1:=[])).cell];exact cP hh
 go_wp2_with fail
 try simp only [Act.put]
 exact hend _ tS sP sP sP
theorem aOu(k n:Nat)(hsz:a.tmps.size=80)(o29:Sl a 29 (Nq n))(o30:Sl a 30 (Nq k)):bK 9 f73 Q a w fun a' q'=>Sl a' 31 (.bool (decide (k < n)))->q':=by
 refine jG fun hend=>?_;unfold Sl at o29 o30;go_wp2_with fail
 try simp only [Act.put]
 exact hend _ tS sP
theorem aK5(w0:World)(ad:Addr)(k n c:Nat)(hk:k < n)(s:bF)(hs:s.2.length=32)(hc:∀ j u,(vW s)[j]?=some u->w.cell? ((ad.add (k * 33)).add j)=some u)(L:List Res)(S:Held w0 w L)(hsz:a.tmps.size=80)(o28:Sl a 28 (.slice (some ad) n c))(o30:Sl a 30 (Nq k)):bC false 10 f73 Q a w fun a' W q'=>(∃ g,Sl a' 10 (Pq g 0) ∧ Held w0 W (aB g 89 (dQ s) :: L))->q':=by
 refine bU fun hend=>?_;unfold Sl at o28 o30;have S:=LH S;have h0:0<=(k:Int):=by omega
 have h1:(k:Int) < (n:Int):=by omega
 have hc2:∀ j u,(dQ s).toList[j]?=some u->w.cell? ((ad.add (k * 33)).add j)=some u:=hc;have HC:=LH hc2;clear hc hc2;have HO:=LH (mM s);have hz2:Hid ((dQ s).size=33):=LH (fL hs);have S1:=LH (S.out.newBlk 89 (dQ ([],List.replicate 32 0)));generalize dQ s=cs at *
 go_wp2_with (first
  |(refine bW rfl 89 (.tmp 32) rfl (ad.add (k * 33)) aE cs.toList _ HC.out underlying89 rfl (by rw [Array.length_toList,hz2.out];exact bC5) ?_)
  |(refine aD rfl 89 (.tmp 10) (.tmp 33) rfl w.heap.size aE cs aE 89 _ (S1.out.at_ (l1:=[])) (by rw [hz2.out];exact bC5) (by rw [hz2.out];rfl) HO.out ?_;intro w7 b7 k7;have S7:=LH (Held.setBlk (l1:=[]) S1.out b7 k7);clear b7 k7))
 try simp only [Act.put]
 exact hend _ _ tS (⟨_,cH,S7.out⟩)
theorem aNi(w0:World)(gs gk:Nat)(s:bF)(ns nm:ByteArray)(v:Value)(hn:bX s.1=.string ns)(b:Bool)(hb:(!(ns.toList == nm.toList))=b)(L:List Res)(S:Held w0 w (aB gs 89 (dQ s) :: aB gk 34 #[.string nm,v] :: L))(hsz:a.tmps.size=80)(o8:Sl a 8 (Pq gk 0))(o10:Sl a 10 (Pq gs 0)):bK 11 f73 Q a w fun a' q'=>Sl a' 38 (.bool b)->q':=by
 refine jG fun hend=>?_;unfold Sl at o8 o10;have c1:w.cell? ⟨gs,0,none⟩=some (.string ns):=by rw [(S.at_ (l1:=[])).cell,<- hn];rfl
 obtain ⟨c2,c3,m3⟩:=aM.c2 (S.at_ (l1:=[_]));go_wp2_with fail
 try simp only [Act.put]
 exact hend _ tS sP
theorem aMw(w0:World)(gN gK:Nat)(z:Int)(h:Bs)(hh:h.length=32)(v0 u v:Value)(sv:Bs)(hsv:sv.length=32)(se:Int)(L:List Res)(S:Held w0 w (aB gN 28 (bD z h v0) :: aB gK 34 #[u,v] :: L))(HS0:∀ V,Held w0 V (aB gN 28 (bD z h v0) :: aB gK 34 #[u,v] :: L)->Calls prog 69 #[.agg (cL z h),.agg #[u,v]] V fun e w'=>e=.returned (.tuple #[.agg (aA sv),.int .i64 se]) ∧ Kp [] V w')(hsz:a.tmps.size=80)(o2:Sl a 2 (Pq gN 0))(o8:Sl a 8 (Pq gK 0)):bC false 12 f73 Q a w fun a' W q'=>Sl a' 12 (.int .i64 (se))->(∃ gS,Sl a' 11 (Pq gS 0) ∧ Held w0 W (aB gS 23 (aA sv) :: aB gN 28 (bD z h v0) :: aB gK 34 #[u,v] :: L))->q':=by
 refine bU fun hend=>?_;unfold Sl at o2 o8;have S:=LH S;have HS:=LH (HS0 _ S.out);clear HS0;have hp:=LH (eE (S.out.at_ (l1:=[])));have HP:=LH (bV (s:=z) hh);have hO:=LH (aI sv);have hz2:Hid ((aA sv).size=32):=LH (by rw [aC,hsv]);obtain ⟨c0,c1,m1⟩:=aM.c2 (S.out.at_ (l1:=[_]));generalize bD z h v0=ca at *;generalize cL z h=cp at *;generalize aA sv=ch at *;go_wp2_with (refine bW rfl 25 (.tmp 40) rfl ⟨gN,0,none⟩ aE cp.toList _ hp.out underlying25 rfl (by rw [Array.length_toList,HP.out];exact bC0) ?_)
 refine HS.out.mono ?_;rintro e w1 ⟨rfl,k1⟩;have S1:=LH ((S.out.kp k1).newBlk 23 (aA (List.replicate 32 0)));clear k1 c0 c1 m1;go_wp2_with (refine aD rfl 23 (.tmp 11) (.tmp 44) rfl w1.heap.size aE ch aE 23 _ (S1.out.at_ (l1:=[])) (by rw [hz2.out];exact bBy) (by rw [hz2.out];rfl) hO.out ?_;intro w7 b7 k7;have S7:=LH (Held.setBlk (l1:=[]) S1.out b7 k7);clear b7 k7)
 try simp only [Act.put]
 exact hend _ _ tS sP (⟨_,cH,S7.out⟩)
theorem aN5(w0:World)(gM gK m:Nat)(hm:m < maxLen)(f:List UInt8->Nat)(nm:ByteArray)(hnm:nm.size<=maxLen)(v:Value)(hf:f nm.data.toList < 4611686018427387904)(L:List Res)(S:Held w0 w (eX gM m f :: aB gK 34 #[.string nm,v] :: L))(hsz:a.tmps.size=80)(o6:Sl a 6 (.map (some gM)))(o8:Sl a 8 (Pq gK 0)):bC false 14 f73 Q a w fun a' W q'=>(Held w0 W (eX gM (m+1) (fun t=>if t=nm.data.toList then f nm.data.toList+1 else f t) :: aB gK 34 #[.string nm,v] :: L))->q':=by
 refine bU fun hend=>?_;unfold Sl at o6 o8;have S:=LH S;have hC:Hid (Cnt w gM m f):=LH (S.out.at_ (l1:=[]));obtain ⟨c2,c3,m3⟩:=aM.c2 (S.out.at_ (l1:=[_]));have hg:=aD3 hC.out nm hnm;have hp:=LH (aIx hC.out hm nm hnm (f nm.data.toList+1) (by omega));have hw:wrap64 ((f nm.data.toList:Int)+1)=(f nm.data.toList:Int)+1:=by unfold wrap64;omega
 obtain ⟨w5,hrun,hC5,hk5⟩:=hp.out;have hC5:=LH hC5;have hk5:=LH hk5;rw [Int.natCast_add,Int.natCast_one] at hrun;generalize f nm.data.toList=x at *;have S5:=LH (S.out.turnAt (l1:=[]) (eX gM (m+1) (fun t=>if t=nm.data.toList then x+1 else f t)) hk5.out hC5.out (fun b hb=>.inl hb));go_wp2_with fail
 try simp only [Act.put]
 exact hend _ _ tS (S5.out)
theorem aLd(k:Nat)(hk:k < 9223372036854775807)(hsz:a.tmps.size=80)(o30:Sl a 30 (Nq k)):bK 15 f73 Q a w fun a' q'=>Sl a' 30 (Nq (k+1))->q':=by
 refine jG fun hend=>?_;unfold Sl at o30;have hw:wrap64 ((k:Int)+1)=(k:Int)+1:=by unfold wrap64;omega
 go_wp2_with fail
 try simp only [Act.put]
 exact hend _ tS sP
theorem aLm(k:Nat)(hk:k < 9223372036854775807)(hsz:a.tmps.size=80)(o23:Sl a 23 (Nq k)):bK 16 f73 Q a w fun a' q'=>Sl a' 23 (Nq (k+1))->q':=by
 refine jG fun hend=>?_;unfold Sl at o23;have hw:wrap64 ((k:Int)+1)=(k:Int)+1:=by unfold wrap64;omega
 go_wp2_with fail
 try simp only [Act.put]
 exact hend _ tS sP
theorem aN1(w0:World)(gN:Nat)(z:Int)(h:Bs)(hh:h.length=32)(A:Option Addr)(n c:Nat)(L:List Res)(S:Held w0 w (aB gN 28 (bD z h (.slice A n c)) :: L))(hsz:a.tmps.size=80)(o2:Sl a 2 (Pq gN 0)):bK 17 f73 Q a w fun a' q'=>Sl a' 62 (.slice A n c)->Sl a' 63 (Nq n)->Sl a' 64 (Nq 0)->q':=by
 refine jG fun hend=>?_;unfold Sl at o2;have c33:w.cell? ⟨gN,33,none⟩=some (.slice A n c):=by rw [(S.at_ (l1:=[])).cell];exact cP hh
 go_wp2_with fail
 try simp only [Act.put]
 exact hend _ tS sP sP sP
theorem aJ3(k n:Nat)(hsz:a.tmps.size=80)(o63:Sl a 63 (Nq n))(o64:Sl a 64 (Nq k)):bK 18 f73 Q a w fun a' q'=>Sl a' 65 (.bool (decide (k < n)))->q':=by
 refine jG fun hend=>?_;unfold Sl at o63 o64;go_wp2_with fail
 try simp only [Act.put]
 exact hend _ tS sP
theorem aNr(w0:World)(ad:Addr)(k n c:Nat)(hk:k < n)(s:bF)(hs:s.2.length=32)(hc:∀ j u,(vW s)[j]?=some u->w.cell? ((ad.add (k * 33)).add j)=some u)(L:List Res)(S:Held w0 w L)(hsz:a.tmps.size=80)(o62:Sl a 62 (.slice (some ad) n c))(o64:Sl a 64 (Nq k)):bC false 19 f73 Q a w fun a' W q'=>(∃ g,Sl a' 14 (Pq g 0) ∧ Held w0 W (aB g 89 (dQ s) :: L))->q':=by
 refine bU fun hend=>?_;unfold Sl at o62 o64;have S:=LH S;have h0:0<=(k:Int):=by omega
 have h1:(k:Int) < (n:Int):=by omega
 have hc2:∀ j u,(dQ s).toList[j]?=some u->w.cell? ((ad.add (k * 33)).add j)=some u:=hc;have HC:=LH hc2;clear hc hc2;have HO:=LH (mM s);have hz2:Hid ((dQ s).size=33):=LH (fL hs);have S1:=LH (S.out.newBlk 89 (dQ ([],List.replicate 32 0)));generalize dQ s=cs at *
 go_wp2_with (first
  |(refine bW rfl 89 (.tmp 66) rfl (ad.add (k * 33)) aE cs.toList _ HC.out underlying89 rfl (by rw [Array.length_toList,hz2.out];exact bC5) ?_)
  |(refine aD rfl 89 (.tmp 14) (.tmp 67) rfl w.heap.size aE cs aE 89 _ (S1.out.at_ (l1:=[])) (by rw [hz2.out];exact bC5) (by rw [hz2.out];rfl) HO.out ?_;intro w7 b7 k7;have S7:=LH (Held.setBlk (l1:=[]) S1.out b7 k7);clear b7 k7))
 try simp only [Act.put]
 exact hend _ _ tS (⟨_,cH,S7.out⟩)
theorem aNp(w0:World)(gM gs m:Nat)(f:List UInt8->Nat)(s:bF)(ns:ByteArray)(hn:bX s.1=.string ns)(hnm:ns.size<=maxLen)(L:List Res)(S:Held w0 w (eX gM m f :: aB gs 89 (dQ s) :: L))(hsz:a.tmps.size=80)(o6:Sl a 6 (.map (some gM)))(o14:Sl a 14 (Pq gs 0)):bK 20 f73 Q a w fun a' q'=>Sl a' 72 (.bool (decide (0 < f ns.data.toList)))->q':=by
 refine jG fun hend=>?_;unfold Sl at o6 o14;have hC:Hid (Cnt w gM m f):=LH (S.at_ (l1:=[]));have c1:w.cell? ⟨gs,0,none⟩=some (.string ns):=by rw [(S.at_ (l1:=[_])).cell,<- hn];rfl
 have hg:=aD3 hC.out ns hnm;have hd:decide (0 < f ns.data.toList)=decide ((0:Int) < (f ns.data.toList:Int)):=by congr 1;exact propext ⟨fun h=>by omega,fun h=>by omega⟩
 rw [hd] at hend;clear hd;go_wp2_with fail
 try simp only [Act.put]
 exact hend _ tS sP
theorem aNh(w0:World)(gs n:Nat)(hn:n < 1000000)(s:bF)(ns:ByteArray)(hns:bX s.1=.string ns)(v:Value)(xs:List Value)(L:List Res)(S:Held w0 w (aG 9 1 v n xs :: aB gs 89 (dQ s) :: L))(hsz:a.tmps.size=80)(o5:Sl a 5 (v))(o14:Sl a 14 (Pq gs 0)):bC false 21 f73 Q a w fun a' W q'=>(∃ v',Sl a' 5 v' ∧ Held w0 W (aG 9 1 v' (n+1) (xs ++ [.string ns]) :: aB gs 89 (dQ s) :: L))->q':=by
 refine bU fun hend=>?_;unfold Sl at o5 o14;have S:=LH S;have c1:w.cell? ⟨gs,0,none⟩=some (.string ns):=by rw [(S.out.at_ (l1:=[_])).cell,<- hns];rfl
 have S1:=LH (S.out.newBlk 9 #[.string ns]);obtain ⟨i0,hi,hz,hsize,hby⟩:=info_parts bCs;have Hz:=LH hz;clear hz;have hle:Hid (n+1<=maxLen ∧ (n+1) * 16<=140737488355328):=LH ⟨by unfold maxLen;omega,by omega⟩;have HR:Hid (Rd (w.alloc (.cells #[.string ns] 9)) 1 (.slice (some ⟨w.heap.size,0,none⟩) 1 1) 1 [.string ns]):=LH ⟨rfl,_,_,rfl,Nat.le_refl _,by unfold maxLen;omega,(fun h=>by cases h),fun ad had j u hu=>by cases had;exact (S1.out.at_ (l1:=[])).agg j u hu⟩;go_wp2_with (at_builtin;refine gR _ rfl (.tmp 73) (.tmp 76) 129 rfl 9 i0 _ 1 16 underlying129 hi Hz.out hsize hby rfl (by decide) _ n xs (aO o5) (S1.out.at_ (l1:=[_])) _ 1 [.string ns] aE HR.out (by intro u hu;rw [List.mem_singleton.1 hu];rfl) hle.out.1 hle.out.2 ?_;intro v' w' o3 g3 b3;have S2:=LH (Held.grow (l1:=[_]) S1.out o3 g3 b3);clear o3 g3 b3)
 try simp only [Act.put]
 exact hend _ _ tS (⟨_,cH,S2.out.drop⟩)
theorem aBw(k:Nat)(hk:k < 9223372036854775807)(hsz:a.tmps.size=80)(o64:Sl a 64 (Nq k)):bK 22 f73 Q a w fun a' q'=>Sl a' 64 (Nq (k+1))->q':=by
 refine jG fun hend=>?_;unfold Sl at o64;have hw:wrap64 ((k:Int)+1)=(k:Int)+1:=by unfold wrap64;omega
 go_wp2_with fail
 try simp only [Act.put]
 exact hend _ tS sP
theorem aNt(v:Value)(hsz:a.tmps.size=80)(o5:Sl a 5 (v)):bK 23 f73 Q a w fun a' q'=>Sl a' 4 (v)->q':=by
 refine jG fun hend=>?_;unfold Sl at o5;go_wp2_with fail
 try simp only [Act.put]
 exact hend _ tS sP
end
end Go.Proofs.YtmkfopmdingaoaaGreatDoor
