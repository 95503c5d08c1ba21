/- Several texts in one: SigZ, SigAA, SigAB, SigAC, SigAD, Ops, Make, SigAE, SigAF, SigAG, SigAH, TreA, SigAM, SigAN, SigAO, SigAP, TreB, TreC, TreD, TreE, TreF, TreG, ConA, ConB. -/
import Derived.Great.BuildSlice
import Derived.Test.YtmkfopmdingaoaaGreatDoorP4
set_option linter.unusedVariables false
set_option linter.unusedSimpArgs false
set_option maxRecDepth 100000
set_option maxHeartbeats 8000000
open Go.Proofs.Tryz
namespace Go.Proofs.YtmkfopmdingaoaaGreatDoor
section
open Go.RowKit
abbrev fR:=List UInt8 × List UInt8
def bO (z:Int) (h:Bs) (k:fR) (s:bF):Bool:=(s.1 == k.1) && (dV z k.1 k.2 && (jQ z h k.1 k.2 == s.2))
def jC (z:Int) (h:Bs) (k:fR) (l:List bF):Nat:=(l.filter (bO z h k)).length
def eC (z:Int) (h:Bs) (ks:List fR) (l:List bF) (nm:Bs):Nat:=(ks.map fun k=>if nm=k.1 then jC z h k l else 0).sum
def nO (z:Int) (h:Bs) (l:List bF) (ks:List fR):List (List UInt8):=(l.filter fun s=>ks.any fun k=>bO z h k s).map (·.1)
theorem vU(z:Int)(h:Bs)(k:fR)(l:List bF):jC z h k l<=l.length:=List.length_filter_le ..
theorem vF(z:Int)(h:Bs)(l:List bF)(nm:Bs):∀ ks:List fR,eC z h ks l nm<=ks.length * l.length
 |[]=>by simp [eC]
 |k :: ks=>by
  have ih:=vF z h l nm ks;have h1:=vU z h k l;unfold eC at ih ⊢;rw [List.map_cons,List.sum_cons,List.length_cons,Nat.succ_mul]
  split <;> omega
theorem yD(z:Int)(h:Bs)(ks:List fR)(k:fR)(l:List bF)(nm:Bs):eC z h (ks ++ [k]) l nm=eC z h ks l nm+if nm=k.1 then jC z h k l else 0:=by
 unfold eC;rw [List.map_append,List.sum_append]
 simp
theorem rC(z:Int)(h:Bs)(k:fR)(l:List bF)(s:bF):jC z h k (l ++ [s])=jC z h k l+if bO z h k s then 1 else 0:=by
 unfold jC;rw [List.filter_append,List.length_append]
 congr 1
 cases hm:bO z h k s <;> simp [hm]
theorem tG:∀ {l:List bF} {a:List UInt8},dB a l=true->∀ x y,x ∈ l->y ∈ l->x.1=y.1->x=y
 |[],_,_,x,_,hx,_,_=>by cases hx
 |s :: l,a,h,x,y,hx,hy,e=>by
  unfold dB at h;simp only [Bool.and_eq_true] at h;have hr:=kX h.2;rcases List.mem_cons.1 hx with rfl|hx2
  . rcases List.mem_cons.1 hy with rfl|hy2
    . rfl
    . have:=hr y hy2
      rw [e,fI] at this;omega
  . rcases List.mem_cons.1 hy with rfl|hy2
    . have:=hr x hx2
      rw [e,fI] at this;omega
    . exact tG h.2 x y hx2 hy2 e
theorem aC5{z:Int}{h:List UInt8}{l:List bF}{a:List UInt8}(hr:dB a l=true){s:bF}(hs:s ∈ l):∀ ks:List fR,decide (0 < eC z h ks l s.1)=ks.any fun k=>bO z h k s
 |[]=>by simp [eC]
 |k :: ks=>by
  have ih:=aC5 (z:=z) (h:=h) hr hs ks;rw [List.any_cons,<- ih];unfold eC;rw [List.map_cons,List.sum_cons]
  by_cases hk:s.1=k.1
  . rw [if_pos hk]
    cases hm:bO z h k s
    . have h0:jC z h k l=0:=by
       unfold jC;rw [List.length_eq_zero_iff,List.filter_eq_nil_iff];intro x hx hxm
       have hx1:x.1=k.1:=by
        unfold bO at hxm;simp only [Bool.and_eq_true,beq_iff_eq] at hxm;exact hxm.1
       have:=tG hr x s hx hs (hx1.trans hk.symm)
       rw [this,hm] at hxm
       cases hxm
      rw [h0,Nat.zero_add,Bool.false_or]
    . have h0:0 < jC z h k l:=List.length_pos_of_mem (List.mem_filter.2 ⟨hs,hm⟩);rw [Bool.true_or];exact decide_eq_true (by omega)
  . rw [if_neg hk,Nat.zero_add]
    have hm:bO z h k s=false:=by
     unfold bO;rw [beq_false_of_ne hk,Bool.false_and]
    rw [hm,Bool.false_or]
def wI (W:World) (v:Value) (vs:List Value) (ks:List fR):Prop:=Rd W 2 v ks.length vs ∧ ∀ i (hi:i < ks.length),∃ A c,vs[i * 2]?=some (bX ks[i].1) ∧ vs[i * 2+1]?=some (.slice A ks[i].2.length c) ∧ Rd W 1 (.slice A ks[i].2.length c) ks[i].2.length (bv ks[i].2)
theorem wI.kp0{W W':World}{v:Value}{vs:List Value}{ks:List fR}(h:wI W v vs ks)(k:Kp [] W W'):wI W' v vs ks:=⟨aT h.1 k,fun i hi=>by obtain ⟨A,c,h1,h2,h3⟩:=h.2 i hi;exact ⟨A,c,h1,h2,aT h3 k⟩⟩
def aO8:List Nat:=[5,14,64,65,66,67,68,69,70,71,72,73,74,75,76,77,78]
theorem aS4{Q:Exit->Act->World->Prop}{a:Act}{w0 w:World}(gM m:Nat)(f:List UInt8->Nat)(A:Option Addr)(c:Nat)(l:List bF)(hok:dI l)(hll:l.length < 1000000)(L:List Res)(v0:Value)(hsz:a.tmps.size=80)
 (o5:Sl a 5 v0) (o6:Sl a 6 (.map (some gM))) (o62:Sl a 62 (.slice A l.length c)) (o63:Sl a 63 (Nq (l.length))) (o64:Sl a 64 (Nq 0)) (hv:Rd w0 33 (.slice A l.length c) l.length (bB l))
 (S:Held w0 w (aG 9 1 v0 0 [] :: eX gM m f :: L))
 (hend:∀ (a':Act) (W:World) (v:Value) (L2:List Res),Same a a' aO8->Sl a' 5 v->Held w0 W (aG 9 1 v ((l.filter fun s=>decide (0 < f s.1)).map (·.1)).length (((l.filter fun s=>decide (0 < f s.1)).map (·.1)).map bX) :: L2)->Q .normal a' W):
 (Code.block 4 (dR 4 f73)).wp prog Q a w:=by
 refine wp_block ?_
 (conv=>arg 2;whnf)
 refine wp_loop (fun a' w'=>∃ (k:Nat) (v:Value) (L2:List Res),k<=l.length ∧ Same a a' aO8 ∧ Sl a' 64 (Nq k) ∧ Sl a' 5 v ∧ Held w0 w' (aG 9 1 v (((l.take k).filter fun s=>decide (0 < f s.1)).map (·.1)).length ((((l.take k).filter fun s=>decide (0 < f s.1)).map (·.1)).map bX) :: eX gM m f :: L2)) (fun a' _=>l.length - (intOf (a'.eval (.tmp 64))).toNat) ⟨0,v0,L,Nat.zero_le _,Same.refl _ _,o64,o5,S⟩ ?_;clear o64 o5 S;rintro a1 w1 ⟨k,v,L2,hk,T,o64,o5,S⟩;have hz1:=T.size.trans hsz;have o6:=T.keep 6 _ (by decide) o6;have o62:=T.keep 62 _ (by decide) o62;have o63:=T.keep 63 _ (by decide) o63;have e64:=o64.eval (by rw [hz1];decide);refine wp_seq (aJ3 k l.length hz1 o63 o64 (fun a2 hs2 o65=>?_));obtain ⟨hz2,-,o5,o6,o62,o64⟩:=fH hs2 hz1 rfl o5 o6 o62 o64;have T:=T.trans hs2
 by_cases hlt:k < l.length
 . refine wp_seq (cS o65 (wp_skip ?_) (by rw [decide_eq_true hlt]));have hv1:=aT hv S.k;obtain ⟨ad,rfl⟩:=iT hv1 (by omega);obtain ⟨s,hs⟩:∃ s,l[k]?=some s:=⟨_,List.getElem?_eq_getElem hlt⟩;have hsk:=hok s (List.mem_of_getElem? hs);obtain ⟨ns,hns,hnl,hnz,hnd⟩:=gQ s.1;have htk:l.take (k+1)=l.take k ++ [s]:=by rw [List.take_add_one,hs];rfl
   refine wp_seq (wp_block ?_);refine wp_seq (aNr w0 ad k l.length c hlt s hsk.1 (gF hv1 hok hs) _ S hz2 o62 o64 (fun a3 w3 hs3 h=>?_));obtain ⟨g,o14,S⟩:=h;obtain ⟨hz3,-,o5,o6,o64⟩:=dF hs3 hz2 rfl o5 o6 o64;have T:=T.trans hs3;have S:=S.perm (show List.Perm _ (eX gM m f :: aB g 89 (dQ s) :: aG 9 1 v (((l.take k).filter fun s=>decide (0 < f s.1)).map (·.1)).length ((((l.take k).filter fun s=>decide (0 < f s.1)).map (·.1)).map bX) :: L2) from (List.perm_append_comm (l₁:=[_,_]) (l₂:=[_])).append_right L2);refine wp_seq (aNp w0 gM g m f s ns hns.out (by rw [hnz];unfold maxLen;omega) _ S hz3 o6 o14 (fun a4 hs4 o72=>?_));obtain ⟨hz4,-,o5,o14,o64⟩:=dF hs4 hz3 rfl o5 o14 o64;have T:=T.trans hs4;rw [hnd.out] at o72
   have hlen:(((l.take k).filter fun s=>decide (0 < f s.1)).map (·.1)).length<=k:=by
    rw [List.length_map];exact Nat.le_trans (List.length_filter_le ..) (by rw [List.length_take];omega)
   by_cases hp:0 < f s.1
   . refine cS o72 ?_ (by rw [decide_eq_true hp]);have S:=S.perm (show List.Perm _ (aG 9 1 v (((l.take k).filter fun s=>decide (0 < f s.1)).map (·.1)).length ((((l.take k).filter fun s=>decide (0 < f s.1)).map (·.1)).map bX) :: aB g 89 (dQ s) :: eX gM m f :: L2) from (List.Perm.cons _ (List.Perm.swap _ _ _)).trans ((List.Perm.swap _ _ _).trans (List.Perm.cons _ (List.Perm.swap _ _ _))));refine aNh w0 g _ (by omega) s ns hns.out v _ _ S hz4 o5 o14 (fun a5 w5 hs5 h=>?_);obtain ⟨v',o5,S⟩:=h;have hz5:=hs5.size.trans hz4;have o64:=hs5.q o64;have T:=T.trans hs5;simp only [Exit.inBlock,Exit.then];refine aBw k (by omega) hz5 o64 (fun a6 hs6 o64'=>?_);have hz6:=hs6.size.trans hz5;have o5:=hs6.q o5;have T:=T.trans hs6
     have hf:(((l.take k).filter fun s=>decide (0 < f s.1)).map (·.1)) ++ [s.1]=(((l.take (k+1)).filter fun s=>decide (0 < f s.1)).map (·.1)):=by
      rw [htk,List.filter_append,List.map_append];simp [hp]
     have S:=S.perm (show List.Perm _ (aG 9 1 v' ((((l.take k).filter fun s=>decide (0 < f s.1)).map (·.1)).length+1) (((((l.take k).filter fun s=>decide (0 < f s.1)).map (·.1)).map bX) ++ [.string ns]) :: eX gM m f :: aB g 89 (dQ s) :: L2) from List.Perm.cons _ (List.Perm.swap _ _ _));have e1:((((l.take k).filter fun s=>decide (0 < f s.1)).map (·.1)).map bX) ++ [.string ns]=(((l.take (k+1)).filter fun s=>decide (0 < f s.1)).map (·.1)).map bX:=by rw [<- hf,List.map_append,<- hns.out];rfl
     have e2:(((l.take k).filter fun s=>decide (0 < f s.1)).map (·.1)).length+1=(((l.take (k+1)).filter fun s=>decide (0 < f s.1)).map (·.1)).length:=by rw [<- hf,List.length_append];rfl
     rw [e1,e2] at S;refine ⟨⟨k+1,v',_,by omega,T.more (by decide +kernel),o64',o5,S⟩,?_⟩
     show l.length - (intOf _).toNat < l.length - (intOf _).toNat
     rw [e64,o64'.eval (by rw [hz6];decide)];simp only [intOf];omega
   . refine dD o72 (wp_skip ?_) (by rw [decide_eq_false hp]);simp only [Exit.inBlock,Exit.then];refine aBw k (by omega) hz4 o64 (fun a6 hs6 o64'=>?_);have hz6:=hs6.size.trans hz4;have o5:=hs6.q o5;have T:=T.trans hs6
     have hf:(((l.take k).filter fun s=>decide (0 < f s.1)).map (·.1))=(((l.take (k+1)).filter fun s=>decide (0 < f s.1)).map (·.1)):=by
      rw [htk,List.filter_append,List.map_append];simp [hp]
     have S:=S.perm (show List.Perm _ (aG 9 1 v (((l.take k).filter fun s=>decide (0 < f s.1)).map (·.1)).length ((((l.take k).filter fun s=>decide (0 < f s.1)).map (·.1)).map bX) :: eX gM m f :: aB g 89 (dQ s) :: L2) from (List.perm_append_comm (l₁:=[_,_]) (l₂:=[_])).append_right L2);rw [hf] at S;refine ⟨⟨k+1,v,_,by omega,T.more (by decide +kernel),o64',o5,S⟩,?_⟩
     show l.length - (intOf _).toNat < l.length - (intOf _).toNat
     rw [e64,o64'.eval (by rw [hz6];decide)];simp only [intOf];omega
 . refine wp_seq (dD o65 (wp_exit ?_) (by rw [decide_eq_false hlt]));obtain rfl:k=l.length:=by omega
   rw [List.take_length] at S;exact hend _ _ v _ (T.more (by decide +kernel)) o5 S
theorem xK{P:Program}{ops:Array Oper}{rest:List Oper}{o:Oper}{a:Act}{w:World}{Q:Exit->Act->World->Prop}(j d:Nat)(b:Bool)(hg:o.guard=some (j,b))(hj:(ops[j]?).bind (·.dst)=some d)(hd:a.tmps[d]?.getD undef=.bool (!b))(h:wpList P ops Q rest (a.put o.dst undef) w):wpList P ops Q (o :: rest) a w:=
 wpList_step fun K hK=>by
  rw [if_neg (by cases b <;> simp [Region.wanted,hg,gY hj hd])];exact hK _ _ h
theorem aHm{Q:Exit->Act->World->Prop}{a:Act}{w:World}(se:Int)(hse:(se == 0)=false)(hsz:a.tmps.size=80)(o12:Sl a 12 (.int .i64 se))
 (hend:∀ a',Same a a' [46,47,48,49,50,51,52,53]->Sl a' 53 (.bool false)->Q .normal a' w):(Code.region 13 (aK 13 f73).toArray false).wp prog Q a w:=by
 refine wp_region_lit ?_;have hj:(((aK 13 f73).toArray)[2]?).bind (·.dst)=some 48:=by kernel_rfl
 generalize (aK 13 f73).toArray=OPS at *
 (conv=>arg 4;whnf)
 unfold Sl at o12;go_wp2_with (refine xK 2 48 true rfl hj (by simp [Act.put,hsz]) ?_)
 try simp only [Act.put]
 exact hend _ sS sP
theorem aEp{Q:Exit->Act->World->Prop}{a:Act}{w:World}(w0:World)(gS gs:Nat)(sv:Bs)(hsv:sv.length=32)(s:bF)(hs:s.2.length=32)(L:List Res)(S:Held w0 w (aB gS 23 (aA sv) :: aB gs 89 (dQ s) :: L))(hsz:a.tmps.size=80)(o12:Sl a 12 (.int .i64 0))(o11:Sl a 11 (Pq gS 0))(o10:Sl a 10 (Pq gs 0)):bC false 13 f73 Q a w fun a' W q'=>Sl a' 53 (.bool (sv == s.2))->Held w0 W (aB gS 23 (aA sv) :: aB gs 89 (dQ s) :: L)->q':=by
 intro hend;refine wp_region_lit ?_;have hj:(((aK 13 f73).toArray)[2]?).bind (·.dst)=some 48:=by kernel_rfl
 generalize (aK 13 f73).toArray=OPS at *
 (conv=>arg 4;whnf)
 unfold Sl at o12 o11 o10;have S:=LH S;have HE:=LH (fun V=>aF2 sv s.2 hsv hs V);have hz1:Hid ((aA sv).size=32):=LH (by rw [aC,hsv]);have hz2:Hid ((aA s.2).size=32):=LH (by rw [aC,hs]);have HC:=LH (aJl (S.out.at_ (l1:=[_])));generalize aA sv=ca at *;generalize aA s.2=cb at *;generalize dQ s=cs at *
 go_wp2_with (first
  |(refine pZ 2 48 true rfl hj aE 23 (.tmp 11) rfl gS (aO o11) 23 _ (S.out.at_ (l1:=[])) _ underlying23 rfl (by rw [hz1.out];exact bBy) ?_)
  |(refine qI 2 48 true rfl hj aE 23 (.tmp 50) rfl ⟨gs,1,none⟩ aE cb.toList _ HC.out underlying23 rfl (by rw [Array.length_toList,hz2.out];exact bBy) ?_)
  |(refine nR 2 48 true rfl hj (by simp [Act.put,hsz]) ?_;intro K hK))
 refine (HE.out _).mono ?_;rintro e w1 ⟨rfl,k1⟩;have S1:=LH (S.out.kp k1);clear k1;refine hK _ _ ?_;go_wp2_with fail
 try simp only [Act.put]
 exact hend _ _ tS sP S1.out
def aHk:List Nat:=[10,11,12,30,31,32,33,34,35,36,37,38,39,40,41,42,43,44,45,46,47,48,49,50,51,52,53,54,55,56,57,58,59]
def iL (base:List UInt8->Nat) (z:Int) (h:Bs) (k:fR) (l:List bF):List UInt8->Nat:=fun t=>base t+if t=k.1 then jC z h k l else 0
theorem aDz(base:List UInt8->Nat)(z:Int)(h:Bs)(k:fR):iL base z h k []=base:=by
 funext t;unfold iL jC;simp
theorem aG8{base:List UInt8->Nat}{z:Int}{h:List UInt8}{k:fR}{l:List bF}{s:bF}(hm:bO z h k s=false):iL base z h k (l ++ [s])=iL base z h k l:=by
 funext t;unfold iL;rw [rC,hm];simp
theorem aDl{base:List UInt8->Nat}{z:Int}{h:List UInt8}{k:fR}{l:List bF}{s:bF}(hm:bO z h k s=true):(fun t=>if t=k.1 then iL base z h k l k.1+1 else iL base z h k l t)=iL base z h k (l ++ [s]):=by
 funext t;unfold iL;rw [rC,hm]
 by_cases e:t=k.1
 . subst e;simp;omega
 . simp [e]
def aZc:List Nat:=[10,11,12,32,33,34,35,36,37,38,39,40,41,42,43,44,45,46,47,48,49,50,51,52,53,54,55,56,57,58]
def upF (f:List UInt8->Nat) (m:Bool) (n:Bs):List UInt8->Nat:=if m then (fun t=>if t=n then f n+1 else f t) else f
theorem aFz{z:Int}{h:List UInt8}{k:fR}{s:bF}(e:(s.1 == k.1)=false):bO z h k s=false:=by unfold bO;rw [e,Bool.false_and]
theorem aDo{z:Int}{h:List UInt8}{k:fR}{s:bF}(e:dV z k.1 k.2=false):bO z h k s=false:=by unfold bO;rw [e,Bool.false_and,Bool.and_false]
theorem yU{z:Int}{h:List UInt8}{k:fR}{s:bF}(e:(s.1 == k.1)=true)(o:dV z k.1 k.2=true):bO z h k s=(jQ z h k.1 k.2 == s.2):=by unfold bO;rw [e,o,Bool.true_and,Bool.true_and]
theorem aSd{Q:Exit->Act->World->Prop}{a:Act}{w0 w:World}(gM gN gK m:Nat)(hm:m < maxLen)(f:List UInt8->Nat)(z:Int)(hz:-9223372036854775808<=z ∧ z<=9223372036854775807)(h:Bs)(hh:h.length=32)(v0:Value)(ad:Addr)(n c:Nat)(j:Nat)(hlt:j < n)(s:bF)(hsk:s.2.length=32)(hc:∀ V,Kp [] w0 V->∀ i u,(vW s)[i]?=some u->V.cell? ((ad.add (j * 33)).add i)=some u)(k:fR)(hf:f k.1 < 4611686018427387904)(nm:ByteArray)(hnl:nm.toList=k.1)(hnd:nm.data.toList=k.1)(hnz:nm.size<=maxLen)(Ak:Option Addr)(ck:Nat)(LDw:LD w0)(L:List Res)
 (hsz:a.tmps.size=80) (o2:Sl a 2 (Pq gN 0)) (o6:Sl a 6 (.map (some gM))) (o8:Sl a 8 (Pq gK 0)) (o28:Sl a 28 (.slice (some ad) n c)) (o30:Sl a 30 (Nq j)) (hkr:Rd w0 1 (.slice Ak k.2.length ck) k.2.length (bv k.2))
 (S:Held w0 w (eX gM m f :: aB gN 28 (bD z h v0) :: aB gK 34 #[.string nm,.slice Ak k.2.length ck] :: L))
 (hend:∀ (e:Exit) (a':Act) (W:World) (m2:Nat),(e=.normal ∨ e=.exit 3)->Same a a' aZc->m2<=m+1->Held w0 W (eX gM m2 (upF f (bO z h k s) k.1) :: aB gN 28 (bD z h v0) :: aB gK 34 #[.string nm,.slice Ak k.2.length ck] :: L)->Q e a' W):
 (dR 3 f73).wp prog Q a w:=by
 (conv=>arg 2;whnf)
 obtain ⟨ns,hns,hnsl,hnsz,hnsd⟩:=gQ s.1;refine wp_seq (aK5 w0 ad j n c hlt s hsk (hc _ S.k) _ S hsz o28 o30 (fun a3 w3 hs3 h3=>?_));obtain ⟨g,o10,S⟩:=h3;have hz3:=hs3.size.trans hsz;have o2:=hs3.q o2;have o6:=hs3.q o6;have o8:=hs3.q o8;have T:=hs3;have S:=S.perm (show List.Perm _ (aB g 89 (dQ s) :: aB gK 34 #[.string nm,.slice Ak k.2.length ck] :: eX gM m f :: aB gN 28 (bD z h v0) :: L) from List.Perm.cons _ ((List.perm_append_comm (l₁:=[_,_]) (l₂:=[_])).append_right L));refine wp_seq (wp_seq (aNi w0 g gK s ns nm _ hns.out (!(s.1 == k.1)) (by rw [hnsl.out,hnl]) _ S hz3 o8 o10 (fun a4 hs4 o38=>?_)));obtain ⟨hz4,-,o2,o6,o8,o10⟩:=fH hs4 hz3 rfl o2 o6 o8 o10;have T:=T.trans hs4
 cases hn:(s.1 == k.1)
 . refine cS o38 (wp_exit ?_) (by rw [hn];rfl);have S:=S.perm (show List.Perm _ (eX gM m f :: aB gN 28 (bD z h v0) :: aB gK 34 #[.string nm,.slice Ak k.2.length ck] :: aB g 89 (dQ s) :: L) from ((List.perm_append_comm (l₁:=[_,_]) (l₂:=[_,_])).trans ((List.Perm.cons _ (List.Perm.cons _ (List.Perm.swap _ _ _))))).append_right L);have e:upF f (bO z h k s) k.1=f:=by rw [aFz hn];rfl
   rw [<- e] at S;exact hend _ _ _ m (.inr rfl) (T.more (by decide +kernel)) (by omega) (S.some_of (List.Sublist.append_left (List.sublist_append_right [_] _) [_,_,_]))
 . refine dD o38 (wp_skip ?_) (by rw [hn];rfl);have S:=S.perm (show List.Perm _ (aB gN 28 (bD z h v0) :: aB gK 34 #[.string nm,.slice Ak k.2.length ck] :: aB g 89 (dQ s) :: eX gM m f :: L) from ((List.perm_append_comm (l₁:=[_,_,_]) (l₂:=[_])).trans (List.Perm.cons _ (List.Perm.swap _ _ _))).append_right L);obtain ⟨se,hse⟩:∃ se:Int,se=if dV z nm.data.toList k.2 then 0 else 2:=⟨_,rfl⟩;refine wp_seq (aMw w0 gN gK z h hh _ _ _ (jQ z h nm.data.toList k.2) (rI ..) se _ S (fun V SV=>hse ▸ aC2 z hz h hh nm (by unfold maxLen at hnz;omega) Ak ck k.2 V (LDw.kp SV.k) (aT hkr SV.k)) hz4 o2 o8 (fun a5 w5 hs5 o12 h5=>?_));obtain ⟨gS,o11,S⟩:=h5;obtain ⟨hz5,-,o6,o8,o10⟩:=dF hs5 hz4 rfl o6 o8 o10;have T:=T.trans hs5;rw [hnd] at S hse;have S:=S.perm (show List.Perm _ (aB gS 23 (aA (jQ z h k.1 k.2)) :: aB g 89 (dQ s) :: eX gM m f :: aB gN 28 (bD z h v0) :: aB gK 34 #[.string nm,.slice Ak k.2.length ck] :: L) from List.Perm.cons _ ((List.perm_append_comm (l₁:=[_,_]) (l₂:=[_,_])).append_right L))
   cases ho:dV z k.1 k.2
   . rw [ho] at hse;refine wp_seq (aHm se (by rw [hse];rfl) hz5 o12 (fun a6 hs6 o53=>?_));have hz6:=hs6.size.trans hz5;have T:=T.trans hs6;refine wp_cond_false ((o53.eval (by rw [hz6];decide)).trans rfl) (wp_skip ?_);have S:=S.perm (show List.Perm _ (eX gM m f :: aB gN 28 (bD z h v0) :: aB gK 34 #[.string nm,.slice Ak k.2.length ck] :: aB gS 23 (aA (jQ z h k.1 k.2)) :: aB g 89 (dQ s) :: L) from (List.perm_append_comm (l₁:=[_,_]) (l₂:=[_,_,_])).append_right L);have e:upF f (bO z h k s) k.1=f:=by rw [aDo ho];rfl
     rw [<- e] at S;exact hend _ _ _ m (.inl rfl) (T.more (by decide +kernel)) (by omega) (S.some_of (List.Sublist.append_left (List.sublist_append_right [_,_] _) [_,_,_]))
   . rw [ho] at hse;obtain rfl:se=0:=hse
     refine wp_seq (aEp w0 gS g _ (rI ..) s hsk _ S hz5 o12 o11 o10 (fun a6 w6 hs6 o53 S=>?_));obtain ⟨hz6,-,o6,o8⟩:=dU hs6 hz5 rfl o6 o8;have T:=T.trans hs6
     cases hv:(jQ z h k.1 k.2 == s.2)
     . refine dD o53 (wp_skip ?_) (by rw [hv]);have S:=S.perm (show List.Perm _ (eX gM m f :: aB gN 28 (bD z h v0) :: aB gK 34 #[.string nm,.slice Ak k.2.length ck] :: aB gS 23 (aA (jQ z h k.1 k.2)) :: aB g 89 (dQ s) :: L) from (List.perm_append_comm (l₁:=[_,_]) (l₂:=[_,_,_])).append_right L);have e:upF f (bO z h k s) k.1=f:=by rw [yU hn ho,hv];rfl
       rw [<- e] at S;exact hend _ _ _ m (.inl rfl) (T.more (by decide +kernel)) (by omega) (S.some_of (List.Sublist.append_left (List.sublist_append_right [_,_] _) [_,_,_]))
     . refine cS o53 ?_ (by rw [hv]);have S:=S.perm (show List.Perm _ (eX gM m f :: aB gK 34 #[.string nm,.slice Ak k.2.length ck] :: aB gN 28 (bD z h v0) :: aB gS 23 (aA (jQ z h k.1 k.2)) :: aB g 89 (dQ s) :: L) from ((List.perm_append_comm (l₁:=[_,_]) (l₂:=[_,_,_])).trans (List.Perm.cons _ (List.Perm.swap _ _ _))).append_right L);refine aN5 w0 gM gK m hm f nm hnz _ (by rw [hnd];exact hf) _ S hz6 o6 o8 (fun a7 w7 hs7 S=>?_);have T:=T.trans hs7;rw [hnd] at S;have S:=S.perm (show List.Perm _ (eX gM (m+1) (fun t=>if t=k.1 then f k.1+1 else f t) :: aB gN 28 (bD z h v0) :: aB gK 34 #[.string nm,.slice Ak k.2.length ck] :: aB gS 23 (aA (jQ z h k.1 k.2)) :: aB g 89 (dQ s) :: L) from List.Perm.cons _ (List.Perm.swap _ _ _));have e:upF f (bO z h k s) k.1=(fun t=>if t=k.1 then f k.1+1 else f t):=by rw [yU hn ho,hv];rfl
       rw [<- e] at S;exact hend _ _ _ (m+1) (.inl rfl) (T.more (by decide +kernel)) (by omega) (S.some_of (List.Sublist.append_left (List.sublist_append_right [_,_] _) [_,_,_]))
theorem aXi{Q:Exit->Act->World->Prop}{a:Act}{w0 w:World}(gM gN gK m0:Nat)(base:List UInt8->Nat)(hbs:∀ t,base t < 2305843009213693952)(hm0:m0 < 4611686018427387904)(z:Int)(hz:-9223372036854775808<=z ∧ z<=9223372036854775807)(h:Bs)(hh:h.length=32)(A:Option Addr)(c:Nat)(l:List bF)(hok:dI l)(hll:l.length < 1000000)(k:fR)(nm:ByteArray)(hnl:nm.toList=k.1)(hnd:nm.data.toList=k.1)(hnz:nm.size<=maxLen)(Ak:Option Addr)(ck:Nat)(LDw:LD w0)(L:List Res)
 (hsz:a.tmps.size=80) (o2:Sl a 2 (Pq gN 0)) (o6:Sl a 6 (.map (some gM))) (o8:Sl a 8 (Pq gK 0)) (o28:Sl a 28 (.slice A l.length c)) (o29:Sl a 29 (Nq (l.length))) (o30:Sl a 30 (Nq 0)) (hv:Rd w0 33 (.slice A l.length c) l.length (bB l)) (hkr:Rd w0 1 (.slice Ak k.2.length ck) k.2.length (bv k.2))
 (S:Held w0 w (eX gM m0 base :: aB gN 28 (bD z h (.slice A l.length c)) :: aB gK 34 #[.string nm,.slice Ak k.2.length ck] :: L))
 (hend:∀ (a':Act) (W:World) (m:Nat),Same a a' aHk->m<=m0+l.length->Held w0 W (eX gM m (iL base z h k l) :: aB gN 28 (bD z h (.slice A l.length c)) :: aB gK 34 #[.string nm,.slice Ak k.2.length ck] :: L)->Q (.exit 2) a' W):
 (dR 2 f73).wp prog Q a w:=by
 (conv=>arg 2;whnf)
 refine wp_loop (fun a' w'=>∃ (j m:Nat),j<=l.length ∧ m<=m0+j ∧ Same a a' aHk ∧ Sl a' 30 (Nq j) ∧ Held w0 w' (eX gM m (iL base z h k (l.take j)) :: aB gN 28 (bD z h (.slice A l.length c)) :: aB gK 34 #[.string nm,.slice Ak k.2.length ck] :: L)) (fun a' _=>l.length - (intOf (a'.eval (.tmp 30))).toNat) ⟨0,m0,Nat.zero_le _,Nat.le_refl _,Same.refl _ _,o30,by rw [List.take_zero,aDz];exact S⟩ ?_;clear o30 S;rintro a1 w1 ⟨j,m,hj,hmj,T,o30,S⟩;have hz1:=T.size.trans hsz;have o2:=T.keep 2 _ (by decide) o2;have o6:=T.keep 6 _ (by decide) o6;have o8:=T.keep 8 _ (by decide) o8;have o28:=T.keep 28 _ (by decide) o28;have o29:=T.keep 29 _ (by decide) o29;have e30:=o30.eval (by rw [hz1];decide);refine wp_seq (aOu j l.length hz1 o29 o30 (fun a2 hs2 o31=>?_));obtain ⟨hz2,-,o2,o6,o8,o28,o30⟩:=jJ hs2 hz1 rfl o2 o6 o8 o28 o30;have T:=T.trans hs2
 by_cases hlt:j < l.length
 . refine wp_seq (cS o31 (wp_skip ?_) (by rw [decide_eq_true hlt]));have hv1:=aT hv S.k;obtain ⟨ad,rfl⟩:=iT hv1 (by omega);obtain ⟨s,hs⟩:∃ s,l[j]?=some s:=⟨_,List.getElem?_eq_getElem hlt⟩;have hsk:=hok s (List.mem_of_getElem? hs);have htk:l.take (j+1)=l.take j ++ [s]:=by rw [List.take_add_one,hs];rfl
   refine wp_seq (wp_block (aSd gM gN gK m (by unfold maxLen;omega) _ z hz h hh _ ad l.length c j hlt s hsk.1 (fun V kV=>gF (aT hv kV) hok hs) k ?_ nm hnl hnd hnz Ak ck LDw _ hz2 o2 o6 o8 o28 o30 hkr S (fun e a3 w3 m3 he hs3 hm3 S=>?_)))
   . have:=vU z h k (l.take j)
     have:=hbs k.1
     unfold iL;rw [if_pos rfl];rw [List.length_take] at *;omega
   have hz3:=hs3.size.trans hz2;have o30:=hs3.q o30;have T:=T.trans hs3
   have S2:Held w0 w3 (eX gM m3 (iL base z h k (l.take (j+1))) :: aB gN 28 (bD z h (.slice (some ad) l.length c)) :: aB gK 34 #[.string nm,.slice Ak k.2.length ck] :: L):=by
    rw [htk]
    cases hm:bO z h k s
    . rw [hm] at S;rw [aG8 hm];exact S
    . rw [hm] at S;rw [<- aDl hm];exact S
   have hR:(Code.region 15 (aK 15 f73).toArray false).wp prog (Exit.then (fun a' w'=>(∃ (j m:Nat),j<=l.length ∧ m<=m0+j ∧ Same a a' aHk ∧ Sl a' 30 (Nq j) ∧ Held w0 w' (eX gM m (iL base z h k (l.take j)) :: aB gN 28 (bD z h (.slice (some ad) l.length c)) :: aB gK 34 #[.string nm,.slice Ak k.2.length ck] :: L)) ∧ l.length - (intOf (a'.eval (.tmp 30))).toNat < l.length - (intOf (a1.eval (.tmp 30))).toNat) Q) a3 w3:=by
    refine aLd j (by omega) hz3 o30 (fun a6 hs6 o30'=>?_);have hz6:=hs6.size.trans hz3;have T:=T.trans hs6;refine ⟨⟨j+1,m3,by omega,by omega,T.more (by decide +kernel),o30',S2⟩,?_⟩;rw [e30,o30'.eval (by rw [hz6];decide)];simp only [intOf];omega
   rcases he with rfl|rfl
   . exact hR
   . exact hR
 . refine wp_seq (dD o31 (wp_exit ?_) (by rw [decide_eq_false hlt]));obtain rfl:j=l.length:=by omega
   rw [List.take_length] at S;exact hend _ _ m (T.more (by decide +kernel)) hmj S
def aO6:List Nat:=[8,10,11,12,24,25,26,27,28,29,30,31,32,33,34,35,36,37,38,39,40,41,42,43,44,45,46,47,48,49,50,51,52,53,54,55,56,57,58,59,60,23]
theorem aDr(z:Int)(h:Bs)(ks:List fR)(k:fR)(l:List bF):iL (eC z h ks l) z h k l=eC z h (ks ++ [k]) l:=by
 funext t;unfold iL;rw [yD]
theorem zG{W:World}{A:Option Addr}{c:Nat}{vs:List Value}{ks:List fR}(h:wI W (.slice A ks.length c) vs ks)(hn:0 < ks.length):∃ ad,A=some ad:=by
 cases A with
 |some ad=>exact ⟨ad,rfl⟩
 |none=>
  obtain ⟨hvl,A',c',he,-,-,hnil,-⟩:=h.1
  cases he;obtain ⟨-,-,e1,-⟩:=h.2 0 hn;have:=hnil rfl
  omega
theorem aAv(z:Int)(h:Bs)(l:List bF):eC z h [] l=fun _=>0:=by funext t;rfl
def dN (z:Int) (h:Bs) (l:List bF) (ks:List fR):List (List UInt8):=if eH z l then nO z h l ks else []
theorem aDd{z:Int}{h:List UInt8}{l:List bF}{ks:List fR}(hr:dB [] l=true):((l.filter fun s=>decide (0 < eC z h ks l s.1)).map (·.1))=nO z h l ks:=by
 unfold nO
 congr 1
 exact List.filter_congr fun s hs=>aC5 hr hs ks
theorem wI.at2{w0:World}{ad:Addr}{n c:Nat}{vs:List Value}{ks:List fR}(h:wI w0 (.slice (some ad) n c) vs ks){i:Nat}{k:fR}(hk:ks[i]?=some k):∃ A c,(∀ W,Kp [] w0 W->∀ j u,([bX k.1,.slice A k.2.length c]:List Value)[j]?=some u->W.cell? ((ad.add (i * 2)).add j)=some u) ∧ Rd w0 1 (.slice A k.2.length c) k.2.length (bv k.2):=by
 obtain ⟨hi,rfl⟩:=List.getElem?_eq_some_iff.1 hk;obtain ⟨A,c2,h1,h2,h3⟩:=h.2 i hi;refine ⟨A,c2,fun W kW j u hu=>?_,h3⟩;obtain ⟨-,A',c',he,-,-,-,hc⟩:=(h.kp0 kW).1
 cases he;rw [dZ];rcases j with _|_|j
 . cases hu;exact hc ad rfl _ _ h1
 . cases hu;exact hc ad rfl _ _ h2
 . cases hu
theorem aTu{Q:Exit->Act->World->Prop}{a:Act}{w0 w:World}(gM gN:Nat)(z:Int)(hz:-9223372036854775808<=z ∧ z<=9223372036854775807)(h:Bs)(hh:h.length=32)(A:Option Addr)(c:Nat)(l:List bF)(hok:dI l)(hll:l.length<=64)(Ak:Option Addr)(ck:Nat)(ks:List fR)(hks:ks.length<=35184372088832)(hnm:∀ k,k ∈ ks->k.1.length<=maxLen)(vs:List Value)(LDw:LD w0)(L:List Res)
 (hsz:a.tmps.size=80) (o2:Sl a 2 (Pq gN 0)) (o6:Sl a 6 (.map (some gM))) (o21:Sl a 21 (.slice Ak ks.length ck)) (o22:Sl a 22 (Nq (ks.length))) (o23:Sl a 23 (Nq 0)) (hv:Rd w0 33 (.slice A l.length c) l.length (bB l)) (hkv:wI w0 (.slice Ak ks.length ck) vs ks)
 (S:Held w0 w (eX gM 0 (fun _=>0) :: aB gN 28 (bD z h (.slice A l.length c)) :: L))
 (hend:∀ (a':Act) (W:World) (m:Nat),Same a a' aO6->Held w0 W (eX gM m (eC z h ks l) :: aB gN 28 (bD z h (.slice A l.length c)) :: L)->Q .normal a' W):
 (Code.block 0 (dR 0 f73)).wp prog Q a w:=by
 refine wp_block ?_
 (conv=>arg 2;whnf)
 refine wp_loop (fun a' w'=>∃ (j m:Nat),j<=ks.length ∧ m<=j * 64 ∧ Same a a' aO6 ∧ Sl a' 23 (Nq j) ∧ Held w0 w' (eX gM m (eC z h (ks.take j) l) :: aB gN 28 (bD z h (.slice A l.length c)) :: L)) (fun a' _=>ks.length - (intOf (a'.eval (.tmp 23))).toNat) ⟨0,0,Nat.zero_le _,Nat.le_refl _,Same.refl _ _,o23,by rw [List.take_zero,aAv];exact S⟩ ?_;clear o23 S;rintro a1 w1 ⟨j,m,hj,hmj,T,o23,S⟩;have hz1:=T.size.trans hsz;have o2:=T.keep 2 _ (by decide) o2;have o6:=T.keep 6 _ (by decide) o6;have o21:=T.keep 21 _ (by decide) o21;have o22:=T.keep 22 _ (by decide) o22;have e23:=o23.eval (by rw [hz1];decide);refine wp_seq (aTr j ks.length hz1 o22 o23 (fun a2 hs2 o24=>?_));obtain ⟨hz2,-,o2,o6,o21,o23⟩:=fH hs2 hz1 rfl o2 o6 o21 o23;have T:=T.trans hs2
 by_cases hlt:j < ks.length
 . refine wp_seq (cS o24 (wp_skip ?_) (by rw [decide_eq_true hlt]));obtain ⟨adk,rfl⟩:=zG hkv (by omega);obtain ⟨k,hk⟩:∃ k,ks[j]?=some k:=⟨_,List.getElem?_eq_getElem hlt⟩;have htk:ks.take (j+1)=ks.take j ++ [k]:=by rw [List.take_add_one,hk];rfl
   obtain ⟨Ak2,ck2,hc0,hkr⟩:=hkv.at2 hk;have hc:=hc0 _ S.k;obtain ⟨nm,hnv,hnl,hnz,hnd⟩:=gQ k.1;rw [hnv.out] at hc;refine wp_seq (wp_block ?_);refine wp_seq (aSy w0 adk j ks.length ck hlt nm _ ⟨_,_,_,rfl⟩ hc _ S hz2 o21 o23 (fun a3 w3 hs3 h3=>?_));obtain ⟨hz3,-,o2,o6,o21,o23,o24⟩:=jJ hs3 hz2 rfl o2 o6 o21 o23 o24;have T:=T.trans hs3;obtain ⟨gK,o8,S⟩:=h3;have S:Held w0 w3 (aB gN 28 (bD z h (.slice A l.length c)) :: eX gM m (eC z h (ks.take j) l) :: aB gK 34 #[.string nm,.slice Ak2 k.2.length ck2] :: L):=(S.pull 1 rfl).pull 2 rfl;refine wp_seq (aRt w0 gN z h hh _ _ _ _ S hz3 o2 (fun a4 hs4 o28 o29 o30=>?_));obtain ⟨hz4,-,o2,o6,o21,o23,o24,o8⟩:=jF hs4 hz3 rfl o2 o6 o21 o23 o24 o8;have T:=T.trans hs4;have S:Held w0 w3 (eX gM m (eC z h (ks.take j) l) :: aB gN 28 (bD z h (.slice A l.length c)) :: aB gK 34 #[.string nm,.slice Ak2 k.2.length ck2] :: L):=S.pull 1 rfl;refine wp_block ?_
   have hbs:∀ t,eC z h (ks.take j) l t < 2305843009213693952:=by
    intro t;have h1:=vF z h l t (ks.take j);rw [List.length_take,Nat.min_eq_left hj] at h1;have h2:j * l.length<=35184372088832 * 64:=Nat.mul_le_mul (by omega) hll;omega
   refine aXi gM gN gK m _ hbs (by omega) z hz h hh A c l hok (by omega) k nm hnl.out hnd.out (by rw [hnz];exact hnm k (List.mem_of_getElem? hk)) Ak2 ck2 LDw _ hz4 o2 o6 o8 o28 o29 o30 hv hkr S (fun a5 w5 m5 hs5 hm5 S=>?_);obtain ⟨hz5,-,o2,o6,o21,o23,o24,o28,o29⟩:=vQ hs5 hz4 rfl o2 o6 o21 o23 o24 o28 o29;have T:=T.trans hs5;simp only [Exit.inBlock,if_true,Exit.then];rw [aDr,<- htk] at S;refine aLm j (by omega) hz5 o23 (fun a6 hs6 o23=>?_);obtain ⟨hz6,-,o2,o6,o21,o24,o28,o29⟩:=jF hs6 hz5 rfl o2 o6 o21 o24 o28 o29;have T:=T.trans hs6;have S:Held w0 w5 (eX gM m5 (eC z h (ks.take (j+1)) l) :: aB gN 28 (bD z h (.slice A l.length c)) :: L):=S.some_of (List.Sublist.append_left (List.sublist_append_right [_] _) [_,_]);refine ⟨⟨j+1,m5,by omega,by omega,T.more (by decide +kernel),o23,S⟩,?_⟩
   show ks.length - (intOf _).toNat < ks.length - (intOf _).toNat
   rw [e23,o23.eval (by rw [hz6];decide)];simp only [intOf];omega
 . refine wp_seq (dD o24 (wp_exit ?_) (by rw [decide_eq_false hlt]));obtain rfl:j=ks.length:=by omega
   rw [List.take_length] at S;exact hend _ _ m (T.more (by decide +kernel)) S
theorem aAg(z:Int)(hz:-9223372036854775808<=z ∧ z<=9223372036854775807)(h:Bs)(hh:h.length=32)(A:Option Addr)(c:Nat)(l:List bF)(hok:dI l)(hll:l.length<=9223372036854775807)(Ak:Option Addr)(ck:Nat)(ks:List fR)(hks:ks.length<=35184372088832)(hnm:∀ k,k ∈ ks->k.1.length<=maxLen)(vs:List Value)(w:World)(LDw:LD w)(hv:Rd w 33 (.slice A l.length c) l.length (bB l))(hkv:wI w (.slice Ak ks.length ck) vs ks):
 Calls prog 73 #[.agg (bD z h (.slice A l.length c)),.slice Ak ks.length ck] w fun e w'=>∃ v,e=.returned v ∧ Held w w' [aG 9 1 v (dN z h l ks).length ((dN z h l ks).map bX)]:=by
 refine aR func73 rfl 80 rfl (fun a0 hsz hdf hAr=>?_);have hz0:a0.tmps.size=80:=hsz;have D:=hdf;have o0:=hAr 0 _ rfl;have o1:=hAr 1 _ rfl;have hcz:=aN (z:=z) (v:=.slice A l.length c) hh;refine wp_seq (aYs w _ [] (Held.start w) hz0 o0 (fun a1 w1 hs1 h1=>?_));obtain ⟨hz1,D,o1⟩:=eY hs1 hz0 D o1;obtain ⟨gN,o2,S⟩:=h1;refine wp_seq (aWp w _ S hz1 (fun a2 w2 hs2 h2=>?_));obtain ⟨hz2,D,o1,o2⟩:=dU hs2 hz1 D o1 o2;obtain ⟨v0,o5,S⟩:=h2;have S:Held w w2 (aB gN 28 (bD z h (.slice A l.length c)) :: aG 9 1 v0 0 [] :: []):=S.pull 1 rfl;obtain ⟨b,hb⟩:∃ b,((eA z l:Int) != 0)=b:=⟨_,rfl⟩;have hb2:b=!eH z l:=by rw [<- hb];unfold eA;cases eH z l <;> rfl
 refine wp_seq (wp_seq (aS8 w gN _ hcz (eA z l) b hb _ S (fun V SV=>kP z hz h hh l hok hll A c V (LDw.kp SV.k) (aT hv SV.k)) hz2 o2 (fun a3 w3 hs3 o18 S=>?_)));obtain ⟨hz3,D,o1,o2,o5⟩:=dF hs3 hz2 D o1 o2 o5
 cases hm:eH z l
 . rw [hm] at hb2;have hA:dN z h l ks=[]:=by unfold dN;rw [hm];rfl
   refine cS o18 ?_ (by rw [hb2];rfl);refine wp_seq (aOy v0 hz3 o5 (fun a4 hs4 o4=>?_));obtain ⟨hz4,D,o1,o2,o5,o18⟩:=fH hs4 hz3 D o1 o2 o5 o18;refine wp_ret ?_;simp only [Exit.then];refine (bodyPost_ret (eN (by rfl) (o4.eval (by rw [hz4];decide))) D ⟨_,rfl,?_⟩);rw [hA];exact S.some_of (List.Sublist.cons _ (List.Sublist.refl _))
 . rw [hm] at hb2;refine dD o18 (wp_skip ?_) (by rw [hb2];rfl);obtain ⟨h64,hris⟩:=wX hm;have hA:dN z h l ks=nO z h l ks:=by unfold dN;rw [hm];rfl
   refine wp_seq (aUa w _ S hz3 (fun a4 w4 hs4 h4=>?_));obtain ⟨hz4,D,o1,o2,o5⟩:=dF hs4 hz3 D o1 o2 o5;obtain ⟨gM,o6,S⟩:=h4;refine wp_seq (wp_seq (aWg Ak _ ck hz4 o1 (fun a5 hs5 o21 o22 o23=>?_)));obtain ⟨hz5,D,o2,o5,o6⟩:=dF hs5 hz4 D o2 o5 o6;refine aTu gM gN z hz h hh A c l hok h64 Ak ck ks hks hnm vs LDw _ hz5 o2 o6 o21 o22 o23 hv hkv S (fun a6 w5 m5 hs6 S=>?_);obtain ⟨hz6,D,o2,o5,o6⟩:=dF hs6 hz5 D o2 o5 o6;have S:Held w w5 (aB gN 28 (bD z h (.slice A l.length c)) :: eX gM m5 (eC z h ks l) :: aG 9 1 v0 0 [] :: []):=S.pull 1 rfl;refine wp_seq (wp_seq (aN1 w gN z h hh _ _ _ _ S hz6 o2 (fun a7 hs7 o62 o63 o64=>?_)));obtain ⟨hz7,D,o5,o6⟩:=dU hs7 hz6 D o5 o6;have S:Held w w5 (aG 9 1 v0 0 [] :: eX gM m5 (eC z h ks l) :: aB gN 28 (bD z h (.slice A l.length c)) :: []):=(S.pull 1 rfl).pull 2 rfl;refine aS4 gM m5 (eC z h ks l) A c l hok (by omega) _ v0 hz7 o5 o6 o62 o63 o64 hv S (fun a8 w6 v6 L6 hs8 o5 S=>?_);obtain ⟨hz8,D⟩:=dS hs8 hz7 D;rw [aDd hris,<- hA] at S;refine wp_seq (aNt v6 hz8 o5 (fun a9 hs9 o4=>?_));obtain ⟨hz9,D⟩:=dS hs9 hz8 D;refine wp_ret ?_;refine (bodyPost_ret (eN (by rfl) (o4.eval (by rw [hz9];decide))) D ⟨_,rfl,?_⟩);exact S.some_of (List.singleton_sublist.2 (by simp))
end
section
theorem gG{P:Program}{o:Oper}{a:Act}{w:World}{K:Act->World->Prop}{Q:Exit->Act->World->Prop}(t:TypeId)(parts:Array (Nat × Operand))(ho:o.op=.build t parts)(ps:List (Nat × Value))(hp:(parts.map fun (i,x)=>(i,a.eval x)).toList=ps)
 (cells:Array Value) (hb:P.built t ps=some cells) (h:K (a.put o.dst (.agg cells)) w):o.wp P a w K Q:=by
 refine wp_build t parts ho (by rw [hp,hb];rfl) ?_;rw [hp,hb];exact h
theorem iB{P:Program}{ops:Array Oper}{rest:List Oper}{o:Oper}{a:Act}{w:World}{Q:Exit->Act->World->Prop}(hg:o.guard=none)(t:TypeId)(parts:Array (Nat × Operand))(ho:o.op=.build t parts)(ps:List (Nat × Value))(hp:(parts.map fun (i,x)=>(i,a.eval x)).toList=ps)
 (cells:Array Value) (hb:P.built t ps=some cells) (h:wpList P ops Q rest (a.put o.dst (.agg cells)) w):wpList P ops Q (o :: rest) a w:=by
 refine wpList_build hg t parts ho (by rw [hp,hb];rfl) ?_;rw [hp,hb];exact h
end
section
open Go.RowKit
theorem cY{P:Program}{ops:Array Oper}{rest:List Oper}{o:Oper}{a:Act}{w0 w:World}{Q:Exit->Act->World->Prop}{L:List Res}(hg:o.guard=none)(s x:Operand)(t e:TypeId)
 (ho:o.op=.call { callee:=.builtin .append,args:=#[s,x],argTypes:=#[t,t] })
 {size bytes:Nat} {z:Value} (hI:(P.info? e).map (fun i=>(i.zero,i.size,i.bytes))=some (some z,size,bytes)) (ht:P.underlying t=some (.slice e)) (hzs:z.cells.size=size) (hsz:0 < size)
 (v:Value) (n:Nat) (xs:List Value) (hs:a.eval s=v) (S:Held w0 w (aG e size v n xs :: L))
 (y:Value) (m:Nat) (news:List Value) (hx:a.eval x=y) (hr:Rd w size y m news) (h1:∀ u ∈ news,u.oneCell'=true)
 (h63:n+m<=maxLen) (hbytes:(n+m) * bytes<=140737488355328)
 (h:∀ v' w',Held w0 w' (aG e size v' (n+m) (xs ++ news) :: L)->wpList P ops Q rest (a.put o.dst v') w'):wpList P ops Q (o :: rest) a w:=
 wpList_plain hg fun _ hK=>lO s x t e ho hI ht hzs hsz v n xs hs S y m news hx hr h1 h63 hbytes (fun v' w' S'=>hK _ _ (h v' w' S'))
theorem xG{P:Program}{ops:Array Oper}{rest:List Oper}{o:Oper}{a:Act}{w0 w:World}{Q:Exit->Act->World->Prop}{L:List Res}(hg:o.guard=none)(s x:Operand)(t e:TypeId)
 (ho:o.op=.call { callee:=.builtin .append,args:=#[s,x],argTypes:=#[t,t] })
 {size bytes:Nat} {z:Value} (hI:(P.info? e).map (fun i=>(i.zero,i.size,i.bytes))=some (some z,size,bytes)) (ht:P.underlying t=some (.slice e)) (hzs:z.cells.size=size) (hsz:0 < size)
 (hs:a.eval s=.slice none 0 0) (S:Held w0 w L)
 (y:Value) (m:Nat) (news:List Value) (hx:a.eval x=y) (hr:Rd w size y m news) (h1:∀ u ∈ news,u.oneCell'=true)
 (h63:m<=maxLen) (hbytes:m * bytes<=140737488355328)
 (h:∀ v' w',Held w0 w' (aG e size v' m news :: L)->wpList P ops Q rest (a.put o.dst v') w'):wpList P ops Q (o :: rest) a w:=
 wpList_plain hg fun _ hK=>nV s x t e ho hI ht hzs hsz hs S y m news hx hr h1 h63 hbytes (fun v' w' S'=>hK _ _ (h v' w' S'))
end
section
variable {Q:Exit->Act->World->Prop} {a:Act} {w:World}
open Go.RowKit Go.Shelf
theorem vI{ls:List (List UInt8)}{k:Nat}{l:List UInt8}(h:ls[k]?=some l):(ls.take (k+1)).flatten=(ls.take k).flatten ++ l:=by
 rw [List.take_add_one,h];simp
theorem xF{ls:List (List UInt8)}{k:Nat}{l:List UInt8}(h:ls[k]?=some l):(ls.take k).flatten.length+l.length<=ls.flatten.length:=by
 have h1:ls.flatten=(ls.take (k+1)).flatten ++ (ls.drop (k+1)).flatten:=by rw [<- List.flatten_append,List.take_append_drop]
 rw [h1,vI h]
 simp
theorem aZe(w0:World)(L:List Res)(S:Held w0 w L)(hsz:a.tmps.size=19):bC false 0 f120 Q a w fun a' W q'=>(∃ g,Sl a' 2 (Pq g 0) ∧ Held w0 W (aB g 23 (aA (List.replicate 32 0)) :: L))->q':=by
 refine bU fun hend=>?_;have S1:=LH (S.newBlk 23 (aA (List.replicate 32 0)));go_wp2
 try simp only [Act.put]
 exact hend _ _ tS (⟨w.heap.size,cH,S1.out⟩)
theorem aRj(w0:World)(L:List Res)(S:Held w0 w L)(hsz:a.tmps.size=19):bC false 1 f120 Q a w fun a' W q'=>(∃ g,Sl a' 3 (Pq g 0) ∧ Held w0 W (aB g 214 (cV hF (List.replicate 64 0) 0) :: L))->q':=by
 refine bU fun hend=>?_;have HR:=LH (uT w0 w L S);clear S;go_wp2_with fail
 refine HR.out.mono ?_;rintro e w1 ⟨g,rfl,S1⟩;have S1:=LH S1;go_wp2_with fail
 try simp only [Act.put]
 exact hend _ _ tS (⟨g,cH,S1.out⟩)
theorem aX0(A:Option Addr)(n c:Nat)(hsz:a.tmps.size=19)(o0:Sl a 0 (.slice A n c)):bK 2 f120 Q a w fun a' q'=>Sl a' 7 (.slice A n c)->Sl a' 8 (Nq n)->Sl a' 9 (Nq 0)->q':=rO
theorem aRp(k n:Nat)(hsz:a.tmps.size=19)(o8:Sl a 8 (Nq n))(o9:Sl a 9 (Nq k)):bK 3 f120 Q a w fun a' q'=>Sl a' 10 (.bool (decide (k < n)))->q':=rO
theorem aVk(ad:Addr)(k n c:Nat)(hk:k < n)(u:Value)(hu:w.cell? (ad.add k)=some u)(hus:∃ Au nu cu,u=.slice Au nu cu)(hsz:a.tmps.size=19)(o7:Sl a 7 (.slice (some ad) n c))(o9:Sl a 9 (Nq k)):bK 4 f120 Q a w fun a' q'=>Sl a' 5 (u)->q':=by
 have h0:0<=(k:Int):=by omega
 have h1:(k:Int) < (n:Int):=by omega
 obtain ⟨Au,nu,cu,rfl⟩:=hus;exact rO
theorem aW2(g3:Nat)(u:Value)(R:World->Prop)(HC0:Calls prog 134 #[Pq g3 0,u] w fun e w'=>e=.returned (.tuple #[]) ∧ R w')(hsz:a.tmps.size=19)(o3:Sl a 3 (Pq g3 0))(o5:Sl a 5 (u)):bC false 5 f120 Q a w fun a' W q'=>(R W)->q':=by
 refine bU fun hend=>?_;unfold Sl at o3 o5;have HC:=LH HC0;clear HC0;go_wp2_with fail
 refine HC.out.mono ?_;rintro e w1 ⟨rfl,r1⟩;have r1:=LH r1;go_wp2_with fail
 try simp only [Act.put]
 exact hend _ _ tS (r1.out)
theorem aSq(k:Nat)(hk:k < 9223372036854775807)(hsz:a.tmps.size=19)(o9:Sl a 9 (Nq k)):bK 6 f120 Q a w fun a' q'=>Sl a' 9 (Nq (k+1))->q':=by
 have hw:wrap64 ((k:Int)+1)=(k:Int)+1:=by unfold wrap64;omega
 exact rO
theorem aP6(w0:World)(g2 g3:Nat)(cz ch cs':Array Value)(hcz:cz.size=32)(hch:ch.size=32)(h1:∀ u,u ∈ ch.toList->u.oneCell'=true)(L:List Res)(HC0:Calls prog 135 #[Pq g3 0] w fun e w'=>e=.returned (.agg ch) ∧ Held w0 w' (aB g3 214 cs' :: aB g2 23 cz :: L))(hsz:a.tmps.size=19)(o2:Sl a 2 (Pq g2 0))(o3:Sl a 3 (Pq g3 0)):bC false 7 f120 Q a w fun a' W q'=>(Held w0 W (aB g3 214 cs' :: aB g2 23 ch :: L))->q':=by
 refine bU fun hend=>?_;unfold Sl at o2 o3;have HC:=LH HC0;clear HC0;have hcz:=LH hcz;have hch:=LH hch;have HO:=LH h1;clear h1;go_wp2_with fail
 refine HC.out.mono ?_;rintro e w1 ⟨rfl,S1⟩;have S1:=LH S1;go_wp2_with (refine aD rfl 23 (.tmp 2) (.tmp 18) rfl g2 (aO o2) ch aE 23 _ (S1.out.at_ (l1:=[_])) (by rw [hch.out];exact bBy) (by rw [hch.out,hcz.out]) HO.out ?_;intro w7 b7 k7;have S7:=LH (Held.setBlk (l1:=[_]) S1.out b7 k7);clear b7 k7)
 try simp only [Act.put]
 exact hend _ _ tS (S7.out)
theorem aD7(x:Value)(vs:List Value)(ls:List (List UInt8))(hsum:ls.flatten.length < 1152921504606846976)(w:World)(hx:xY w x vs ls):
 Calls prog 120 #[x] w fun e w'=>e=.returned (.agg (aA (dE ls.flatten))) ∧ Kp [] w w':=by
 obtain ⟨A,c,rfl⟩:=eG hx.1;refine aR func120 rfl 19 rfl (fun a0 hsz hdf hAr=>?_);have hz0:a0.tmps.size=19:=hsz;have D:=hdf;have o0:=hAr 0 _ rfl;refine wp_seq (aZe w [] (Held.start w) hz0 (fun a1 w1 hs1 h1=>?_));obtain ⟨hz1,D,o0⟩:=eY hs1 hz0 D o0;obtain ⟨g2,o2,S⟩:=h1;refine wp_seq (aRj w _ S hz1 (fun a2 w2 hs2 h2=>?_));obtain ⟨hz2,D,o0,o2⟩:=dU hs2 hz1 D o0 o2;obtain ⟨g3,o3,S⟩:=h2;refine wp_seq (wp_seq (aX0 A ls.length c hz2 o0 (fun a3 hs3 o7 o8 o9=>?_)));obtain ⟨hz3,D,o0,o2,o3⟩:=dF hs3 hz2 D o0 o2 o3;refine wp_block ?_
 (conv=>arg 2;whnf)
 refine wp_loop (fun a' w'=>∃ (k:Nat) (st:List Nat) (blk:Bs),k<=ls.length ∧ a'.tmps.size=19 ∧ a'.defers=[] ∧ Sl a' 2 (Pq g2 0) ∧ Sl a' 3 (Pq g3 0) ∧ Sl a' 7 (.slice A ls.length c) ∧ Sl a' 8 (Nq (ls.length)) ∧ Sl a' 9 (Nq k) ∧ Und (ls.take k).flatten st blk ∧ Held w w' [aB g3 214 (cV st blk (ls.take k).flatten.length),aB g2 23 (aA (List.replicate 32 0))]) (fun a' _=>ls.length - (intOf (a'.eval (.tmp 9))).toNat) ⟨0,hF,List.replicate 64 0,Nat.zero_le _,hz3,D,o2,o3,o7,o8,o9,Und.new,S⟩ ?_
 iterate 9 (try clear o0)
 iterate 9 (try clear o2)
 iterate 9 (try clear o3)
 iterate 9 (try clear o7)
 iterate 9 (try clear o8)
 iterate 9 (try clear o9)
 iterate 9 (try clear S)
 iterate 9 (try clear D)
 rintro a4 w4 ⟨k,st,blk,hk,hz4,D,o2,o3,o7,o8,o9,hU,S⟩;have e9:=o9.eval (by rw [hz4];decide);refine wp_seq (aRp k ls.length hz4 o8 o9 (fun a5 hs5 o10=>?_));obtain ⟨hz5,D,o2,o3,o7,o8,o9⟩:=jJ hs5 hz4 D o2 o3 o7 o8 o9
 by_cases hlt:k < ls.length
 . refine wp_seq (cS o10 (wp_skip ?_) (by rw [decide_eq_true hlt]));simp only [Exit.then];obtain ⟨l,hl⟩:∃ l,ls[k]?=some l:=⟨_,List.getElem?_eq_getElem hlt⟩
   obtain ⟨u,hu,hru⟩:∃ u,vs[k]?=some u ∧ Rd w 1 u l.length (bv l):=by
    obtain ⟨u,h1,h2⟩:=hx.2 k hlt;rw [(List.getElem?_eq_some_iff.1 hl).2] at h2;exact ⟨u,h1,h2⟩
   obtain ⟨ad,rfl⟩:∃ ad,A=some ad:=by
    obtain ⟨_,A',c',e,_,_,hA,_⟩:=hx.1
    cases e
    cases A with
    |none=>have:=(hA rfl).1;omega
    |some ad=>exact ⟨ad,rfl⟩
   have hcu:=(hx.kp0 S.k).at_ hu;have hle:=xF hl;have HT':=jW w g3 (ls.take k).flatten l st blk hU (by omega) u [aB g2 23 (aA (List.replicate 32 0))] w4 (fun V cs SV=>aT hru SV.k) S;refine wp_seq (wp_block ?_);refine wp_seq (aVk ad k ls.length c hlt u hcu (by obtain ⟨Au,cu,h⟩:=eG hru;exact ⟨_,_,_,h⟩) hz5 o7 o9 (fun a6 hs6 o5=>?_));obtain ⟨hz6,D,o2,o3,o7,o8,o9,o10⟩:=jF hs6 hz5 D o2 o3 o7 o8 o9 o10;refine aW2 g3 u _ HT' hz6 o3 o5 (fun a7 w7 hs7 h7=>?_);obtain ⟨st',blk',hU',S⟩:=h7;obtain ⟨hz7,D,o2,o3,o7,o8,o9⟩:=jJ hs7 hz6 D o2 o3 o7 o8 o9;rw [<- vI hl] at hU' S;simp only [Exit.inBlock,Exit.then];refine aSq k (by have:=(List.getElem?_eq_some_iff.1 hl).1;have h9:ls.length<=9223372036854775807:=(by obtain ⟨_,_,_,_,_,h1,_⟩:=hx.1;unfold maxLen at h1;omega);omega) hz7 o9 (fun a8 hs8 o9=>?_);have hz8:=hs8.size.trans hz7;refine ⟨⟨k+1,st',blk',hlt,hz8,hs8.defers.trans D,hs8.q o2,hs8.q o3,hs8.q o7,hs8.q o8,o9,hU',S⟩,?_⟩
   show ls.length - (intOf _).toNat < ls.length - (intOf _).toNat
   rw [e9,o9.eval (by rw [hz8];decide)];simp only [intOf];omega
 . refine wp_seq (dD o10 (wp_exit ?_) (by rw [decide_eq_false hlt]));simp only [Exit.then,Exit.inBlock];obtain rfl:k=ls.length:=by omega
   rw [List.take_length] at hU S;have HS:=tL w g3 ls.flatten st blk hU hsum [aB g2 23 (aA (List.replicate 32 0))] w4 S;refine wp_seq (aP6 w g2 g3 _ _ _ rfl (by rw [aC,aY]) (aI _) [] HS hz5 o2 o3 (fun a6 w6 hs6 S=>?_));have hz6:=hs6.size.trans hz5;have o2:=hs6.q o2;refine wp_ret ?_;exact bodyPost_ret (aV (by rfl) (o2.eval (by rw [hz6];decide)) (S.at_ (l1:=[_])) underlying23 rfl (by rw [aC,aY];exact bBy)) (hs6.defers.trans D) ⟨rfl,S.k⟩
theorem aUi(w0:World)(L:List Res)(S:Held w0 w L)(hsz:a.tmps.size=5):bC false 0 f106 Q a w fun a' W q'=>(∃ g,Sl a' 2 (Pq g 0) ∧ Held w0 W (aB g 23 (aA (List.replicate 32 0)) :: L))->q':=by
 refine bU fun hend=>?_;have S1:=LH (S.newBlk 23 (aA (List.replicate 32 0)));go_wp2
 try simp only [Act.put]
 exact hend _ _ tS (⟨w.heap.size,cH,S1.out⟩)
theorem aS1(w0:World)(u:Value)(g2:Nat)(cz ch:Array Value)(hcz:cz.size=32)(hch:ch.size=32)(h1:∀ u,u ∈ ch.toList->u.oneCell'=true)(L:List Res)(S:Held w0 w (aB g2 23 cz :: L))(HC0:Calls prog 120 #[u] w fun e w'=>e=.returned (.agg ch) ∧ Kp [] w w')(hsz:a.tmps.size=5)(o0:Sl a 0 (u))(o2:Sl a 2 (Pq g2 0)):bC false 1 f106 Q a w fun a' W q'=>(Held w0 W (aB g2 23 ch :: L))->q':=by
 refine bU fun hend=>?_;unfold Sl at o0 o2;have S:=LH S;have HC:=LH HC0;clear HC0;have hcz:=LH hcz;have hch:=LH hch;have HO:=LH h1;clear h1;go_wp2_with fail
 refine HC.out.mono ?_;rintro e w1 ⟨rfl,k1⟩;have S1:=LH (S.out.kp k1);clear k1;go_wp2_with (refine aD rfl 23 (.tmp 2) (.tmp 4) rfl g2 (aO o2) ch aE 23 _ (S1.out.at_ (l1:=[])) (by rw [hch.out];exact bBy) (by rw [hch.out,hcz.out]) HO.out ?_;intro w7 b7 k7;have S7:=LH (Held.setBlk (l1:=[]) S1.out b7 k7);clear b7 k7)
 try simp only [Act.put]
 exact hend _ _ tS (S7.out)
theorem wV(x:Value)(ls:List (List UInt8))(hsum:ls.flatten.length < 1152921504606846976)(w:World)(hx:qZ w x ls):
 Calls prog 106 #[x] w fun e w'=>e=.returned (.agg (aA (dE ls.flatten))) ∧ Kp [] w w':=by
 obtain ⟨vs,hx⟩:=hx.f;refine aR func106 rfl 5 rfl (fun a0 hsz hdf hAr=>?_);have hz0:a0.tmps.size=5:=hsz;have D:=hdf;have o0:=hAr 0 _ rfl;refine wp_seq (aUi w [] (Held.start w) hz0 (fun a1 w1 hs1 h1=>?_));obtain ⟨hz1,D,o0⟩:=eY hs1 hz0 D o0;obtain ⟨g2,o2,S⟩:=h1;refine wp_seq (aS1 w x g2 _ _ rfl (by rw [aC,aY]) (aI _) [] S (aD7 x vs ls hsum w1 (hx.kp0 S.k)) hz1 o0 o2 (fun a2 w2 hs2 S=>?_));obtain ⟨hz2,D,o2⟩:=eY hs2 hz1 D o2;refine wp_ret ?_;exact bodyPost_ret (aV (by rfl) (o2.eval (by rw [hz2];decide)) (S.at_ (l1:=[])) underlying23 rfl (by rw [aC,aY];exact bBy)) D ⟨rfl,S.k⟩
theorem aOs(w0:World)(L:List Res)(S:Held w0 w L)(hsz:a.tmps.size=5):bC false 0 f111 Q a w fun a' W q'=>(∃ g,Sl a' 2 (Pq g 0) ∧ Held w0 W (aB g 23 (aA (List.replicate 32 0)) :: L))->q':=by
 refine bU fun hend=>?_;have S1:=LH (S.newBlk 23 (aA (List.replicate 32 0)));go_wp2
 try simp only [Act.put]
 exact hend _ _ tS (⟨w.heap.size,cH,S1.out⟩)
theorem aSc(w0:World)(u:Value)(g2:Nat)(cz ch:Array Value)(hcz:cz.size=32)(hch:ch.size=32)(h1:∀ u,u ∈ ch.toList->u.oneCell'=true)(L:List Res)(S:Held w0 w (aB g2 23 cz :: L))(HC0:Calls prog 124 #[u] w fun e w'=>e=.returned (.agg ch) ∧ Kp [] w w')(hsz:a.tmps.size=5)(o0:Sl a 0 (u))(o2:Sl a 2 (Pq g2 0)):bC false 1 f111 Q a w fun a' W q'=>(Held w0 W (aB g2 23 ch :: L))->q':=by
 refine bU fun hend=>?_;unfold Sl at o0 o2;have S:=LH S;have HC:=LH HC0;clear HC0;have hcz:=LH hcz;have hch:=LH hch;have HO:=LH h1;clear h1;go_wp2_with fail
 refine HC.out.mono ?_;rintro e w1 ⟨rfl,k1⟩;have S1:=LH (S.out.kp k1);clear k1;go_wp2_with (refine aD rfl 23 (.tmp 2) (.tmp 4) rfl g2 (aO o2) ch aE 23 _ (S1.out.at_ (l1:=[])) (by rw [hch.out];exact bBy) (by rw [hch.out,hcz.out]) HO.out ?_;intro w7 b7 k7;have S7:=LH (Held.setBlk (l1:=[]) S1.out b7 k7);clear b7 k7)
 try simp only [Act.put]
 exact hend _ _ tS (S7.out)
theorem wN(x:Value)(m:Bs)(hm:m.length<=140737488355328)(w:World)(hx:Rd w 1 x m.length (bv m)):
 Calls prog 111 #[x] w fun e w'=>e=.returned (.agg (aA (dE m))) ∧ Kp [] w w':=by
 obtain ⟨A,c,rfl⟩:=eG hx;refine aR func111 rfl 5 rfl (fun a0 hsz hdf hAr=>?_);have hz0:a0.tmps.size=5:=hsz;have D:=hdf;have o0:=hAr 0 _ rfl;refine wp_seq (aOs w [] (Held.start w) hz0 (fun a1 w1 hs1 h1=>?_));obtain ⟨hz1,D,o0⟩:=eY hs1 hz0 D o0;obtain ⟨g2,o2,S⟩:=h1;refine wp_seq (aSc w (.slice A m.length c) g2 _ _ rfl (by rw [aC,aY]) (aI _) [] S ((pD w1 [] A c m hm w1 (Held.start w1) (fun V L' SV=>aT hx (S.k.trans SV.k (by simp)))).mono (fun e w' h=>⟨h.1,h.2.k⟩)) hz1 o0 o2 (fun a2 w2 hs2 S=>?_));obtain ⟨hz2,D,o2⟩:=eY hs2 hz1 D o2;refine wp_ret ?_;exact bodyPost_ret (aV (by rfl) (o2.eval (by rw [hz2];decide)) (S.at_ (l1:=[])) underlying23 rfl (by rw [aC,aY];exact bBy)) D ⟨rfl,S.k⟩
theorem aR1(w0:World)(L:List Res)(S:Held w0 w L)(hsz:a.tmps.size=2):bC false 0 f74 Q a w fun a' W q'=>(∃ g,Sl a' 0 (Pq g 0) ∧ Held w0 W (aB g 23 (aA (List.replicate 32 0)) :: L))->q':=by
 refine bU fun hend=>?_;have S1:=LH (S.newBlk 23 (aA (List.replicate 32 0)));go_wp2
 try simp only [Act.put]
 exact hend _ _ tS (⟨w.heap.size,cH,S1.out⟩)
theorem bA6(w0:World)(g0:Nat)(cz ch:Array Value)(hcz:cz.size=32)(hch:ch.size=32)(h1:∀ u,u ∈ ch.toList->u.oneCell'=true)(L:List Res)(S:Held w0 w (aB g0 23 cz :: L))(HC0:Calls prog 106 #[.slice none 0 0] w fun e w'=>e=.returned (.agg ch) ∧ Kp [] w w')(hsz:a.tmps.size=2)(o0:Sl a 0 (Pq g0 0)):bC false 1 f74 Q a w fun a' W q'=>(Held w0 W (aB g0 23 ch :: L))->q':=by
 refine bU fun hend=>?_;unfold Sl at o0;have S:=LH S;have HC:=LH HC0;clear HC0;have hcz:=LH hcz;have hch:=LH hch;have HO:=LH h1;clear h1;go_wp2_with fail
 refine HC.out.mono ?_;rintro e w1 ⟨rfl,k1⟩;have S1:=LH (S.out.kp k1);clear k1;go_wp2_with (refine aD rfl 23 (.tmp 0) (.tmp 1) rfl g0 (aO o0) ch aE 23 _ (S1.out.at_ (l1:=[])) (by rw [hch.out];exact bBy) (by rw [hch.out,hcz.out]) HO.out ?_;intro w7 b7 k7;have S7:=LH (Held.setBlk (l1:=[]) S1.out b7 k7);clear b7 k7)
 try simp only [Act.put]
 exact hend _ _ tS (S7.out)
theorem jA(w:World):Calls prog 74 #[] w fun e w'=>e=.returned (.agg (aA cI)) ∧ Kp [] w w':=by
 refine aR func74 rfl 2 rfl (fun a0 hsz hdf hAr=>?_);have hz0:a0.tmps.size=2:=hsz;have D:=hdf;refine wp_seq (aR1 w [] (Held.start w) hz0 (fun a1 w1 hs1 h1=>?_));obtain ⟨hz1,D⟩:=dS hs1 hz0 D;obtain ⟨g0,o0,S⟩:=h1;refine wp_seq (bA6 w g0 _ _ rfl (by rw [aC,aY]) (aI _) [] S (wV (.slice none 0 0) [] (by decide) w1 ⟨[],Rd.nil _ _,fun i hi=>by simp at hi⟩) hz1 o0 (fun a2 w2 hs2 S=>?_));obtain ⟨hz2,D,o0⟩:=eY hs2 hz1 D o0;refine wp_ret ?_;exact bodyPost_ret (aV (by rfl) (o0.eval (by rw [hz2];decide)) (S.at_ (l1:=[])) underlying23 rfl (by rw [aC,aY];exact bBy)) D ⟨rfl,S.k⟩
theorem aTq(w0:World)(L:List Res)(S:Held w0 w L)(hsz:a.tmps.size=2):bC false 0 f79 Q a w fun a' W q'=>(∃ g,Sl a' 0 (Pq g 0) ∧ Held w0 W (aB g 23 (aA (List.replicate 32 0)) :: L))->q':=by
 refine bU fun hend=>?_;have S1:=LH (S.newBlk 23 (aA (List.replicate 32 0)));go_wp2
 try simp only [Act.put]
 exact hend _ _ tS (⟨w.heap.size,cH,S1.out⟩)
theorem aQf(w0:World)(g0:Nat)(cz ch:Array Value)(hcz:cz.size=32)(hch:ch.size=32)(h1:∀ u,u ∈ ch.toList->u.oneCell'=true)(L:List Res)(S:Held w0 w (aB g0 23 cz :: L))(HC0:Calls prog 111 #[.slice none 0 0] w fun e w'=>e=.returned (.agg ch) ∧ Kp [] w w')(hsz:a.tmps.size=2)(o0:Sl a 0 (Pq g0 0)):bC false 1 f79 Q a w fun a' W q'=>(Held w0 W (aB g0 23 ch :: L))->q':=by
 refine bU fun hend=>?_;unfold Sl at o0;have S:=LH S;have HC:=LH HC0;clear HC0;have hcz:=LH hcz;have hch:=LH hch;have HO:=LH h1;clear h1;go_wp2_with fail
 refine HC.out.mono ?_;rintro e w1 ⟨rfl,k1⟩;have S1:=LH (S.out.kp k1);clear k1;go_wp2_with (refine aD rfl 23 (.tmp 0) (.tmp 1) rfl g0 (aO o0) ch aE 23 _ (S1.out.at_ (l1:=[])) (by rw [hch.out];exact bBy) (by rw [hch.out,hcz.out]) HO.out ?_;intro w7 b7 k7;have S7:=LH (Held.setBlk (l1:=[]) S1.out b7 k7);clear b7 k7)
 try simp only [Act.put]
 exact hend _ _ tS (S7.out)
theorem iU(w:World):Calls prog 79 #[] w fun e w'=>e=.returned (.agg (aA cI)) ∧ Kp [] w w':=by
 refine aR func79 rfl 2 rfl (fun a0 hsz hdf hAr=>?_);have hz0:a0.tmps.size=2:=hsz;have D:=hdf;refine wp_seq (aTq w [] (Held.start w) hz0 (fun a1 w1 hs1 h1=>?_));obtain ⟨hz1,D⟩:=dS hs1 hz0 D;obtain ⟨g0,o0,S⟩:=h1;refine wp_seq (aQf w g0 _ _ rfl (by rw [aC,aY]) (aI _) [] S (wN (.slice none 0 0) [] (by decide) w1 (Rd.nil _ _)) hz1 o0 (fun a2 w2 hs2 S=>?_));obtain ⟨hz2,D,o0⟩:=eY hs2 hz1 D o0;refine wp_ret ?_;exact bodyPost_ret (aV (by rfl) (o0.eval (by rw [hz2];decide)) (S.at_ (l1:=[])) underlying23 rfl (by rw [aC,aY];exact bBy)) D ⟨rfl,S.k⟩
end
section
open Go.RowKit
theorem aGb{s:List UInt8}(h:eZ s=true):s.length<=64:=by
 unfold eZ at h;simp only [Bool.and_eq_true,decide_eq_true_eq] at h;exact h.1.2
theorem aCt{nm:List UInt8}{x:bF}{l:List bF}(h:dW x.1 nm < 0):sY nm (x :: l)=sY nm l+1:=by
 unfold sY;rw [List.takeWhile_cons,if_pos (by simpa using h),List.length_cons]
theorem aCo{nm:List UInt8}{x:bF}{l:List bF}(h:¬ dW x.1 nm < 0):sY nm (x :: l)=0:=by
 unfold sY;rw [List.takeWhile_cons,if_neg (by simpa using h)]
 rfl
theorem aNe{nm:List UInt8}{x:bF}{l:List bF}(h:dW x.1 nm < 0):xR nm (x :: l)=xR nm l:=by
 unfold xR;rw [aCt h,List.getElem?_cons_succ]
theorem aMj{nm:List UInt8}{x:bF}{l:List bF}(h:¬ dW x.1 nm < 0):xR nm (x :: l)=decide (dW x.1 nm=0):=by
 unfold xR;rw [aCo h]
 rfl
theorem aZ{P:Program}{o:Oper}{a:Act}{w0 w:World}{K:Act->World->Prop}{Q:Exit->Act->World->Prop}{L:List Res}(x y:Operand)(ty:TypeId)(ho:o.op=.store ty x y)(g:Nat)(hx:a.eval x=Pq g 0)(cs:Array Value)(hy:a.eval y=.agg cs)
 (t:TypeId) (old:Array Value) (S:Held w0 w (aB g t old :: L)) (hi:(P.info? ty).map (·.size)=some cs.size) (hold:cs.size=old.size) (h1:∀ u,u ∈ cs.toList->u.oneCell'=true)
 (h:∀ w',Held w0 w' (aB g t cs :: L)->K (a.put o.dst undef) w'):o.wp P a w K Q:=by
 refine eW x y ty ho g 0 hx cs hy t old (S.at_ (l1:=[])) hi (by omega) h1 (fun w' h2 k2=>h w' (Held.setBlk (l1:=[]) S ?_ k2));rw [rZ _ _ hold.symm] at h2;exact h2
end
section
variable {Q:Exit->Act->World->Prop} {a:Act} {w:World}
open Go.RowKit Go.Shelf
theorem aC4{W:World}{g:Nat}{t:TypeId}{h:List UInt8}(hb:aM W g t (aA h))(hh:h.length=32):Rd W 1 (.slice (some ⟨g,0,none⟩) 32 32) h.length (bv h):=
 ⟨by rw [aX,Nat.mul_one],some ⟨g,0,none⟩,32,by rw [hh],by rw [hh];exact Nat.le_refl _,by simp [maxLen],(fun h=>by cases h),(fun ad had j u hu'=>by
  cases had;rw [Addr.add_lit,hb.cell,<- Array.getElem?_toList,Nat.zero_add,fV];exact hu')⟩
theorem aHp{W:World}{v u1 u2 u3:Value}{b1 b2 b3:List UInt8}(h:Rd W 1 v 3 [u1,u2,u3])(h1:Rd W 1 u1 b1.length (bv b1))(h2:Rd W 1 u2 b2.length (bv b2))(h3:Rd W 1 u3 b3.length (bv b3)):qZ W v [b1,b2,b3]:=by
 refine ⟨[u1,u2,u3],h,fun i hi=>?_⟩;have:i=0 ∨ i=1 ∨ i=2:=by simp at hi;omega
 rcases this with rfl|rfl|rfl
 . exact ⟨u1,rfl,h1⟩
 . exact ⟨u2,rfl,h2⟩
 . exact ⟨u3,rfl,h3⟩
theorem aUv(w0:World)(L:List Res)(S:Held w0 w L)(hsz:a.tmps.size=7):bC false 0 f91 Q a w fun a' W q'=>(∃ g,Sl a' 2 (Pq g 0) ∧ Held w0 W (aB g 23 (aA (List.replicate 32 0)) :: L))->q':=by
 refine bU fun hend=>?_;have S1:=LH (S.newBlk 23 (aA (List.replicate 32 0)));go_wp2
 try simp only [Act.put]
 exact hend _ _ tS (⟨w.heap.size,cH,S1.out⟩)
theorem aSj(w0:World)(g2:Nat)(A:Option Addr)(c:Nat)(e:Bs)(he:e.length<=140737488355200)(hr:Rd w 1 (.slice A e.length c) e.length (bv e))(L:List Res)(S:Held w0 w (aB g2 23 (aA (List.replicate 32 0)) :: L))(hsz:a.tmps.size=7)(o0:Sl a 0 (.slice A e.length c))(o2:Sl a 2 (Pq g2 0)):bC false 1 f91 Q a w fun a' W q'=>(Held w0 W (aB g2 23 (aA (bE e)) :: L))->q':=by
 refine bU fun hend=>?_;unfold Sl at o0 o2;have hT:=bAu 32 (g:=w.heap.size+1) (by simp) (jM w 5 #[.int .u8 0] [0] rfl (by decide)) (aT hr ((Kp.refl [] w).alloc (.cells #[.int .u8 0] 5)));have HR:=LH ((wV _ _ (by simp;omega) _ hT).mono (fun r w' h=>(⟨h.1.trans (by rw [show [[0],e].flatten=0 :: e by simp];rfl),h.2⟩:r=.returned (.agg (aA (bE e))) ∧ Kp [] _ w')));have S:=(S.alloc (.cells #[.int .u8 0] 5)).alloc (.cells #[.slice (some ⟨w.heap.size,0,none⟩) 1 1,.slice A e.length c] 32);clear hT hr;have hz3:Hid ((aA (bE e)).size=32):=LH (by rw [aC,eQ]);have HO:=LH (aI (bE e));have hcz:Hid ((aA (List.replicate 32 0)).size=32):=LH rfl;obtain ⟨ch,hch0⟩:∃ ch,Hid (aA (bE e)=ch):=⟨_,LH rfl⟩;have hch:=hz3;rw [hch0.out] at HO hch;clear hz3;obtain ⟨cz,hcz0⟩:∃ cz,Hid ((aA (List.replicate 32 0))=cz):=⟨_,LH rfl⟩;rw [hcz0.out] at S hcz;have S:=LH S;rw [hch0.out] at HR;clear he;obtain ⟨nl,hnl⟩:∃ nl,Hid (e.length=nl):=⟨_,LH rfl⟩;rw [hnl.out] at o0 HR S;go_wp2_with fail
 refine HR.out.mono ?_;rintro r w1 ⟨rfl,k1⟩;have S1:=LH (S.out.kp k1);clear k1;go_wp2_with (refine aD rfl 23 (.tmp 2) (.tmp 6) rfl g2 (aO o2) ch aE 23 _ (S1.out.at_ (l1:=[])) (by rw [hch.out];exact bBy) (by rw [hch.out,hcz.out]) HO.out ?_;intro w7 b7 k7;have S7:=LH (Held.setBlk (l1:=[]) S1.out b7 k7);clear b7 k7)
 rw [<- hch0.out] at S7
 try simp only [Act.put]
 exact hend _ _ tS (S7.out)
theorem aDk(A:Option Addr)(c:Nat)(e:Bs)(he:e.length<=140737488355200)(w:World)(hr:Rd w 1 (.slice A e.length c) e.length (bv e)):
 Calls prog 91 #[.slice A e.length c] w fun r w'=>r=.returned (.agg (aA (bE e))) ∧ Kp [] w w':=by
 refine aR func91 rfl 7 rfl (fun a0 hsz hdf hAr=>?_);have hz0:a0.tmps.size=7:=hsz;have D:=hdf;have o0:=hAr 0 _ rfl;refine wp_seq (aUv w [] (Held.start w) hz0 (fun a1 w1 hs1 h1=>?_));obtain ⟨hz1,D,o0⟩:=eY hs1 hz0 D o0;obtain ⟨g2,o2,S⟩:=h1;refine wp_seq (aSj w g2 A c e he (aT hr S.k) _ S hz1 o0 o2 (fun a2 w2 hs2 S=>?_));obtain ⟨hz2,D,o2⟩:=eY hs2 hz1 D o2;refine wp_ret ?_;exact bodyPost_ret (aV (by rfl) (o2.eval (by rw [hz2];decide)) (S.at_ (l1:=[])) underlying23 rfl (by rw [aC,eQ];exact bBy)) D ⟨rfl,S.k⟩
theorem aQq(w0:World)(L:List Res)(S:Held w0 w L)(hsz:a.tmps.size=7):bC false 0 f83 Q a w fun a' W q'=>(∃ g,Sl a' 2 (Pq g 0) ∧ Held w0 W (aB g 23 (aA (List.replicate 32 0)) :: L))->q':=by
 refine bU fun hend=>?_;have S1:=LH (S.newBlk 23 (aA (List.replicate 32 0)));go_wp2
 try simp only [Act.put]
 exact hend _ _ tS (⟨w.heap.size,cH,S1.out⟩)
theorem aXk(w0:World)(g2:Nat)(A:Option Addr)(c:Nat)(e:Bs)(he:e.length<=140737488355200)(hr:Rd w 1 (.slice A e.length c) e.length (bv e))(L:List Res)(S:Held w0 w (aB g2 23 (aA (List.replicate 32 0)) :: L))(hsz:a.tmps.size=7)(o0:Sl a 0 (.slice A e.length c))(o2:Sl a 2 (Pq g2 0)):bC false 1 f83 Q a w fun a' W q'=>(Held w0 W (aB g2 23 (aA (bE e)) :: L))->q':=by
 refine bU fun hend=>?_;unfold Sl at o0 o2;have hz3:Hid ((aA (bE e)).size=32):=LH (by rw [aC,eQ]);have HO:=LH (aI (bE e));have hcz:Hid ((aA (List.replicate 32 0)).size=32):=LH rfl;obtain ⟨ch,hch0⟩:∃ ch,Hid (aA (bE e)=ch):=⟨_,LH rfl⟩;have hch:=hz3;rw [hch0.out] at HO hch;clear hz3;obtain ⟨cz,hcz0⟩:∃ cz,Hid ((aA (List.replicate 32 0))=cz):=⟨_,LH rfl⟩;rw [hcz0.out] at S hcz
 have hfl:Hid (∀ (W:World) (u:Value),Rd W 1 u (1+e.length) ([.int .u8 0] ++ bv e)->Calls prog 111 #[u] W fun r w'=>r=.returned (.agg ch) ∧ Kp [] W w'):=LH (fun W u hu=>by
  have h:=wN u (0 :: e) (by simp;omega) W (by rw [List.length_cons,Nat.add_comm];exact hu);rw [show dE (0 :: e)=bE e from rfl,hch0.out] at h;exact h)
 have S1:=LH (S.rownew (cZ w 5 1 1 #[.int .u8 0] rfl (by decide)) ((Kp.refl [] w).alloc _) (fun g hg=>Nat.le_of_eq (Option.some.inj hg)));have HR:=LH (aT hr ((Kp.refl [] w).alloc (.cells #[.int .u8 0] 5)));clear hr S;have hb1:Hid (1+e.length<=maxLen ∧ (1+e.length) * 1<=140737488355328):=LH (by unfold maxLen;omega);clear he;obtain ⟨nl,hnl⟩:∃ nl,Hid (e.length=nl):=⟨_,LH rfl⟩;rw [hnl.out] at o0 HR hb1 hfl;go_wp2_with (at_builtin;refine cY rfl (.tmp 3) (.tmp 4) 32 5 rfl bC2 underlying32 rfl (by decide) (.slice (some ⟨w.heap.size,0,none⟩) 1 1) 1 _ aE S1.out (.slice A nl c) nl (bv e) (aO o0) HR.out (eI _) hb1.out.1 hb1.out.2 ?_;intro v2 w2 S3;have S3:=LH S3)
 refine (hfl.out w2 v2 (Rd.of_own (e:=5) (S3.out.at_ (l1:=[])))).mono ?_;rintro r w1 ⟨rfl,k1⟩;have S1:=LH (S3.out.drop.kp k1);clear k1;go_wp2_with (refine aD rfl 23 (.tmp 2) (.tmp 6) rfl g2 (aO o2) ch aE 23 _ (S1.out.at_ (l1:=[])) (by rw [hch.out];exact bBy) (by rw [hch.out,hcz.out]) HO.out ?_;intro w7 b7 k7;have S7:=LH (Held.setBlk (l1:=[]) S1.out b7 k7);clear b7 k7)
 rw [<- hch0.out] at S7
 try simp only [Act.put]
 exact hend _ _ tS (S7.out)
theorem aE7(A:Option Addr)(c:Nat)(e:Bs)(he:e.length<=140737488355200)(w:World)(hr:Rd w 1 (.slice A e.length c) e.length (bv e)):
 Calls prog 83 #[.slice A e.length c] w fun r w'=>r=.returned (.agg (aA (bE e))) ∧ Kp [] w w':=by
 refine aR func83 rfl 7 rfl (fun a0 hsz hdf hAr=>?_);have hz0:a0.tmps.size=7:=hsz;have D:=hdf;have o0:=hAr 0 _ rfl;refine wp_seq (aQq w [] (Held.start w) hz0 (fun a1 w1 hs1 h1=>?_));obtain ⟨hz1,D,o0⟩:=eY hs1 hz0 D o0;obtain ⟨g2,o2,S⟩:=h1;refine wp_seq (aXk w g2 A c e he (aT hr S.k) _ S hz1 o0 o2 (fun a2 w2 hs2 S=>?_));obtain ⟨hz2,D,o2⟩:=eY hs2 hz1 D o2;refine wp_ret ?_;exact bodyPost_ret (aV (by rfl) (o2.eval (by rw [hz2];decide)) (S.at_ (l1:=[])) underlying23 rfl (by rw [aC,eQ];exact bBy)) D ⟨rfl,S.k⟩
theorem aUs(w0:World)(xa xb:Array Value)(L:List Res)(S:Held w0 w L)(hsz:a.tmps.size=10)(o0:Sl a 0 (.agg xa))(o1:Sl a 1 (.agg xb)):bC false 0 f93 Q a w fun a' W q'=>(∃ g2 g3 g4,Sl a' 2 (Pq g2 0) ∧ Sl a' 3 (Pq g3 0) ∧ Sl a' 4 (Pq g4 0) ∧ Held w0 W (aB g4 23 (aA (List.replicate 32 0)) :: aB g3 23 xb :: aB g2 23 xa :: L))->q':=by
 refine bU fun hend=>?_;unfold Sl at o0 o1;have S1:=LH (((S.newBlk 23 xa).newBlkN 23 xb (g:=w.heap.size+1) (by simp)).newBlkN 23 (aA (List.replicate 32 0)) (g:=w.heap.size+2) (by simp));go_wp2
 try simp only [Act.put]
 exact hend _ _ tS (⟨w.heap.size,w.heap.size+1,w.heap.size+2,cH,cH,cH,S1.out⟩)
theorem aQ0(w0:World)(g2 g3 g4:Nat)(ca cb:Bs)(ha:ca.length=32)(hb:cb.length=32)(L:List Res)(hsz:a.tmps.size=10)(o2:Sl a 2 (Pq g2 0))(o3:Sl a 3 (Pq g3 0))(o4:Sl a 4 (Pq g4 0))
 (S0:Held w0 w (aB g4 23 (aA (List.replicate 32 0)) :: aB g2 23 (aA ca) :: aB g3 23 (aA cb) :: L)):RG2 1 f93 Q a w fun a' vs gs W q'=>Held w0 W (aG 5 1 (vs 0) 1 (bv [1]) :: aG 32 1 (vs 3) 3 [vs 0,.slice (some ⟨g2,0,none⟩) 32 32,.slice (some ⟨g3,0,none⟩) 32 32] :: aB g4 23 (aA (cN ca cb)) :: aB g2 23 (aA ca) :: aB g3 23 (aA cb) :: L)->q':=by
 intro hend;have hap:=pa 1 f93
 refine aP (Γ:=Unit) (l:=(aK 1 f93)) 4 [0,1,2,3,4,5,7,8,9]
  (fun i vs gs=>match i with|1=>vs 1=.slice (some ⟨g2,0,none⟩) 32 32|2=>vs 2=.slice (some ⟨g3,0,none⟩) 32 32|4=>vs 4=.agg (aA (cN ca cb))|_=>True)
  (fun i vs gs=>match i with|0=>[aG 5 1 (vs 0) 1 (bv [1])]|3=>[aG 32 1 (vs 3) 3 [vs 0,.slice (some ⟨g2,0,none⟩) 32 32,.slice (some ⟨g3,0,none⟩) 32 32]]|5=>[aB g4 23 (aA (cN ca cb))]|6=>[aB g4 23 (aA (List.replicate 32 0))]|7=>[aB g2 23 (aA ca)]|8=>[aB g3 23 (aA cb)]|9=>L|_=>[])
  (fun i=>match i with|5=>[6]|_=>[]) (fun i=>match i with|3=>[0]|4=>[0,3,7,8]|_=>[]) S0 (by kernel_rfl) hap (by kernel_rfl) (by kernel_rfl) (fun i=>match i with|0=>[0]|1=>[1]|2=>[2]|3=>[0,3]|4=>[4]|_=>[]) (by kernel_rfl) ?_ (by kernel_rfl) ?_ ?_ ?_
 . exact lA
 . exact pA
 . clear S0 hend
   and_intros <;> try intro vs gs A' W LF hA S hR hd hu K hK
   . replace hK:=hK default;clear hA o2 o3 o4;go_step;exact hK _ _ (S.rownew (cZ W 5 1 1 #[.int .u8 1] rfl (by decide)) ((Kp.refl [] W).alloc _) (fun g hg=>Nat.le_of_eq (Option.some.inj hg))) trivial
   . exact aJ (eO 2 o2)
   . exact aJ (eO 3 o3)
   . replace hK:=hK default;have e5:=eU 5 0;have e6:=vD 6 1;have e7:=vD 7 2;clear hA o2 o3 o4;obtain ⟨A0,c0,hv0,-,-⟩:=aS (show Ow W 5 1 (vs 0) 1 (bv [1]) from (S.ok (aG 5 1 (vs 0) 1 (bv [1])) (hR 0 (List.mem_singleton.2 rfl) _ (List.mem_singleton.2 rfl))));rw [hv0] at e5;go_step;have o3:=cZ W 32 1 3 #[.slice A0 1 c0,.slice (some ⟨g2,0,none⟩) 32 32,.slice (some ⟨g3,0,none⟩) 32 32] rfl (by decide)
     have o4:Ow (W.alloc (.cells #[.slice A0 1 c0,.slice (some ⟨g2,0,none⟩) 32 32,.slice (some ⟨g3,0,none⟩) 32 32] 32)) 32 1 (.slice (some ⟨W.heap.size,0,none⟩) 3 3) 3 [vs 0,.slice (some ⟨g2,0,none⟩) 32 32,.slice (some ⟨g3,0,none⟩) 32 32]:=by rw [hv0];exact o3
     exact hK _ _ (S.rownew o4 ((Kp.refl [] W).alloc _) (fun g hg=>Nat.le_of_eq (Option.some.inj hg))) trivial
   . replace hK:=hK default;have e8:=eU 8 3;clear hA o2 o3 o4;go_step;have h0:Rd W 1 (vs 0) [1].length (bv [1]):=Rd.of_own (show Ow W 5 1 (vs 0) 1 (bv [1]) from S.ok (aG 5 1 (vs 0) 1 (bv [1])) (hR 0 (by simp) _ (List.mem_singleton.2 rfl)));have h2:=aC4 (show aM W g2 23 (aA ca) from S.ok (aB g2 23 (aA ca)) (hR 7 (by simp) _ (List.mem_singleton.2 rfl))) ha;have h3:=aC4 (show aM W g3 23 (aA cb) from S.ok (aB g3 23 (aA cb)) (hR 8 (by simp) _ (List.mem_singleton.2 rfl))) hb;have hv:=Rd.of_own (show Ow W 32 1 (vs 3) 3 [vs 0,.slice (some ⟨g2,0,none⟩) 32 32,.slice (some ⟨g3,0,none⟩) 32 32] from S.ok (aG 32 1 (vs 3) 3 [vs 0,.slice (some ⟨g2,0,none⟩) 32 32,.slice (some ⟨g3,0,none⟩) 32 32]) (hR 3 (by simp) _ (List.mem_singleton.2 rfl)));refine (wV (vs 3) [[1],ca,cb] (by simp [ha,hb]) W (aHp hv h0 h2 h3)).mono ?_;rintro e w' ⟨rfl,k⟩;exact hK _ _ (S.kp k) (by rw [show [[1],ca,cb].flatten=1 :: (ca ++ cb) by simp];rfl)
   . replace hK:=hK default;have e4:=eO 4 o4;have e9:=vD 9 4;clear hA o2 o3 o4;have S1:Held w0 W (aB g4 23 (aA (List.replicate 32 0)) :: LF):=S;refine aZ (.tmp 4) (.tmp 9) 23 rfl g4 (by simpa [Act.eval] using e4) (aA (cN ca cb)) (by simpa [Act.eval] using e9) 23 (aA (List.replicate 32 0)) S1 (by rw [aC,bL];exact bBy) (by rw [aC,bL] <;> rfl) (aI _) ?_;intro w' S2;exact hK _ _ S2 trivial
   . trivial
 . intro vs gs W S hp;have S:Held w0 W (aG 5 1 (vs 0) 1 (bv [1]) :: aG 32 1 (vs 3) 3 [vs 0,.slice (some ⟨g2,0,none⟩) 32 32,.slice (some ⟨g3,0,none⟩) 32 32] :: aB g4 23 (aA (cN ca cb)) :: aB g2 23 (aA ca) :: aB g3 23 (aA cb) :: L):=by simpa only [List.flatMap_cons,List.flatMap_nil,List.append_nil,List.nil_append,List.cons_append,List.append_assoc] using S
   rw [aF];exact hend _ vs gs W sQ  S
theorem mQ(ca cb:Bs)(ha:ca.length=32)(hb:cb.length=32)(w:World):
 Calls prog 93 #[.agg (aA ca),.agg (aA cb)] w fun r w'=>r=.returned (.agg (aA (cN ca cb))) ∧ Kp [] w w':=by
 refine aR func93 rfl 10 rfl (fun a0 hsz hdf hAr=>?_);have hz0:a0.tmps.size=10:=hsz;have D:=hdf;have o0:=hAr 0 _ rfl;have o1:=hAr 1 _ rfl;refine wp_seq (aUs w _ _ [] (Held.start w) hz0 o0 o1 (fun a1 w1 hs1 h1=>?_));obtain ⟨hz1,D⟩:=dS hs1 hz0 D;obtain ⟨g2,g3,g4,o2,o3,o4,S⟩:=h1;have S:=(((S.pull 1 rfl).pull 2 rfl).pull 2 rfl);refine wp_seq (aQ0 w g2 g3 g4 ca cb ha hb _ hz1 o2 o3 o4 S (fun a2 vs gs w2 hs2 S=>?_));obtain ⟨hz2,D,o4⟩:=eY hs2 hz1 D o4;refine wp_ret ?_;exact bodyPost_ret (aV (by rfl) (o4.eval (by rw [hz2];decide)) (S.ok (aB g4 23 (aA (cN ca cb))) (by simp)) underlying23 rfl (by rw [aC,bL];exact bBy)) D ⟨rfl,S.k⟩
theorem aTn(w0:World)(xa xb:Array Value)(L:List Res)(S:Held w0 w L)(hsz:a.tmps.size=31)(o0:Sl a 0 (.agg xa))(o1:Sl a 1 (.agg xb)):bC false 0 f82 Q a w fun a' W q'=>(∃ g2 g3 g4,Sl a' 2 (Pq g2 0) ∧ Sl a' 3 (Pq g3 0) ∧ Sl a' 4 (Pq g4 0) ∧ Held w0 W (aB g4 23 (aA (List.replicate 32 0)) :: aB g3 23 xb :: aB g2 23 xa :: L))->q':=by
 refine bU fun hend=>?_;unfold Sl at o0 o1;have S1:=LH (((S.newBlk 23 xa).newBlkN 23 xb (g:=w.heap.size+1) (by simp)).newBlkN 23 (aA (List.replicate 32 0)) (g:=w.heap.size+2) (by simp));go_wp2
 try simp only [Act.put]
 exact hend _ _ tS (⟨w.heap.size,w.heap.size+1,w.heap.size+2,cH,cH,cH,S1.out⟩)
theorem aRa(w0:World)(L:List Res)(S:Held w0 w L)(hsz:a.tmps.size=31):bC false 1 f82 Q a w fun a' W q'=>(∃ u,Sl a' 5 u ∧ Held w0 W (aG 5 1 u 1 (bv [1]) :: L))->q':=by
 refine bU fun hend=>?_;have S1:=LH (S.rownew (cZ w 5 1 1 #[.int .u8 1] rfl (by decide)) ((Kp.refl [] w).alloc _) (fun g hg=>Nat.le_of_eq (Option.some.inj hg)));go_wp2_with fail
 try simp only [Act.put]
 exact hend _ _ tS (⟨_,cH,S1.out⟩)
theorem aQ4(hsz:a.tmps.size=31):bK 2 f82 Q a w fun a' q'=>Sl a' 6 (Nq 0)->q':=rO
theorem aPz(hsz:a.tmps.size=31):bK 6 f82 Q a w fun a' q'=>Sl a' 7 (Nq 0)->q':=rO
theorem bA2(k:Nat)(hsz:a.tmps.size=31)(o6:Sl a 6 (Nq k)):bK 3 f82 Q a w fun a' q'=>Sl a' 10 (.bool (decide ((k:Int) < 32)))->q':=rO
theorem aVf(k:Nat)(hsz:a.tmps.size=31)(o7:Sl a 7 (Nq k)):bK 7 f82 Q a w fun a' q'=>Sl a' 20 (.bool (decide ((k:Int) < 32)))->q':=rO
theorem aUn(k:Nat)(hk:k < 9223372036854775807)(hsz:a.tmps.size=31)(o6:Sl a 6 (Nq k)):bK 4 f82 Q a w fun a' q'=>Sl a' 6 (Nq (k+1))->q':=by
 have hw:wrap64 ((k:Int)+1)=(k:Int)+1:=by unfold wrap64;omega
 exact rO
theorem aXw(k:Nat)(hk:k < 9223372036854775807)(hsz:a.tmps.size=31)(o7:Sl a 7 (Nq k)):bK 8 f82 Q a w fun a' q'=>Sl a' 7 (Nq (k+1))->q':=by
 have hw:wrap64 ((k:Int)+1)=(k:Int)+1:=by unfold wrap64;omega
 exact rO
theorem aTp(w0:World)(gx:Nat)(ca:Bs)(ha:ca.length=32)(k:Nat)(hk:k < 32)(cx:UInt8)(hcx:ca[k]?=some cx)(u:Value)(m:Nat)(hm:m<=1000)(xs:Bs)(hb:aM w gx 23 (aA ca))(L:List Res)(S:Held w0 w (aG 5 1 u m (bv xs) :: L))(hsz:a.tmps.size=31)(o2:Sl a 2 (Pq gx 0))(o5:Sl a 5 (u))(o6:Sl a 6 (Nq k)):bC false 5 f82 Q a w fun a' W q'=>(∃ v,Sl a' 5 v ∧ Held w0 W (aG 5 1 v (m+1) (bv (xs ++ [cx])) :: L))->q':=by
 refine bU fun hend=>?_;unfold Sl at o2 o5 o6;have c0:w.cell? ⟨gx,k,none⟩=some (.int .u8 (cx.toNat:Int)):=by rw [hb.cell,<- Array.getElem?_toList,fV];rw [iA,hcx];rfl
 have h0:0<=(k:Int):=by omega
 have h1:(k:Int) < 32:=by omega
 have S1:=LH (S.alloc (.cells #[.int .u8 (cx.toNat:Int)] 5));have HR:=LH (jM w 5 #[.int .u8 (cx.toNat:Int)] [cx] rfl (by simp));have hb1:Hid (m+1<=maxLen ∧ (m+1) * 1<=140737488355328):=LH (by unfold maxLen;omega);clear S hb ha hcx;go_wp2_with (at_builtin;refine cY rfl (.tmp 13) (.tmp 17) 32 5 rfl bC2 underlying32 rfl (by decide) u m (bv xs) (aO o5) S1.out (.slice (some ⟨w.heap.size,0,none⟩) 1 1) 1 (bv [cx]) aE HR.out (eI _) hb1.out.1 hb1.out.2 ?_;intro v2 w2 S3;have S3:=LH S3)
 try simp only [Act.put]
 exact hend _ _ tS (⟨v2,cH,by rw [fX];exact S3.out⟩)
theorem aSr(w0:World)(gx:Nat)(ca:Bs)(ha:ca.length=32)(k:Nat)(hk:k < 32)(cx:UInt8)(hcx:ca[k]?=some cx)(u:Value)(m:Nat)(hm:m<=1000)(xs:Bs)(hb:aM w gx 23 (aA ca))(L:List Res)(S:Held w0 w (aG 5 1 u m (bv xs) :: L))(hsz:a.tmps.size=31)(o3:Sl a 3 (Pq gx 0))(o5:Sl a 5 (u))(o7:Sl a 7 (Nq k)):bC false 9 f82 Q a w fun a' W q'=>(∃ v,Sl a' 5 v ∧ Held w0 W (aG 5 1 v (m+1) (bv (xs ++ [cx])) :: L))->q':=by
 refine bU fun hend=>?_;unfold Sl at o3 o5 o7;have c0:w.cell? ⟨gx,k,none⟩=some (.int .u8 (cx.toNat:Int)):=by rw [hb.cell,<- Array.getElem?_toList,fV];rw [iA,hcx];rfl
 have h0:0<=(k:Int):=by omega
 have h1:(k:Int) < 32:=by omega
 have S1:=LH (S.alloc (.cells #[.int .u8 (cx.toNat:Int)] 5));have HR:=LH (jM w 5 #[.int .u8 (cx.toNat:Int)] [cx] rfl (by simp));have hb1:Hid (m+1<=maxLen ∧ (m+1) * 1<=140737488355328):=LH (by unfold maxLen;omega);clear S hb ha hcx;go_wp2_with (at_builtin;refine cY rfl (.tmp 23) (.tmp 27) 32 5 rfl bC2 underlying32 rfl (by decide) u m (bv xs) (aO o5) S1.out (.slice (some ⟨w.heap.size,0,none⟩) 1 1) 1 (bv [cx]) aE HR.out (eI _) hb1.out.1 hb1.out.2 ?_;intro v2 w2 S3;have S3:=LH S3)
 try simp only [Act.put]
 exact hend _ _ tS (⟨v2,cH,by rw [fX];exact S3.out⟩)
theorem aNv(w0:World)(g4:Nat)(cm:Bs)(hm:cm.length<=1000)(u:Value)(L:List Res)(S:Held w0 w (aB g4 23 (aA (List.replicate 32 0)) :: aG 5 1 u cm.length (bv cm) :: L))(hsz:a.tmps.size=31)(o4:Sl a 4 (Pq g4 0))(o5:Sl a 5 (u)):bC false 10 f82 Q a w fun a' W q'=>(Held w0 W [aB g4 23 (aA (dE cm))])->q':=by
 refine bU fun hend=>?_;unfold Sl at o4 o5;have HR:=LH (wN u cm (by omega) w (Rd.of_own (e:=5) (S.at_ (l1:=[_]))));have hz3:Hid ((aA (dE cm)).size=32):=LH (by rw [aC,aY]);have HO:=LH (aI (dE cm));have hcz:Hid ((aA (List.replicate 32 0)).size=32):=LH rfl;obtain ⟨ch,hch0⟩:∃ ch,Hid (aA (dE cm)=ch):=⟨_,LH rfl⟩;have hch:=hz3;rw [hch0.out] at HO hch;clear hz3;obtain ⟨cz,hcz0⟩:∃ cz,Hid ((aA (List.replicate 32 0))=cz):=⟨_,LH rfl⟩;rw [hcz0.out] at S hcz;rw [hch0.out] at HR;have S:=LH S;obtain ⟨Au,cu,nu,rfl⟩:∃ Au nu cu,u=.slice Au nu cu:=by obtain ⟨A',c',h,-,-⟩:=aS (show Ow w 5 1 u cm.length (bv cm) from S.out.at_ (l1:=[_]));exact ⟨_,_,_,h⟩
 go_wp2_with fail
 refine HR.out.mono ?_;rintro r w1 ⟨rfl,k1⟩;have S1:=LH (S.out.kp k1);clear k1;go_wp2_with (refine aD rfl 23 (.tmp 4) (.tmp 30) rfl g4 (aO o4) ch aE 23 _ (S1.out.at_ (l1:=[])) (by rw [hch.out];exact bBy) (by rw [hch.out,hcz.out]) HO.out ?_;intro w7 b7 k7;have S7:=LH (Held.setBlk (l1:=[]) S1.out b7 k7);clear b7 k7)
 rw [<- hch0.out] at S7
 try simp only [Act.put]
 exact hend _ _ tS (S7.out.some_of (List.Sublist.cons_cons _ (List.nil_sublist _)))
theorem aDu{Q:Exit->Act->World->Prop}{a:Act}{w0 w:World}(g2 g3 g4:Nat)(ca:Bs)(ha:ca.length=32)(u:Value)(L:List Res)(hz:a.tmps.size=31)(D:a.defers=[])(o2:Sl a 2 (Pq g2 0))(o3:Sl a 3 (Pq g3 0))(o4:Sl a 4 (Pq g4 0))(o5:Sl a 5 u)(o6:Sl a 6 (Nq 0))
 (S:Held w0 w (aG 5 1 u 1 (bv [1]) :: aB g2 23 (aA ca) :: L))
 (hend:∀ (a':Act) (W:World) (v:Value),a'.tmps.size=31->a'.defers=[]->Sl a' 3 (Pq g3 0)->Sl a' 4 (Pq g4 0)->Sl a' 5 v->Held w0 W (aG 5 1 v 33 (bv (1 :: ca)) :: aB g2 23 (aA ca) :: L)->Q .normal a' W):(Code.block 0 (dR 0 f82)).wp prog Q a w:=by
 refine wp_block ?_
 (conv=>arg 2;whnf)
 refine wp_loop (fun a' w'=>∃ (k:Nat) (v:Value),k<=32 ∧ a'.tmps.size=31 ∧ a'.defers=[] ∧ Sl a' 2 (Pq g2 0) ∧ Sl a' 3 (Pq g3 0) ∧ Sl a' 4 (Pq g4 0) ∧ Sl a' 5 v ∧ Sl a' 6 (Nq k) ∧ Held w0 w' (aG 5 1 v (k+1) (bv (1 :: ca.take k)) :: aB g2 23 (aA ca) :: L)) (fun a' _=>32 - (intOf (a'.eval (.tmp 6))).toNat) ⟨0,u,Nat.zero_le _,hz,D,o2,o3,o4,o5,o6,S⟩ ?_;clear hz D o2 o3 o4 o5 o6 S u;rintro a1 w1 ⟨k,v,hk,hz,D,o2,o3,o4,o5,o6,S⟩;have e6:=o6.eval (by rw [hz];decide);refine wp_seq (wp_seq (bA2 k hz o6 (fun a2 hs2 o10=>?_)));have hz2:=hs2.size.trans hz;have D:=hs2.defers.trans D;have o2:=hs2.q o2;have o3:=hs2.q o3;have o4:=hs2.q o4;have o5:=hs2.q o5;have o6:=hs2.q o6
 by_cases hlt:k < 32
 . refine cS o10 (wp_skip ?_) (by rw [decide_eq_true (by omega)]);simp only [Exit.then];obtain ⟨cx,hcx⟩:∃ cx,ca[k]?=some cx:=⟨_,List.getElem?_eq_getElem (by omega)⟩;refine wp_seq (wp_block ?_);refine aTp w0 g2 ca ha k hlt cx hcx v (k+1) (by omega) (1 :: ca.take k) (S.at_ (l1:=[_])) _ S hz2 o2 o5 o6 (fun a3 w3 hs3 h3=>?_);obtain ⟨v3,o5,S⟩:=h3;obtain ⟨hz3,D,o2,o3,o4,o6⟩:=fH hs3 hz2 D o2 o3 o4 o6;simp only [Exit.inBlock,Exit.then];refine aUn k (by omega) hz3 o6 (fun a4 hs4 o6=>?_);have hz4:=hs4.size.trans hz3;have htk:1 :: ca.take (k+1)=(1 :: ca.take k) ++ [cx]:=by rw [List.take_add_one,hcx];rfl
   rw [<- htk] at S;refine ⟨⟨k+1,v3,hlt,hz4,hs4.defers.trans D,hs4.q o2,hs4.q o3,hs4.q o4,hs4.q o5,o6,S⟩,?_⟩
   show 32 - (intOf _).toNat < 32 - (intOf _).toNat
   rw [e6,o6.eval (by rw [hz4];decide)];simp only [intOf];omega
 . refine dD o10 (wp_exit ?_) (by rw [decide_eq_false (by omega)]);simp only [Exit.then,Exit.inBlock];obtain rfl:k=32:=by omega
   rw [List.take_of_length_le (by omega)] at S;exact hend _ _ v hz2 D o3 o4 o5 S
theorem aDb{Q:Exit->Act->World->Prop}{a:Act}{w0 w:World}(g3 g4:Nat)(pre:Bs)(hpre:pre.length=33)(cb:Bs)(hb:cb.length=32)(u:Value)(L:List Res)(hz:a.tmps.size=31)(D:a.defers=[])(o3:Sl a 3 (Pq g3 0))(o4:Sl a 4 (Pq g4 0))(o5:Sl a 5 u)(o7:Sl a 7 (Nq 0))
 (S:Held w0 w (aG 5 1 u 33 (bv pre) :: aB g3 23 (aA cb) :: L))
 (hend:∀ (a':Act) (W:World) (v:Value),a'.tmps.size=31->a'.defers=[]->Sl a' 4 (Pq g4 0)->Sl a' 5 v->Held w0 W (aG 5 1 v 65 (bv (pre ++ cb)) :: aB g3 23 (aA cb) :: L)->Q .normal a' W):(Code.block 2 (dR 2 f82)).wp prog Q a w:=by
 refine wp_block ?_
 (conv=>arg 2;whnf)
 refine wp_loop (fun a' w'=>∃ (k:Nat) (v:Value),k<=32 ∧ a'.tmps.size=31 ∧ a'.defers=[] ∧ Sl a' 3 (Pq g3 0) ∧ Sl a' 4 (Pq g4 0) ∧ Sl a' 5 v ∧ Sl a' 7 (Nq k) ∧ Held w0 w' (aG 5 1 v (33+k) (bv (pre ++ cb.take k)) :: aB g3 23 (aA cb) :: L)) (fun a' _=>32 - (intOf (a'.eval (.tmp 7))).toNat) ⟨0,u,Nat.zero_le _,hz,D,o3,o4,o5,o7,by rw [List.take_zero,List.append_nil];exact S⟩ ?_;clear hz D o3 o4 o5 o7 S u;rintro a1 w1 ⟨k,v,hk,hz,D,o3,o4,o5,o7,S⟩;have e7:=o7.eval (by rw [hz];decide);refine wp_seq (wp_seq (aVf k hz o7 (fun a2 hs2 o20=>?_)));have hz2:=hs2.size.trans hz;have D:=hs2.defers.trans D;have o3:=hs2.q o3;have o4:=hs2.q o4;have o5:=hs2.q o5;have o7:=hs2.q o7
 by_cases hlt:k < 32
 . refine cS o20 (wp_skip ?_) (by rw [decide_eq_true (by omega)]);simp only [Exit.then];obtain ⟨cx,hcx⟩:∃ cx,cb[k]?=some cx:=⟨_,List.getElem?_eq_getElem (by omega)⟩;refine wp_seq (wp_block ?_);refine aSr w0 g3 cb hb k hlt cx hcx v (33+k) (by omega) (pre ++ cb.take k) (S.at_ (l1:=[_])) _ S hz2 o3 o5 o7 (fun a3 w3 hs3 h3=>?_);obtain ⟨v3,o5,S⟩:=h3;obtain ⟨hz3,D,o3,o4,o7⟩:=dF hs3 hz2 D o3 o4 o7;simp only [Exit.inBlock,Exit.then];refine aXw k (by omega) hz3 o7 (fun a4 hs4 o7=>?_);have hz4:=hs4.size.trans hz3;have htk:pre ++ cb.take (k+1)=(pre ++ cb.take k) ++ [cx]:=by rw [List.take_add_one,hcx];simp
   rw [<- htk] at S;refine ⟨⟨k+1,v3,hlt,hz4,hs4.defers.trans D,hs4.q o3,hs4.q o4,hs4.q o5,o7,S⟩,?_⟩
   show 32 - (intOf _).toNat < 32 - (intOf _).toNat
   rw [e7,o7.eval (by rw [hz4];decide)];simp only [intOf];omega
 . refine dD o20 (wp_exit ?_) (by rw [decide_eq_false (by omega)]);simp only [Exit.then,Exit.inBlock];obtain rfl:k=32:=by omega
   rw [List.take_of_length_le (by omega)] at S;exact hend _ _ v hz2 D o4 o5 S
theorem mR(ca cb:Bs)(ha:ca.length=32)(hb:cb.length=32)(w:World):
 Calls prog 82 #[.agg (aA ca),.agg (aA cb)] w fun r w'=>r=.returned (.agg (aA (cN ca cb))) ∧ Kp [] w w':=by
 refine aR func82 rfl 31 rfl (fun a0 hsz hdf hAr=>?_);have hz0:a0.tmps.size=31:=hsz;have D:=hdf;have o0:=hAr 0 _ rfl;have o1:=hAr 1 _ rfl;refine wp_seq (aTn w _ _ [] (Held.start w) hz0 o0 o1 (fun a1 w1 hs1 h1=>?_));obtain ⟨hz1,D⟩:=dS hs1 hz0 D;obtain ⟨g2,g3,g4,o2,o3,o4,S⟩:=h1;refine wp_seq (aRa w _ S hz1 (fun a2 w2 hs2 h2=>?_));obtain ⟨hz2,D,o2,o3,o4⟩:=dF hs2 hz1 D o2 o3 o4;obtain ⟨u,o5,S⟩:=h2;have S:=((((S.pull 1 rfl).pull 2 rfl).pull 3 rfl).pull 3 rfl);refine wp_seq (wp_seq (aQ4 hz2 (fun a3 hs3 o6=>?_)));obtain ⟨hz3,D,o2,o3,o4,o5⟩:=fH hs3 hz2 D o2 o3 o4 o5;refine aDu g2 g3 g4 ca ha u _ hz3 D o2 o3 o4 o5 o6 S (fun a4 w4 v hz4 D o3 o4 o5 S=>?_);simp only [Exit.then];have S:=((((S.pull 1 rfl).pull 3 rfl).pull 3 rfl).pull 3 rfl);refine wp_seq (wp_seq (aPz hz4 (fun a5 hs5 o7=>?_)));obtain ⟨hz5,D,o3,o4,o5⟩:=dF hs5 hz4 D o3 o4 o5;refine aDb g3 g4 (1 :: ca) (by simp [ha]) cb hb v _ hz5 D o3 o4 o5 o7 S (fun a6 w6 v hz6 D o4 o5 S=>?_);simp only [Exit.then];have S:=((((S.pull 3 rfl).pull 2 rfl).pull 2 rfl).pull 3 rfl);have hl65:(1 :: ca ++ cb).length=65:=by simp [ha,hb]
 refine wp_seq (aNv w g4 (1 :: ca ++ cb) (by omega) v _ (by rw [hl65];exact S) hz6 o4 o5 (fun a7 w7 hs7 S=>?_));obtain ⟨hz7,D,o4⟩:=eY hs7 hz6 D o4;refine wp_ret ?_;exact bodyPost_ret (aV (by rfl) (o4.eval (by rw [hz7];decide)) (S.at_ (l1:=[])) underlying23 rfl (by rw [aC,aY];exact bBy)) D ⟨rfl,S.k⟩
theorem zF{x:Nat}(h1:1<=x)(h2:x < 18446744073709551616):Lib.bitLen x=Nat.log2 x+1:=by
 have key:∀ (f x:Nat),1<=x->x < 2 ^ f->Lib.bitLenAux f x=Nat.log2 x+1:=by
  intro f
  induction f with
  |zero=>intro x h1 h2;simp at h2;omega
  |succ f ih=>
   intro x h1 h2;unfold Lib.bitLenAux;rw [if_neg (by omega),Nat.log2_def]
   by_cases h:2<=x
   . rw [ih (x / 2) (by omega) (by rw [Nat.pow_succ] at h2;omega),if_pos h];omega
   . have:x=1:=by omega
     subst this;rw [if_neg (by omega)]
     cases f <;> rfl
 exact key 64 x h1 h2
theorem aT9(hsz:a.tmps.size=11):bK 0 f92 Q a w fun a' q'=>Sl a' 2 (Nq 0)->q':=rO
theorem aT7(hsz:a.tmps.size=11):bK 2 f92 Q a w fun a' q'=>Sl a' 2 (Nq 0)->q':=rO
theorem aUe(n:Nat)(hsz:a.tmps.size=11)(o0:Sl a 0 (Nq n)):bK 1 f92 Q a w fun a' q'=>Sl a' 4 (.bool (decide ((n:Int) < 2)))->q':=rO
theorem aTc(n j:Nat)(hj:j<=62)(hn:2<=n)(hn2:n < 9223372036854775808)(hbl:Lib.bitLen (n - 1)=j+1)(hsz:a.tmps.size=11)(o0:Sl a 0 (Nq n)):bK 3 f92 Q a w fun a' q'=>Sl a' 2 (.int .i64 ((2:Int) ^ j))->q':=by
 refine jG fun hend=>?_;unfold Sl at o0;have hw:wrap64 ((n:Int) - 1)=(n:Int) - 1:=by unfold wrap64;omega
 have hw2:wrap64 (((j+1:Nat):Int) - 1)=(j:Int):=by unfold wrap64;omega
 have hp:(2:Int) ^ j<=2 ^ 62:=by exact_mod_cast Nat.pow_le_pow_right (n:=2) (by decide) hj
 have hp0:(0:Int) < 2 ^ j:=Int.pow_pos (by decide);have hw3:wrap64 ((2:Int) ^ j)=(2:Int) ^ j:=by unfold wrap64;omega
 clear hp hp0;have HL:=LH (Tryz.bits_Len64 ((n:Int) - 1) w (by omega) (by omega));rw [show ((n:Int) - 1).toNat=n - 1 by omega,hbl] at HL;clear hbl;go_wp2_with fail
 refine HL.out.mono ?_;rintro e w' ⟨rfl,rfl⟩;go_wp2_with fail
 try simp only [Act.put]
 exact hend _ tS sP
theorem bA5(hsz:a.tmps.size=14):bK 0 f81 Q a w fun a' q'=>Sl a' 2 (Nq 0)->q':=rO
theorem bA9(hsz:a.tmps.size=14):bK 2 f81 Q a w fun a' q'=>Sl a' 2 (Nq 0)->q':=rO
theorem aUb(n:Nat)(hsz:a.tmps.size=14)(o0:Sl a 0 (Nq n)):bK 1 f81 Q a w fun a' q'=>Sl a' 5 (.bool (decide ((n:Int) < 2)))->q':=rO
theorem aQc(hsz:a.tmps.size=14):bK 3 f81 Q a w fun a' q'=>Sl a' 3 (Nq 1)->q':=rO
theorem aPi(n k:Nat)(hk:k < n)(hn2:n < 9223372036854775808)(hsz:a.tmps.size=14)(o0:Sl a 0 (Nq n))(o3:Sl a 3 (Nq k)):bK 4 f81 Q a w fun a' q'=>Sl a' 10 (.bool (decide ((k:Int) < (n:Int) - (k:Int))))->q':=by
 have hw:wrap64 ((n:Int) - (k:Int))=(n:Int) - (k:Int):=by unfold wrap64;omega
 exact rO
theorem aXg(k:Nat)(hk:k < 4611686018427387904)(hsz:a.tmps.size=14)(o3:Sl a 3 (Nq k)):bK 5 f81 Q a w fun a' q'=>Sl a' 3 (Nq (2 * k))->q':=by
 have hw:wrap64 (2 * (k:Int))=2 * (k:Int):=by unfold wrap64;omega
 exact rO
theorem aUx(x:Value)(hsz:a.tmps.size=14)(o3:Sl a 3 (x)):bK 6 f81 Q a w fun a' q'=>Sl a' 2 (x)->q':=rO
def dA (l:List (List UInt8)):List Value:=l.flatMap bv
def dP (l:List (List UInt8)):Prop:=∀ h ∈ l,h.length=32
theorem nU(a b:List (List UInt8)):dA (a ++ b)=dA a ++ dA b:=by simp [dA]
theorem fS{l:List (List UInt8)}(h:dP l):(dA l).length=l.length * 32:=by
 induction l with
 |nil=>rfl
 |cons a l ih=>
  have h1:=h a (List.mem_cons_self ..);have h2:=ih (fun x hx=>h x (List.mem_cons_of_mem _ hx));rw [show dA (a :: l)=bv a ++ dA l from rfl,List.length_append,h2,aX,h1,List.length_cons];omega
theorem wH{l:List (List UInt8)}:∀ u ∈ dA l,u.oneCell'=true:=by
 intro u hu;obtain ⟨h,-,hh⟩:=List.mem_flatMap.1 hu;exact eI h u hh
theorem xL:∀ {l:List (List UInt8)} (_:dP l) {i j:Nat} {h:List UInt8} {u:Value},l[i]?=some h->(bv h)[j]?=some u->(dA l)[i * 32+j]?=some u
 |a :: l,hok,0,j,h,u,hi,hj=>by
  cases hi;rw [show dA (a :: l)=bv a ++ dA l from rfl,Nat.zero_mul,Nat.zero_add,List.getElem?_append_left (List.getElem?_eq_some_iff.1 hj).1];exact hj
 |a :: l,hok,i+1,j,h,u,hi,hj=>by
  have h1:=hok a (List.mem_cons_self ..);rw [show dA (a :: l)=bv a ++ dA l from rfl,List.getElem?_append_right (by rw [aX,h1];omega),aX,h1,show (i+1) * 32+j - 32=i * 32+j by omega];exact xL (fun x hx=>hok x (List.mem_cons_of_mem _ hx)) (by simpa using hi) hj
theorem dP.take{l:List (List UInt8)}(h:dP l)(k:Nat):dP (l.take k):=fun x hx=>h x (List.mem_of_mem_take hx)
theorem dP.drop{l:List (List UInt8)}(h:dP l)(k:Nat):dP (l.drop k):=fun x hx=>h x (List.mem_of_mem_drop hx)
theorem fT{w:World}{ad:Addr}{n c:Nat}{l:List (List UInt8)}(hok:dP l)(h:Rd w 32 (.slice (some ad) n c) n (dA l)){k:Nat}{x:List UInt8}(hx:l[k]?=some x):∀ j u,(aA x).toList[j]?=some u->w.cell? ((ad.add (k * 32)).add j)=some u:=fun j u hu=>by
 obtain ⟨-,A',c',e,-,-,-,h5⟩:=h
 cases e;rw [dZ];rw [fV] at hu;exact h5 ad rfl _ u (xL hok hx hu)
theorem mO:prog.elem 29=23:=by kernel_rfl
theorem kD:prog.underlying 29=some (.slice (prog.elem 29)):=by rw [mO];exact underlying29
theorem pT(w:World):(sizeOf 23).run prog w=.ok 32 w:=by
 obtain ⟨i0,hi,hz⟩:∃ i,prog.info? 23=some i ∧ i.size=32:=by
  have:=bBy
  cases h:prog.info? 23 with
  |none=>rw [h] at this;cases this
  |some i=>rw [h] at this;exact ⟨i,rfl,Option.some.inj this⟩
 rw [<- hz];simp only [sizeOf,typeInfo];simp [hi,go_sem]
theorem oE(A:Option Addr)(n c k:Nat)(hk:k<=c)(w:World):(Instr.sliceAt 29 (.slice A n c) none (some (.int .i64 (k:Int))) none).run prog w=.ok (.slice A k c) w:=by
 rw [run_sliceAt_slice w 29 _ _ _ _ kD,run_slice_h w 29 A n c kD .i64 k (by omega) (by omega),mO,pT];simp only [Result.andThen_ok,Int.toNat_natCast]
 congr 1
 by_cases e:c=0
 . simp [sliced,e]
 . cases A with
   |none=>simp [sliced,e]
   |some ad=>simp [sliced,e,Addr.add]
def loH (A:Option Addr) (k c:Nat):Option Addr:=if c=k then A else A.map (·.add (k * 32))
theorem aCf(A:Option Addr)(n c k:Nat)(hk:k<=n)(w:World):(Instr.sliceAt 29 (.slice A n c) (some (.int .i64 (k:Int))) none none).run prog w=.ok (.slice (loH A k c) (n - k) (c - k)) w:=by
 rw [run_sliceAt_slice w 29 _ _ _ _ kD,run_slice_l w 29 A n c kD .i64 k (by omega) (by omega),mO,pT];simp only [Result.andThen_ok,Int.toNat_natCast]
 rfl
theorem aK3(A:Option Addr)(n c lo m:Nat)(l h:Int)(hl:l=lo)(hh:h=lo+m)(hm:lo+m<=n)(hc:n<=c)(w:World):(Instr.sliceAt 29 (.slice A n c) (some (.int .i64 l)) (some (.int .i64 h)) none).run prog w=.ok (.slice (loH A lo c) m (c - lo)) w:=by
 subst hl hh;rw [run_sliceAt_slice w 29 _ _ _ _ kD,run_slice_lh w 29 A n c kD .i64 .i64 lo ((lo:Int)+(m:Int)) (by omega) (by omega) (by omega),mO,pT];simp only [Result.andThen_ok,Int.toNat_natCast];rw [show ((lo:Int)+(m:Int)).toNat=lo+m from by omega];unfold sliced loH;rw [Nat.add_sub_cancel_left]
theorem uA{w:World}{A:Option Addr}{n c k:Nat}{l:List (List UInt8)}(hok:dP l)(h:Rd w 32 (.slice A n c) n (dA l))(hn:n=l.length)(hk:k<=n):Rd w 32 (.slice A k c) k (dA (l.take k)):=by
 subst hn;have hl:=fS hok;have hl2:=fS (hok.take k);rw [List.length_take,Nat.min_eq_left hk] at hl2;have he:dA l=dA (l.take k) ++ dA (l.drop k):=by rw [<- nU,List.take_append_drop]
 obtain ⟨h1,A',c',e,h2,h3,h4,h5⟩:=h
 cases e;refine ⟨hl2,A,c,rfl,by omega,h3,(fun hA=>?_),fun ad had j u hu=>h5 ad had j u ?_⟩
 . have:=h4 hA;omega
 . rw [he,List.getElem?_append_left (List.getElem?_eq_some_iff.1 hu).1];exact hu
theorem aBc{w:World}{A:Option Addr}{n c k:Nat}{l:List (List UInt8)}(hok:dP l)(h:Rd w 32 (.slice A n c) n (dA l))(hn:n=l.length)(hk:k<=n):Rd w 32 (.slice (loH A k c) (n - k) (c - k)) (n - k) (dA (l.drop k)):=by
 subst hn;have hl:=fS hok;have hl1:=fS (hok.take k);have hl2:=fS (hok.drop k);rw [List.length_take,Nat.min_eq_left hk] at hl1;rw [List.length_drop] at hl2;have he:dA l=dA (l.take k) ++ dA (l.drop k):=by rw [<- nU,List.take_append_drop]
 obtain ⟨h1,A',c',e,h2,h3,h4,h5⟩:=h
 cases e;refine ⟨hl2,_,c - k,rfl,by omega,by omega,(fun hA=>?_),fun ad had j u hu=>?_⟩
 . unfold loH at hA
   by_cases e:c=k
   . rw [if_pos e] at hA;have:=h4 hA;omega
   . rw [if_neg e,Option.map_eq_none_iff] at hA;have:=h4 hA;omega
 . unfold loH at had
   by_cases e:c=k
   . have:=(List.getElem?_eq_some_iff.1 hu).1
     rw [hl2] at this;omega
   . rw [if_neg e] at had;obtain ⟨ad0,rfl,rfl⟩:=Option.map_eq_some_iff.1 had;rw [dZ];refine h5 ad0 rfl _ u ?_;rw [he,List.getElem?_append_right (by omega),hl1,show k * 32+j - k * 32=j from by omega];exact hu
theorem bC8:(prog.info? 23).map (fun i=>(i.zero,i.size,i.bytes))=some (some (.agg (aA (List.replicate 32 0))),32,32):=by kernel_rfl
theorem nQ(n:Nat)(hn:n < 9223372036854775808)(w:World):Calls prog 92 #[Nq n] w fun e w'=>e=.returned (Nq (aU n)) ∧ w=w':=by
 refine aR func92 rfl 11 rfl (fun a0 hsz hdf hAr=>?_);have hz0:a0.tmps.size=11:=hsz;have D:=hdf;have o0:=hAr 0 _ rfl;refine wp_seq (aT9 hz0 (fun a1 hs1 o2=>?_));obtain ⟨hz1,D,o0⟩:=eY hs1 hz0 D o0;refine wp_seq (wp_seq (aUe n hz1 o0 (fun a2 hs2 o4=>?_)));obtain ⟨hz2,D,o0,o2⟩:=dU hs2 hz1 D o0 o2
 by_cases h2:n < 2
 . refine cS o4 ?_ (by rw [decide_eq_true (by omega)]);refine wp_seq (aT7 hz2 (fun a3 hs3 o2=>?_));obtain ⟨hz3,D,o0,o4⟩:=dU hs3 hz2 D o0 o4;refine wp_ret ?_;simp only [Exit.then];exact bodyPost_ret (bA (by rfl) (o2.eval (by rw [hz3];decide))) D ⟨by unfold aU;rw [if_pos h2],rfl⟩
 . refine dD o4 (wp_skip ?_) (by rw [decide_eq_false (by omega)]);simp only [Exit.then];obtain ⟨j,hj⟩:∃ j,Nat.log2 (n - 1)=j:=⟨_,rfl⟩
   have hj62:j<=62:=by
    have:=(Nat.log2_lt (n:=n - 1) (k:=63) (by omega)).2 (by omega)
    omega
   have hb:=zF (x:=n - 1) (by omega) (by omega);rw [hj] at hb;refine wp_seq (aTc n j hj62 (by omega) hn hb hz2 o0 (fun a3 hs3 o2=>?_));obtain ⟨hz3,D⟩:=dS hs3 hz2 D;refine wp_ret ?_;exact bodyPost_ret (bA (by rfl) (o2.eval (by rw [hz3];decide))) D ⟨by rw [iW (by omega),hj];push_cast;rfl,rfl⟩
theorem nS(n:Nat)(hn:n < 9223372036854775808)(w:World):Calls prog 81 #[Nq n] w fun e w'=>e=.returned (Nq (aU n)) ∧ w=w':=by
 refine aR func81 rfl 14 rfl (fun a0 hsz hdf hAr=>?_);have hz0:a0.tmps.size=14:=hsz;have D:=hdf;have o0:=hAr 0 _ rfl;refine wp_seq (bA5 hz0 (fun a1 hs1 o2=>?_));obtain ⟨hz1,D,o0⟩:=eY hs1 hz0 D o0;refine wp_seq (wp_seq (aUb n hz1 o0 (fun a2 hs2 o5=>?_)));obtain ⟨hz2,D,o0,o2⟩:=dU hs2 hz1 D o0 o2
 by_cases h2:n < 2
 . refine cS o5 ?_ (by rw [decide_eq_true (by omega)]);refine wp_seq (bA9 hz2 (fun a3 hs3 o2=>?_));obtain ⟨hz3,D,o0,o5⟩:=dU hs3 hz2 D o0 o5;refine wp_ret ?_;simp only [Exit.then];exact bodyPost_ret (bA (by rfl) (o2.eval (by rw [hz3];decide))) D ⟨by unfold aU;rw [if_pos h2],rfl⟩
 . refine dD o5 (wp_skip ?_) (by rw [decide_eq_false (by omega)]);simp only [Exit.then];refine wp_seq (aQc hz2 (fun a3 hs3 o3=>?_));obtain ⟨hz3,D,o0,o2⟩:=dU hs3 hz2 D o0 o2;refine wp_seq (wp_block ?_)
   (conv=>arg 2;whnf)
   refine wp_loop (fun a' w'=>∃ (k j:Nat),k=2 ^ j ∧ k < n ∧ a'.tmps.size=14 ∧ a'.defers=[] ∧ Sl a' 0 (Nq n) ∧ Sl a' 3 (Nq k) ∧ w=w') (fun a' _=>n - (intOf (a'.eval (.tmp 3))).toNat) ⟨1,0,rfl,by omega,hz3,D,o0,o3,rfl⟩ ?_;clear D o0 o3;rintro a7 w7 ⟨k,j,hkj,hk,hz7,D,o0,o3,rfl⟩;have hp:=Nat.two_pow_pos j;have e3:=o3.eval (by rw [hz7];decide);refine wp_seq (wp_seq (aPi n k hk hn hz7 o0 o3 (fun a8 hs8 o10=>?_)));obtain ⟨hz8,D,o0,o3⟩:=dU hs8 hz7 D o0 o3
   by_cases hlt:(k:Int) < (n:Int) - (k:Int)
   . refine cS o10 (wp_skip ?_) (by rw [decide_eq_true hlt]);simp only [Exit.then];refine wp_block ?_;refine aXg k (by omega) hz8 o3 (fun a9 hs9 o3=>?_);have hz9:=hs9.size.trans hz8;simp only [Exit.inBlock,Exit.then];refine ⟨⟨2 * k,j+1,by rw [Nat.pow_succ];omega,by omega,hz9,hs9.defers.trans D,hs9.q o0,o3,(by first|exact rfl|trivial)⟩,?_⟩
     show n - (intOf _).toNat < n - (intOf _).toNat
     rw [e3,o3.eval (by rw [hz9];decide)];simp only [intOf];omega
   . refine dD o10 (wp_exit ?_) (by rw [decide_eq_false hlt]);simp only [Exit.then,Exit.inBlock];refine wp_seq (aUx _ hz8 o3 (fun a9 hs9 o2=>?_));obtain ⟨hz9,D⟩:=dS hs9 hz8 D;refine wp_ret ?_;exact bodyPost_ret (bA (by rfl) (o2.eval (by rw [hz9];decide))) D ⟨by rw [aBu (n:=n) (j:=j) (by omega) (by omega),hkj],(by first|exact rfl|exact trivial)⟩
theorem aSp(w0:World)(L:List Res)(S:Held w0 w L)(hsz:a.tmps.size=27):bC false 0 f49 Q a w fun a' W q'=>(∃ g,Sl a' 2 (Pq g 0) ∧ Held w0 W (aB g 23 (aA (List.replicate 32 0)) :: L))->q':=by
 refine bU fun hend=>?_;have S1:=LH (S.newBlk 23 (aA (List.replicate 32 0)));go_wp2
 try simp only [Act.put]
 exact hend _ _ tS (⟨w.heap.size,cH,S1.out⟩)
theorem aXv(A:Option Addr)(n c:Nat)(hsz:a.tmps.size=27)(o0:Sl a 0 (.slice A n c)):bK 1 f49 Q a w fun a' q'=>Sl a' 3 (Nq n)->q':=rO
theorem aPv(x:Value)(hsz:a.tmps.size=27)(o3:Sl a 3 (x)):bK 2 f49 Q a w fun a' q'=>Sl a' 7 (x)->q':=rO
theorem aQz(n:Nat)(hsz:a.tmps.size=27)(o7:Sl a 7 (Nq n)):bK 5 f49 Q a w fun a' q'=>Sl a' 19 (.bool ((n:Int) == 0))->q':=rO
theorem aWt(n:Nat)(hsz:a.tmps.size=27)(o7:Sl a 7 (Nq n)):bK 7 f49 Q a w fun a' q'=>Sl a' 22 (.bool ((n:Int) == 1))->q':=rO
theorem aQ9(w0:World)(g2:Nat)(L:List Res)(S:Held w0 w (aB g2 23 (aA (List.replicate 32 0)) :: L))(hsz:a.tmps.size=27)(o2:Sl a 2 (Pq g2 0)):bC false 6 f49 Q a w fun a' W q'=>(Held w0 W (aB g2 23 (aA cI) :: L))->q':=by
 refine bU fun hend=>?_;unfold Sl at o2;have HR:=LH (jA w);have hz3:Hid ((aA (cI)).size=32):=LH (by rw [aC,cQ]);have HO:=LH (aI (cI));have hcz:Hid ((aA (List.replicate 32 0)).size=32):=LH rfl;obtain ⟨ch,hch0⟩:∃ ch,Hid (aA (cI)=ch):=⟨_,LH rfl⟩;have hch:=hz3;rw [hch0.out] at HO hch;clear hz3;obtain ⟨cz,hcz0⟩:∃ cz,Hid ((aA (List.replicate 32 0))=cz):=⟨_,LH rfl⟩;rw [hcz0.out] at S hcz;rw [hch0.out] at HR;have S:=LH S;go_wp2_with fail
 refine HR.out.mono ?_;rintro r w1 ⟨rfl,k1⟩;have S1:=LH (S.out.kp k1);clear k1;go_wp2_with (refine aD rfl 23 (.tmp 2) (.tmp 21) rfl g2 (aO o2) ch aE 23 _ (S1.out.at_ (l1:=[])) (by rw [hch.out];exact bBy) (by rw [hch.out,hcz.out]) HO.out ?_;intro w7 b7 k7;have S7:=LH (Held.setBlk (l1:=[]) S1.out b7 k7);clear b7 k7)
 rw [<- hch0.out] at S7
 try simp only [Act.put]
 exact hend _ _ tS (S7.out)
theorem aXx(w0:World)(g2:Nat)(ad:Addr)(n c:Nat)(hn:0 < n)(h:Bs)(hh:h.length=32)(hc:∀ j u,(aA h).toList[j]?=some u->w.cell? (ad.add j)=some u)(L:List Res)(S:Held w0 w (aB g2 23 (aA (List.replicate 32 0)) :: L))(hsz:a.tmps.size=27)(o0:Sl a 0 (.slice (some ad) n c))(o2:Sl a 2 (Pq g2 0)):bC false 8 f49 Q a w fun a' W q'=>(Held w0 W (aB g2 23 (aA h) :: L))->q':=by
 refine bU fun hend=>?_;unfold Sl at o0 o2;have h0:(0:Int) < (n:Int):=by omega
 have hz3:Hid ((aA (h)).size=32):=LH (by rw [aC,hh]);have HO:=LH (aI (h));have hcz:Hid ((aA (List.replicate 32 0)).size=32):=LH rfl;obtain ⟨ch,hch0⟩:∃ ch,Hid (aA (h)=ch):=⟨_,LH rfl⟩;have hch:=hz3;rw [hch0.out] at HO hch;clear hz3;obtain ⟨cz,hcz0⟩:∃ cz,Hid ((aA (List.replicate 32 0))=cz):=⟨_,LH rfl⟩;rw [hcz0.out] at S hcz;have HC:Hid (∀ j u,ch.toList[j]?=some u->w.cell? (ad.add j)=some u):=LH (by rw [<- hch0.out];exact hc);clear hc;have S1:=LH S;go_wp2_with (first|(refine bW rfl 23 (.tmp 25) rfl ad (by simp [Act.eval,Act.put,hsz,Addr.add]) ch.toList _ HC.out underlying23 rfl (by rw [Array.length_toList,hch.out];exact bBy) ?_)|(refine aD rfl 23 (.tmp 2) (.tmp 26) rfl g2 (aO o2) ch aE 23 _ (S1.out.at_ (l1:=[])) (by rw [hch.out];exact bBy) (by rw [hch.out,hcz.out]) HO.out ?_;intro w7 b7 k7;have S7:=LH (Held.setBlk (l1:=[]) S1.out b7 k7);clear b7 k7))
 rw [<- hch0.out] at S7
 try simp only [Act.put]
 exact hend _ _ tS (S7.out)
theorem aPg(n:Nat)(hn:n < 9223372036854775808)(hsz:a.tmps.size=27)(o3:Sl a 3 (Nq n)):bK 3 f49 Q a w fun a' q'=>Sl a' 4 (Nq (aU n))->q':=by
 refine jG fun hend=>?_;unfold Sl at o3;have HR:=LH (nQ n hn w);go_wp2_with fail
 refine HR.out.mono ?_;rintro e w' ⟨rfl,rfl⟩;go_wp2_with fail
 try simp only [Act.put]
 exact hend _ tS sP
theorem aVu(w0:World)(g2:Nat)(A:Option Addr)(c:Nat)(l:List (List UInt8))(hok:dP l)(hl2:2<=l.length)(hlc:l.length<=c)(hspl:0 < aU l.length ∧ aU l.length < l.length)(hva:∀ V,Kp [] w0 V->Rd V 32 (.slice A l.length c) l.length (dA l))(HO:∀ (V:World) (m:List (List UInt8)) (B:Option Addr) (d:Nat),m.length < l.length->dP m->Rd V 32 (.slice B m.length d) m.length (dA m)->Calls prog 49 #[.slice B m.length d] V fun e w'=>e=.returned (.agg (aA (bJ m))) ∧ Kp [] V w')(L:List Res)(hsz:a.tmps.size=27)(o0:Sl a 0 (.slice A l.length c))(o2:Sl a 2 (Pq g2 0))(o4:Sl a 4 (Nq (aU l.length)))
 (S0:Held w0 w (aB g2 23 (aA (List.replicate 32 0)) :: L)):bC true 4 f49 Q a w fun a' W q'=>Held w0 W (aB g2 23 (aA (bJ l)) :: L)->q':=by
 intro hend;have hap:=pa 4 f49
 refine aP (Γ:=Unit) (l:=(aK 4 f49)) 2 [0,1,2,3,4,5,6,7,8,9,11]
  (fun i vs gs=>match i with|0=>vs 0=.slice A l.length c|1=>vs 1=Nq (aU l.length)|2=>vs 2=.slice A (aU l.length) c|3=>vs 3=.agg (aA (bJ (l.take (aU l.length))))|4=>vs 4=.slice A l.length c|5=>vs 5=Nq (aU l.length)|6=>vs 6=.slice (loH A (aU l.length) c) (l.length - aU l.length) (c - aU l.length)|7=>vs 7=.agg (aA (bJ (l.drop (aU l.length))))|8=>vs 8=.agg (aA (bJ l))|_=>True)
  (fun i vs gs=>match i with|9=>[aB g2 23 (aA (bJ l))]|10=>[aB g2 23 (aA (List.replicate 32 0))]|11=>L|_=>[])
  (fun i=>match i with|9=>[10]|_=>[]) (fun i=>match i with  | _=>[]) S0 (by kernel_rfl) hap (by kernel_rfl) (by kernel_rfl) (fun i=>match i with|0=>[0]|1=>[1]|2=>[2]|3=>[3]|4=>[4]|5=>[5]|6=>[6]|7=>[7]|8=>[8]|_=>[]) (by kernel_rfl) ?_ (by kernel_rfl) ?_ ?_ ?_
 . exact lA
 . exact pA
 . clear S0 hend
   and_intros <;> try intro vs gs A' W LF hA S hR hd hu K hK
   . exact aJ (eO 0 o0)
   . exact aJ (eO 4 o4)
   . have hq:=oE A l.length c (aU l.length) (by omega) W;exact cM (vD 10 0) (vD 11 1)
   . replace hK:=hK default;have e12:=vD 12 2;clear hA o0 o2 o4;have hlt:(l.take (aU l.length)).length=aU l.length:=by rw [List.length_take];omega
     go_step;have hR:=uA hok (hva W S.k) rfl (show aU l.length<=l.length by omega)
     have hC:=HO W (l.take (aU l.length)) A c (by omega) (hok.take _) (by rw [hlt];exact hR);rw [hlt] at hC;refine hC.mono ?_;rintro e w' ⟨rfl,k⟩;exact hK _ _ (S.kp k) rfl
   . exact aJ (eO 0 o0)
   . exact aJ (eO 4 o4)
   . have hq:=aCf A l.length c (aU l.length) (by omega) W;exact cM (vD 14 4) (vD 15 5)
   . replace hK:=hK default;have e16:=vD 16 6;clear hA o0 o2 o4;have hlt:(l.drop (aU l.length)).length=l.length - aU l.length:=List.length_drop;go_step;have hR:=aBc hok (hva W S.k) rfl (show aU l.length<=l.length by omega)
     have hC:=HO W (l.drop (aU l.length)) (loH A (aU l.length) c) (c - aU l.length) (by omega) (hok.drop _) (by rw [hlt];exact hR);rw [hlt] at hC;refine hC.mono ?_;rintro e w' ⟨rfl,k⟩;exact hK _ _ (S.kp k) rfl
   . replace hK:=hK default;have e13:=vD 13 3;have e17:=vD 17 7;clear hA o0 o2 o4;go_step;refine (mQ _ _ (bS (hok.take _)) (bS (hok.drop _)) W).mono ?_;rintro e w' ⟨rfl,k⟩;exact hK _ _ (S.kp k) (congrArg (fun x=>Value.agg (aA x)) (jX hl2).symm)
   . replace hK:=hK default;have e2:=eO 2 o2;have e18:=vD 18 8;clear hA o0 o2 o4;have S1:Held w0 W (aB g2 23 (aA (List.replicate 32 0)) :: LF):=S;refine aZ (.tmp 2) (.tmp 18) 23 rfl g2 (by simpa [Act.eval] using e2) (aA (bJ l)) (by simpa [Act.eval] using e18) 23 (aA (List.replicate 32 0)) S1 (by rw [aC,bS hok];exact bBy) (by rw [aC,bS hok] <;> rfl) (aI _) ?_;intro w' S2;exact hK _ _ S2 trivial
   . trivial
 . intro vs gs W S hp;have S:Held w0 W (aB g2 23 (aA (bJ l)) :: L):=by simpa only [List.flatMap_cons,List.flatMap_nil,List.append_nil,List.nil_append,List.cons_append,List.append_assoc] using S
   rw [aF];exact hend _ W sQ  S
theorem aS0(w0:World)(L:List Res)(S:Held w0 w L)(hsz:a.tmps.size=26):bC false 0 f41 Q a w fun a' W q'=>(∃ g,Sl a' 2 (Pq g 0) ∧ Held w0 W (aB g 23 (aA (List.replicate 32 0)) :: L))->q':=by
 refine bU fun hend=>?_;have S1:=LH (S.newBlk 23 (aA (List.replicate 32 0)));go_wp2
 try simp only [Act.put]
 exact hend _ _ tS (⟨w.heap.size,cH,S1.out⟩)
theorem aVq(A:Option Addr)(n c:Nat)(hsz:a.tmps.size=26)(o0:Sl a 0 (.slice A n c)):bK 1 f41 Q a w fun a' q'=>Sl a' 6 (.bool ((n:Int) == 0))->q':=rO
theorem aY6(A:Option Addr)(n c:Nat)(hsz:a.tmps.size=26)(o0:Sl a 0 (.slice A n c)):bK 3 f41 Q a w fun a' q'=>Sl a' 10 (.bool ((n:Int) == 1))->q':=rO
theorem aYh(w0:World)(g2:Nat)(L:List Res)(S:Held w0 w (aB g2 23 (aA (List.replicate 32 0)) :: L))(hsz:a.tmps.size=26)(o2:Sl a 2 (Pq g2 0)):bC false 2 f41 Q a w fun a' W q'=>(Held w0 W (aB g2 23 (aA cI) :: L))->q':=by
 refine bU fun hend=>?_;unfold Sl at o2;have HR:=LH (iU w);have hz3:Hid ((aA (cI)).size=32):=LH (by rw [aC,cQ]);have HO:=LH (aI (cI));have hcz:Hid ((aA (List.replicate 32 0)).size=32):=LH rfl;obtain ⟨ch,hch0⟩:∃ ch,Hid (aA (cI)=ch):=⟨_,LH rfl⟩;have hch:=hz3;rw [hch0.out] at HO hch;clear hz3;obtain ⟨cz,hcz0⟩:∃ cz,Hid ((aA (List.replicate 32 0))=cz):=⟨_,LH rfl⟩;rw [hcz0.out] at S hcz;rw [hch0.out] at HR;have S:=LH S;go_wp2_with fail
 refine HR.out.mono ?_;rintro r w1 ⟨rfl,k1⟩;have S1:=LH (S.out.kp k1);clear k1;go_wp2_with (refine aD rfl 23 (.tmp 2) (.tmp 7) rfl g2 (aO o2) ch aE 23 _ (S1.out.at_ (l1:=[])) (by rw [hch.out];exact bBy) (by rw [hch.out,hcz.out]) HO.out ?_;intro w7 b7 k7;have S7:=LH (Held.setBlk (l1:=[]) S1.out b7 k7);clear b7 k7)
 rw [<- hch0.out] at S7
 try simp only [Act.put]
 exact hend _ _ tS (S7.out)
theorem aVp(w0:World)(g2:Nat)(ad:Addr)(n c:Nat)(hn:0 < n)(h:Bs)(hh:h.length=32)(hc:∀ j u,(aA h).toList[j]?=some u->w.cell? (ad.add j)=some u)(L:List Res)(S:Held w0 w (aB g2 23 (aA (List.replicate 32 0)) :: L))(hsz:a.tmps.size=26)(o0:Sl a 0 (.slice (some ad) n c))(o2:Sl a 2 (Pq g2 0)):bC false 4 f41 Q a w fun a' W q'=>(Held w0 W (aB g2 23 (aA h) :: L))->q':=by
 refine bU fun hend=>?_;unfold Sl at o0 o2;have h0:(0:Int) < (n:Int):=by omega
 have hz3:Hid ((aA (h)).size=32):=LH (by rw [aC,hh]);have HO:=LH (aI (h));have hcz:Hid ((aA (List.replicate 32 0)).size=32):=LH rfl;obtain ⟨ch,hch0⟩:∃ ch,Hid (aA (h)=ch):=⟨_,LH rfl⟩;have hch:=hz3;rw [hch0.out] at HO hch;clear hz3;obtain ⟨cz,hcz0⟩:∃ cz,Hid ((aA (List.replicate 32 0))=cz):=⟨_,LH rfl⟩;rw [hcz0.out] at S hcz;have HC:Hid (∀ j u,ch.toList[j]?=some u->w.cell? (ad.add j)=some u):=LH (by rw [<- hch0.out];exact hc);clear hc;have S1:=LH S;go_wp2_with (first|(refine bW rfl 23 (.tmp 12) rfl ad (by simp [Act.eval,Act.put,hsz,Addr.add]) ch.toList _ HC.out underlying23 rfl (by rw [Array.length_toList,hch.out];exact bBy) ?_)|(refine aD rfl 23 (.tmp 2) (.tmp 13) rfl g2 (aO o2) ch aE 23 _ (S1.out.at_ (l1:=[])) (by rw [hch.out];exact bBy) (by rw [hch.out,hcz.out]) HO.out ?_;intro w7 b7 k7;have S7:=LH (Held.setBlk (l1:=[]) S1.out b7 k7);clear b7 k7))
 rw [<- hch0.out] at S7
 try simp only [Act.put]
 exact hend _ _ tS (S7.out)
theorem aPw(A:Option Addr)(n c:Nat)(hn:n < 9223372036854775808)(hsz:a.tmps.size=26)(o0:Sl a 0 (.slice A n c)):bK 5 f41 Q a w fun a' q'=>Sl a' 3 (Nq (aU n))->q':=by
 refine jG fun hend=>?_;unfold Sl at o0;have HR:=LH (nS n hn w);go_wp2_with fail
 refine HR.out.mono ?_;rintro e w' ⟨rfl,rfl⟩;go_wp2_with fail
 try simp only [Act.put]
 exact hend _ tS sP
theorem aT4(w0:World)(g2:Nat)(A:Option Addr)(c:Nat)(l:List (List UInt8))(hok:dP l)(hl2:2<=l.length)(hlc:l.length<=c)(hspl:0 < aU l.length ∧ aU l.length < l.length)(hva:∀ V,Kp [] w0 V->Rd V 32 (.slice A l.length c) l.length (dA l))(HO:∀ (V:World) (m:List (List UInt8)) (B:Option Addr) (d:Nat),m.length < l.length->dP m->Rd V 32 (.slice B m.length d) m.length (dA m)->Calls prog 41 #[.slice B m.length d] V fun e w'=>e=.returned (.agg (aA (bJ m))) ∧ Kp [] V w')(L:List Res)(hsz:a.tmps.size=26)(o0:Sl a 0 (.slice A l.length c))(o2:Sl a 2 (Pq g2 0))(o3:Sl a 3 (Nq (aU l.length)))
 (S0:Held w0 w (aB g2 23 (aA (List.replicate 32 0)) :: L)):bC true 6 f41 Q a w fun a' W q'=>Held w0 W (aB g2 23 (aA (bJ l)) :: L)->q':=by
 intro hend;have hap:=pa 6 f41
 refine aP (Γ:=Unit) (l:=(aK 6 f41)) 2 [0,1,2,3,4,5,6,7,8,9,11]
  (fun i vs gs=>match i with|0=>vs 0=.slice A l.length c|1=>vs 1=Nq (aU l.length)|2=>vs 2=.slice A (aU l.length) c|3=>vs 3=.agg (aA (bJ (l.take (aU l.length))))|4=>vs 4=.slice A l.length c|5=>vs 5=Nq (aU l.length)|6=>vs 6=.slice (loH A (aU l.length) c) (l.length - aU l.length) (c - aU l.length)|7=>vs 7=.agg (aA (bJ (l.drop (aU l.length))))|8=>vs 8=.agg (aA (bJ l))|_=>True)
  (fun i vs gs=>match i with|9=>[aB g2 23 (aA (bJ l))]|10=>[aB g2 23 (aA (List.replicate 32 0))]|11=>L|_=>[])
  (fun i=>match i with|9=>[10]|_=>[]) (fun i=>match i with  | _=>[]) S0 (by kernel_rfl) hap (by kernel_rfl) (by kernel_rfl) (fun i=>match i with|0=>[0]|1=>[1]|2=>[2]|3=>[3]|4=>[4]|5=>[5]|6=>[6]|7=>[7]|8=>[8]|_=>[]) (by kernel_rfl) ?_ (by kernel_rfl) ?_ ?_ ?_
 . exact lA
 . exact pA
 . clear S0 hend
   and_intros <;> try intro vs gs A' W LF hA S hR hd hu K hK
   . exact aJ (eO 0 o0)
   . exact aJ (eO 3 o3)
   . have hq:=oE A l.length c (aU l.length) (by omega) W;exact cM (vD 17 0) (vD 18 1)
   . replace hK:=hK default;have e19:=vD 19 2;clear hA o0 o2 o3;have hlt:(l.take (aU l.length)).length=aU l.length:=by rw [List.length_take];omega
     go_step;have hR:=uA hok (hva W S.k) rfl (show aU l.length<=l.length by omega)
     have hC:=HO W (l.take (aU l.length)) A c (by omega) (hok.take _) (by rw [hlt];exact hR);rw [hlt] at hC;refine hC.mono ?_;rintro e w' ⟨rfl,k⟩;exact hK _ _ (S.kp k) rfl
   . exact aJ (eO 0 o0)
   . exact aJ (eO 3 o3)
   . have hq:=aCf A l.length c (aU l.length) (by omega) W;exact cM (vD 21 4) (vD 22 5)
   . replace hK:=hK default;have e23:=vD 23 6;clear hA o0 o2 o3;have hlt:(l.drop (aU l.length)).length=l.length - aU l.length:=List.length_drop;go_step;have hR:=aBc hok (hva W S.k) rfl (show aU l.length<=l.length by omega)
     have hC:=HO W (l.drop (aU l.length)) (loH A (aU l.length) c) (c - aU l.length) (by omega) (hok.drop _) (by rw [hlt];exact hR);rw [hlt] at hC;refine hC.mono ?_;rintro e w' ⟨rfl,k⟩;exact hK _ _ (S.kp k) rfl
   . replace hK:=hK default;have e20:=vD 20 3;have e24:=vD 24 7;clear hA o0 o2 o3;go_step;refine (mR _ _ (bS (hok.take _)) (bS (hok.drop _)) W).mono ?_;rintro e w' ⟨rfl,k⟩;exact hK _ _ (S.kp k) (congrArg (fun x=>Value.agg (aA x)) (jX hl2).symm)
   . replace hK:=hK default;have e2:=eO 2 o2;have e25:=vD 25 8;clear hA o0 o2 o3;have S1:Held w0 W (aB g2 23 (aA (List.replicate 32 0)) :: LF):=S;refine aZ (.tmp 2) (.tmp 25) 23 rfl g2 (by simpa [Act.eval] using e2) (aA (bJ l)) (by simpa [Act.eval] using e25) 23 (aA (List.replicate 32 0)) S1 (by rw [aC,bS hok];exact bBy) (by rw [aC,bS hok] <;> rfl) (aI _) ?_;intro w' S2;exact hK _ _ S2 trivial
   . trivial
 . intro vs gs W S hp;have S:Held w0 W (aB g2 23 (aA (bJ l)) :: L):=by simpa only [List.flatMap_cons,List.flatMap_nil,List.append_nil,List.nil_append,List.cons_append,List.append_assoc] using S
   rw [aF];exact hend _ W sQ  S
end
section
open Go.RowKit Go.Shelf
theorem aOe:∀ (N:Nat) (A:Option Addr) (c:Nat) (l:List (List UInt8)) (_:dP l) (_:l.length < N) (w:World) (_:Rd w 32 (.slice A l.length c) l.length (dA l)),
 Calls prog 49 #[.slice A l.length c] w fun e w'=>e=.returned (.agg (aA (bJ l))) ∧ Kp [] w w'
 |0,_,_,l,_,h,_,_=>absurd h (Nat.not_lt_zero _)
 |N+1,A,c,l,hok,hN,w,hv=>by
  have hlen:l.length<=c ∧ c<=maxLen:=by
   obtain ⟨-,A',c',e,h1,h2,-,-⟩:=hv
   cases e;exact ⟨h1,h2⟩
  have hlm:=hlen.2;unfold maxLen at hlm;refine aR func49 rfl 27 rfl (fun a0 hsz hdf hAr=>?_);have hz0:a0.tmps.size=27:=hsz;have D:=hdf;have o0:=hAr 0 _ rfl;refine wp_seq (aSp w [] (Held.start w) hz0 (fun a1 w1 hs1 h1=>?_));obtain ⟨hz1,D,o0⟩:=eY hs1 hz0 D o0;obtain ⟨g2,o2,S⟩:=h1;refine wp_seq (aXv A l.length c hz1 o0 (fun a2 hs2 o3=>?_));obtain ⟨hz2,D,o0,o2⟩:=dU hs2 hz1 D o0 o2;refine wp_seq (aPv _ hz2 o3 (fun a3 hs3 o7=>?_));obtain ⟨hz3,D,o0,o2,o3⟩:=dF hs3 hz2 D o0 o2 o3;refine wp_block ?_;refine wp_seq (aQz l.length hz3 o7 (fun a4 hs4 o19=>?_));obtain ⟨hz4,D,o0,o2,o3,o7⟩:=fH hs4 hz3 D o0 o2 o3 o7
  by_cases h0:l.length=0
  . have hn:l=[]:=List.length_eq_zero_iff.1 h0;refine cS o19 ?_ (by rw [h0];rfl);refine wp_seq (aQ9 w g2 _ S hz4 o2 (fun a5 w9 hs5 S=>?_));obtain ⟨hz5,D,o0,o2,o3,o7,o19⟩:=jJ hs5 hz4 D o0 o2 o3 o7 o19;subst hn;refine wp_ret ?_
    try simp only [Exit.inBlock,Exit.then]
    exact bodyPost_ret (aV (by rfl) (o2.eval (by rw [hz5];decide)) (S.ok (aB g2 23 (aA cI)) (by simp)) underlying23 rfl (by rw [aC,cQ];exact bBy)) D ⟨rfl,S.k⟩
  . have hne:(((l.length:Nat):Int) == 0)=false:=by rw [beq_eq_false_iff_ne];omega
    refine dD o19 ?_ (by rw [hne]);refine wp_seq (aWt l.length hz4 o7 (fun a5 hs5 o22=>?_));obtain ⟨hz5,D,o0,o2,o3⟩:=dF hs5 hz4 D o0 o2 o3
    by_cases h1':l.length=1
    . obtain ⟨x,hx⟩:∃ x,l=[x]:=List.length_eq_one_iff.1 h1';subst hx;obtain ⟨ad,rfl⟩:=gD hv (by simp);have hx32:=hok x (List.mem_cons_self ..)
      have hc:∀ j u,(aA x).toList[j]?=some u->w1.cell? (ad.add j)=some u:=fun j u hu=>by
       have:=fT hok (aT hv S.k) (k:=0) rfl j u hu
       rwa [show (ad.add (0 * 32))=ad by simp [Addr.add]] at this
      refine cS o22 ?_ (by rfl);refine wp_seq (aXx w g2 ad 1 c (by decide) x hx32 hc _ S hz5 o0 o2 (fun a6 w9 hs6 S=>?_));obtain ⟨hz6,D,o0,o2,o3,o22⟩:=fH hs6 hz5 D o0 o2 o3 o22;refine wp_ret ?_
      try simp only [Exit.inBlock,Exit.then]
      exact bodyPost_ret (aV (by rfl) (o2.eval (by rw [hz6];decide)) (S.ok (aB g2 23 (aA x)) (by simp)) underlying23 rfl (by rw [aC,hx32];exact bBy)) D ⟨rfl,S.k⟩
    . have hne:(((l.length:Nat):Int) == 1)=false:=by rw [beq_eq_false_iff_ne];omega
      have hl2:2<=l.length:=by omega
      refine dD o22 ?_ (by rw [hne]);refine wp_seq (aPg l.length (by omega) hz5 o3 (fun a6 hs6 o4=>?_));obtain ⟨hz6,D,o0,o2⟩:=dU hs6 hz5 D o0 o2;refine wp_seq (aVu w g2 A c l hok hl2 hlen.1 ⟨fM hl2,gJ hl2⟩ (fun V kV=>aT hv kV) (fun V m B d h1 h2 h3=>aOe N B d m h2 (by omega) V h3) _ hz6 o0 o2 o4 S (fun a7 w9 hs7 S=>?_));obtain ⟨hz7,D,o2⟩:=eY hs7 hz6 D o2;refine wp_ret ?_
      try simp only [Exit.inBlock,Exit.then]
      exact bodyPost_ret (aV (by rfl) (o2.eval (by rw [hz7];decide)) (S.ok (aB g2 23 (aA (bJ l))) (by simp)) underlying23 rfl (by rw [aC,bS hok];exact bBy)) D ⟨rfl,S.k⟩
theorem rS(A:Option Addr)(c:Nat)(l:List (List UInt8))(hok:dP l)(w:World)(hv:Rd w 32 (.slice A l.length c) l.length (dA l)):
 Calls prog 49 #[.slice A l.length c] w fun e w'=>e=.returned (.agg (aA (bJ l))) ∧ Kp [] w w':=aOe (l.length+1) A c l hok (by omega) w hv
theorem aOd:∀ (N:Nat) (A:Option Addr) (c:Nat) (l:List (List UInt8)) (_:dP l) (_:l.length < N) (w:World) (_:Rd w 32 (.slice A l.length c) l.length (dA l)),
 Calls prog 41 #[.slice A l.length c] w fun e w'=>e=.returned (.agg (aA (bJ l))) ∧ Kp [] w w'
 |0,_,_,l,_,h,_,_=>absurd h (Nat.not_lt_zero _)
 |N+1,A,c,l,hok,hN,w,hv=>by
  have hlen:l.length<=c ∧ c<=maxLen:=by
   obtain ⟨-,A',c',e,h1,h2,-,-⟩:=hv
   cases e;exact ⟨h1,h2⟩
  have hlm:=hlen.2;unfold maxLen at hlm;refine aR func41 rfl 26 rfl (fun a0 hsz hdf hAr=>?_);have hz0:a0.tmps.size=26:=hsz;have D:=hdf;have o0:=hAr 0 _ rfl;refine wp_seq (aS0 w [] (Held.start w) hz0 (fun a1 w1 hs1 h1=>?_));obtain ⟨hz1,D,o0⟩:=eY hs1 hz0 D o0;obtain ⟨g2,o2,S⟩:=h1;refine wp_seq (wp_seq (aVq A l.length c hz1 o0 (fun a2 hs2 o6=>?_)));obtain ⟨hz2,D,o0,o2⟩:=dU hs2 hz1 D o0 o2
  by_cases h0:l.length=0
  . have hn:l=[]:=List.length_eq_zero_iff.1 h0;refine cS o6 ?_ (by rw [h0];rfl);refine wp_seq (aYh w g2 _ S hz2 o2 (fun a3 w9 hs3 S=>?_));obtain ⟨hz3,D,o0,o2,o6⟩:=dF hs3 hz2 D o0 o2 o6;subst hn;refine wp_ret ?_
    try simp only [Exit.inBlock,Exit.then]
    exact bodyPost_ret (aV (by rfl) (o2.eval (by rw [hz3];decide)) (S.ok (aB g2 23 (aA cI)) (by simp)) underlying23 rfl (by rw [aC,cQ];exact bBy)) D ⟨rfl,S.k⟩
  . have hne:(((l.length:Nat):Int) == 0)=false:=by rw [beq_eq_false_iff_ne];omega
    refine dD o6 (wp_skip ?_) (by rw [hne]);simp only [Exit.then];refine wp_seq (wp_seq (aY6 A l.length c hz2 o0 (fun a3 hs3 o10=>?_)));obtain ⟨hz3,D,o0,o2⟩:=dU hs3 hz2 D o0 o2
    by_cases h1':l.length=1
    . obtain ⟨x,hx⟩:∃ x,l=[x]:=List.length_eq_one_iff.1 h1';subst hx;obtain ⟨ad,rfl⟩:=gD hv (by simp);have hx32:=hok x (List.mem_cons_self ..)
      have hc:∀ j u,(aA x).toList[j]?=some u->w1.cell? (ad.add j)=some u:=fun j u hu=>by
       have:=fT hok (aT hv S.k) (k:=0) rfl j u hu
       rwa [show (ad.add (0 * 32))=ad by simp [Addr.add]] at this
      refine cS o10 ?_ (by rfl);refine wp_seq (aVp w g2 ad 1 c (by decide) x hx32 hc _ S hz3 o0 o2 (fun a4 w9 hs4 S=>?_));obtain ⟨hz4,D,o0,o2,o10⟩:=dF hs4 hz3 D o0 o2 o10;refine wp_ret ?_
      try simp only [Exit.inBlock,Exit.then]
      exact bodyPost_ret (aV (by rfl) (o2.eval (by rw [hz4];decide)) (S.ok (aB g2 23 (aA x)) (by simp)) underlying23 rfl (by rw [aC,hx32];exact bBy)) D ⟨rfl,S.k⟩
    . have hne:(((l.length:Nat):Int) == 1)=false:=by rw [beq_eq_false_iff_ne];omega
      have hl2:2<=l.length:=by omega
      refine dD o10 (wp_skip ?_) (by rw [hne]);simp only [Exit.then];refine wp_seq (aPw A l.length c (by omega) hz3 o0 (fun a4 hs4 o3=>?_));obtain ⟨hz4,D,o0,o2⟩:=dU hs4 hz3 D o0 o2;refine wp_seq (aT4 w g2 A c l hok hl2 hlen.1 ⟨fM hl2,gJ hl2⟩ (fun V kV=>aT hv kV) (fun V m B d h1 h2 h3=>aOd N B d m h2 (by omega) V h3) _ hz4 o0 o2 o3 S (fun a5 w9 hs5 S=>?_));obtain ⟨hz5,D,o2⟩:=eY hs5 hz4 D o2;refine wp_ret ?_
      try simp only [Exit.inBlock,Exit.then]
      exact bodyPost_ret (aV (by rfl) (o2.eval (by rw [hz5];decide)) (S.ok (aB g2 23 (aA (bJ l))) (by simp)) underlying23 rfl (by rw [aC,bS hok];exact bBy)) D ⟨rfl,S.k⟩
theorem aJb(A:Option Addr)(c:Nat)(l:List (List UInt8))(hok:dP l)(w:World)(hv:Rd w 32 (.slice A l.length c) l.length (dA l)):
 Calls prog 41 #[.slice A l.length c] w fun e w'=>e=.returned (.agg (aA (bJ l))) ∧ Kp [] w w':=aOd (l.length+1) A c l hok (by omega) w hv
end
section
variable {Q:Exit->Act->World->Prop} {a:Act} {w:World}
open Go.RowKit Go.Shelf
theorem aEb{cs:Array Value}(hc:cs.size=32):Instr.fill (fun i=>some (i * 32,32)) ((Array.range (1 * 32)).map ((aA (List.replicate 32 0))[· % (aA (List.replicate 32 0)).size]!)) [(0,.agg cs)]=some cs:=by
 have hz:((Array.range (1 * 32)).map ((aA (List.replicate 32 0))[· % (aA (List.replicate 32 0)).size]!)).size=32:=by simp
 generalize (Array.range (1 * 32)).map ((aA (List.replicate 32 0))[· % (aA (List.replicate 32 0)).size]!)=z at *;have h1:=eM 0 cs.toList 0 z
 have e:cs.zipIdx.foldl (fun r (x:Value × Nat)=>r.setIfInBounds (0+x.2) x.1) z=cs:=by
  rw [show cs.zipIdx.foldl (fun r (x:Value × Nat)=>r.setIfInBounds (0+x.2) x.1) z=(cs.toList.zipIdx 0).foldl (fun r (x:Value × Nat)=>r.setIfInBounds (0+x.2) x.1) z from by rw [<- Array.foldl_toList,Array.toList_zipIdx],h1];rw [hz,List.take_of_length_le (l:=cs.toList) (by rw [Array.length_toList,hc];decide),Array.length_toList,hc,List.drop_of_length_le (by rw [Array.length_toList,hz];decide)]
  simp
 unfold Instr.fill
 show (if (decide (cs.size ≠ 32) || decide (0+cs.size > z.size))=true then none else Instr.fill (fun i=>some (i * 32,32)) (cs.zipIdx.foldl (fun r (x:Value × Nat)=>r.setIfInBounds (0+x.2) x.1) z) [])=some cs
 rw [hc,hz,e]
 rfl
theorem aGt{o:Oper}{a:Act}{w:World}{K:Act->World->Prop}{Q:Exit->Act->World->Prop}(x:Operand)(ho:o.op=.buildSlice 29 1 #[(0,x)])(cs:Array Value)(hcs:cs.size=32)(hx:a.eval x=.agg cs)
 (h:K (a.put o.dst (.slice (some ⟨w.heap.size,0,none⟩) 1 1)) (w.alloc (.cells cs 23))):o.wp prog a w K Q:=by
 obtain ⟨i0,hi,hz,hsize,-⟩:=info_parts bC8;refine wp_buildSlice 29 23 1 #[(0,x)] ho cs i0 _ underlying29 hi hz (by rw [hsize];decide) (by rw [hsize];decide) ?_ h;rw [hsize,show ((#[(0,x)]:Array (Nat × Operand)).map fun (i,x)=>(i,a.eval x)).toList=[(0,.agg cs)] from by simp [hx]];exact aEb hcs
theorem lC{ops:Array Oper}{rest:List Oper}{o:Oper}{a:Act}{w:World}{Q:Exit->Act->World->Prop}(hg:o.guard=none)(x:Operand)(ho:o.op=.buildSlice 29 1 #[(0,x)])(cs:Array Value)(hcs:cs.size=32)(hx:a.eval x=.agg cs)
 (h:wpList prog ops Q rest (a.put o.dst (.slice (some ⟨w.heap.size,0,none⟩) 1 1)) (w.alloc (.cells cs 23))):wpList prog ops Q (o :: rest) a w:=
 wpList_plain hg fun _ hK=>aGt x ho cs hcs hx (hK _ _ h)
theorem aVl(hsz:a.tmps.size=19):bK 0 f48 Q a w fun a' q'=>Sl a' 2 (.slice none 0 0)->q':=rO
theorem aV1(hsz:a.tmps.size=19):bK 1 f48 Q a w fun a' q'=>Sl a' 3 (.slice none 0 0)->q':=rO
theorem aWi(A:Option Addr)(n c:Nat)(hsz:a.tmps.size=19)(o0:Sl a 0 (.slice A n c)):bK 2 f48 Q a w fun a' q'=>Sl a' 6 (.slice A n c)->Sl a' 7 (Nq n)->Sl a' 8 (Nq 0)->q':=rO
theorem aRu(k n:Nat)(hsz:a.tmps.size=19)(o7:Sl a 7 (Nq n))(o8:Sl a 8 (Nq k)):bK 3 f48 Q a w fun a' q'=>Sl a' 9 (.bool (decide (k < n)))->q':=rO
theorem aTw(ad:Addr)(k n c:Nat)(hk:k < n)(u:Value)(hu:w.cell? (ad.add k)=some u)(hus:∃ Au nu cu,u=.slice Au nu cu)(hsz:a.tmps.size=19)(o6:Sl a 6 (.slice (some ad) n c))(o8:Sl a 8 (Nq k)):bK 4 f48 Q a w fun a' q'=>Sl a' 5 (u)->q':=by
 have h0:0<=(k:Int):=by omega
 have h1:(k:Int) < (n:Int):=by omega
 obtain ⟨Au,nu,cu,rfl⟩:=hus;exact rO
theorem aWs(k:Nat)(hk:k < 9223372036854775807)(hsz:a.tmps.size=19)(o8:Sl a 8 (Nq k)):bK 6 f48 Q a w fun a' q'=>Sl a' 8 (Nq (k+1))->q':=by
 have hw:wrap64 ((k:Int)+1)=(k:Int)+1:=by unfold wrap64;omega
 exact rO
theorem aXe(x:Value)(hsz:a.tmps.size=19)(o3:Sl a 3 (x)):bK 7 f48 Q a w fun a' q'=>Sl a' 2 (x)->q':=rO
theorem aYo(w0:World)(u:Value)(m:Nat)(hm:m<=1000000)(xs:List Value)(A:Option Addr)(c:Nat)(e:Bs)(he:e.length<=140737488355200)(hr:Rd w 1 (.slice A e.length c) e.length (bv e))(L:List Res)(S:Held w0 w (aG 23 32 u m xs :: L))(hsz:a.tmps.size=19)(o3:Sl a 3 (u))(o5:Sl a 5 (.slice A e.length c)):bC false 5 f48 Q a w fun a' W q'=>(∃ v,Sl a' 3 v ∧ Held w0 W (aG 23 32 v (m+1) (xs ++ bv (bE e)) :: L))->q':=by
 refine bU fun hend=>?_;unfold Sl at o3 o5;have HR:=LH (aDk A c e he w hr);clear hr he;have S:=LH S;have hb1:Hid (m+1<=maxLen ∧ (m+1) * 32<=140737488355328):=LH (by unfold maxLen;omega);clear hm;have hch:Hid ((aA (bE e)).size=32):=LH (by rw [aC,eQ]);have HO:=LH (aI (bE e));have hch9:Hid ((aA (bE e)).toList=bv (bE e)):=LH rfl;generalize aA (bE e)=ch at *;obtain ⟨nl,hnl⟩:∃ nl,Hid (e.length=nl):=⟨_,LH rfl⟩;rw [hnl.out] at o5 HR;go_wp2_with fail
 refine HR.out.mono ?_;rintro r w1 ⟨rfl,k1⟩;have S2:=LH ((S.out.kp k1).alloc (.cells ch 23));clear k1;have HN:=LH (Rd.of_own (cZ w1 23 32 1 ch (by rw [hch.out]) (by decide)))
 go_wp2_with (first
  |(refine lC rfl (.tmp 14) rfl ch hch.out aE ?_)
  |(at_builtin;refine cY rfl (.tmp 12) (.tmp 15) 29 23 rfl bC8 underlying29 rfl (by decide) u m xs aE S2.out (.slice (some ⟨w1.heap.size,0,none⟩) 1 1) 1 ch.toList aE HN.out HO.out hb1.out.1 hb1.out.2 ?_;intro v2 w2 S3;have S3:=LH S3))
 try simp only [Act.put]
 exact hend _ _ tS (⟨v2,cH,by rw [<- hch9.out];exact S3.out⟩)
theorem aSi(hsz:a.tmps.size=20):bK 0 f42 Q a w fun a' q'=>Sl a' 2 (.slice none 0 0)->q':=rO
theorem aT0(hsz:a.tmps.size=20):bK 1 f42 Q a w fun a' q'=>Sl a' 3 (.slice none 0 0)->q':=rO
theorem aX6(hsz:a.tmps.size=20):bK 2 f42 Q a w fun a' q'=>Sl a' 4 (Nq 0)->q':=rO
theorem bAa(A:Option Addr)(n c k:Nat)(hsz:a.tmps.size=20)(o0:Sl a 0 (.slice A n c))(o4:Sl a 4 (Nq k)):bK 3 f42 Q a w fun a' q'=>Sl a' 8 (.bool (decide (k < n)))->q':=rO
theorem aOl(k:Nat)(hk:k < 9223372036854775807)(hsz:a.tmps.size=20)(o4:Sl a 4 (Nq k)):bK 4 f42 Q a w fun a' q'=>Sl a' 4 (Nq (k+1))->q':=by
 have hw:wrap64 ((k:Int)+1)=(k:Int)+1:=by unfold wrap64;omega
 exact rO
theorem aXs(x:Value)(hsz:a.tmps.size=20)(o3:Sl a 3 (x)):bK 6 f42 Q a w fun a' q'=>Sl a' 2 (x)->q':=rO
theorem aOk(w0:World)(u:Value)(m:Nat)(hm:m<=1000000)(xs:List Value)(A:Option Addr)(c:Nat)(e:Bs)(he:e.length<=140737488355200)(hr:Rd w 1 (.slice A e.length c) e.length (bv e))(ad:Addr)(k n d:Nat)(hk:k < n)(hu:w.cell? (ad.add k)=some (.slice A e.length c))(L:List Res)(S:Held w0 w (aG 23 32 u m xs :: L))(hsz:a.tmps.size=20)(o0:Sl a 0 (.slice (some ad) n d))(o3:Sl a 3 (u))(o4:Sl a 4 (Nq k)):bC false 5 f42 Q a w fun a' W q'=>(∃ v,Sl a' 3 v ∧ Held w0 W (aG 23 32 v (m+1) (xs ++ bv (bE e)) :: L))->q':=by
 refine bU fun hend=>?_;unfold Sl at o0 o3 o4;have HR:=LH (aE7 A c e he w hr);clear hr he;have S:=LH S;have hb1:Hid (m+1<=maxLen ∧ (m+1) * 32<=140737488355328):=LH (by unfold maxLen;omega);clear hm;have hch:Hid ((aA (bE e)).size=32):=LH (by rw [aC,eQ]);have HO:=LH (aI (bE e));have hch9:Hid ((aA (bE e)).toList=bv (bE e)):=LH rfl;generalize aA (bE e)=ch at *;obtain ⟨nl,hnl⟩:∃ nl,Hid (e.length=nl):=⟨_,LH rfl⟩;have h0:0<=(k:Int):=by omega
 have h1:(k:Int) < (n:Int):=by omega
 rw [hnl.out] at hu HR;go_wp2_with fail
 refine HR.out.mono ?_;rintro r w1 ⟨rfl,k1⟩;have S2:=LH ((S.out.kp k1).alloc (.cells ch 23));clear k1;have HN:=LH (Rd.of_own (cZ w1 23 32 1 ch (by rw [hch.out]) (by decide)))
 go_wp2_with (first
  |(refine lC rfl (.tmp 16) rfl ch hch.out aE ?_)
  |(at_builtin;refine cY rfl (.tmp 11) (.tmp 17) 29 23 rfl bC8 underlying29 rfl (by decide) u m xs aE S2.out (.slice (some ⟨w1.heap.size,0,none⟩) 1 1) 1 ch.toList aE HN.out HO.out hb1.out.1 hb1.out.2 ?_;intro v2 w2 S3;have S3:=LH S3))
 try simp only [Act.put]
 exact hend _ _ tS (⟨v2,cH,by rw [<- hch9.out];exact S3.out⟩)
theorem aVx(hsz:a.tmps.size=26):bK 0 f12 Q a w fun a' q'=>Sl a' 4 (.bool false)->q':=rO
theorem aZq(hsz:a.tmps.size=26):bK 2 f12 Q a w fun a' q'=>Sl a' 4 (.bool false)->q':=rO
theorem aZa(hsz:a.tmps.size=26):bK 7 f12 Q a w fun a' q'=>Sl a' 4 (.bool false)->q':=rO
theorem aQj(hsz:a.tmps.size=26):bK 8 f12 Q a w fun a' q'=>Sl a' 4 (.bool true)->q':=rO
theorem aVa(hsz:a.tmps.size=26):bK 3 f12 Q a w fun a' q'=>Sl a' 5 (Nq 0)->q':=rO
theorem aR2(A B:Option Addr)(n c m d:Nat)(hsz:a.tmps.size=26)(o0:Sl a 0 (.slice A n c))(o1:Sl a 1 (.slice B m d)):bK 1 f12 Q a w fun a' q'=>Sl a' 10 (.bool ((n:Int) != (m:Int)))->q':=rO
theorem aX5(A:Option Addr)(n c k:Nat)(hsz:a.tmps.size=26)(o0:Sl a 0 (.slice A n c))(o5:Sl a 5 (Nq k)):bK 4 f12 Q a w fun a' q'=>Sl a' 14 (.bool (decide (k < n)))->q':=rO
theorem aTo(k:Nat)(hk:k < 9223372036854775807)(hsz:a.tmps.size=26)(o5:Sl a 5 (Nq k)):bK 5 f12 Q a w fun a' q'=>Sl a' 5 (Nq (k+1))->q':=by
 have hw:wrap64 ((k:Int)+1)=(k:Int)+1:=by unfold wrap64;omega
 exact rO
theorem aWn(ad bd:Addr)(k n c m d:Nat)(hk:k < n)(hm:k < m)(x y:Bs)(hx32:x.length=32)(hy32:y.length=32)(hx:∀ j u,(aA x).toList[j]?=some u->w.cell? ((ad.add (k * 32)).add j)=some u)(hy:∀ j u,(aA y).toList[j]?=some u->w.cell? ((bd.add (k * 32)).add j)=some u)(hsz:a.tmps.size=26)(o0:Sl a 0 (.slice (some ad) n c))(o1:Sl a 1 (.slice (some bd) m d))(o5:Sl a 5 (Nq k)):bC true 6 f12 Q a w fun a' W q'=>Kp [] w.drew W->Sl a' 25 (.bool (!(x == y)))->q':=by
 intro hend;have hap:=pa 6 f12;refine bZ (l:=(aK 6 f12)) (fun i v W=>match i with|0=>v=.slice (some ad) n c|1=>v=Nq k|2=>v=.pointer (some (ad.add (k * 32)))|3=>v=.agg (aA x)|4=>v=.slice (some bd) m d|5=>v=Nq k|6=>v=.pointer (some (bd.add (k * 32)))|7=>v=.agg (aA y)|8=>v=.bool (!(x == y))|_=>True) (by kernel_rfl) hap (by kernel_rfl) ?_ ?_ ?_
 . exact fun _ _ _ _ h _=>h
 . and_intros <;> try intro vs A' W hA hW hd K hK
   . exact aJ (eO 0 o0)
   . exact aJ (eO 5 o5)
   . have h0:0<=(k:Int):=by omega
     have h1:(k:Int) < (n:Int):=by omega
     exact cM (vD 17 0) (vD 18 1)
   . exact dC (aA x) (vD 19 2) (fun j u hj=>iO (hx j u hj) (((Kp.refl [] w).drew).trans hW (by simp))) underlying23 (by rw [aC,hx32];exact bBy)
   . exact aJ (eO 1 o1)
   . exact aJ (eO 5 o5)
   . have h0:0<=(k:Int):=by omega
     have h1:(k:Int) < (m:Int):=by omega
     exact cM (vD 21 4) (vD 22 5)
   . exact dC (aA y) (vD 23 6) (fun j u hj=>iO (hy j u hj) (((Kp.refl [] w).drew).trans hW (by simp))) underlying23 (by rw [aC,hy32];exact bBy)
   . have e20:=vD 20 3;have e24:=vD 24 7;clear hA hd o0 o1 o5;refine bQ (v:=.bool (!(x == y))) (w':=W) (bH rfl (by simpa [Act.eval] using e20) (by simpa [Act.eval] using e24) eqGuardType23 (dJ W x y hx32 hy32)) ?_;exact hK _ _ kR rfl
   . trivial
 . intro vs W hW hp;rw [aF];exact hend _ W sQ hW (sW (hp 8 sB))
end
section
open Go.RowKit Go.Shelf
theorem zQ{ls:List (List UInt8)}{k:Nat}{e:List UInt8}(h:ls[k]?=some e):dA ((ls.take (k+1)).map bE)=dA ((ls.take k).map bE) ++ bv (bE e):=by
 rw [List.take_add_one,h];simp [dA]
theorem kE(ls:List (List UInt8)):dP (ls.map bE):=by
 intro h hh;obtain ⟨e,-,rfl⟩:=List.mem_map.1 hh;exact eQ e
theorem yM(x:Value)(ls:List (List UInt8))(hn:ls.length<=1000000)(hb:∀ e ∈ ls,e.length<=140737488355200)(w:World)(hx:qZ w x ls):
 Calls prog 48 #[x] w fun r w'=>∃ v,r=.returned v ∧ Held w w' [aG 23 32 v ls.length (dA (ls.map bE))]:=by
 obtain ⟨A,c,rfl,-,-⟩:=hx.open_;refine aR func48 rfl 19 rfl (fun a0 hsz hdf hAr=>?_);have hz0:a0.tmps.size=19:=hsz;have D:=hdf;have o0:=hAr 0 _ rfl;refine wp_seq (aVl hz0 (fun a1 hs1 o2=>?_));obtain ⟨hz1,D,o0⟩:=eY hs1 hz0 D o0;refine wp_seq (aV1 hz1 (fun a2 hs2 o3=>?_));obtain ⟨hz2,D,o0⟩:=eY hs2 hz1 D o0;have S:=(Held.start w).rownew (World.ownsRow_nil _ _ _ _:Ow w 23 32 (.slice none 0 0) 0 []) (Kp.refl [] w) (fun g hg=>by cases hg);refine wp_seq (wp_seq (aWi A ls.length c hz2 o0 (fun a3 hs3 o6 o7 o8=>?_)));obtain ⟨hz3,D,o0,o3⟩:=dU hs3 hz2 D o0 o3;refine wp_block ?_
 (conv=>arg 2;whnf)
 refine wp_loop (fun a' w'=>∃ (k:Nat) (v:Value),k<=ls.length ∧ a'.tmps.size=19 ∧ a'.defers=[] ∧ Sl a' 3 (v) ∧ Sl a' 6 (.slice A ls.length c) ∧ Sl a' 7 (Nq (ls.length)) ∧ Sl a' 8 (Nq k) ∧ Held w w' [aG 23 32 v k (dA ((ls.take k).map bE))]) (fun a' _=>ls.length - (intOf (a'.eval (.tmp 8))).toNat) ⟨0,_,Nat.zero_le _,hz3,D,o3,o6,o7,o8,S⟩ ?_
 iterate 9 (try clear o0)
 iterate 9 (try clear o3)
 iterate 9 (try clear o4)
 iterate 9 (try clear o6)
 iterate 9 (try clear o7)
 iterate 9 (try clear o8)
 iterate 9 (try clear S)
 iterate 9 (try clear D)
 rintro a7 w7 ⟨k,v,hk,hz7,D,o3,o6,o7,o8,S⟩;have e8:=o8.eval (by rw [hz7];decide);refine wp_seq (aRu k ls.length hz7 o7 o8 (fun a8 hs8 o9=>?_));obtain ⟨hz8,D,o3,o6,o7,o8⟩:=fH hs8 hz7 D o3 o6 o7 o8
 by_cases hlt:k < ls.length
 . refine wp_seq (cS o9 (wp_skip ?_) (by rw [decide_eq_true hlt]));simp only [Exit.then];obtain ⟨e,he⟩:∃ e,ls[k]?=some e:=⟨_,List.getElem?_eq_getElem hlt⟩
   obtain ⟨ad,rfl⟩:∃ ad,A=some ad:=by
    obtain ⟨A',c',e1,h1,-⟩:=hx.open_
    injection e1 with e1
    obtain ⟨ad,h2⟩:=h1 (by omega);exact ⟨ad,e1.trans h2⟩
   obtain ⟨Ae,ce,hce,hre⟩:=(hx.kp0 S.k).at_ hlt;rw [(List.getElem?_eq_some_iff.1 he).2] at hce hre;have hbe:=hb e (List.mem_of_getElem? he);refine wp_seq (wp_block ?_);refine wp_seq (aTw ad k ls.length c hlt _ hce ⟨_,_,_,rfl⟩ hz8 o6 o8 (fun a9 hs9 o5=>?_));obtain ⟨hz9,D,o3,o6,o7,o8⟩:=fH hs9 hz8 D o3 o6 o7 o8;refine aYo w v k (by omega) _ Ae ce e hbe hre [] S hz9 o3 o5 (fun a10 w10 hs10 h10=>?_);obtain ⟨v2,o3,S2⟩:=h10;obtain ⟨hz10,D,o6,o7,o8⟩:=dF hs10 hz9 D o6 o7 o8;rw [<- zQ he] at S2;simp only [Exit.inBlock,Exit.then];refine aWs k (by omega) hz10 o8 (fun a11 hs11 o8=>?_);have hz11:=hs11.size.trans hz10;refine ⟨⟨k+1,v2,hlt,hz11,hs11.defers.trans D,hs11.q o3,hs11.q o6,hs11.q o7,o8,S2⟩,?_⟩
   show ls.length - (intOf _).toNat < ls.length - (intOf _).toNat
   rw [e8,o8.eval (by rw [hz11];decide)];simp only [intOf];omega
 . refine wp_seq (dD o9 (wp_exit ?_) (by rw [decide_eq_false hlt]));simp only [Exit.then,Exit.inBlock];obtain rfl:k=ls.length:=by omega
   rw [List.take_length] at S;refine wp_seq (aXe _ hz8 o3 (fun a9 hs9 o2=>?_));obtain ⟨hz9,D⟩:=dS hs9 hz8 D;refine wp_ret ?_;exact bodyPost_ret (bA (by rfl) (o2.eval (by rw [hz9];decide))) D ⟨v,rfl,S⟩
theorem zJ(x:Value)(ls:List (List UInt8))(hn:ls.length<=1000000)(hb:∀ e ∈ ls,e.length<=140737488355200)(w:World)(hx:qZ w x ls):
 Calls prog 42 #[x] w fun r w'=>∃ v,r=.returned v ∧ Held w w' [aG 23 32 v ls.length (dA (ls.map bE))]:=by
 obtain ⟨A,c,rfl,-,-⟩:=hx.open_;refine aR func42 rfl 20 rfl (fun a0 hsz hdf hAr=>?_);have hz0:a0.tmps.size=20:=hsz;have D:=hdf;have o0:=hAr 0 _ rfl;refine wp_seq (aSi hz0 (fun a1 hs1 o2=>?_));obtain ⟨hz1,D,o0⟩:=eY hs1 hz0 D o0;refine wp_seq (aT0 hz1 (fun a2 hs2 o3=>?_));obtain ⟨hz2,D,o0⟩:=eY hs2 hz1 D o0;have S:=(Held.start w).rownew (World.ownsRow_nil _ _ _ _:Ow w 23 32 (.slice none 0 0) 0 []) (Kp.refl [] w) (fun g hg=>by cases hg);refine wp_seq (wp_seq (aX6 hz2 (fun a3 hs3 o4=>?_)));obtain ⟨hz3,D,o0,o3⟩:=dU hs3 hz2 D o0 o3;refine wp_block ?_
 (conv=>arg 2;whnf)
 refine wp_loop (fun a' w'=>∃ (k:Nat) (v:Value),k<=ls.length ∧ a'.tmps.size=20 ∧ a'.defers=[] ∧ Sl a' 0 (.slice A ls.length c) ∧ Sl a' 3 (v) ∧ Sl a' 4 (Nq k) ∧ Held w w' [aG 23 32 v k (dA ((ls.take k).map bE))]) (fun a' _=>ls.length - (intOf (a'.eval (.tmp 4))).toNat) ⟨0,_,Nat.zero_le _,hz3,D,o0,o3,o4,S⟩ ?_
 iterate 9 (try clear o0)
 iterate 9 (try clear o3)
 iterate 9 (try clear o4)
 iterate 9 (try clear o6)
 iterate 9 (try clear o7)
 iterate 9 (try clear o8)
 iterate 9 (try clear S)
 iterate 9 (try clear D)
 rintro a7 w7 ⟨k,v,hk,hz7,D,o0,o3,o4,S⟩;have e4:=o4.eval (by rw [hz7];decide);refine wp_seq (wp_seq (bAa A ls.length c k hz7 o0 o4 (fun a8 hs8 o8=>?_)));obtain ⟨hz8,D,o0,o3,o4⟩:=dF hs8 hz7 D o0 o3 o4
 by_cases hlt:k < ls.length
 . refine cS o8 (wp_skip ?_) (by rw [decide_eq_true hlt]);simp only [Exit.then];obtain ⟨e,he⟩:∃ e,ls[k]?=some e:=⟨_,List.getElem?_eq_getElem hlt⟩
   obtain ⟨ad,rfl⟩:∃ ad,A=some ad:=by
    obtain ⟨A',c',e1,h1,-⟩:=hx.open_
    injection e1 with e1
    obtain ⟨ad,h2⟩:=h1 (by omega);exact ⟨ad,e1.trans h2⟩
   obtain ⟨Ae,ce,hce,hre⟩:=(hx.kp0 S.k).at_ hlt;rw [(List.getElem?_eq_some_iff.1 he).2] at hce hre;have hbe:=hb e (List.mem_of_getElem? he);refine wp_seq (wp_block ?_);refine aOk w v k (by omega) _ Ae ce e hbe hre ad k ls.length c hlt hce [] S hz8 o0 o3 o4 (fun a10 w10 hs10 h10=>?_);obtain ⟨v2,o3,S2⟩:=h10;obtain ⟨hz10,D,o0,o4⟩:=dU hs10 hz8 D o0 o4;rw [<- zQ he] at S2;simp only [Exit.inBlock,Exit.then];refine aOl k (by omega) hz10 o4 (fun a11 hs11 o4=>?_);have hz11:=hs11.size.trans hz10;refine ⟨⟨k+1,v2,hlt,hz11,hs11.defers.trans D,hs11.q o0,hs11.q o3,o4,S2⟩,?_⟩
   show ls.length - (intOf _).toNat < ls.length - (intOf _).toNat
   rw [e4,o4.eval (by rw [hz11];decide)];simp only [intOf];omega
 . refine dD o8 (wp_exit ?_) (by rw [decide_eq_false hlt]);simp only [Exit.then,Exit.inBlock];obtain rfl:k=ls.length:=by omega
   rw [List.take_length] at S;refine wp_seq (aXs _ hz8 o3 (fun a9 hs9 o2=>?_));obtain ⟨hz9,D⟩:=dS hs9 hz8 D;refine wp_ret ?_;exact bodyPost_ret (bA (by rfl) (o2.eval (by rw [hz9];decide))) D ⟨v,rfl,S⟩
theorem aF4{l m:List (List UInt8)}{k:Nat}{x y:List UInt8}(hx:l[k]?=some x)(hy:m[k]?=some y)(h:l.take k=m.take k):x=y ↔ l.take (k+1)=m.take (k+1):=by
 rw [List.take_add_one,List.take_add_one,hx,hy,h]
 simp
theorem aBr(A B:Option Addr)(c d:Nat)(l m:List (List UInt8))(hl:dP l)(hm:dP m)(w:World)(ha:Rd w 32 (.slice A l.length c) l.length (dA l))(hb:Rd w 32 (.slice B m.length d) m.length (dA m)):
 Calls prog 12 #[.slice A l.length c,.slice B m.length d] w fun e w'=>e=.returned (.bool (l == m)) ∧ Kp [] w w':=by
 have hlm:l.length<=9223372036854775807:=by
  obtain ⟨-,A',c',e,h1,h2,-,-⟩:=ha;unfold maxLen at h2;omega
 refine aR func12 rfl 26 rfl (fun a0 hsz hdf hAr=>?_);have hz0:a0.tmps.size=26:=hsz;have D:=hdf;have o0:=hAr 0 _ rfl;have o1:=hAr 1 _ rfl;refine wp_seq (aVx hz0 (fun a1 hs1 o4=>?_));obtain ⟨hz1,D,o0,o1⟩:=dU hs1 hz0 D o0 o1;refine wp_seq (wp_seq (aR2 A B l.length c m.length d hz1 o0 o1 (fun a2 hs2 o10=>?_)));obtain ⟨hz2,D,o0,o1⟩:=dU hs2 hz1 D o0 o1
 by_cases hlen:l.length=m.length
 . have hq:(((l.length:Nat):Int) != ((m.length:Nat):Int))=false:=by rw [hlen];simp
   refine dD o10 (wp_skip ?_) (by rw [hq]);simp only [Exit.then];refine wp_seq (wp_seq (aVa hz2 (fun a3 hs3 o5=>?_)));obtain ⟨hz3,D,o0,o1⟩:=dU hs3 hz2 D o0 o1;refine wp_block ?_
   (conv=>arg 2;whnf)
   refine wp_loop (fun a' w'=>∃ k:Nat,k<=l.length ∧ a'.tmps.size=26 ∧ a'.defers=[] ∧ Sl a' 0 (.slice A l.length c) ∧ Sl a' 1 (.slice B m.length d) ∧ Sl a' 5 (Nq k) ∧ l.take k=m.take k ∧ Kp [] w w') (fun a' _=>l.length - (intOf (a'.eval (.tmp 5))).toNat) ⟨0,Nat.zero_le _,hz3,D,o0,o1,o5,rfl,Kp.refl _ _⟩ ?_
   iterate 9 (try clear o0)
   iterate 9 (try clear o1)
   iterate 9 (try clear o5)
   iterate 9 (try clear D)
   rintro a7 w7 ⟨k,hk,hz7,D,o0,o1,o5,hpre,K7⟩;have e5:=o5.eval (by rw [hz7];decide);refine wp_seq (wp_seq (aX5 A l.length c k hz7 o0 o5 (fun a8 hs8 o14=>?_)));obtain ⟨hz8,D,o0,o1,o5⟩:=dF hs8 hz7 D o0 o1 o5
   by_cases hlt:k < l.length
   . refine cS o14 (wp_skip ?_) (by rw [decide_eq_true hlt]);simp only [Exit.then];obtain ⟨x,hx⟩:∃ x,l[k]?=some x:=⟨_,List.getElem?_eq_getElem hlt⟩;obtain ⟨y,hy⟩:∃ y,m[k]?=some y:=⟨_,List.getElem?_eq_getElem (by omega)⟩;obtain ⟨ad,rfl⟩:=gD ha (by omega);obtain ⟨bd,rfl⟩:=gD hb (by omega);refine wp_seq (wp_block ?_);refine wp_seq (aWn ad bd k l.length c m.length d hlt (by omega) x y (hl x (List.mem_of_getElem? hx)) (hm y (List.mem_of_getElem? hy)) (fT hl (aT ha K7) hx) (fT hm (aT hb K7) hy) hz8 o0 o1 o5 (fun a9 w9 hs9 k9 o25=>?_));obtain ⟨hz9,D,o0,o1,o5⟩:=dF hs9 hz8 D o0 o1 o5;have K9:=K7.trans (((Kp.refl [] w7).drew).trans k9 (by simp)) (by simp);have hiff:=aF4 hx hy hpre
     cases hxy:(x == y)
     . refine cS o25 ?_ (by rw [hxy];rfl);refine wp_seq (aZa hz9 (fun a10 hs10 o4=>?_));obtain ⟨hz10,D,o0,o1,o5,o25⟩:=fH hs10 hz9 D o0 o1 o5 o25;refine wp_ret ?_;simp only [Exit.then,Exit.inBlock];refine bodyPost_ret (bA (by rfl) (o4.eval (by rw [hz10];decide))) D ⟨?_,K9⟩
       have hne:¬ l=m:=fun e=>by
        have h1:=hiff.2 (by rw [e]);rw [h1] at hxy;simp at hxy
       rw [beq_eq_false_iff_ne.2 hne]
     . refine dD o25 (wp_skip ?_) (by rw [hxy];rfl);simp only [Exit.then,Exit.inBlock];refine aTo k (by omega) hz9 o5 (fun a10 hs10 o5=>?_);have hz10:=hs10.size.trans hz9;refine ⟨⟨k+1,hlt,hz10,hs10.defers.trans D,hs10.q o0,hs10.q o1,o5,hiff.1 (eq_of_beq hxy),K9⟩,?_⟩
       show l.length - (intOf _).toNat < l.length - (intOf _).toNat
       rw [e5,o5.eval (by rw [hz10];decide)];simp only [intOf];omega
   . refine dD o14 (wp_exit ?_) (by rw [decide_eq_false hlt]);simp only [Exit.then,Exit.inBlock];obtain rfl:k=l.length:=by omega
     refine wp_seq (aQj hz8 (fun a9 hs9 o4=>?_));obtain ⟨hz9,D⟩:=dS hs9 hz8 D;refine wp_ret ?_;refine bodyPost_ret (bA (by rfl) (o4.eval (by rw [hz9];decide))) D ⟨?_,K7⟩;rw [List.take_length,hlen,List.take_length] at hpre;rw [hpre]
     simp
 . have hq:(((l.length:Nat):Int) != ((m.length:Nat):Int))=true:=by simp;omega
   refine cS o10 ?_ (by rw [hq]);refine wp_seq (aZq hz2 (fun a3 hs3 o4=>?_));obtain ⟨hz3,D⟩:=dS hs3 hz2 D;refine wp_ret ?_
   try simp only [Exit.then]
   refine bodyPost_ret (bA (by rfl) (o4.eval (by rw [hz3];decide))) D ⟨?_,Kp.refl _ _⟩;have hne:¬ l=m:=fun e=>hlen (by rw [e])
   rw [beq_eq_false_iff_ne.2 hne]
end
section
variable {Q:Exit->Act->World->Prop} {a:Act} {w:World}
open Go.RowKit Go.Shelf
def kU (l:List (Nat × Nat)):List Value:=l.flatMap fun r=>[.int .i64 (r.1:Int),.int .i64 (r.2:Int)]
theorem iZ(a b:List (Nat × Nat)):kU (a ++ b)=kU a ++ kU b:=by simp [kU]
theorem aLr(l:List (Nat × Nat)):∀ u ∈ kU l,u.oneCell'=true:=by
 intro u hu;obtain ⟨r,-,h⟩:=List.mem_flatMap.1 hu;simp at h
 rcases h with rfl|rfl <;> rfl
theorem aCs:∀ {l:List (Nat × Nat)} {i:Nat} {r:Nat × Nat},l[i]?=some r->(kU l)[i * 2]?=some (.int .i64 (r.1:Int)) ∧ (kU l)[i * 2+1]?=some (.int .i64 (r.2:Int))
 |x :: ys,0,y,h=>by
  cases h;exact ⟨rfl,rfl⟩
 |x :: ys,i+1,y,h=>by
  have:=aCs (l:=ys) (i:=i) (r:=y) h
  rw [show (i+1) * 2=i * 2+1+1 by omega];exact this
theorem vV(n:Nat):aU n<=n:=by
 by_cases h:2<=n
 . exact Nat.le_of_lt (gJ h)
 . unfold aU;rw [if_pos (by omega)];omega
theorem bCa:(prog.info? 176).map (fun i=>(i.zero,i.size,i.bytes))=some (some (.agg #[.int .i64 0,.int .i64 0]),2,16):=by kernel_rfl
theorem bCk:(prog.info? 176).map (·.size)=some 2:=by kernel_rfl
theorem aWc(f n t m:Nat)(ht:Hid (t=f+n ∧ m=f+aU n ∧ f+n < 9223372036854775808))(hsz:a.tmps.size=53)(o0:Sl a 0 (Nq f))(o1:Sl a 1 (Nq t)):bK 0 f128 Q a w fun a' q'=>Sl a' 9 (Nq m)->q':=by
 refine jG fun hend=>?_;unfold Sl at o0 o1;have HR:=LH (nQ n (by have:=ht.out;omega) w);have hw:wrap64 ((t:Int) - (f:Int))=(n:Int):=by have:=ht.out;unfold wrap64;omega
 have hs:=LH (vV n);obtain ⟨k,hk⟩:∃ k,Hid (aU n=k):=⟨_,LH rfl⟩;rw [hk.out] at HR hs ht;have hw2:wrap64 ((f:Int)+(k:Int))=(m:Int):=by have:=hs.out;have:=ht.out;unfold wrap64;omega
 go_wp2_with fail
 refine HR.out.mono ?_;rintro e w' ⟨rfl,rfl⟩;go_wp2_with fail
 try simp only [Act.put]
 exact hend _ tS sP
theorem aZ7(g3:Nat)(x z:Int)(hb:aM w g3 2 #[.int .i64 x])(hsz:a.tmps.size=53)(o1:Sl a 1 (.int .i64 z))(o3:Sl a 3 (Pq g3 0)):bK 3 f128 Q a w fun a' q'=>Sl a' 26 (.bool (x == z))->q':=by
 have c0:w.cell? ⟨g3,0,none⟩=some (.int .i64 x):=hb.cell 0;exact rO
theorem aRw(b:Bool)(hsz:a.tmps.size=53)(o2:Sl a 2 (.bool b)):bK 4 f128 Q a w fun a' q'=>Sl a' 31 (.bool (!b))->q':=rO
theorem aPj(g3:Nat)(x z:Int)(hb:aM w g3 2 #[.int .i64 x])(hsz:a.tmps.size=53)(o3:Sl a 3 (Pq g3 0))(o9:Sl a 9 (.int .i64 z)):bK 6 f128 Q a w fun a' q'=>Sl a' 38 (.bool (decide (x<=z)))->q':=by
 have c0:w.cell? ⟨g3,0,none⟩=some (.int .i64 x):=hb.cell 0;exact rO
theorem aPl(w0:World)(gO q:Nat)(hq:q<=1000000)(u:Value)(xs:List Value)(za zb:Int)(L:List Res)(S:Held w0 w (aG 176 2 u q xs :: aB gO 164 #[u] :: L))(hsz:a.tmps.size=53)(o0:Sl a 0 (.int .i64 za))(o1:Sl a 1 (.int .i64 zb))(o4:Sl a 4 (Pq gO 0)):bC false 5 f128 Q a w fun a' W q'=>(∃ v,Held w0 W (aG 176 2 v (q+1) (xs ++ [.int .i64 za,.int .i64 zb]) :: aB gO 164 #[v] :: L))->q':=by
 refine bU fun hend=>?_;unfold Sl at o0 o1 o4;obtain ⟨Au,cu,rfl,-,-⟩:=aS (S.at_ (l1:=[]));have c0:w.cell? ⟨gO,0,none⟩=some (.slice Au q cu):=(show aM w gO 164 _ from S.at_ (l1:=[_])).cell 0;have S1:=LH (S.alloc (.cells #[.int .i64 za,.int .i64 zb] 176));have HN:=LH (Rd.of_own (cZ w 176 2 1 #[.int .i64 za,.int .i64 zb] rfl (by decide)));have hb1:Hid (q+1<=maxLen ∧ (q+1) * 16<=140737488355328):=LH (by unfold maxLen;omega);clear S hq;go_wp2_with (at_builtin;refine cY rfl (.tmp 32) (.tmp 36) 164 176 rfl bCa underlying164 rfl (by decide) (.slice Au q cu) q xs aE S1.out (.slice (some ⟨w.heap.size,0,none⟩) 1 1) 1 [.int .i64 za,.int .i64 zb] aE HN.out (by intro x hx;simp at hx;rcases hx with rfl|rfl <;> rfl) hb1.out.1 hb1.out.2 ?_;intro v2 w2 S3;obtain ⟨A2,c2,hv2,-,-⟩:=aS (show Ow w2 176 2 v2 (q+1) _ from S3.at_ (l1:=[]));subst hv2;have c33:w2.cell? ⟨gO,0,none⟩=some (.slice Au q cu):=(show aM w2 gO 164 _ from S3.at_ (l1:=[_])).cell 0;have f33:=(show aM w2 gO 164 _ from S3.at_ (l1:=[_])).frozen 0;have S4:=LH (S3.set (l1:=[_]) 0 (.slice A2 (q+1) c2));clear S3)
 try simp only [Act.put]
 exact hend _ _ tS (⟨_,S4.out⟩)
theorem aWr(w0:World)(gO q:Nat)(hq:q<=1000000)(u:Value)(xs:List Value)(za zb:Int)(L:List Res)(S:Held w0 w (aG 176 2 u q xs :: aB gO 164 #[u] :: L))(hsz:a.tmps.size=53)(o1:Sl a 1 (.int .i64 zb))(o4:Sl a 4 (Pq gO 0))(o9:Sl a 9 (.int .i64 za)):bC false 8 f128 Q a w fun a' W q'=>(∃ v,Held w0 W (aG 176 2 v (q+1) (xs ++ [.int .i64 za,.int .i64 zb]) :: aB gO 164 #[v] :: L))->q':=by
 refine bU fun hend=>?_;unfold Sl at o1 o4 o9;obtain ⟨Au,cu,rfl,-,-⟩:=aS (S.at_ (l1:=[]));have c0:w.cell? ⟨gO,0,none⟩=some (.slice Au q cu):=(show aM w gO 164 _ from S.at_ (l1:=[_])).cell 0;have S1:=LH (S.alloc (.cells #[.int .i64 za,.int .i64 zb] 176));have HN:=LH (Rd.of_own (cZ w 176 2 1 #[.int .i64 za,.int .i64 zb] rfl (by decide)));have hb1:Hid (q+1<=maxLen ∧ (q+1) * 16<=140737488355328):=LH (by unfold maxLen;omega);clear S hq;go_wp2_with (at_builtin;refine cY rfl (.tmp 47) (.tmp 51) 164 176 rfl bCa underlying164 rfl (by decide) (.slice Au q cu) q xs aE S1.out (.slice (some ⟨w.heap.size,0,none⟩) 1 1) 1 [.int .i64 za,.int .i64 zb] aE HN.out (by intro x hx;simp at hx;rcases hx with rfl|rfl <;> rfl) hb1.out.1 hb1.out.2 ?_;intro v2 w2 S3;obtain ⟨A2,c2,hv2,-,-⟩:=aS (show Ow w2 176 2 v2 (q+1) _ from S3.at_ (l1:=[]));subst hv2;have c33:w2.cell? ⟨gO,0,none⟩=some (.slice Au q cu):=(show aM w2 gO 164 _ from S3.at_ (l1:=[_])).cell 0;have f33:=(show aM w2 gO 164 _ from S3.at_ (l1:=[_])).frozen 0;have S4:=LH (S3.set (l1:=[_]) 0 (.slice A2 (q+1) c2));clear S3)
 try simp only [Act.put]
 exact hend _ _ tS (⟨_,S4.out⟩)
theorem aRk(w0:World)(gO q:Nat)(hq:q<=1000000)(u:Value)(xs:List Value)(za zb:Int)(L:List Res)(S:Held w0 w (aG 176 2 u q xs :: aB gO 164 #[u] :: L))(hsz:a.tmps.size=53)(o0:Sl a 0 (.int .i64 za))(o4:Sl a 4 (Pq gO 0))(o9:Sl a 9 (.int .i64 zb)):bC false 2 f128 Q a w fun a' W q'=>(∃ v,Held w0 W (aG 176 2 v (q+1) (xs ++ [.int .i64 za,.int .i64 zb]) :: aB gO 164 #[v] :: L))->q':=by
 refine bU fun hend=>?_;unfold Sl at o0 o4 o9;obtain ⟨Au,cu,rfl,-,-⟩:=aS (S.at_ (l1:=[]));have c0:w.cell? ⟨gO,0,none⟩=some (.slice Au q cu):=(show aM w gO 164 _ from S.at_ (l1:=[_])).cell 0;have S1:=LH (S.alloc (.cells #[.int .i64 za,.int .i64 zb] 176));have HN:=LH (Rd.of_own (cZ w 176 2 1 #[.int .i64 za,.int .i64 zb] rfl (by decide)));have hb1:Hid (q+1<=maxLen ∧ (q+1) * 16<=140737488355328):=LH (by unfold maxLen;omega);clear S hq;go_wp2_with (at_builtin;refine cY rfl (.tmp 20) (.tmp 24) 164 176 rfl bCa underlying164 rfl (by decide) (.slice Au q cu) q xs aE S1.out (.slice (some ⟨w.heap.size,0,none⟩) 1 1) 1 [.int .i64 za,.int .i64 zb] aE HN.out (by intro x hx;simp at hx;rcases hx with rfl|rfl <;> rfl) hb1.out.1 hb1.out.2 ?_;intro v2 w2 S3;obtain ⟨A2,c2,hv2,-,-⟩:=aS (show Ow w2 176 2 v2 (q+1) _ from S3.at_ (l1:=[]));subst hv2;have c33:w2.cell? ⟨gO,0,none⟩=some (.slice Au q cu):=(show aM w2 gO 164 _ from S3.at_ (l1:=[_])).cell 0;have f33:=(show aM w2 gO 164 _ from S3.at_ (l1:=[_])).frozen 0;have S4:=LH (S3.set (l1:=[_]) 0 (.slice A2 (q+1) c2));clear S3)
 try simp only [Act.put]
 exact hend _ _ tS (⟨_,S4.out⟩)
theorem aY0(g3 g4 g5:Nat)(za zb:Int)(b:Bool)(R:World->Prop)(hb:aM w g5 188 #[.func (.func 128) #[] #[Pq g3 0,Pq g4 0,Pq g5 0]])(HC0:Calls prog 128 #[.int .i64 za,.int .i64 zb,.bool b,Pq g3 0,Pq g4 0,Pq g5 0] w fun e w'=>e=.returned (.tuple #[]) ∧ R w')(hsz:a.tmps.size=53)(o0:Sl a 0 (.int .i64 za))(o2:Sl a 2 (.bool b))(o5:Sl a 5 (Pq g5 0))(o9:Sl a 9 (.int .i64 zb)):bC false 7 f128 Q a w fun a' W q'=>(R W)->q':=by
 refine bU fun hend=>?_;unfold Sl at o0 o2 o5 o9;have HC:=LH HC0;clear HC0;have c0:w.cell? ⟨g5,0,none⟩=some (.func (.func 128) #[] #[Pq g3 0,Pq g4 0,Pq g5 0]):=hb.cell 0;clear hb;go_wp2_with fail
 refine HC.out.mono ?_;rintro e w1 ⟨rfl,r1⟩;have r1:=LH r1;go_wp2_with fail
 try simp only [Act.put]
 exact hend _ _ tS (r1.out)
theorem aUk(g3 g4 g5:Nat)(za zb:Int)(R:World->Prop)(hb:aM w g5 188 #[.func (.func 128) #[] #[Pq g3 0,Pq g4 0,Pq g5 0]])(HC0:Calls prog 128 #[.int .i64 za,.int .i64 zb,.bool false,Pq g3 0,Pq g4 0,Pq g5 0] w fun e w'=>e=.returned (.tuple #[]) ∧ R w')(hsz:a.tmps.size=53)(o1:Sl a 1 (.int .i64 zb))(o5:Sl a 5 (Pq g5 0))(o9:Sl a 9 (.int .i64 za)):bC false 1 f128 Q a w fun a' W q'=>(R W)->q':=by
 refine bU fun hend=>?_;unfold Sl at o1 o5 o9;have HC:=LH HC0;clear HC0;have c0:w.cell? ⟨g5,0,none⟩=some (.func (.func 128) #[] #[Pq g3 0,Pq g4 0,Pq g5 0]):=hb.cell 0;clear hb;go_wp2_with fail
 refine HC.out.mono ?_;rintro e w1 ⟨rfl,r1⟩;have r1:=LH r1;go_wp2_with fail
 try simp only [Act.put]
 exact hend _ _ tS (r1.out)
end
section
open Go.RowKit Go.Shelf
theorem xW(g3 g4 g5:Nat)(w0:World)(L:List Res):∀ (fu fr m n:Nat) (whole:Bool) (u:Value) (xs:List (Nat × Nat)) (w:World),1<=m->m<=n->n<=2 ^ fu->fr+n < 9223372036854775808->xs.length+fu<=900000->
 Held w0 w (aG 176 2 u (xs).length (kU (xs)) :: aB g4 164 #[u] :: aB g3 2 #[Nq (fr+m)] :: aB g5 188 #[.func (.func 128) #[] #[Pq g3 0,Pq g4 0,Pq g5 0]] :: L)->
 Calls prog 128 #[.int .i64 (fr:Int),Nq (fr+n),.bool whole,Pq g3 0,Pq g4 0,Pq g5 0] w fun e w'=>e=.returned (.tuple #[]) ∧ ∃ u',Held w0 w' (aG 176 2 u' (xs ++ cU (fu+1) m fr n whole).length (kU (xs ++ cU (fu+1) m fr n whole)) :: aB g4 164 #[u'] :: aB g3 2 #[Nq (fr+m)] :: aB g5 188 #[.func (.func 128) #[] #[Pq g3 0,Pq g4 0,Pq g5 0]] :: L)
 |fu,fr,m,n,whole,u,xs,w,h1,hm,hf,hn,hx,S=>by
  refine aR func128 rfl 53 rfl (fun a0 hsz hdf hAr=>?_);have hz0:a0.tmps.size=53:=hsz;have D:=hdf;have o0:=hAr 0 _ rfl;have o1:=hAr 1 _ rfl;have o2:=hAr 2 _ rfl;have o3:=hAr 3 _ rfl;have o4:=hAr 4 _ rfl;have o5:=hAr 5 _ rfl;refine wp_seq (aWc fr n (fr+n) (fr+aU n) (LH ⟨rfl,rfl,hn⟩) hz0 o0 o1 (fun a1 hs1 o9=>?_));obtain ⟨hz1,D,o0,o1,o2,o3,o4,o5⟩:=jF hs1 hz0 D o0 o1 o2 o3 o4 o5;refine wp_block ?_;refine wp_seq (aZ7 g3 ((fr+m:Nat):Int) ((fr+n:Nat):Int) (S.at_ (l1:=[_,_])) hz1 o1 o3 (fun a2 hs2 o26=>?_));obtain ⟨hz2,D,o0,o1,o2,o3,o4,o5,o9⟩:=vQ hs2 hz1 D o0 o1 o2 o3 o4 o5 o9
  by_cases he:m=n
  . subst he;refine cS o26 ?_ (by simp);refine wp_seq (aRw whole hz2 o2 (fun a3 hs3 o31=>?_));obtain ⟨hz3,D,o0,o1,o2,o3,o4,o5,o9,o26⟩:=kq8 hs3 hz2 D o0 o1 o2 o3 o4 o5 o9 o26
    cases whole
    . refine cS o31 ?_;refine aPl w0 g4 xs.length (by omega) u (kU xs) fr ((fr+m:Nat):Int) _ S hz3 o0 o1 o4 (fun a4 w4 hs4 h4=>?_);obtain ⟨v,S⟩:=h4
      try simp only [Exit.inBlock,Exit.then]
      refine ⟨hs4.defers.trans D,_,nT (by rfl),rfl,v,?_⟩;rw [bP,if_pos rfl,if_neg (by decide),iZ,List.length_append];exact S
    . refine dD o31 (wp_skip ?_)
      try simp only [Exit.inBlock,Exit.then]
      refine ⟨D,_,nT (by rfl),rfl,u,?_⟩;rw [bP,if_pos rfl,if_pos rfl,List.append_nil];exact S
  . have hq:(((fr+m:Nat):Int) == ((fr+n:Nat):Int))=false:=by rw [beq_eq_false_iff_ne];omega
    refine dD o26 ?_ (by rw [hq])
    obtain ⟨fu,rfl⟩:∃ fu',fu=fu'+1:=by
     cases fu with
     |zero=>simp at hf;omega
     |succ fu=>exact ⟨fu,rfl⟩
    have h2:2<=n:=by omega
    have hk1:=fM h2;have hk2:=gJ h2;obtain ⟨d1,d2⟩:=Deep.next (f:=fu) hf h2;refine wp_seq (aPj g3 ((fr+m:Nat):Int) ((fr+aU n:Nat):Int) (S.at_ (l1:=[_,_])) hz2 o3 o9 (fun a3 hs3 o38=>?_));obtain ⟨hz3,D,o0,o1,o2,o4,o5,o9⟩:=jF hs3 hz2 D o0 o1 o2 o4 o5 o9
    by_cases hk:m<=aU n
    . skip
      refine cS o38 ?_ (by rw [decide_eq_true (by omega)]);have HC:=xW g3 g4 g5 w0 L fu fr m (aU n) whole u xs w h1 hk d1 (by omega) (by omega) S;refine wp_seq (aY0 g3 g4 g5 fr ((fr+aU n:Nat):Int) whole _ (S.at_ (l1:=[_,_,_])) HC hz3 o0 o2 o5 o9 (fun a4 w4 hs4 h4=>?_));obtain ⟨v,S⟩:=h4;obtain ⟨hz4,D,o0,o1,o4,o9⟩:=fH hs4 hz3 D o0 o1 o4 o9;have hl:=dL (fu+1) m fr (aU n) whole;refine aWr w0 g4 (xs ++ cU (fu+1) m fr (aU n) whole).length (by rw [List.length_append];omega) v _ ((fr+aU n:Nat):Int) ((fr+n:Nat):Int) _ S hz4 o1 o4 o9 (fun a5 w5 hs5 h5=>?_);obtain ⟨v5,S⟩:=h5
      try simp only [Exit.inBlock,Exit.then]
      refine ⟨hs5.defers.trans D,_,nT (by rfl),rfl,v5,?_⟩;rw [bP,if_neg he,if_pos hk,<- List.append_assoc,iZ,List.length_append];exact S
    . have hm':fr+m=(fr+aU n)+(m - aU n):=by omega
      refine dD o38 ?_ (by rw [decide_eq_false (by omega)]);have hn':fr+n=(fr+aU n)+(n - aU n):=by omega
      have S':=S;rw [hm'] at S;have HC:=xW g3 g4 g5 w0 L fu (fr+aU n) (m - aU n) (n - aU n) false u xs w (by omega) (by omega) d2 (by omega) (by omega) S;rw [<- hn',<- hm'] at HC;refine wp_seq (aUk g3 g4 g5 ((fr+aU n:Nat):Int) ((fr+n:Nat):Int) _ (S.at_ (l1:=[_,_,_])) HC hz3 o1 o5 o9 (fun a4 w4 hs4 h4=>?_));obtain ⟨v,S⟩:=h4;obtain ⟨hz4,D,o0,o4,o9⟩:=dF hs4 hz3 D o0 o4 o9;have hl:=dL (fu+1) (m - aU n) (fr+aU n) (n - aU n) false;refine aRk w0 g4 (xs ++ cU (fu+1) (m - aU n) (fr+aU n) (n - aU n) false).length (by rw [List.length_append];omega) v _ fr ((fr+aU n:Nat):Int) _ S hz4 o0 o4 o9 (fun a5 w5 hs5 h5=>?_);obtain ⟨v5,S⟩:=h5
      try simp only [Exit.inBlock,Exit.then]
      refine ⟨hs5.defers.trans D,_,nT (by rfl),rfl,v5,?_⟩;rw [bP,if_neg he,if_neg hk,<- List.append_assoc,iZ,List.length_append];exact S
end
end Go.Proofs.YtmkfopmdingaoaaGreatDoor
