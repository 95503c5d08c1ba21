/- Several texts in one: Fkb, WireOpen, PtOpen, SgOpen, KyOpen, PtOpens, NtOpen, FkOpen, KyOpen2, MrLaid, Post, PostKept. -/
import Derived.SizedLaws
import Derived.Test.YtmkfopmdingaoaaGreatDoorCards
import Derived.Test.YtmkfopmdingaoaaGreatDoorTie
import Derived.ProofKit
import Derived.OpenShut
import Derived.Deep.DeepHandedRow
import Derived.Deep.DeepWitnessRowRef
import Derived.Lib.LaidTab
import Derived.LaidMore
import Derived.Stop.LaidErr
import Derived.Test.YtmkfopmdingaoaaGreatDoorRows
import Derived.Carry
import Derived.JoinedCond
import Derived.Test.YtmkfopmdingaoaaGreatDoorP10
set_option linter.unusedVariables false
set_option linter.unusedSimpArgs false
set_option maxRecDepth 100000
set_option maxHeartbeats 8000000
open Go.Proofs.Tryz
namespace Go.Proofs.YtmkfopmdingaoaaGreatDoor
section
open Go.RowKit Go.Shelf
attribute [local go_sem] Oper.semAt_some
theorem aYz{Q:Exit->Act->World->Prop}{a:Act}{w:World}(f:FkD)(hf:f.Ok)(a1 b1 p1:Value)(g5:Nat)(hb5:aM w g5 31 (f.cells a1 b1 p1))(hp1:∃ A n c,p1=.slice A n c)(a2 b2 p2:Value)(g2:Nat)(hb2:aM w g2 31 (f.cells a2 b2 p2))(hp2:∃ A n c,p2=.slice A n c)(s:ByteArray)(A:Option Addr)(n c:Nat)(g3:Nat)(hb3:aM w g3 34 #[.string s,.slice A n c])(cd:Int)(HC1:∀ V,Kp [] w V->Calls prog 9 #[.agg (f.cells a1 b1 p1),.agg #[.string s,.slice A n c]] V fun e w'=>e=.returned (.int .i64 cd) ∧ Kp [] V w')(HC2:∀ V,Kp [] w V->Calls prog 10 #[.agg (f.cells a2 b2 p2),.agg #[.string s,.slice A n c]] V fun e w'=>e=.returned (.int .i64 cd) ∧ Kp [] V w')(HC3:∀ V,Kp [] w V->Calls prog 11 #[.agg (bD f.z1 f.h1 a1),.agg (bD f.z1 f.h1 a2)] V fun e w'=>e=.returned (.bool true) ∧ Kp [] V w')(HC4:∀ V,Kp [] w V->Calls prog 11 #[.agg (bD f.z2 f.h2 b1),.agg (bD f.z2 f.h2 b2)] V fun e w'=>e=.returned (.bool true) ∧ Kp [] V w')(HC5:∀ V,Kp [] w V->Calls prog 12 #[p1,p2] V fun e w'=>e=.returned (.bool true) ∧ Kp [] V w')(HC6:∀ V,Kp [] w V->Calls prog 7 #[] V fun e w'=>e=.returned (.bool true) ∧ Kp [] V w')(hsz:a.tmps.size=74)(o2:Sl a 2 (Pq g2 0))(o3:Sl a 3 (Pq g3 0))(o5:Sl a 5 (Pq g5 0)):bC true 4 f3 Q a w fun a' W q'=>Kp [] w.drew W->Sl a' 4 (.bool true)->q':=by
 intro hend;have hap:=pa 4 f3;refine cO (l:=(aK 4 f3)) (fun i v W=>match i with|0=>v=.agg (f.cells a1 b1 p1)|1=>v=.agg #[.string s,.slice A n c]|2=>v=.int .i64 cd|3=>v=.agg (f.cells a2 b2 p2)|4=>v=.agg #[.string s,.slice A n c]|5=>v=.int .i64 cd|6=>v=.bool true|7=>v=.bool true|8=>v=Pq g5 0|9=>v=.agg (bD f.z1 f.h1 a1)|10=>v=Pq g2 0|11=>v=.agg (bD f.z1 f.h1 a2)|12=>v=.bool true|13=>v=.bool true|14=>v=.bool true|15=>v=Pq g5 34|16=>v=.agg (bD f.z2 f.h2 b1)|17=>v=Pq g2 34|18=>v=.agg (bD f.z2 f.h2 b2)|19=>v=.bool true|20=>v=.bool true|21=>v=.bool true|22=>v=Pq g5 100|23=>v=p1|24=>v=Pq g2 100|25=>v=p2|26=>v=.bool true|27=>v=.bool true|28=>v=.bool true|29=>v=.bool true|30=>v=.bool true|31=>v=.bool true|_=>True) (by kernel_rfl) hap (by kernel_rfl) ?_ ?_ ?_
 . exact fun _ _ _ _ h _=>h
 . and_intros <;> try (intro vs A' W hA hW hd K hK;try (refine aL _ rfl rfl ?_;conv=>arg 2;whnf))
   . exact dC (f.cells a1 b1 p1) (eO 5 o5) (aM.agg (hb5.kp (((Kp.refl [] w).drew).trans hW (by simp)) (by simp))) underlying31 (by rw [FkD.size hf];exact bC3)
   . obtain ⟨q1,q2,q3,q4⟩:=aM.c2 (hb3.kp (((Kp.refl [] w).drew).trans hW (by simp)) (by simp));exact aJ (eO 3 o3)
   . have e43:=vD 43 0;have e44:=vD 44 1;clear hA hd o2 o3 o5;go_step;refine (HC1 W (((Kp.refl [] w).drew).trans hW (by simp))).mono ?_;rintro e w' ⟨rfl,k1⟩;exact hK _ w' k1 rfl
   . exact dC (f.cells a2 b2 p2) (eO 2 o2) (aM.agg (hb2.kp (((Kp.refl [] w).drew).trans hW (by simp)) (by simp))) underlying31 (by rw [FkD.size hf];exact bC3)
   . obtain ⟨q1,q2,q3,q4⟩:=aM.c2 (hb3.kp (((Kp.refl [] w).drew).trans hW (by simp)) (by simp));exact aJ (eO 3 o3)
   . have e46:=vD 46 3;have e47:=vD 47 4;clear hA hd o2 o3 o5;go_step;refine (HC2 W (((Kp.refl [] w).drew).trans hW (by simp))).mono ?_;rintro e w' ⟨rfl,k1⟩;exact hK _ w' k1 rfl
   . exact cM (vD 45 2) (vD 48 5)
   . exact aJ (vD 49 6)
   . exact cC (eO 5 o5)
   . refine qH ?_;(conv=>arg 2;whnf);exact dC (bD f.z1 f.h1 a1) (vD 51 8) (aM.sub (hb5.kp (((Kp.refl [] w).drew).trans hW (by simp)) (by simp)) (fun _ _=>FkD.n1 hf)) underlying28 (by rw [aN hf.h1];exact bBz)
   . exact cC (eO 2 o2)
   . refine qH ?_;(conv=>arg 2;whnf);exact dC (bD f.z1 f.h1 a2) (vD 53 10) (aM.sub (hb2.kp (((Kp.refl [] w).drew).trans hW (by simp)) (by simp)) (fun _ _=>FkD.n1 hf)) underlying28 (by rw [aN hf.h1];exact bBz)
   . refine qH ?_;(conv=>arg 2;whnf);have e52:=vD 52 9;have e54:=vD 54 11;clear hA hd o2 o3 o5;go_step;refine (HC3 W (((Kp.refl [] w).drew).trans hW (by simp))).mono ?_;rintro e w' ⟨rfl,k1⟩;exact hK _ w' k1 rfl
   . exact cM (vD 50 7) (vD 55 12)
   . exact aJ (vD 56 13)
   . exact cC (eO 5 o5)
   . refine qH ?_;(conv=>arg 2;whnf);exact dC (bD f.z2 f.h2 b1) (vD 58 15) (aM.sub (hb5.kp (((Kp.refl [] w).drew).trans hW (by simp)) (by simp)) (fun _ _=>FkD.n2 hf)) underlying28 (by rw [aN hf.h2];exact bBz)
   . exact cC (eO 2 o2)
   . refine qH ?_;(conv=>arg 2;whnf);exact dC (bD f.z2 f.h2 b2) (vD 60 17) (aM.sub (hb2.kp (((Kp.refl [] w).drew).trans hW (by simp)) (by simp)) (fun _ _=>FkD.n2 hf)) underlying28 (by rw [aN hf.h2];exact bBz)
   . refine qH ?_;(conv=>arg 2;whnf);have e59:=vD 59 16;have e61:=vD 61 18;clear hA hd o2 o3 o5;go_step;refine (HC4 W (((Kp.refl [] w).drew).trans hW (by simp))).mono ?_;rintro e w' ⟨rfl,k1⟩;exact hK _ w' k1 rfl
   . exact cM (vD 57 14) (vD 62 19)
   . exact aJ (vD 63 20)
   . exact cC (eO 5 o5)
   . refine qH ?_;(conv=>arg 2;whnf);obtain ⟨Ap,np,cp,rfl⟩:=hp1;have c0:W.cell? ⟨g5,100,none⟩=some (.slice Ap np cp):=by rw [(hb5.kp (((Kp.refl [] w).drew).trans hW (by simp)) (by simp)).cell];exact FkD.pr hf
     exact aJ (vD 65 22)
   . exact cC (eO 2 o2)
   . refine qH ?_;(conv=>arg 2;whnf);obtain ⟨Ap,np,cp,rfl⟩:=hp2;have c0:W.cell? ⟨g2,100,none⟩=some (.slice Ap np cp):=by rw [(hb2.kp (((Kp.refl [] w).drew).trans hW (by simp)) (by simp)).cell];exact FkD.pr hf
     exact aJ (vD 67 24)
   . refine qH ?_;(conv=>arg 2;whnf);have e66:=vD 66 23;have e68:=vD 68 25;clear hA hd o2 o3 o5;go_step;refine (HC5 W (((Kp.refl [] w).drew).trans hW (by simp))).mono ?_;rintro e w' ⟨rfl,k1⟩;exact hK _ w' k1 rfl
   . exact cM (vD 64 21) (vD 69 26)
   . exact aJ (vD 70 27)
   . refine qH ?_;(conv=>arg 2;whnf);clear hA hd o2 o3 o5;go_step;refine (HC6 W (((Kp.refl [] w).drew).trans hW (by simp))).mono ?_;rintro e w' ⟨rfl,k1⟩;exact hK _ w' k1 rfl
   . exact cM (vD 71 28) (vD 72 29)
   . exact aJ (vD 73 30)
   . trivial
 . intro vs W hW hp;rw [aF];exact hend _ W sQ hW (sW (hp 31 sB))
theorem FkD.small(f:FkD)(h1:f.h1.length=32)(h2:f.h2.length=32)(hr:f.r.length=32):({ f with l1:=[],l2:=[],pf:=[] }:FkD).Ok:=⟨h1,h2,hr,aA7,aA7,Nat.zero_le _,Nat.zero_le _,tI,Nat.zero_le _⟩
theorem zO{V:World}{g c:Nat}{l:List bF}(hl:dI l)(h:Rd V 33 (.slice (some ⟨g,0,none⟩) (l.length+1) c) (l.length+1) (bB (l ++ [dX]))):Rd V 33 (.slice (some ⟨g,0,none⟩) l.length c) l.length (bB l):=by
 have hok1:dI (l ++ [dX]):=by
  intro s hs;rcases List.mem_append.1 hs with hs|hs
  . exact hl s hs
  . rw [List.mem_singleton.1 hs];exact ⟨rfl,by decide⟩
 have:=aB4 hok1 h (by rw [List.length_append];rfl) (show l.length<=l.length+1 by omega)
 rwa [List.take_left' rfl] at this
theorem rP{w:World}(f:FkD)(h1:f.h1.length=32)(h2:f.h2.length=32)(hr:f.r.length=32)(l1:dI f.l1)(l2:dI f.l2)(hpf:dP f.pf)(hzf1:-9223372036854775808<=f.z1 ∧ f.z1<=9223372036854775807)(hzf2:-9223372036854775808<=f.z2 ∧ f.z2<=9223372036854775807)(A1 A2 Ap:Option Addr)(c1 c2 cp:Nat)(rd1:Rd w 33 (.slice A1 f.l1.length c1) f.l1.length (bB f.l1))(rd2:Rd w 33 (.slice A2 f.l2.length c2) f.l2.length (bB f.l2))(rdp:Rd w 32 (.slice Ap f.pf.length cp) f.pf.length (dA f.pf))(nm:Bs)(hnm:nm.length<=9223372036854775807)(Ak:Option Addr)(ck:Nat)(sec:Bs)(rdk:Rd w 1 (.slice Ak sec.length ck) sec.length (bv sec))(LDw:LD w):
 Calls prog 3 #[.agg (f.cells (.slice A1 f.l1.length c1) (.slice A2 f.l2.length c2) (.slice Ap f.pf.length cp)),.agg #[bX nm,.slice Ak sec.length ck]] w fun e w'=>e=.returned (.bool true) ∧ Kp [] w w':=by
 have f0:=f.small h1 h2 hr;refine aR func3 rfl 74 rfl (fun a0 hsz hdf hAr=>?_);have hz0:a0.tmps.size=74:=hsz;have D:=hdf;have o0:=hAr 0 _ rfl;have o1:=hAr 1 _ rfl;refine wp_seq (aW7 w (f.cells (.slice A1 f.l1.length c1) (.slice A2 f.l2.length c2) (.slice Ap f.pf.length cp)) (FkD.size (f:={ f with l1:=[],l2:=[],pf:=[] }) f0) (FkD.one f _ _ _ _ _ _ _ _ _) ⟨nm.toArray⟩ Ak sec.length ck [] (Held.start w) hz0 o0 o1 (fun a1 w1 hs1 o4 h1=>?_));obtain ⟨hz1,D⟩:=dS hs1 hz0 D;obtain ⟨g2,g3,o2,o3,S⟩:=h1;have k33:(f.cells (.slice A1 f.l1.length c1) (.slice A2 f.l2.length c2) (.slice Ap f.pf.length cp))[33]?=some (.slice A1 f.l1.length c1):=FkD.n1 (f:={ f with l1:=[],l2:=[],pf:=[] }) f0 (j:=33) (by rw [Array.getElem?_toList];exact cP h1);have k67:(f.cells (.slice A1 f.l1.length c1) (.slice A2 f.l2.length c2) (.slice Ap f.pf.length cp))[67]?=some (.slice A2 f.l2.length c2):=FkD.n2 (f:={ f with l1:=[],l2:=[],pf:=[] }) f0 (j:=33) (by rw [Array.getElem?_toList];exact cP h2);have k100:(f.cells (.slice A1 f.l1.length c1) (.slice A2 f.l2.length c2) (.slice Ap f.pf.length cp))[100]?=some (.slice Ap f.pf.length cp):=FkD.pr (f:={ f with l1:=[],l2:=[],pf:=[] }) f0
 by_cases hc0:100 < f.pf.length
 case pos=>
  refine wp_seq (wp_seq (aKn f.l1.length f.l2.length f.pf.length A1 A2 Ap c1 c2 cp _ g2 (S.at_ (l1:=[_])) k33 k67 k100 ⟨nm.toArray⟩ Ak sec.length ck g3 (S.at_ (l1:=[])) hc0 hz1 o2 o3 (fun a2 w2 hs2 k2 o29=>?_)));obtain ⟨hz2,D,o2,o3⟩:=dU hs2 hz1 D o2 o3;have S2:=S.kp k2;refine cS o29 ?_;refine wp_seq (xN (iC _ (LDw.kp S2.k)) hz2 (fun a3 w3 hs3 o4 k3=>?_));obtain ⟨hz3,D⟩:=dS hs3 hz2 D;refine wp_ret ?_;simp only [Exit.then];exact bodyPost_ret (bA (by rfl) (o4.eval (by rw [hz3];decide))) D ⟨rfl,S2.k.trans k3 (by simp)⟩
 by_cases hc1:70 < f.l1.length
 case pos=>
  refine wp_seq (wp_seq (aN9 f.l1.length f.l2.length f.pf.length A1 A2 Ap c1 c2 cp _ g2 (S.at_ (l1:=[_])) k33 k67 k100 ⟨nm.toArray⟩ Ak sec.length ck g3 (S.at_ (l1:=[])) ⟨by omega,hc1⟩ hz1 o2 o3 (fun a2 w2 hs2 k2 o29=>?_)));obtain ⟨hz2,D,o2,o3⟩:=dU hs2 hz1 D o2 o3;have S2:=S.kp k2;refine cS o29 ?_;refine wp_seq (xN (iC _ (LDw.kp S2.k)) hz2 (fun a3 w3 hs3 o4 k3=>?_));obtain ⟨hz3,D⟩:=dS hs3 hz2 D;refine wp_ret ?_;simp only [Exit.then];exact bodyPost_ret (bA (by rfl) (o4.eval (by rw [hz3];decide))) D ⟨rfl,S2.k.trans k3 (by simp)⟩
 by_cases hc2:70 < f.l2.length
 case pos=>
  refine wp_seq (wp_seq (aLx f.l1.length f.l2.length f.pf.length A1 A2 Ap c1 c2 cp _ g2 (S.at_ (l1:=[_])) k33 k67 k100 ⟨nm.toArray⟩ Ak sec.length ck g3 (S.at_ (l1:=[])) ⟨by omega,by omega,hc2⟩ hz1 o2 o3 (fun a2 w2 hs2 k2 o29=>?_)));obtain ⟨hz2,D,o2,o3⟩:=dU hs2 hz1 D o2 o3;have S2:=S.kp k2;refine cS o29 ?_;refine wp_seq (xN (iC _ (LDw.kp S2.k)) hz2 (fun a3 w3 hs3 o4 k3=>?_));obtain ⟨hz3,D⟩:=dS hs3 hz2 D;refine wp_ret ?_;simp only [Exit.then];exact bodyPost_ret (bA (by rfl) (o4.eval (by rw [hz3];decide))) D ⟨rfl,S2.k.trans k3 (by simp)⟩
 refine wp_seq (wp_seq (aO0 f.l1.length f.l2.length f.pf.length A1 A2 Ap c1 c2 cp _ g2 (S.at_ (l1:=[_])) k33 k67 k100 ⟨nm.toArray⟩ Ak sec.length ck g3 (S.at_ (l1:=[])) ⟨by omega,by omega,by omega⟩ hz1 o2 o3 (fun a2 w2 hs2 k2 o29=>?_)));obtain ⟨hz2,D,o2,o3⟩:=dU hs2 hz1 D o2 o3;have S2:=S.kp k2
 by_cases hc3:300 < sec.length
 case pos=>
  refine cS o29 ?_ (by rw [decide_eq_true hc3]);refine wp_seq (xN (iC _ (LDw.kp S2.k)) hz2 (fun a3 w3 hs3 o4 k3=>?_));obtain ⟨hz3,D⟩:=dS hs3 hz2 D;refine wp_ret ?_;simp only [Exit.then];exact bodyPost_ret (bA (by rfl) (o4.eval (by rw [hz3];decide))) D ⟨rfl,S2.k.trans k3 (by simp)⟩
 refine dD o29 (wp_skip ?_) (by rw [decide_eq_false hc3]);simp only [Exit.then];have hf:f.Ok:=⟨h1,h2,hr,l1,l2,by omega,by omega,hpf,by omega⟩;refine wp_seq (aV3 w g2 f hf A1 A2 Ap c1 c2 cp _ (fun V kV=>aT rd1 kV) (fun V kV=>aT rd2 kV) (fun V kV=>aT rdp kV) hz2 o2 (S2.pull 1 rfl) (fun a3 vs gs w3 hs3 o5 S3=>?_));obtain ⟨hz3,D,o2,o3⟩:=dU hs3 hz2 D o2 o3;generalize gs 2=x2 at *;generalize gs 5=x5 at *;generalize gs 12=x12 at *;obtain ⟨r1,d1⟩:=x2;obtain ⟨r2,d2⟩:=x5;obtain ⟨g5,z5⟩:=x12;generalize vs 10=p1 at *;obtain ⟨Aq,cq,rfl,-⟩:=aS (S3.at_ (l1:=[_,_]));have rr1:∀ V,Kp [] w3 V->Rd V 33 (.slice (some ⟨r1,0,none⟩) f.l1.length d1) f.l1.length (bB f.l1):=fun V kV=>zO l1 (Rd.of_own ((S3.kp kV).at_ (l1:=[])))
 have rr2:∀ V,Kp [] w3 V->Rd V 33 (.slice (some ⟨r2,0,none⟩) f.l2.length d2) f.l2.length (bB f.l2):=fun V kV=>zO l2 (Rd.of_own ((S3.kp kV).at_ (l1:=[_])))
 have rrp:∀ V,Kp [] w3 V->Rd V 32 (.slice Aq f.pf.length cq) f.pf.length (dA f.pf):=fun V kV=>Rd.of_own ((S3.kp kV).at_ (l1:=[_,_]))
 have HC1:∀ V,Kp [] w3 V->Calls prog 9 #[.agg (f.cells (.slice (some ⟨r1,0,none⟩) f.l1.length d1) (.slice (some ⟨r2,0,none⟩) f.l2.length d2) (.slice Aq f.pf.length cq)),.agg #[bX nm,.slice Ak sec.length ck]] V fun e w'=>e=.returned (.int .i64 (fG f nm sec)) ∧ Kp [] V w':=fun V kV=>uI f hf hzf1 hzf2 _ _ _ d1 d2 cq nm hnm Ak ck sec V (LDw.kp (S3.k.trans kV (by simp))) (aT rdk (S3.k.trans kV (by simp))) (rr1 V kV) (rr2 V kV) (rrp V kV)
 have HC2:∀ V,Kp [] w3 V->Calls prog 10 #[.agg (f.cells (.slice A1 f.l1.length c1) (.slice A2 f.l2.length c2) (.slice Ap f.pf.length cp)),.agg #[bX nm,.slice Ak sec.length ck]] V fun e w'=>e=.returned (.int .i64 (fG f nm sec)) ∧ Kp [] V w':=fun V kV=>aA3 f hf hzf1 hzf2 A1 A2 Ap c1 c2 cp nm hnm Ak ck sec V (aT rdk (S3.k.trans kV (by simp))) (aT rd1 (S3.k.trans kV (by simp))) (aT rd2 (S3.k.trans kV (by simp))) (aT rdp (S3.k.trans kV (by simp)))
 have cr1:=(sC (S3.at_ (l1:=[])) (Nat.succ_pos _));have cr2:=(sC (S3.at_ (l1:=[_])) (Nat.succ_pos _));obtain ⟨_,_,hh1,hd1,-⟩:=cr1;obtain ⟨_,_,hh2,hd2,-⟩:=cr2
 cases hh1
 cases hh2;have HC3:∀ V,Kp [] w3 V->Calls prog 11 #[.agg (bD f.z1 f.h1 (.slice (some ⟨r1,0,none⟩) f.l1.length d1)),.agg (bD f.z1 f.h1 (.slice A1 f.l1.length c1))] V fun e w'=>e=.returned (.bool true) ∧ Kp [] V w':=fun V kV=>vC f.z1 f.h1 h1 A1 c1 f.l1 l1 (by omega) r1 d1 hd1 V (aT rd1 (S3.k.trans kV (by simp))) ((S3.kp kV).at_ (l1:=[]))
 have HC4:∀ V,Kp [] w3 V->Calls prog 11 #[.agg (bD f.z2 f.h2 (.slice (some ⟨r2,0,none⟩) f.l2.length d2)),.agg (bD f.z2 f.h2 (.slice A2 f.l2.length c2))] V fun e w'=>e=.returned (.bool true) ∧ Kp [] V w':=fun V kV=>vC f.z2 f.h2 h2 A2 c2 f.l2 l2 (by omega) r2 d2 hd2 V (aT rd2 (S3.k.trans kV (by simp))) ((S3.kp kV).at_ (l1:=[_]))
 have HC5:∀ V,Kp [] w3 V->Calls prog 12 #[.slice Aq f.pf.length cq,.slice Ap f.pf.length cp] V fun e w'=>e=.returned (.bool true) ∧ Kp [] V w':=fun V kV=>by
  have:=aBr Aq Ap cq cp f.pf f.pf hpf hpf V (rrp V kV) (aT rdp (S3.k.trans kV (by simp)))
  rw [beq_self_eq_true] at this;exact this
 refine wp_seq (aYz f hf _ _ _ g5 (S3.at_ (l1:=[_,_,_])) ⟨_,_,_,rfl⟩ _ _ _ g2 (S3.at_ (l1:=[_,_,_,_])) ⟨_,_,_,rfl⟩ ⟨nm.toArray⟩ Ak sec.length ck g3 (S3.at_ (l1:=[_,_,_,_,_])) (fG f nm sec) HC1 HC2 HC3 HC4 HC5 (fun V kV=>iC V (LDw.kp (S3.k.trans kV (by simp)))) hz3 o2 o3 o5 (fun a4 w4 hs4 k4 o4=>?_));obtain ⟨hz4,D⟩:=dS hs4 hz3 D;refine wp_ret ?_;exact bodyPost_ret (bA (by rfl) (o4.eval (by rw [hz4];decide))) D ⟨rfl,(S3.k.trans ((Kp.refl [] w3).drew) (by simp)).trans k4 (by simp)⟩
end
section
open Go.RowKit Go.WideShapes Go.ChangeShapes
section
variable {H:Type} {enc:TypeId × Value->H}
theorem mW{P:Program}{W:World}{n m:Nat}{t e:TypeId}{cs:List Value}{x:DataW H × List MemPlace}(ht:P.underlying t=some (.array m e))(he:P.underlying e=some (.int .u8))(hc:P.cellsOf e=1)(hct:P.cellsOf t=m)
 (h:DataW.trod enc P W 0 (fun _=>true) true n t cs=some x):∃ h:List UInt8,h.length=m ∧ cs=bv h ∧ m+1<=Rows.uptoBulk x.1:=by
 obtain ⟨xs,k,rfl,rfl,hl,hxl,hel⟩:=DataW.trod_array ht h;rw [hct] at hl
 have one:∀ i,i < m->∃ z:Int,cs[i]?=some (.int .u8 z) ∧ 0<=z ∧ z<=255:=fun i hi=>by
  have h1:=hel i hi;rw [hc,Nat.mul_one,aIy] at h1;have hx:xs[i]?=some xs[i]:=List.getElem?_eq_getElem (by omega);rw [hx] at h1;obtain ⟨z,hz,_,hw⟩:=DataW.trod_int he h1;have hw:=aH4 hw
  cases hcs:cs[i]? with
  |none=>rw [hcs] at hz;cases hz
  |some v=>rw [hcs] at hz;cases hz;exact ⟨z,rfl,hw.1,hw.2⟩
 refine ⟨(List.range m).map fun i=>(match (cs[i]?:Option Value) with|some (Value.int _ z)=>UInt8.ofNat z.toNat|_=>0),by simp,?_,?_⟩
 . apply List.ext_getElem?
   intro i;rw [iA,List.getElem?_map]
   by_cases hi:i < m
   . obtain ⟨z,hz,h1,h2⟩:=one i hi;rw [hz,List.getElem?_range hi];simp only [Option.map_some];rw [hz];simp only [UInt8.toNat_ofNat',Nat.mod_eq_of_lt (show z.toNat < 2 ^ 8 by omega)]
     congr 2
     omega
   . rw [List.getElem?_eq_none (by omega),List.getElem?_eq_none (by simp;omega)]
     rfl
 . simp only [Rows.uptoBulk];have:=yF (xs.map (·.1))
   rw [List.length_map,hxl] at this;omega
theorem bC6:prog.cellsOf 23=32:=by kernel_rfl
end
end
section
open Go.RowKit Go.WideShapes Go.ChangeShapes
section
variable {H:Type} {enc:TypeId × Value->H}
theorem bCn:prog.cellsOf 25=33:=by kernel_rfl
theorem bDb:prog.cellsOf 2=1:=by kernel_rfl
theorem aLq{W:World}{n:Nat}{cs:List Value}{x:DataW H × List MemPlace}(h:DataW.trod enc prog W 0 (fun _=>true) true n 25 cs=some x):
 ∃ (z:Int) (hh:Bs),cs=(cL z hh).toList ∧ (-9223372036854775808<=z ∧ z<=9223372036854775807) ∧ hh.length=32:=by
 obtain ⟨xs,k,rfl,rfl,hl,hxl,hf⟩:=DataW.trod_struct underlying25 h;rw [bCn] at hl
 obtain ⟨x0,x1,rfl⟩:∃ x0 x1,xs=[x0,x1]:=by
  match xs,hxl with
  |[x0,x1],_=>exact ⟨x0,x1,rfl⟩
 have f0:DataW.trod enc prog W 0 (fun _=>true) true k 2 ((cs.drop 0).take (prog.cellsOf 2))=some x0:=hf 0 _ rfl;have f1:DataW.trod enc prog W 0 (fun _=>true) true k 23 ((cs.drop 1).take (prog.cellsOf 23))=some x1:=hf 1 _ rfl;rw [bDb] at f0;rw [bC6] at f1;clear hf hxl;obtain ⟨z,e0,_,w0⟩:=DataW.trod_int underlying2 f0;obtain ⟨hh,hhl,e1,_⟩:=mW underlying23 underlying5 bCc bC6 f1;have w0:=aNs w0;have g0:=mV (i:=0) e0;refine ⟨z,hh,?_,w0,hhl⟩;obtain ⟨a,l,rfl⟩:=List.exists_cons_of_length_pos (l:=cs) (by omega);rw [List.length_cons] at hl;have g0:=Option.some.inj g0;subst g0
 have:l=bv hh:=by
  rw [<- e1,List.drop_succ_cons,List.drop_zero,List.take_of_length_le (by omega)]
 rw [this]
 rfl
end
end
section
open Go.RowKit Go.WideShapes Go.ChangeShapes
section
variable {H:Type} {enc:TypeId × Value->H}
theorem bD9:prog.cellsOf 34=2:=by kernel_rfl
theorem bCl:prog.cellsOf 9=1:=by kernel_rfl
theorem bCx:prog.cellsOf 32=1:=by kernel_rfl
theorem zZ(s:ByteArray):bX s.data.toList=.string s:=by
 unfold bX
 congr 1
end
end
section
open Go.RowKit Go.WideShapes Go.ChangeShapes
section
variable {H:Type} {enc:TypeId × Value->H}
theorem bCp:prog.cellsOf 89=33:=by kernel_rfl
theorem bCm:prog.cellsOf 28=34:=by kernel_rfl
theorem bDe:prog.cellsOf 26=1:=by kernel_rfl
theorem aH8{W:World}{n:Nat}{cs:List Value}{x:DataW H × List MemPlace}(h:DataW.trod enc prog W 0 (fun _=>true) true n 89 cs=some x):
 ∃ s:bF,cs=vW s ∧ s.2.length=32 ∧ s.1.length<=9223372036854775807:=by
 obtain ⟨xs,k,rfl,rfl,hl,hxl,hf⟩:=DataW.trod_struct underlying89 h;rw [bCp] at hl
 obtain ⟨x0,x1,rfl⟩:∃ x0 x1,xs=[x0,x1]:=by
  match xs,hxl with
  |[x0,x1],_=>exact ⟨x0,x1,rfl⟩
 have f0:DataW.trod enc prog W 0 (fun _=>true) true k 9 ((cs.drop 0).take (prog.cellsOf 9))=some x0:=hf 0 _ rfl;have f1:DataW.trod enc prog W 0 (fun _=>true) true k 23 ((cs.drop 1).take (prog.cellsOf 23))=some x1:=hf 1 _ rfl;rw [bCl] at f0;rw [bC6] at f1;clear hf hxl;obtain ⟨s,e0,rfl,hs⟩:=DataW.trod_string underlying9 f0;obtain ⟨hh,hhl,e1,_⟩:=mW underlying23 underlying5 bCc bC6 f1;have g0:=mV (i:=0) e0;rw [Lib.size_eq] at hs;refine ⟨(s.data.toList,hh),?_,hhl,Nat.le_trans hs (by unfold maxLen;omega)⟩;obtain ⟨a,l,rfl⟩:=List.exists_cons_of_length_pos (l:=cs) (by omega);rw [List.length_cons] at hl;have g0:=Option.some.inj g0;subst g0
 have:l=bv hh:=by
  rw [<- e1,List.drop_succ_cons,List.drop_zero,List.take_of_length_le (by omega)]
 rw [this];unfold vW;rw [zZ]
theorem aGx{l:List bF}(hok:dI l){j:Nat}{u:Value}(h:(bB l)[j]?=some u):∃ s,l[j / 33]?=some s ∧ (vW s)[j % 33]?=some u:=by
 have hl:=eK hok;have hj:=(List.getElem?_eq_some_iff.1 h).1;obtain ⟨q,hq⟩:∃ q,l[j / 33]?=some q:=⟨_,List.getElem?_eq_getElem (by omega)⟩;have hs:=jD (s:=q) (hok q (List.mem_of_getElem? hq)).1;obtain ⟨v,hv⟩:∃ v,(vW q)[j % 33]?=some v:=⟨_,List.getElem?_eq_getElem (by rw [hs];omega)⟩;have:=wZ hok hq _ _ hv
 rw [show j / 33 * 33+j % 33=j from by omega,h] at this;exact ⟨q,hq,by rw [hv,<- this]⟩
theorem aDa{W:World}{n:Nat}{v:Value}{x:DataW H × List MemPlace}(h:DataW.trod enc prog W 0 (fun _=>true) true n 26 [v]=some x):
 ∃ l,Rd W 33 v l.length (bB l) ∧ dI l ∧ (l=[] ∨ ∃ elems spare,x.1=.slice elems spare ∧ elems.length=l.length):=by
 rcases Deep.open_slice underlying26 h with ⟨hv,rfl⟩|⟨a,len,cap,m,k,D,Pl,hv,_,hl,hm,hmm,rfl,hel⟩
 . cases hv;exact ⟨[],Rd.nil _ _,(fun _ h=>by cases h),.inl rfl⟩
 . cases hv;simp only [if_true] at hmm
   obtain ⟨G,hG⟩:=Deep.choose_lt (α:=bF) (n:=len) (p:=fun i q=>(∀ j u,(vW q)[j]?=some u->W.cell? ((a.add (i * 33)).add j)=some u) ∧ q.2.length=32 ∧ q.1.length<=9223372036854775807) (fun i hi=>by
    obtain ⟨cs,h1,h2⟩:=hel i (by omega);rw [bCp] at h1;obtain ⟨s,rfl,hs1,hs2⟩:=aH8 h2;obtain ⟨_,hlen,hcell⟩:=World.cells?_some h1;exact ⟨s,(fun j u hu=>by rw [hcell j (by have:=(List.getElem?_eq_some_iff.1 hu).1;rw [jD hs1] at this;omega)];exact hu),hs1,hs2⟩)
   have hget:∀ i q,((List.range len).map G)[i]?=some q->i < len ∧ q=G i:=fun i q h=>by
    rw [List.getElem?_map] at h
    by_cases hi:i < len
    . rw [List.getElem?_range hi] at h;exact ⟨hi,(Option.some.inj h).symm⟩
    . rw [List.getElem?_eq_none (by simp;omega)] at h;cases h
   have hok:dI ((List.range len).map G):=fun q hq=>by
    obtain ⟨i,hi,rfl⟩:=List.mem_map.1 hq;exact (hG i (List.mem_range.1 hi)).2
   refine ⟨(List.range len).map G,?_,hok,.inr ⟨_,_,rfl,by simp⟩⟩;have hlen:((List.range len).map G).length=len:=by simp
   have hC:=eK hok;rw [hlen] at hC ⊢;refine aCl hC hl hm (fun ad had j u hu=>?_)
   cases had;obtain ⟨q,hq,hqu⟩:=aGx hok hu;obtain ⟨hi,rfl⟩:=hget _ _ hq;have:=(hG _ hi).1 _ _ hqu
   rw [dZ,show j / 33 * 33+j % 33=j from by omega] at this;exact this
theorem aCd{W:World}{n:Nat}{cs:List Value}{x:DataW H × List MemPlace}(h:DataW.trod enc prog W 0 (fun _=>true) true n 28 cs=some x):
 ∃ (z:Int) (hh:Bs) (v:Value) (l:List bF),cs=pK z hh v ∧ (-9223372036854775808<=z ∧ z<=9223372036854775807) ∧ hh.length=32 ∧ Rd W 33 v l.length (bB l) ∧ dI l ∧ ∃ d0 d1,x.1=.agg [d0,d1] ∧ (l=[] ∨ ∃ elems spare,d1=.slice elems spare ∧ elems.length=l.length):=by
 obtain ⟨xs,k,rfl,rfl,hl,hxl,hf⟩:=DataW.trod_struct underlying28 h;rw [bCm] at hl
 obtain ⟨x0,x1,rfl⟩:∃ x0 x1,xs=[x0,x1]:=by
  match xs,hxl with
  |[x0,x1],_=>exact ⟨x0,x1,rfl⟩
 have f0:DataW.trod enc prog W 0 (fun _=>true) true k 25 ((cs.drop 0).take (prog.cellsOf 25))=some x0:=hf 0 _ rfl;have f1:DataW.trod enc prog W 0 (fun _=>true) true k 26 ((cs.drop 33).take (prog.cellsOf 26))=some x1:=hf 1 _ rfl;rw [bCn] at f0;rw [bDe] at f1;clear hf hxl;obtain ⟨z,hh,e0,hz,hhl⟩:=aLq f0
 obtain ⟨v,hv⟩:∃ v,(cs.drop 33).take 1=[v]:=by
  obtain ⟨a,ha⟩:∃ a,cs.drop 33=[a]:=List.length_eq_one_iff.1 (by rw [List.length_drop,hl]);exact ⟨a,by rw [ha];rfl⟩
 rw [hv] at f1;obtain ⟨l,hr,hok,hb⟩:=aDa f1;refine ⟨z,hh,v,l,?_,hz,hhl,hr,hok,_,_,rfl,hb⟩;have h2:cs.drop 33=[v]:=by rw [<- hv,List.take_of_length_le (by rw [List.length_drop,hl];decide)]
 rw [<- List.take_append_drop 33 cs,h2];rw [List.drop_zero] at e0;rw [e0]
 rfl
end
end
section
open Go.RowKit Go.WideShapes Go.ChangeShapes
section
variable {H:Type} {enc:TypeId × Value->H}
theorem bD0:prog.cellsOf 31=101:=by kernel_rfl
theorem bDj:prog.cellsOf 29=1:=by kernel_rfl
theorem aLa{l:List (List UInt8)}(hok:dP l){j:Nat}{u:Value}(h:(dA l)[j]?=some u):∃ s,l[j / 32]?=some s ∧ (bv s)[j % 32]?=some u:=by
 have hl:=fS hok;have hj:=(List.getElem?_eq_some_iff.1 h).1;obtain ⟨q,hq⟩:∃ q,l[j / 32]?=some q:=⟨_,List.getElem?_eq_getElem (by omega)⟩;have hs:=hok q (List.mem_of_getElem? hq);obtain ⟨v,hv⟩:∃ v,(bv q)[j % 32]?=some v:=⟨_,List.getElem?_eq_getElem (by rw [aX,hs];omega)⟩;have:=xL hok hq hv
 rw [show j / 32 * 32+j % 32=j from by omega,h] at this;exact ⟨q,hq,by rw [hv,<- this]⟩
theorem aL1{W:World}{n:Nat}{v:Value}{x:DataW H × List MemPlace}(h:DataW.trod enc prog W 0 (fun _=>true) true n 29 [v]=some x):
 ∃ l,Rd W 32 v l.length (dA l) ∧ dP l ∧ (l=[] ∨ ∃ elems spare,x.1=.slice elems spare ∧ elems.length=l.length):=by
 rcases Deep.open_slice underlying29 h with ⟨hv,rfl⟩|⟨a,len,cap,m,k,D,Pl,hv,_,hl,hm,hmm,rfl,hel⟩
 . cases hv;exact ⟨[],Rd.nil _ _,(fun _ h=>by cases h),.inl rfl⟩
 . cases hv;simp only [if_true] at hmm
   obtain ⟨G,hG⟩:=Deep.choose_lt (α:=List UInt8) (n:=len) (p:=fun i q=>(∀ j u,(bv q)[j]?=some u->W.cell? ((a.add (i * 32)).add j)=some u) ∧ q.length=32) (fun i hi=>by
    obtain ⟨cs,h1,h2⟩:=hel i (by omega);rw [bC6] at h1;obtain ⟨s,hs1,rfl,-⟩:=mW underlying23 underlying5 bCc bC6 h2;obtain ⟨_,hlen,hcell⟩:=World.cells?_some h1;exact ⟨s,(fun j u hu=>by rw [hcell j (by have:=(List.getElem?_eq_some_iff.1 hu).1;rw [aX,hs1] at this;omega)];exact hu),hs1⟩)
   have hget:∀ i q,((List.range len).map G)[i]?=some q->i < len ∧ q=G i:=fun i q h=>by
    rw [List.getElem?_map] at h
    by_cases hi:i < len
    . rw [List.getElem?_range hi] at h;exact ⟨hi,(Option.some.inj h).symm⟩
    . rw [List.getElem?_eq_none (by simp;omega)] at h;cases h
   have hok:dP ((List.range len).map G):=fun q hq=>by
    obtain ⟨i,hi,rfl⟩:=List.mem_map.1 hq;exact (hG i (List.mem_range.1 hi)).2
   refine ⟨(List.range len).map G,?_,hok,.inr ⟨_,_,rfl,by simp⟩⟩;have hlen:((List.range len).map G).length=len:=by simp
   have hC:=fS hok;rw [hlen] at hC ⊢;refine aCl hC hl hm (fun ad had j u hu=>?_)
   cases had;obtain ⟨q,hq,hqu⟩:=aLa hok hu;obtain ⟨hi,rfl⟩:=hget _ _ hq;have:=(hG _ hi).1 _ _ hqu
   rw [dZ,show j / 32 * 32+j % 32=j from by omega] at this;exact this
theorem wT{cs:List Value}{a k n:Nat}(hl:cs.length=n)(h:a+k<=n):((cs.drop a).take k) ++ (cs.drop (a+k))=cs.drop a:=by
 rw [<- List.drop_drop,List.take_append_drop]
theorem aLg{W:World}{n:Nat}{cs:List Value}{x:DataW H × List MemPlace}(h:DataW.trod enc prog W 0 (fun _=>true) true n 31 cs=some x):
 ∃ (f:FkD) (A1 A2 Ap:Option Addr) (c1 c2 cp:Nat),cs=(f.cells (.slice A1 f.l1.length c1) (.slice A2 f.l2.length c2) (.slice Ap f.pf.length cp)).toList ∧ f.h1.length=32 ∧ f.h2.length=32 ∧ f.r.length=32 ∧ dI f.l1 ∧ dI f.l2 ∧ dP f.pf ∧ (-9223372036854775808<=f.z1 ∧ f.z1<=9223372036854775807) ∧ (-9223372036854775808<=f.z2 ∧ f.z2<=9223372036854775807) ∧
  Rd W 33 (.slice A1 f.l1.length c1) f.l1.length (bB f.l1) ∧ Rd W 33 (.slice A2 f.l2.length c2) f.l2.length (bB f.l2) ∧ Rd W 32 (.slice Ap f.pf.length cp) f.pf.length (dA f.pf):=by
 obtain ⟨xs,k,rfl,rfl,hl,hxl,hf⟩:=DataW.trod_struct underlying31 h;rw [bD0] at hl
 obtain ⟨x0,x1,x2,x3,rfl⟩:∃ x0 x1 x2 x3,xs=[x0,x1,x2,x3]:=by
  match xs,hxl with
  |[x0,x1,x2,x3],_=>exact ⟨x0,x1,x2,x3,rfl⟩
 have f0:DataW.trod enc prog W 0 (fun _=>true) true k 28 ((cs.drop 0).take (prog.cellsOf 28))=some x0:=hf 0 _ rfl;have f1:DataW.trod enc prog W 0 (fun _=>true) true k 28 ((cs.drop 34).take (prog.cellsOf 28))=some x1:=hf 1 _ rfl;have f2:DataW.trod enc prog W 0 (fun _=>true) true k 23 ((cs.drop 68).take (prog.cellsOf 23))=some x2:=hf 2 _ rfl;have f3:DataW.trod enc prog W 0 (fun _=>true) true k 29 ((cs.drop 100).take (prog.cellsOf 29))=some x3:=hf 3 _ rfl;rw [bCm] at f0 f1;rw [bC6] at f2;rw [bDj] at f3;clear hf hxl;obtain ⟨z1,h1,v1,l1,e1,hz1,hh1,r1,ok1,-⟩:=aCd f0;obtain ⟨z2,h2,v2,l2,e2,hz2,hh2,r2,ok2,-⟩:=aCd f1;obtain ⟨r,hr,e3,-⟩:=mW underlying23 underlying5 bCc bC6 f2
 obtain ⟨v3,hv3⟩:∃ v,(cs.drop 100).take 1=[v]:=by
  obtain ⟨a,ha⟩:∃ a,cs.drop 100=[a]:=List.length_eq_one_iff.1 (by rw [List.length_drop,hl]);exact ⟨a,by rw [ha];rfl⟩
 rw [hv3] at f3;obtain ⟨pf,rp,okp,-⟩:=aL1 f3;obtain ⟨A1,c1,rfl⟩:=eG r1;obtain ⟨A2,c2,rfl⟩:=eG r2;obtain ⟨Ap,cp,rfl⟩:=eG rp;refine ⟨⟨z1,h1,l1,z2,h2,l2,r,pf⟩,A1,A2,Ap,c1,c2,cp,?_,hh1,hh2,hr,ok1,ok2,okp,hz1,hz2,r1,r2,rp⟩;have h3:cs.drop 100=[.slice Ap pf.length cp]:=by rw [<- hv3,List.take_of_length_le (by rw [List.length_drop,hl];decide)]
 have g0:=wT (a:=0) (k:=34) hl (by decide);have g1:=wT (a:=34) (k:=34) hl (by decide);have g2:=wT (a:=68) (k:=32) hl (by decide);rw [e1] at g0;rw [e2] at g1;rw [e3,h3] at g2;rw [show 34+34=68 from rfl,<- g2] at g1;rw [show 0+34=34 from rfl,<- g1,List.drop_zero] at g0;rw [<- g0];simp only [FkD.cells,rV,List.toList_toArray,bD]
 rfl
theorem zA{W:World}{b0:Nat}{v:Value}{d:DataW H}{pl:List MemPlace}(hv:Value.okWide prog W .any b0 31 v)(h:DataW.Trod enc prog W 0 (fun _=>true) true 31 v d pl):
 ∃ (f:FkD) (A1 A2 Ap:Option Addr) (c1 c2 cp:Nat),v=.agg (f.cells (.slice A1 f.l1.length c1) (.slice A2 f.l2.length c2) (.slice Ap f.pf.length cp)) ∧ f.h1.length=32 ∧ f.h2.length=32 ∧ f.r.length=32 ∧ dI f.l1 ∧ dI f.l2 ∧ dP f.pf ∧ (-9223372036854775808<=f.z1 ∧ f.z1<=9223372036854775807) ∧ (-9223372036854775808<=f.z2 ∧ f.z2<=9223372036854775807) ∧
  Rd W 33 (.slice A1 f.l1.length c1) f.l1.length (bB f.l1) ∧ Rd W 33 (.slice A2 f.l2.length c2) f.l2.length (bB f.l2) ∧ Rd W 32 (.slice Ap f.pf.length cp) f.pf.length (dA f.pf):=by
 obtain ⟨cs,rfl,hsz⟩:=okWide_struct underlying31 hv;obtain ⟨fuel,hf⟩:=h;obtain ⟨f,A1,A2,Ap,c1,c2,cp,e,hr⟩:=aLg hf;refine ⟨f,A1,A2,Ap,c1,c2,cp,?_,hr⟩
 congr 1
 exact Array.ext' e
end
end
section
open Go.RowKit Go.WideShapes Go.ChangeShapes
section
variable {H:Type} {enc:TypeId × Value->H}
def bAt (d:DataW H) (sec:Bs):Prop:=∃ d0 d1,d=.agg [d0,d1] ∧ (sec=[] ∨ ∃ elems spare,d1=.slice elems spare ∧ elems.length=sec.length)
theorem aBe{W:World}{n:Nat}{cs:List Value}{x:DataW H × List MemPlace}(h:DataW.trod enc prog W 0 (fun _=>true) true n 34 cs=some x):
 ∃ (nm:ByteArray) (A:Option Addr) (c:Nat) (sec:Bs),cs=[.string nm,.slice A sec.length c] ∧ Rd W 1 (.slice A sec.length c) sec.length (bv sec) ∧ nm.size<=maxLen ∧ bAt x.1 sec:=by
 obtain ⟨xs,k,rfl,rfl,hl,hxl,hf⟩:=DataW.trod_struct underlying34 h;rw [bD9] at hl
 obtain ⟨x0,x1,rfl⟩:∃ x0 x1,xs=[x0,x1]:=by
  match xs,hxl with
  |[x0,x1],_=>exact ⟨x0,x1,rfl⟩
 have f0:DataW.trod enc prog W 0 (fun _=>true) true k 9 ((cs.drop 0).take (prog.cellsOf 9))=some x0:=hf 0 _ rfl;have f1:DataW.trod enc prog W 0 (fun _=>true) true k 32 ((cs.drop 1).take (prog.cellsOf 32))=some x1:=hf 1 _ rfl;rw [bCl] at f0;rw [bCx] at f1;clear hf hxl;obtain ⟨s,e0,rfl,hs⟩:=DataW.trod_string underlying9 f0;obtain ⟨B,bs,e1,hr,-,hb⟩:=sN underlying32 underlying5 bCc f1;obtain ⟨A,c,rfl⟩:=eG hr;have g0:=mV (i:=0) e0;have g1:=mV (i:=1) e1;refine ⟨s,A,c,bs,?_,hr,hs,?_⟩
 . obtain ⟨a,b,rfl⟩:∃ a b,cs=[a,b]:=by
    match cs,hl with
    |[a,b],_=>exact ⟨a,b,rfl⟩
   cases g0
   cases g1
   rfl
 . exact ⟨_,_,rfl,hb⟩
theorem wO{W:World}{b0:Nat}{v:Value}{d:DataW H}{pl:List MemPlace}(hv:Value.okWide prog W .any b0 34 v)(h:DataW.Trod enc prog W 0 (fun _=>true) true 34 v d pl):
 ∃ (nm:Bs) (A:Option Addr) (c:Nat) (sec:Bs),v=.agg #[.string ⟨nm.toArray⟩,.slice A sec.length c] ∧ nm.length<=maxLen ∧ Rd W 1 (.slice A sec.length c) sec.length (bv sec) ∧ bAt d sec:=by
 obtain ⟨cs,rfl,hsz⟩:=okWide_struct underlying34 hv;obtain ⟨fuel,hf⟩:=h;obtain ⟨nm,A,c,sec,h1,h2,h3,h4⟩:=aBe hf;refine ⟨nm.data.toList,A,c,sec,?_,?_,h2,h4⟩
 . congr 1
   apply Array.ext'
   show cs.toList=[bX nm.data.toList,.slice A sec.length c]
   rw [zZ];exact h1
 . rw [Lib.size_eq] at h3;exact h3
end
end
section
open Go.ChangeShapes Go.WideShapes Go.ChangeAt Go.RowKit
theorem aF3(os:Os)(args:Array Value):laidMet prog Rows.mirrorForksRow.laid ((World.doorLaid prog 2000 os).forCall (fun _ _=>0) ⟨#[],args,[]⟩).memory:=
 laidMet_of_run' 8 (by kernel_rfl) (by kernel_rfl)
theorem aJv{W:World}(h:laidMet prog Rows.mirrorForksRow.laid W):LD W:=by
 have h3:=h.tail.tail
 first
  |exact ⟨Lib.tabIs_of_head (g:=0) (by decide +kernel) (by decide +kernel) underlying219 underlying178 (by kernel_rfl) (by kernel_rfl) h3⟩
  |exact ⟨Lib.tabIs_of_head (g:=1) (by decide +kernel) (by decide +kernel) underlying219 underlying178 (by kernel_rfl) (by kernel_rfl) h3⟩
  |exact ⟨Lib.tabIs_of_head (g:=2) (by decide +kernel) (by decide +kernel) underlying219 underlying178 (by kernel_rfl) (by kernel_rfl) h3⟩
  |exact ⟨Lib.tabIs_of_head (g:=3) (by decide +kernel) (by decide +kernel) underlying219 underlying178 (by kernel_rfl) (by kernel_rfl) h3⟩
  |exact ⟨Lib.tabIs_of_head (g:=4) (by decide +kernel) (by decide +kernel) underlying219 underlying178 (by kernel_rfl) (by kernel_rfl) h3⟩
  |exact ⟨Lib.tabIs_of_head (g:=5) (by decide +kernel) (by decide +kernel) underlying219 underlying178 (by kernel_rfl) (by kernel_rfl) h3⟩
end
section
open Go.RowKit Go.WideShapes Go.ChangeShapes
theorem aGn:ownKnob prog.godebug=none:=by kernel_rfl
section
variable {H:Type} {enc:TypeId × Value->H} {P:Program}
theorem aBk{f:Func}{s:ChangeSpec}{apart fresh handsOn again:Bool}{W W':World}{args:Array Value}{v:Value}{ds gs:List (DataW H)}{before pa pv:List MemPlace}
 (hW:DataW.Whole enc P f.params.toList s.vars apart W args.toList ds gs before)
 (hres:∀ (b:Nat) (sp:Nat->Bool) (hd:Bool),DataW.TrodAll enc P W' b sp hd f.resultTypes.toList (v.resultList f.resultTypes.size) (s.fn H (ds ++ gs)).results [])
 (hargs:∀ sp:Nat->Bool,(∀ p ∈ before,sp p.block=true)->DataW.TrodAll enc P W' 0 sp true f.params.toList args.toList (s.fn H (ds ++ gs)).args pa)
 (hvars:∀ sp:Nat->Bool,(∀ p ∈ before,sp p.block=true)->DataW.TrodVars enc P W' sp s.vars (s.fn H (ds ++ gs)).vars pv)
 (hps:before=pa ++ pv) (hb:Below W.heap.size W W')
 (hok:∀ (j:Nat) (t:TypeId) (r:Value),f.resultTypes[j]?=some t->(v.resultList f.resultTypes.size)[j]?=some r->Value.okWide P W' .any 0 t r):
 s.post enc P f apart fresh handsOn again W args v W':=by
 have hlt:∀ p ∈ before,p.block < W.heap.size:=fun p hp=>hW.lt p hp
 have hold:∀ p ∈ before,(fun b=>decide (b < W.heap.size)) p.block=true:=fun p hp=>by simpa using hlt p hp
 refine ⟨ds,gs,before,[],pa,pv,hW,hres _ _ _,hargs _ hold,hvars _ hold,World.keptBut_mono (fun p hp=>⟨hp,?_⟩) (hb.frame (· ∈ before)),fun _=>?_⟩
 . rw [hps,List.mem_append] at hp;exact Or.inr hp
 . obtain ⟨_,_,_,_,_,hz,hn⟩:=hW;refine ⟨hok,_,_,([] ++ pa) ++ pv,⟨[] ++ pa,pv,trodAll_append (hargs _ (fun _ _=>rfl)) (hres _ _ _),hvars _ (fun _ _=>rfl),rfl,?_,?_⟩,?_⟩
   . intro b off hp;have hin:MemPlace.cell b off ∈ before:=by rw [hps];simpa using hp
     rw [hb.frozen (hlt _ hin)];exact hz b off hin
   . intro ha;have:=hn ha
     rw [hps] at this
     simpa using this
   . intro p hp _;rw [hps]
     simpa using hp
end
theorem Kp.below0{w w':World}(h:Kp [] w w'):Below w.heap.size w w':=h.below (Nat.le_refl _) (by simp)
end
section
open Go.RowKit Go.WideShapes Go.ChangeShapes
section
variable {H:Type} {enc:TypeId × Value->H} {P:Program}
theorem nE(hl:laidOutB P=true){W W':World}{sp':Nat->Bool}:∀ {ts:List TypeId} {vs:List Value} {ds:List (DataW H)} {ps:List MemPlace},ts.all (fun t=>P.readableRec t && decide (t < P.types.size))=true->
 DataW.TrodAll enc P W 0 (fun _=>true) true ts vs ds ps->(∀ p ∈ ps,W.sameAt W' p)->(∀ p ∈ ps,sp' p.block=true)->DataW.TrodAll enc P W' 0 sp' true ts vs ds ps
 |[],[],[],_,_,h,_,_=>h
 |t :: ts,v :: vs,d :: ds,_,hr,⟨p,q,h1,h2,e⟩,hm,hs=>by
  simp only [List.all_cons,Bool.and_eq_true,decide_eq_true_eq] at hr
  exact ⟨p,q,WideElems.Trod_stays hl hr.1.1 hr.1.2 h1 (fun x hx=>hm x (by rw [e];exact List.mem_append_left _ hx)) (fun x hx=>hs x (by rw [e];exact List.mem_append_left _ hx)),
   nE hl hr.2 h2 (fun x hx=>hm x (by rw [e];exact List.mem_append_right _ hx)) (fun x hx=>hs x (by rw [e];exact List.mem_append_right _ hx)),e⟩
theorem aD8{f:Func}{s:ChangeSpec}{apart fresh handsOn again:Bool}{W W':World}{args:Array Value}{v:Value}{ds gs:List (DataW H)}{before:List MemPlace}
 (hl:laidOutB P=true) (hr:f.params.toList.all (fun t=>P.readableRec t && decide (t < P.types.size))=true) (hsv:s.vars=[])
 (hW:DataW.Whole enc P f.params.toList s.vars apart W args.toList ds gs before)
 (hres:∀ (b:Nat) (sp:Nat->Bool) (hd:Bool),DataW.TrodAll enc P W' b sp hd f.resultTypes.toList (v.resultList f.resultTypes.size) (s.fn H (ds ++ gs)).results [])
 (hfa:(s.fn H (ds ++ gs)).args=ds) (hfv:(s.fn H (ds ++ gs)).vars=[]) (hb:Below W.heap.size W W')
 (hok:∀ (j:Nat) (t:TypeId) (r:Value),f.resultTypes[j]?=some t->(v.resultList f.resultTypes.size)[j]?=some r->Value.okWide P W' .any 0 t r):
 s.post enc P f apart fresh handsOn again W args v W':=by
 have hlt:∀ p ∈ before,p.block < W.heap.size:=fun p hp=>hW.lt p hp
 have hW2:=hW;obtain ⟨p,q,hA,hV,rfl,hz,hn⟩:=hW2;rw [hsv] at hV;obtain ⟨rfl,rfl⟩:=trodVars_none hV;refine aBk (pa:=p) (pv:=[]) hW hres (fun sp hs=>?_) (fun sp hs=>?_) rfl hb hok
 . rw [hfa];exact nE hl hr hA (fun x hx=>hb.same (hlt x (List.mem_append_left _ hx))) (fun x hx=>hs x (List.mem_append_left _ hx))
 . rw [hsv,hfv];exact rfl
end
theorem aGs:laidOutB prog=true:=by kernel_rfl
end
end Go.Proofs.YtmkfopmdingaoaaGreatDoor
