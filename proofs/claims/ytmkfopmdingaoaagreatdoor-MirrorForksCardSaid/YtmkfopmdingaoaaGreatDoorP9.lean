/- Several texts in one: MirU, MirV, MirX, MirY, MirZ, MiZA, MiZB, MiZC, MSt, MirW, MFa, SigAR, SigAS, SigAT, SigAU, SigAV, SigAW, SigAX, SigAY, SigAZ, SigBA, SigBB, SigBC, RmA, RmB, SigBD. -/
import Derived.Test.YtmkfopmdingaoaaGreatDoorP8
set_option linter.unusedVariables false
set_option linter.unusedSimpArgs false
set_option maxRecDepth 100000
set_option maxHeartbeats 8000000
open Go.Proofs.Tryz
namespace Go.Proofs.YtmkfopmdingaoaaGreatDoor
section
variable {Q:Exit->Act->World->Prop} {a:Act} {w:World}
open Go.RowKit Go.Shelf
attribute [local go_sem] Oper.semAt_some
theorem aHt(g n m c:Nat)(A:Option Addr)(z:Int)(hnm:n+m < 9223372036854775808)(hz:Hid (z=(n:Int)+(m:Int)))(HC0:∀ V,Kp [] w V->Calls prog 17 #[Pq g 0] V fun e w'=>e=.returned (Nq n) ∧ Kp [] V w')(hsz:a.tmps.size=130)(o0:Sl a 0 (Pq g 0))(o2:Sl a 2 (.slice A m c))(o10:Sl a 10 (.int .i64 z)):bC false 11 f16 Q a w fun a' W q'=>Kp [] w W->Sl a' 51 (.bool false)->q':=by
 intro hend;have hap:=pa 11 f16;refine aH (l:=(aK 11 f16)) (fun i v W=>match i with|0=>v=.int .i64 z|1=>v=Pq g 0|2=>v=Nq n|3=>v=.slice A m c|4=>v=Nq m|5=>v=.int .i64 ((n:Int)+(m:Int))|6=>v=.bool false|7=>v=.bool false|12=>v=undef|17=>v=.bool false|_=>True) hap ?_ ?_ ?_
 . exact fun _ _ _ _ h _=>h
 . and_intros <;> try (intro vs A' W hA hW hd hu K hK;try (refine aL _ rfl rfl ?_;conv=>arg 2;whnf))
   . exact aJ (eO 10 o10)
   . exact aJ (eO 0 o0)
   . have e35:=vD 35 1;clear hA hd hu o0 o2 o10;go_step;refine (HC0 W hW).mono ?_;rintro e w' ⟨rfl,k1⟩;exact hK _ w' k1 rfl
   . exact aJ (eO 2 o2)
   . exact aJ (vD 37 3)
   . have hw:wrap64 ((n:Int)+(m:Int))=(n:Int)+(m:Int):=by unfold wrap64;omega
     exact cM (vD 36 2) (vD 38 4)
   . have e34:=vD 34 0;have e39:=vD 39 5;clear hA hd hu o0 o2 o10;go_step;exact hK _ _ kR (by first|rfl|(refine congrArg Value.bool ?_;have:=hz.out;simp;done)|(refine congrArg Value.bool ?_;have:=hz.out;simp;omega))
   . exact aJ (vD 40 6)
   . exact sk
   . exact sk
   . exact sk
   . exact sk
   . exact sk
   . exact qT 12 false (vD 46 12)
   . exact qT 12 false (vD 46 12)
   . exact qT 12 false (vD 46 12)
   . exact sk
   . exact cM (vD 41 7) (eU 50 16)
   . trivial
 . intro vs W hW hp;rw [aF];exact hend _ W sQ hW (sW (hp 17 sB))
theorem aHn(g n m c:Nat)(A:Option Addr)(z:Int)(hnm:n+m < 9223372036854775808)(hz:Hid (z ≠ (n:Int)+(m:Int) ∧ (n:Int) < z))(HC0:∀ V,Kp [] w V->Calls prog 17 #[Pq g 0] V fun e w'=>e=.returned (Nq n) ∧ Kp [] V w')(hsz:a.tmps.size=130)(o0:Sl a 0 (Pq g 0))(o2:Sl a 2 (.slice A m c))(o10:Sl a 10 (.int .i64 z)):bC false 11 f16 Q a w fun a' W q'=>Kp [] w W->Sl a' 51 (.bool true)->q':=by
 intro hend;have hap:=pa 11 f16;refine aH (l:=(aK 11 f16)) (fun i v W=>match i with|0=>v=.int .i64 z|1=>v=Pq g 0|2=>v=Nq n|3=>v=.slice A m c|4=>v=Nq m|5=>v=.int .i64 ((n:Int)+(m:Int))|6=>v=.bool true|7=>v=.bool true|8=>v=.int .i64 z|9=>v=Pq g 0|10=>v=Nq n|11=>v=.bool true|12=>v=.bool true|16=>v=.bool true|17=>v=.bool true|_=>True) hap ?_ ?_ ?_
 . exact fun _ _ _ _ h _=>h
 . and_intros <;> try (intro vs A' W hA hW hd hu K hK;try (refine aL _ rfl rfl ?_;conv=>arg 2;whnf))
   . exact aJ (eO 10 o10)
   . exact aJ (eO 0 o0)
   . have e35:=vD 35 1;clear hA hd hu o0 o2 o10;go_step;refine (HC0 W hW).mono ?_;rintro e w' ⟨rfl,k1⟩;exact hK _ w' k1 rfl
   . exact aJ (eO 2 o2)
   . exact aJ (vD 37 3)
   . have hw:wrap64 ((n:Int)+(m:Int))=(n:Int)+(m:Int):=by unfold wrap64;omega
     exact cM (vD 36 2) (vD 38 4)
   . have e34:=vD 34 0;have e39:=vD 39 5;clear hA hd hu o0 o2 o10;go_step;exact hK _ _ kR (by first|rfl|(refine congrArg Value.bool ?_;have:=hz.out;simp;done)|(refine congrArg Value.bool ?_;have:=hz.out;simp;omega))
   . exact aJ (vD 40 6)
   . exact cC (eO 10 o10)
   . exact cC (eO 0 o0)
   . refine qH ?_;(conv=>arg 2;whnf);have e43:=vD 43 9;clear hA hd hu o0 o2 o10;go_step;refine (HC0 W hW).mono ?_;rintro e w' ⟨rfl,k1⟩;exact hK _ w' k1 rfl
   . refine qH ?_;(conv=>arg 2;whnf);have e42:=vD 42 8;have e44:=vD 44 10;clear hA hd hu o0 o2 o10;go_step;exact hK _ _ kR (by first|rfl|(refine congrArg Value.bool ?_;have:=hz.out;simp;done)|(refine congrArg Value.bool ?_;have:=hz.out;simp;omega))
   . exact cC (vD 45 11)
   . exact sk
   . exact sk
   . exact sk
   . exact xZ (vD 46 12) (eU 49 15)
   . exact cM (vD 41 7) (vD 50 16)
   . trivial
 . intro vs W hW hp;rw [aF];exact hend _ W sQ hW (sW (hp 17 sB))
theorem aH5(g n m c:Nat)(A:Option Addr)(z:Int)(hnm:n+m < 9223372036854775808)(hz:Hid (z ≠ (n:Int)+(m:Int) ∧ z<=(n:Int)))(HC0:∀ V,Kp [] w V->Calls prog 17 #[Pq g 0] V fun e w'=>e=.returned (Nq n) ∧ Kp [] V w')(hsz:a.tmps.size=130)(o0:Sl a 0 (Pq g 0))(o2:Sl a 2 (.slice A m c))(o10:Sl a 10 (.int .i64 z)):bC false 11 f16 Q a w fun a' W q'=>Kp [] w W->Sl a' 51 (.bool (decide (0 < m)))->q':=by
 intro hend;have hap:=pa 11 f16;refine aH (l:=(aK 11 f16)) (fun i v W=>match i with|0=>v=.int .i64 z|1=>v=Pq g 0|2=>v=Nq n|3=>v=.slice A m c|4=>v=Nq m|5=>v=.int .i64 ((n:Int)+(m:Int))|6=>v=.bool true|7=>v=.bool true|8=>v=.int .i64 z|9=>v=Pq g 0|10=>v=Nq n|11=>v=.bool false|12=>v=.bool false|13=>v=.slice A m c|14=>v=Nq m|15=>v=.bool (decide (0 < m))|16=>v=.bool (decide (0 < m))|17=>v=.bool (decide (0 < m))|_=>True) hap ?_ ?_ ?_
 . exact fun _ _ _ _ h _=>h
 . and_intros <;> try (intro vs A' W hA hW hd hu K hK;try (refine aL _ rfl rfl ?_;conv=>arg 2;whnf))
   . exact aJ (eO 10 o10)
   . exact aJ (eO 0 o0)
   . have e35:=vD 35 1;clear hA hd hu o0 o2 o10;go_step;refine (HC0 W hW).mono ?_;rintro e w' ⟨rfl,k1⟩;exact hK _ w' k1 rfl
   . exact aJ (eO 2 o2)
   . exact aJ (vD 37 3)
   . have hw:wrap64 ((n:Int)+(m:Int))=(n:Int)+(m:Int):=by unfold wrap64;omega
     exact cM (vD 36 2) (vD 38 4)
   . have e34:=vD 34 0;have e39:=vD 39 5;clear hA hd hu o0 o2 o10;go_step;exact hK _ _ kR (by first|rfl|(refine congrArg Value.bool ?_;have:=hz.out;simp;done)|(refine congrArg Value.bool ?_;have:=hz.out;simp;omega))
   . exact aJ (vD 40 6)
   . exact cC (eO 10 o10)
   . exact cC (eO 0 o0)
   . refine qH ?_;(conv=>arg 2;whnf);have e43:=vD 43 9;clear hA hd hu o0 o2 o10;go_step;refine (HC0 W hW).mono ?_;rintro e w' ⟨rfl,k1⟩;exact hK _ w' k1 rfl
   . refine qH ?_;(conv=>arg 2;whnf);have e42:=vD 42 8;have e44:=vD 44 10;clear hA hd hu o0 o2 o10;go_step;exact hK _ _ kR (by first|rfl|(refine congrArg Value.bool ?_;have:=hz.out;simp;done)|(refine congrArg Value.bool ?_;have:=hz.out;simp;omega))
   . exact cC (vD 45 11)
   . exact cC (eO 2 o2)
   . exact cC (vD 47 13)
   . exact cC (vD 48 14)
   . exact xZ (vD 46 12) (vD 49 15)
   . exact cM (vD 41 7) (vD 50 16)
   . trivial
 . intro vs W hW hp;rw [aF];exact hend _ W sQ hW (sW (hp 17 sB))
theorem aIw(w0:World)(g:Nat)(cs:Array Value)(Ah A:Option Addr)(n ch m0 c m q:Nat)(ys zs:List Value)(h3:cs[3]?=some (.slice Ah n ch))(L:List Res)(HC1:∀ V,Kp [] w0 V->(∀ r ∈ L,r.ok V)->Calls prog 48 #[.slice A m0 c] V fun r w'=>∃ v,r=.returned v ∧ Held V w' [aG 23 32 v m ys])(HC2:∀ V v2 v,Ow V 29 1 v2 2 [.slice Ah n ch,v]->Ow V 23 32 v m ys->(∀ r ∈ L,r.ok V)->Calls prog 47 #[v2] V fun r w'=>∃ u,r=.returned u ∧ Held V w' [aG 23 32 u q zs])(hsz:a.tmps.size=130)(o0:Sl a 0 (Pq g 0))(o2:Sl a 2 (.slice A m0 c))
 (S0:Held w0 w (aB g 85 cs :: L)):RG2 18 f16 Q a w fun a' vs gs W q'=>Sl a' 12 (vs 8)->Held w0 W (aG 23 32 (vs 6) m ys :: aG 29 1 (vs 7) 2 [.slice Ah n ch,vs 6] :: aG 23 32 (vs 8) q zs :: aB g 85 cs :: L)->q':=by
 intro hend;have hap:=pa 18 f16
 refine aP (Γ:=Unit) (l:=(aK 18 f16)) 3 [0,1,2,3,4,5,6,7,8,9,10,11,12]
  (fun i vs gs=>match i with|0=>vs 0=Pq g 0|1=>vs 1=Pq g 0|2=>vs 2=Pq g 0|3=>vs 3=Pq g 3|4=>vs 4=.slice Ah n ch|5=>vs 5=.slice A m0 c|9=>vs 9=vs 8|_=>True)
  (fun i vs gs=>match i with|6=>[aG 23 32 (vs 6) m ys]|7=>[aG 29 1 (vs 7) 2 [.slice Ah n ch,vs 6]]|8=>[aG 23 32 (vs 8) q zs]|11=>[aB g 85 cs]|12=>L|_=>[])
  (fun i=>match i with  | _=>[]) (fun i=>match i with|4=>[11]|6=>[12]|7=>[6]|8=>[7,6,12]|_=>[]) S0 (by kernel_rfl) hap (by kernel_rfl) (by kernel_rfl) (fun i=>match i with|0=>[0]|1=>[1]|2=>[2]|3=>[3]|4=>[4]|5=>[5]|6=>[6]|7=>[6,7]|8=>[8]|9=>[8,9]|_=>[]) (by kernel_rfl) ?_ (by kernel_rfl) ?_ ?_ ?_
 . exact lA
 . exact pA
 . clear S0 hend
   and_intros <;> try intro vs gs A' W LF hA S hR hd hu K hK
   . exact aJ (eO 0 o0)
   . exact aJ (vD 80 0)
   . exact aJ (vD 81 1)
   . exact aJ (vD 82 2)
   . have c0:W.cell? ⟨g,3,none⟩=some (.slice Ah n ch):=by rw [(show aM W g 85 cs from S.ok (aB g 85 cs) (hR 11 (by simp) _ (List.mem_singleton.2 rfl))).cell];exact h3
     exact aJ (vD 83 3)
   . exact aJ (eO 2 o2)
   . replace hK:=hK default;have e85:=vD 85 5;clear hA o0 o2;go_step;refine (HC1 W S.k (fun r hr=>S.ok r (hR 12 (by simp) r hr))).mono ?_;rintro e w' ⟨v,rfl,H⟩;exact hK v w' ((S.join H).perm List.perm_append_comm) trivial
   . replace hK:=hK default;have e84:=vD 84 4;have e86:=eU 86 6;clear hA o0 o2;obtain ⟨Av,cv,hv,-,-⟩:=aS (show Ow W 23 32 (vs 6) m ys from S.ok (aG 23 32 (vs 6) m ys) (hR 6 (by simp) _ (List.mem_singleton.2 rfl)));rw [hv] at e86;go_step;have o3:=cZ W 29 1 2 #[.slice Ah n ch,.slice Av m cv] rfl (by decide)
     have o4:Ow (W.alloc (.cells #[.slice Ah n ch,.slice Av m cv] 29)) 29 1 (.slice (some ⟨W.heap.size,0,none⟩) 2 2) 2 [.slice Ah n ch,vs 6]:=by rw [hv];exact o3
     exact hK _ _ (S.rownew o4 ((Kp.refl [] W).alloc _) (fun g hg=>Nat.le_of_eq (Option.some.inj hg))) trivial
   . replace hK:=hK default;have e87:=eU 87 7;clear hA o0 o2;go_step;refine (HC2 W (vs 7) (vs 6) (show Ow W 29 1 (vs 7) 2 [.slice Ah n ch,vs 6] from S.ok (aG 29 1 (vs 7) 2 [.slice Ah n ch,vs 6]) (hR 7 (by simp) _ (List.mem_singleton.2 rfl))) (show Ow W 23 32 (vs 6) m ys from S.ok (aG 23 32 (vs 6) m ys) (hR 6 (by simp) _ (List.mem_singleton.2 rfl))) (fun r hr=>S.ok r (hR 12 (by simp) r hr))).mono ?_;rintro e w' ⟨v,rfl,H⟩;exact hK v w' ((S.join H).perm List.perm_append_comm) trivial
   . exact aJ (eU 88 8)
   . trivial
 . intro vs gs W S hp;have S:Held w0 W (aG 23 32 (vs 6) m ys :: aG 29 1 (vs 7) 2 [.slice Ah n ch,vs 6] :: aG 23 32 (vs 8) q zs :: aB g 85 cs :: L):=by simpa only [List.flatMap_cons,List.flatMap_nil,List.append_nil,List.nil_append,List.cons_append,List.append_assoc] using S
   rw [aF];exact hend _ vs gs W sQ (sW (hp 9 sB)) S
end
section
open Go.RowKit Go.Shelf
attribute [local go_sem] Oper.semAt_some
theorem aNb{Q:Exit->Act->World->Prop}{a:Act}{w:World}(g4:Nat)(z:Int)(h:Bs)(hh:h.length=32)(v:Value)(A:Option Addr)(n c:Nat)(x:Bs)(hx32:x.length=32)(hb:aM w g4 28 (bD z h v))(HC0:∀ V,Kp [] w V->Calls prog 49 #[.slice A n c] V fun e w'=>e=.returned (.agg (aA x)) ∧ Kp [] V w')(hsz:a.tmps.size=130)(o4:Sl a 4 (Pq g4 0))(o12:Sl a 12 (.slice A n c)):bC true 19 f16 Q a w fun a' W q'=>Kp [] w.drew W->Sl a' 94 (.bool (!(x == h)))->q':=by
 intro hend;have hap:=pa 19 f16;refine bZ (l:=(aK 19 f16)) (fun i v W=>match i with|0=>v=.slice A n c|1=>v=.agg (aA x)|2=>v=Pq g4 0|3=>v=Pq g4 1|4=>v=.agg (aA h)|5=>v=.bool (!(x == h))|_=>True) (by kernel_rfl) hap (by kernel_rfl) ?_ ?_ ?_
 . exact fun _ _ _ _ h _=>h
 . and_intros <;> try intro vs A' W hA hW hd K hK
   . exact aJ (eO 12 o12)
   . have e89:=vD 89 0;clear hA hd o4 o12;go_step;refine (HC0 W (((Kp.refl [] w).drew).trans hW (by simp))).mono ?_;rintro e w' ⟨rfl,k1⟩;exact hK _ w' k1 rfl
   . exact aJ (eO 4 o4)
   . exact aJ (vD 91 2)
   . exact dC (aA h) (vD 92 3) (pR (hb.kp (((Kp.refl [] w).drew).trans hW (by simp)) (by simp))) underlying23 (by rw [aC,hh];exact bBy)
   . have e90:=vD 90 1;have e93:=vD 93 4;clear hA hd o4 o12;refine bQ (v:=.bool (!(x == h))) (w':=W) (bH rfl (by simpa [Act.eval] using e90) (by simpa [Act.eval] using e93) eqGuardType23 (dJ W x h hx32 hh)) ?_;exact hK _ _ kR rfl
   . trivial
 . intro vs W hW hp;rw [aF];exact hend _ W sQ hW (sW (hp 5 sB))
theorem aNa{Q:Exit->Act->World->Prop}{a:Act}{w:World}(w0:World)(g q:Nat)(cs:Array Value)(Ae:Option Addr)(ce:Nat)(xs:List Value)(hq:q<=1000000)(A:Option Addr)(c:Nat)(t:Bs)(htl:t.length<=140737488355200)(h2:cs[2]?=some (.slice Ae q ce))(L:List Res)(HVt:∀ V,Kp [] w0 V->(∀ r ∈ L,r.ok V)->Rd V 1 (.slice A t.length c) t.length (bv t))(hsz:a.tmps.size=130)(o0:Sl a 0 (Pq g 0))(o14:Sl a 14 (.slice A t.length c))
 (S0:Held w0 w (aG 32 1 (.slice Ae q ce) q xs :: aB g 85 cs :: L)):RG2 25 f16 Q a w fun a' vs gs W q'=>Held w0 W (aG 5 1 (vs 7) t.length (bv t) :: aG 32 1 (vs 8) 1 [vs 7] :: aG 32 1 (vs 9) (q+1) (xs ++ [vs 7]) :: aB g 85 (cs.setIfInBounds 2 (vs 9)) :: L)->q':=by
 intro hend;have hap:=pa 25 f16
 refine aP (Γ:=Unit) (l:=(aK 25 f16)) 5 [0,1,2,3,4,5,6,7,8,9,10,11,12,13,14,17,18]
  (fun i vs gs=>match i with|0=>vs 0=Pq g 0|1=>vs 1=Pq g 0|2=>vs 2=Pq g 0|3=>vs 3=Pq g 0|4=>vs 4=Pq g 2|5=>vs 5=.slice Ae q ce|6=>vs 6=.slice A t.length c|10=>vs 10=Pq g 0|11=>vs 11=Pq g 0|12=>vs 12=Pq g 2|_=>True)
  (fun i vs gs=>match i with|7=>[aG 5 1 (vs 7) t.length (bv t)]|8=>[aG 32 1 (vs 8) 1 [vs 7]]|9=>[aG 32 1 (vs 9) (q+1) (xs ++ [vs 7])]|13=>[aB g 85 (cs.setIfInBounds 2 (vs 9))]|15=>[aG 32 1 (.slice Ae q ce) q xs]|16=>[aB g 85 cs]|18=>L|_=>[])
  (fun i=>match i with|9=>[15]|13=>[16]|_=>[]) (fun i=>match i with|5=>[16]|7=>[18]|8=>[7]|9=>[8,7]|13=>[9]|_=>[]) S0 (by kernel_rfl) hap (by kernel_rfl) (by kernel_rfl) (fun i=>match i with|0=>[0]|1=>[1]|2=>[2]|3=>[3]|4=>[4]|5=>[5]|6=>[6]|7=>[7]|8=>[7,8]|9=>[7,9]|10=>[10]|11=>[11]|12=>[12]|13=>[9]|_=>[]) (by kernel_rfl) ?_ (by kernel_rfl) ?_ ?_ ?_
 . exact lA
 . exact pA
 . clear S0 hend
   and_intros <;> try intro vs gs A' W LF hA S hR hd hu K hK
   . exact aJ (eO 0 o0)
   . exact aJ (eO 0 o0)
   . exact aJ (vD 107 1)
   . exact aJ (vD 108 2)
   . exact aJ (vD 109 3)
   . have c0:W.cell? ⟨g,2,none⟩=some (.slice Ae q ce):=by rw [(show aM W g 85 cs from S.ok (aB g 85 cs) (hR 16 (by simp) _ (List.mem_singleton.2 rfl))).cell];exact h2
     exact aJ (vD 110 4)
   . exact aJ (eO 14 o14)
   . replace hK:=hK default;have e112:=vD 112 6;clear hA o0 o14;go_step;refine (qW _ t W (HVt W S.k (fun r hr=>S.ok r (hR 18 (by simp) r hr))) htl).mono ?_;rintro e w' ⟨v,rfl,N⟩;exact hK v w' (S.rownew N.1 N.2.1 N.2.2) trivial
   . replace hK:=hK default;have e113:=eU 113 7;clear hA o0 o14;obtain ⟨Av,cv,hv,-,-⟩:=aS (show Ow W 5 1 (vs 7) t.length (bv t) from S.ok (aG 5 1 (vs 7) t.length (bv t)) (hR 7 (by simp) _ (List.mem_singleton.2 rfl)));rw [hv] at e113;go_step;have o3:=cZ W 32 1 1 #[.slice Av t.length cv] rfl (by decide)
     have o4:Ow (W.alloc (.cells #[.slice Av t.length cv] 32)) 32 1 (.slice (some ⟨W.heap.size,0,none⟩) 1 1) 1 [vs 7]:=by rw [hv];exact o3
     exact hK _ _ (S.rownew o4 ((Kp.refl [] W).alloc _) (fun g hg=>Nat.le_of_eq (Option.some.inj hg))) trivial
   . replace hK:=hK default;have e111:=vD 111 5;have e114:=eU 114 8;clear hA o0 o14;obtain ⟨Av,cv,hv,-,-⟩:=aS (show Ow W 5 1 (vs 7) t.length (bv t) from S.ok (aG 5 1 (vs 7) t.length (bv t)) (List.mem_cons_of_mem _ (hR 7 (by simp) _ (List.mem_singleton.2 rfl))));refine lO (.tmp 111) (.tmp 114) 43 32 rfl bD4 underlying43 rfl (by decide) (.slice Ae q ce) q xs (by simpa [Act.eval] using e111) S (vs 8) 1 [vs 7] (by simpa [Act.eval] using e114) (iN (e:=32) S (List.mem_cons_of_mem _ (hR 8 (by simp) _ (List.mem_singleton.2 rfl)))) (by intro x hx;simp at hx;subst hx;rw [hv];rfl) (by unfold maxLen;omega) (by omega) (fun v' w' S'=>hK v' w' S' trivial)
   . exact aJ (vD 106 0)
   . exact aJ (vD 116 10)
   . exact aJ (vD 117 11)
   . replace hK:=hK default;have e118:=vD 118 12;have e115:=eU 115 9;clear hA o0 o14;have S1:Held w0 W (aB g 85 cs :: LF):=S;obtain ⟨A1,c1,hq,-,-⟩:=aS (show Ow W 32 1 (vs 9) (q+1) (xs ++ [vs 7]) from S.ok (aG 32 1 (vs 9) (q+1) (xs ++ [vs 7])) (List.mem_cons_of_mem _ (hR 9 (by simp) _ (List.mem_singleton.2 rfl))));rw [hq] at e115;have S2:=S1.set (l1:=[]) 2 (vs 9);have c33:W.cell? ⟨g,2,none⟩=some (.slice Ae q ce):=by rw [(show aM W g 85 cs from S1.at_ (l1:=[])).cell];exact h2
     have f33:=(show aM W g 85 cs from S1.at_ (l1:=[])).frozen 2;rw [hq] at S2;have S3:Held w0 (W.setCell ⟨g,2,none⟩ (.slice A1 (q+1) c1)) (aB g 85 (cs.setIfInBounds 2 (vs 9)) :: LF):=by rw [hq];exact S2
     go_step;exact hK undef _ S3 trivial
   . trivial
 . intro vs gs W S hp;have S:Held w0 W (aG 5 1 (vs 7) t.length (bv t) :: aG 32 1 (vs 8) 1 [vs 7] :: aG 32 1 (vs 9) (q+1) (xs ++ [vs 7]) :: aB g 85 (cs.setIfInBounds 2 (vs 9)) :: L):=by simpa only [List.flatMap_cons,List.flatMap_nil,List.append_nil,List.nil_append,List.cons_append,List.append_assoc] using S
   rw [aF];exact hend _ vs gs W sQ  S
end
section
open Go.RowKit Go.Shelf
attribute [local go_sem] Oper.semAt_some
end
section
open Go.RowKit Go.Shelf
attribute [local go_sem] Oper.semAt_some
end
section
open Go.RowKit Go.Shelf
attribute [local go_sem] Oper.semAt_some
end
section
open Go.RowKit Go.Shelf
structure NtD where
 z:Int
 h:List UInt8
 l:List bF
structure NtD.Ok (n:NtD):Prop where
 z:-9223372036854775808<=n.z ∧ n.z<=9223372036854775807
 h:n.h.length=32
 l:dI n.l
 m:n.l.length<=1000000
structure MS where
 nm:List UInt8
 sec:List UInt8
 es:List (List UInt8)
 la:NtD
 nd:Bool
 fk:FkD
 fd:Bool
def MS.hl (X:MS):List (List UInt8):=X.es.map bE
theorem MS.hl_length(X:MS):X.hl.length=X.es.length:=by simp [MS.hl]
theorem MS.hs(X:MS):dP X.hl:=kE X.es
def zNt:NtD:=⟨0,List.replicate 32 0,[]⟩
def zFk:FkD:=⟨0,List.replicate 32 0,[],0,List.replicate 32 0,[],List.replicate 32 0,[]⟩
def MS.new (nm sec:Bs):MS:=⟨nm,sec,[],zNt,false,zFk,false⟩
def aCn (X:MS) (n:NtD):FkD:=⟨n.z,n.h,n.l,X.la.z,X.la.h,X.la.l,bJ (X.hl.take n.z.toNat),dH n.z X.hl⟩
def MS.withinF (X:MS) (n:NtD):Int × MS:=
 if bJ (X.hl.take n.z.toNat)=n.h then (0,X) else if X.nd=false then (403,X) else (400,{ X with fk:=aCn X n,fd:=true })
def MS.mayF (X:MS) (n:NtD):Int:=nX X.fd n.z n.h n.l X.nm X.sec
def MS.noteF (X:MS) (n:NtD):MS:={ X with la:=n,nd:=true }
def MS.takeF (X:MS) (n:NtD) (ls:List (List UInt8)):Int × MS:=
 if X.mayF n ≠ 0 then (X.mayF n,X) else
 if ∃ t ∈ ls,4096 < t.length then (3,X) else
 if n.z ≠ (X.es.length:Int)+(ls.length:Int) ∧ ((X.es.length:Int) < n.z ∨ 0 < ls.length) then (402,X) else
 if n.z<=(X.es.length:Int) then (if (X.withinF n).1=0 ∧ X.nd=false then (0,X.noteF n) else X.withinF n) else
 if bJ (X.hl ++ ls.map bE)=n.h then (0,({ X with es:=X.es ++ ls }:MS).noteF n) else (403,X)
def MS.hearF (X:MS) (n:NtD) (pf:List (List UInt8)):Int × MS:=
 if X.mayF n ≠ 0 then (X.mayF n,X) else
 if n.z<=(X.es.length:Int) then X.withinF n else ((eL (X.es.length:Int) n.z (bJ X.hl) n.h pf:Nat),X)
def EnR (L:List Res) (vs:List Value) (es:List (List UInt8)):Prop:=
 vs.length=es.length ∧ ∀ (k:Nat) (t:Bs),es[k]?=some t->∃ A c,vs[k]?=some (Value.slice A t.length c) ∧ ∀ V,(∀ r ∈ L,r.ok V)->Rd V 1 (.slice A t.length c) t.length (bv t)
def SgR (L:List Res) (A:Option Addr) (c:Nat) (l:List bF):Prop:=∀ V,(∀ r ∈ L,r.ok V)->Rd V 33 (.slice A l.length c) l.length (bB l)
def HsR (L:List Res) (A:Option Addr) (c:Nat) (l:List (List UInt8)):Prop:=∀ V,(∀ r ∈ L,r.ok V)->Rd V 32 (.slice A l.length c) l.length (dA l)
theorem EnR.more{L L':List Res}{vs:List Value}{es:List (List UInt8)}(h:EnR L vs es)(hL:∀ r ∈ L,r ∈ L'):EnR L' vs es:=
 ⟨h.1,fun k t hk=>by
  obtain ⟨A,c,h1,h2⟩:=h.2 k t hk;exact ⟨A,c,h1,fun V hV=>h2 V (fun r hr=>hV r (hL r hr))⟩⟩
theorem EnR.nil(L:List Res):EnR L [] []:=⟨rfl,fun k t hk=>by simp at hk⟩
theorem EnR.app{L:List Res}{vs us:List Value}{es fs:List (List UInt8)}(h:EnR L vs es)(k:EnR L us fs):EnR L (vs ++ us) (es ++ fs):=by
 refine ⟨by simp [h.1,k.1],fun i t hi=>?_⟩;rcases Nat.lt_or_ge i es.length with hlt|hge
 . rw [List.getElem?_append_left hlt] at hi;obtain ⟨A,c,h1,h2⟩:=h.2 i t hi;exact ⟨A,c,by rw [List.getElem?_append_left (by rw [h.1];exact hlt)];exact h1,h2⟩
 . rw [List.getElem?_append_right hge] at hi;obtain ⟨A,c,h1,h2⟩:=k.2 _ t hi;exact ⟨A,c,by rw [List.getElem?_append_right (by rw [h.1];exact hge),h.1];exact h1,h2⟩
theorem EnR.one{L:List Res}{A:Option Addr}{c:Nat}{t:List UInt8}(h:∀ V,(∀ r ∈ L,r.ok V)->Rd V 1 (.slice A t.length c) t.length (bv t)):EnR L [.slice A t.length c] [t]:=
 ⟨rfl,fun k u hk=>by
  rcases k with _|k
  . simp at hk;subst hk
    exact ⟨A,c,rfl,h⟩
  . simp at hk⟩
structure MirR (M:MirD) (vs:List Value) (X:MS) (L:List Res):Prop where
 ok:M.Ok
 nm:M.nm=X.nm
 sec:M.sec=X.sec
 hl:M.hl=X.hl
 rd:∀ V,(∀ r ∈ L,r.ok V)->M.Rd V
 nd:M.nd=X.nd
 fd:M.fd=X.fd
 la:∃ A c,M.la=pK X.la.z X.la.h (.slice A X.la.l.length c) ∧ SgR L A c X.la.l
 fk:∃ A1 A2 Ap c1 c2 cp,M.fk=(X.fk.cells (.slice A1 X.fk.l1.length c1) (.slice A2 X.fk.l2.length c2) (.slice Ap X.fk.pf.length cp)).toList ∧ SgR L A1 c1 X.fk.l1 ∧ SgR L A2 c2 X.fk.l2 ∧ HsR L Ap cp X.fk.pf
 en:EnR L vs X.es
theorem MirR.more{M:MirD}{vs:List Value}{X:MS}{L L':List Res}(h:MirR M vs X L)(hL:∀ r ∈ L,r ∈ L'):MirR M vs X L':=by
 have up:∀ {V:World},(∀ r ∈ L',r.ok V)->∀ r ∈ L,r.ok V:=fun hV r hr=>hV r (hL r hr)
 obtain ⟨A,c,h1,h2⟩:=h.la;obtain ⟨A1,A2,Ap,c1,c2,cp,k1,k2,k3,k4⟩:=h.fk;exact ⟨h.ok,h.nm,h.sec,h.hl,fun V hV=>h.rd V (up hV),h.nd,h.fd,⟨A,c,h1,fun V hV=>h2 V (up hV)⟩,⟨A1,A2,Ap,c1,c2,cp,k1,fun V hV=>k2 V (up hV),fun V hV=>k3 V (up hV),fun V hV=>k4 V (up hV)⟩,h.en.more hL⟩
def tJ (w0 w':World) (L:List Res) (g:Nat) (x:Int × MS) (r:Ending):Prop:=
 r=.returned (.int .i64 x.1) ∧ ∃ L' M vs,Held w0 w' (aB g 85 M.cells :: aG 32 1 M.e x.2.es.length vs :: (L' ++ L)) ∧ MirR M vs x.2 (L' ++ L)
theorem iR{L:List Res}{V:World}{e:TypeId}{s n:Nat}{v:Value}{xs:List Value}(hV:∀ r ∈ L,r.ok V)(hm:aG e s v n xs ∈ L):Rd V s v n xs:=Rd.of_own (hV _ hm)
theorem jS(z:Int)(h:Bs)(v:Value):(bD z h v).toList=pK z h v:=by simp [bD]
theorem FkD.list(f:FkD)(s1 s2 p:Value):(f.cells s1 s2 p).toList=rV (pK f.z1 f.h1 s1) (pK f.z2 f.h2 s2) (bv f.r) p:=by
 simp only [FkD.cells,List.toList_toArray,fV,jS]
theorem gT{z:Int}{h:List UInt8}{v:Value}(hh:h.length=32):(pK z h v).length=34:=by
 have:=aN (z:=z) (v:=v) hh
 rw [<- Array.length_toList,jS] at this;exact this
theorem gW{w0 w':World}{L:List Res}{g:Nat}{X:MS}{M:MirD}{vs:List Value}{z:Int}(R:MirR M vs X L)(S:Held w0 w' (aB g 85 M.cells :: aG 32 1 M.e X.es.length vs :: L)):tJ w0 w' L g (z,X) (.returned (.int .i64 z)):=
 ⟨rfl,[],M,vs,S,R⟩
theorem vN{M:MirD}{vs:List Value}{X:MS}{L L':List Res}(R:MirR M vs X L)(hL:∀ r ∈ L,r ∈ L')(n:NtD)(hn:n.Ok)(A:Option Addr)(c:Nat)(h:SgR L' A c n.l):MirR { M with la:=pK n.z n.h (.slice A n.l.length c),nd:=true } vs (X.noteF n) L':=by
 have R:=R.more hL;refine ⟨⟨R.ok.nm,R.ok.hs,R.ok.hl,gT hn.h,?_,R.ok.fk,R.ok.e⟩,R.nm,R.sec,R.hl,R.rd,rfl,R.fd,⟨A,c,rfl,h⟩,R.fk,R.en⟩;intro u hu;have:=cT (z:=n.z) (h:=n.h) (v:=.slice A n.l.length c) rfl u
 rw [jS] at this;exact this hu
theorem aE8{M:MirD}{vs:List Value}{X:MS}{L L':List Res}(R:MirR M vs X L)(hL:∀ r ∈ L,r ∈ L')(n:NtD)(hn:n.Ok)(hk:0<=n.z)(v p:Value)(A Ap:Option Addr)(c cp:Nat)(hv:v=.slice A n.l.length c)(hp:p=.slice Ap (dH n.z X.hl).length cp)(h1:SgR L' A c n.l)(h2:HsR L' Ap cp (dH n.z X.hl)):
 MirR { M with fk:=rV (pK n.z n.h v) M.la (bv (bJ (M.hl.take n.z.toNat))) p,fd:=true } vs { X with fk:=aCn X n,fd:=true } L':=by
 have R:=R.more hL;obtain ⟨A2,c2,e2,r2⟩:=R.la
 have hrl:(bv (bJ (M.hl.take n.z.toNat))).length=32:=by
  rw [aX];exact bS (fun x hx=>R.ok.hs x (List.mem_of_mem_take hx))
 refine ⟨⟨R.ok.nm,R.ok.hs,R.ok.hl,R.ok.la,R.ok.la1,aAb (gT hn.h) R.ok.la hrl,R.ok.e⟩,R.nm,R.sec,R.hl,R.rd,R.nd,rfl,R.la,⟨A,A2,Ap,c,c2,cp,?_,h1,r2,h2⟩,R.en⟩
 show rV _ _ _ _=_
 rw [FkD.list,e2,R.hl,hv,hp]
 rfl
theorem qY{w0 w':World}{L:List Res}{g:Nat}{X:MS}{M:MirD}{vs:List Value}{n:NtD}{k:Nat}{cd:Int}(hn:n.Ok)(hz:n.z=k)(R:MirR M vs X L)(H:WiP w0 (aG 32 1 M.e X.es.length vs :: L) g M k n.h n.l cd w'):tJ w0 w' L g (X.withinF n) (.returned (.int .i64 cd)):=by
 have hk:n.z.toNat=k:=by omega
 unfold MS.withinF;rw [hk];rcases H with ⟨h1,rfl,S⟩|⟨h1,h2,rfl,S⟩|⟨h1,h2,rfl,v,p,S⟩
 . rw [R.hl] at h1;rw [if_pos h1];exact gW R S
 . rw [R.hl] at h1;rw [R.nd] at h2;rw [if_neg h1,if_pos h2];exact gW R S
 . rw [R.hl] at h1;rw [R.nd] at h2;rw [if_neg h1,if_neg (by rw [h2];decide)];obtain ⟨A,c,rfl,-⟩:=aS (S.at_ (l1:=[_]));obtain ⟨Ap,cp,rfl,-⟩:=aS (S.at_ (l1:=[_,_]));rw [R.hl] at S;have hs3:∀ r ∈ L,r ∈ aG 89 33 (.slice A n.l.length c) n.l.length (bB n.l) :: aG 23 32 (.slice Ap (dH (k:Int) X.hl).length cp) (dH (k:Int) X.hl).length (dA (dH (k:Int) X.hl)) :: L:=fun r hr=>by simp [hr]
   have hR:=aE8 R hs3 n hn (by omega) (.slice A n.l.length c) (.slice Ap (dH (k:Int) X.hl).length cp) A Ap c cp rfl (by rw [hz]) (fun V hV=>iR (e:=89) hV (by simp)) (fun V hV=>by rw [hz];exact iR (e:=23) hV (by simp));refine ⟨rfl,[aG 89 33 (.slice A n.l.length c) n.l.length (bB n.l),aG 23 32 (.slice Ap (dH (k:Int) X.hl).length cp) (dH (k:Int) X.hl).length (dA (dH (k:Int) X.hl))],_,vs,?_,hR⟩;have S2:=((S.pull 3 rfl).pull 1 rfl);rw [hz,R.hl,show ((k:Int)).toNat=k by omega];exact S2
theorem aAm{w0 w':World}{L:List Res}{g:Nat}{X:MS}{M:MirD}{vs:List Value}{z:Int}(L':List Res)(R:MirR M vs X L)(S:Held w0 w' (aB g 85 M.cells :: aG 32 1 M.e X.es.length vs :: (L' ++ L))):tJ w0 w' L g (z,X) (.returned (.int .i64 z)):=
 ⟨rfl,L',M,vs,S,R.more (fun r hr=>by simp [hr])⟩
theorem tJ.weak{w0 w':World}{L1 L:List Res}{g:Nat}{x:Int × MS}{r:Ending}(h:tJ w0 w' (L1 ++ L) g x r):tJ w0 w' L g x r:=by
 obtain ⟨h1,L',M,vs,S,R⟩:=h;exact ⟨h1,L' ++ L1,M,vs,by rw [List.append_assoc];exact S,by rw [List.append_assoc];exact R⟩
theorem aAd{W:World}{A:Option Addr}{c k:Nat}{vs:List Value}{ls:List (List UInt8)}{t:List UInt8}(h:xY W (.slice A ls.length c) vs ls)(hk:ls[k]?=some t):∃ ad At ct,A=some ad ∧ vs[k]?=some (.slice At t.length ct) ∧ W.cell? (ad.add k)=some (.slice At t.length ct) ∧ Rd W 1 (.slice At t.length ct) t.length (bv t):=by
 have hlt:=(List.getElem?_eq_some_iff.1 hk).1;obtain ⟨u,hu,hr⟩:=h.2 k hlt;rw [(List.getElem?_eq_some_iff.1 hk).2] at hr;obtain ⟨ad,rfl⟩:=gD h.1 (by omega);have hc:=h.at_ hu;obtain ⟨-,At,ct,rfl,-⟩:=id hr;exact ⟨ad,At,ct,rfl,hu,hc,hr⟩
theorem aQt{W:World}{A At:Option Addr}{c ct k:Nat}{vs:List Value}{ls:List (List UInt8)}{t:List UInt8}(h:xY W (.slice A ls.length c) vs ls)(hk:ls[k]?=some t)(hu:vs[k]?=some (.slice At t.length ct)):Rd W 1 (.slice At t.length ct) t.length (bv t):=by
 obtain ⟨ad,A2,c2,-,h2,-,h4⟩:=aAd h hk;rw [hu] at h2
 cases h2;exact h4
theorem aK6{Q:Exit->Act->World->Prop}{a:Act}{w:World}(g n m c:Nat)(A:Option Addr)(z:Int)(hnm:n+m < 9223372036854775808)(HC0:∀ V,Kp [] w V->Calls prog 17 #[Pq g 0] V fun e w'=>e=.returned (Nq n) ∧ Kp [] V w')(hsz:a.tmps.size=130)(o0:Sl a 0 (Pq g 0))(o2:Sl a 2 (.slice A m c))(o10:Sl a 10 (.int .i64 z))
 (hend:∀ (a':Act) (W:World) (b:Bool),Same a a' [34,35,36,37,38,39,40,41,42,43,44,45,46,47,48,49,50,51]->Kp [] w W->Sl a' 51 (.bool b)->(b=true ↔ (z ≠ (n:Int)+(m:Int) ∧ ((n:Int) < z ∨ 0 < m)))->Q .normal a' W):(Code.region 11 (aK 11 f16).toArray false).wp prog Q a w:=by
 have hGap:z=(n:Int)+(m:Int) ∨ (z ≠ (n:Int)+(m:Int) ∧ (n:Int) < z) ∨ (z ≠ (n:Int)+(m:Int) ∧ z<=(n:Int)):=by omega
 rcases hGap with hg|hg|hg
 . exact aHt g n m c A z hnm (LH hg) HC0 hsz o0 o2 o10 (fun a8 w8 hs8 k8 o51=>hend a8 w8 _ hs8 k8 o51 (by simp [hg]))
 . exact aHn g n m c A z hnm (LH hg) HC0 hsz o0 o2 o10 (fun a8 w8 hs8 k8 o51=>hend a8 w8 _ hs8 k8 o51 (by simp only [true_iff];exact ⟨hg.1,.inl hg.2⟩))
 . exact aH5 g n m c A z hnm (LH hg) HC0 hsz o0 o2 o10 (fun a8 w8 hs8 k8 o51=>hend a8 w8 _ hs8 k8 o51 (by
    rw [decide_eq_true_iff];exact ⟨fun h=>⟨hg.1,.inr h⟩,fun h=>by rcases h.2 with h2|h2 <;> omega⟩))
theorem aMc{Q:Exit->Act->World->Prop}{a:Act}{w:World}(cd:Int)(g:Nat)(cs:Array Value)(nd:Bool)(hb:aM w g 85 cs)(h9:cs[38]?=some (.bool nd))(hsz:a.tmps.size=130)(o0:Sl a 0 (Pq g 0))(o11:Sl a 11 (.int .i64 cd)):bC false 15 f16 Q a w fun a' W q'=>Kp [] w W->Sl a' 68 (.bool (decide (cd=0) && !nd))->q':=by
 intro hend
 by_cases h:cd=0
 . subst h;exact zT g cs nd hb h9 hsz o0 o11 (fun a8 w8 hs8 k8 o68=>hend a8 w8 hs8 k8 (by simpa using o68))
 . exact aEm cd (LH h) (by rw [beq_eq_false_iff_ne];exact h) hsz o11 (fun a8 w8 hs8 k8 o68=>hend a8 w8 hs8 k8 (by rw [decide_eq_false h,Bool.false_and];exact o68))
theorem aDm(w0:World)(L:List Res)(LD0:LD w0)(g:Nat)(X:MS)(M:MirD)(vs:List Value)(R:MirR M vs X L)(n:NtD)(hn:n.Ok)(A:Option Addr)(c:Nat)(ls:List (List UInt8))(hls:X.es.length+ls.length<=1000000)(hlb:∀ e ∈ ls,e.length<=140737488355200)(Ax:Option Addr)(cx:Nat)(tvs:List Value)(w:World)(S:Held w0 w (aB g 85 M.cells :: aG 32 1 M.e X.es.length vs :: L))(HVn:SgR L A c n.l)(HVx:∀ V,Kp [] w0 V->(∀ r ∈ L,r.ok V)->xY V (.slice Ax ls.length cx) tvs ls):
 Calls prog 16 #[Pq g 0,.agg (bD n.z n.h (.slice A n.l.length c)),.slice Ax ls.length cx] w fun r w'=>tJ w0 w' L g (X.takeF n ls) r:=by
 have hM:=R.ok;have hXl:M.hl.length=X.es.length:=by rw [R.hl,X.hl_length]
 obtain ⟨Ae,ce,hMe⟩:=hM.e;rw [hXl] at hMe;have hcs:M.cells[141]?=some (.bool true):=pC hM.la hM.fk;have hmay:nX M.fd n.z n.h n.l M.nm M.sec=X.mayF n:=by unfold MS.mayF;rw [R.fd,R.nm,R.sec]
 refine aR func16 rfl 130 rfl (fun a0 hsz hdf hAr=>?_);have hz0:a0.tmps.size=130:=hsz;have D:=hdf;have o0:=hAr 0 _ rfl;have o1:=hAr 1 _ rfl;have o2:=hAr 2 _ rfl;refine wp_seq (aEo w0 _ (aN hn.h) (cT rfl) _ S hz0 o1 (fun a1 w1 hs1 o6 h1=>?_));obtain ⟨hz1,D,o0,o2⟩:=dU hs1 hz0 D o0 o2;obtain ⟨g4,o4,S1⟩:=h1;have S1:=((S1.pull 2 rfl).pull 2 rfl)
 try simp only [List.eraseIdx] at S1
 have hG:∀ {w':World} {x:Int × MS} {r:Ending},tJ w0 w' (aB g4 28 (bD n.z n.h (.slice A n.l.length c)) :: L) g x r->tJ w0 w' L g x r:=fun h=>tJ.weak (L1:=[_]) h
 obtain ⟨L1,hL1⟩:∃ L1,aB g4 28 (bD n.z n.h (.slice A n.l.length c)) :: L=L1:=⟨_,rfl⟩;have hsub:∀ r ∈ L,r ∈ L1:=fun r hr=>by rw [<- hL1];exact List.mem_cons_of_mem _ hr
 have hg4:aB g4 28 (bD n.z n.h (.slice A n.l.length c)) ∈ L1:=by rw [<- hL1];exact List.mem_cons_self ..
 rw [hL1] at S1 hG;have HVn:SgR L1 A c n.l:=fun V hV=>HVn V (fun r hr=>hV r (hsub r hr))
 have HVx:∀ V,Kp [] w0 V->(∀ r ∈ L1,r.ok V)->xY V (.slice Ax ls.length cx) tvs ls:=fun V kV hV=>HVx V kV (fun r hr=>hV r (hsub r hr))
 have R:=R.more hsub;have okL:∀ {V:World} {r1 r2:Res},Held w0 V (r1 :: r2 :: L1)->∀ r ∈ L1,r.ok V:=fun SV r hr=>SV.ok r (List.mem_cons_of_mem _ (List.mem_cons_of_mem _ hr))
 have hb4:∀ {V:World},(∀ r ∈ L1,r.ok V)->aM V g4 28 (bD n.z n.h (.slice A n.l.length c)):=fun hV=>hV (aB g4 28 (bD n.z n.h (.slice A n.l.length c))) hg4
 clear hL1;refine wp_seq (wp_seq (aFg _ g4 _ (aN hn.h) (hb4 (okL S1)) _ (tF n.z hn.z n.h hn.h A c n.l hn.l hn.m M.nm hM.nm M.Ak M.ck M.sec g M.cells M.fd w1 (LD0.kp S1.k) (S1.at_ (l1:=[])) aAf aAi (oQ hM.la hM.fk) hcs (HVn w1 (okL S1)) (R.rd w1 (okL S1)).1) hz1 o0 o4 (fun a2 w2 hs2 o7 k2=>?_)));obtain ⟨hz2,D,o0,o2,o4⟩:=dF hs2 hz1 D o0 o2 o4;have S2:=S1.kp k2;rw [hmay] at o7;refine wp_seq (aGp _ hz2 o7 (fun a3 hs3 o19=>?_));obtain ⟨hz3,D,o0,o2,o4,o7⟩:=fH hs3 hz2 D o0 o2 o4 o7
 by_cases hm:X.mayF n=0
 case neg=>
  have hq:(X.mayF n != 0)=true:=by rw [bne_iff_ne];exact hm
  refine cS o19 ?_ (by rw [hq]);refine wp_seq (aGi _ hz3 o7 (fun a4 hs4 o6=>?_));obtain ⟨hz4,D⟩:=dS hs4 hz3 D;refine wp_ret ?_
  try simp only [Exit.then,Exit.inBlock]
  have e:X.takeF n ls=(X.mayF n,X):=by unfold MS.takeF;rw [if_pos hm]
  rw [e];exact bodyPost_ret (bA (by rfl) (o6.eval (by rw [hz4];decide))) D (hG (gW R S2))
 rw [hm] at o19;refine dD o19 (wp_skip ?_);simp only [Exit.then];have hmay0:=vK (hmay.trans hm);obtain ⟨hfd,hz0n⟩:=hmay0;obtain ⟨k,hk⟩:∃ k:Nat,n.z=k:=⟨n.z.toNat,by omega⟩;refine wp_seq (wp_seq (aQ6 Ax ls.length cx hz3 o2 (fun a4 hs4 o21 o22 o23=>?_)));obtain ⟨hz4,D,o0,o2,o4⟩:=dF hs4 hz3 D o0 o2 o4;refine wp_block ?_
 (conv=>arg 2;whnf)
 refine wp_loop (fun a' w'=>∃ i:Nat,i<=ls.length ∧ a'.tmps.size=130 ∧ a'.defers=[] ∧ Sl a' 0 (Pq g 0) ∧ Sl a' 2 (.slice Ax ls.length cx) ∧ Sl a' 4 (Pq g4 0) ∧ Sl a' 21 (.slice Ax ls.length cx) ∧ Sl a' 22 (Nq (ls.length)) ∧ Sl a' 23 (Nq i) ∧ (∀ t ∈ ls.take i,t.length<=4096) ∧ Held w0 w' (aB g 85 M.cells :: aG 32 1 M.e X.es.length vs :: L1)) (fun a' _=>ls.length - (intOf (a'.eval (.tmp 23))).toNat) ⟨0,Nat.zero_le _,hz4,D,o0,o2,o4,o21,o22,o23,by simp,S2⟩ ?_
 iterate 9 (try clear o0)
 iterate 9 (try clear o2)
 iterate 9 (try clear o4)
 iterate 9 (try clear o21)
 iterate 9 (try clear o22)
 iterate 9 (try clear o23)
 iterate 9 (try clear D)
 iterate 9 (try clear S2)
 iterate 9 (try clear S1)
 rintro a7 w7 ⟨i,hi,hz7,D,o0,o2,o4,o21,o22,o23,hsh,S⟩;have e23:=o23.eval (by rw [hz7];decide);refine wp_seq (aVw i ls.length hz7 o22 o23 (fun a8 hs8 o24=>?_));obtain ⟨hz8,D,o0,o2,o4,o21,o22,o23⟩:=jF hs8 hz7 D o0 o2 o4 o21 o22 o23
 by_cases hlt:i < ls.length
 case pos=>
  refine wp_seq (cS o24 (wp_skip ?_) (by rw [decide_eq_true hlt]));simp only [Exit.then];obtain ⟨t,ht⟩:∃ t,ls[i]?=some t:=⟨_,List.getElem?_eq_getElem hlt⟩;obtain ⟨ad,At,ct,rfl,htv,hcell,hrd⟩:=aAd (HVx w7 S.k (okL S)) ht;refine wp_seq (wp_block ?_);refine wp_seq (aPy ad i ls.length cx hlt _ hcell ⟨_,_,_,rfl⟩ hz8 o21 o23 (fun a9 hs9 o9=>?_));obtain ⟨hz9,D,o0,o2,o4,o21,o22,o23⟩:=jF hs9 hz8 D o0 o2 o4 o21 o22 o23;refine wp_seq (aPc At t.length ct hz9 o9 (fun a10 hs10 o29=>?_));obtain ⟨hz10,D,o0,o2,o4,o21,o22,o23⟩:=jF hs10 hz9 D o0 o2 o4 o21 o22 o23
  by_cases h4:4096 < t.length
  case pos=>
   refine cS o29 ?_ (by rw [decide_eq_true h4]);refine wp_seq (aX2 hz10 (fun a11 hs11 o6=>?_));obtain ⟨hz11,D,o0,o2,o4,o21,o22,o23,o29⟩:=vQ hs11 hz10 D o0 o2 o4 o21 o22 o23 o29;refine wp_ret ?_
   try simp only [Exit.then,Exit.inBlock]
   have e:X.takeF n ls=(3,X):=by unfold MS.takeF;rw [if_neg (by rw [hm];decide),if_pos ⟨t,List.mem_of_getElem? ht,h4⟩]
   rw [e];exact bodyPost_ret (bA (by rfl) (o6.eval (by rw [hz11];decide))) D (hG (gW R S))
  refine dD o29 (wp_skip ?_) (by rw [decide_eq_false h4]);simp only [Exit.then,Exit.inBlock];refine aVh i (by omega) hz10 o23 (fun a11 hs11 o23=>?_);have hz11:=hs11.size.trans hz10;refine ⟨⟨i+1,hlt,hz11,hs11.defers.trans D,hs11.q o0,hs11.q o2,hs11.q o4,hs11.q o21,hs11.q o22,o23,?_,S⟩,?_⟩
  . intro u hu;rw [List.take_add_one,ht] at hu;rcases List.mem_append.1 hu with hu|hu
    . exact hsh u hu
    . simp at hu;subst hu;omega
  . show ls.length - (intOf _).toNat < ls.length - (intOf _).toNat
    rw [e23,o23.eval (by rw [hz11];decide)];simp only [intOf];omega
 refine wp_seq (dD o24 (wp_exit ?_) (by rw [decide_eq_false hlt]));simp only [Exit.then,Exit.inBlock];obtain rfl:i=ls.length:=by omega
 rw [List.take_length] at hsh;have hsh2:¬ ∃ t ∈ ls,4096 < t.length:=fun ⟨t,h1,h2⟩=>by have:=hsh t h1;omega
 clear hlt hi e23 o21 o22 o23 o24;refine wp_seq (aI5 g4 _ (k:Int) (hb4 (okL S)) (by rw [<- hk];exact kF) hz8 o4 (fun a9 hs9 o10=>?_));obtain ⟨hz9,D,o0,o2,o4⟩:=dF hs9 hz8 D o0 o2 o4;have HS:∀ V,Kp [] w7 V->Calls prog 17 #[Pq g 0] V fun e w'=>e=.returned (Nq (X.es.length)) ∧ Kp [] V w':=fun V kV=>kG g M.cells Ae X.es.length ce V ((S.kp kV).at_ (l1:=[])) hcs (by rw [<- hMe];exact pL)
 refine wp_seq (wp_seq (aK6 g X.es.length ls.length cx Ax (k:Int) (by omega) HS hz9 o0 o2 o10 (fun a10 w8 b hs10 k8 o51 hb=>?_)));obtain ⟨hz10,D,o0,o2,o4,o10⟩:=fH hs10 hz9 D o0 o2 o4 o10;rw [<- hk] at hb;have S8:=S.kp k8
 cases b
 case true=>
  refine cS o51 ?_;refine wp_seq (aMf hz10 (fun a11 hs11 o6=>?_));obtain ⟨hz11,D,o0,o2,o4,o10⟩:=fH hs11 hz10 D o0 o2 o4 o10;refine wp_ret ?_
  try simp only [Exit.then,Exit.inBlock]
  have e:X.takeF n ls=(402,X):=by unfold MS.takeF;rw [if_neg (by rw [hm];decide),if_neg hsh2,if_pos (hb.1 rfl)]
  rw [e];exact bodyPost_ret (bA (by rfl) (o6.eval (by rw [hz11];decide))) D (hG (gW R S8))
 have hng:¬ (n.z ≠ (X.es.length:Int)+(ls.length:Int) ∧ ((X.es.length:Int) < n.z ∨ 0 < ls.length)):=fun h=>by have:=hb.2 h;cases this
 have eT:X.takeF n ls=if n.z<=(X.es.length:Int) then (if (X.withinF n).1=0 ∧ X.nd=false then (0,X.noteF n) else X.withinF n) else if bJ (X.hl ++ ls.map bE)=n.h then (0,({ X with es:=X.es ++ ls }:MS).noteF n) else (403,X):=by
  unfold MS.takeF;rw [if_neg (by rw [hm];decide),if_neg hsh2,if_neg hng]
 rw [eT];clear eT hb;refine dD o51 (wp_skip ?_);simp only [Exit.then];refine wp_seq (wp_seq (aK1 g X.es.length (k:Int) (kG g M.cells Ae X.es.length ce w8 (S8.at_ (l1:=[])) hcs (by rw [<- hMe];exact pL)) hz10 o0 o10 (fun a11 w9 hs11 o55 k9=>?_)));obtain ⟨hz11,D,o0,o2,o4⟩:=dF hs11 hz10 D o0 o2 o4;have S9:=S8.kp k9
 by_cases hkn:k<=X.es.length
 case pos=>
  rw [if_pos (by omega:n.z<=(X.es.length:Int))];refine cS o55 ?_ (by rw [decide_eq_true (by omega)]);have hb9:=hb4 (okL S9);rw [hk] at hb9;have hWi:=tC w0 (aG 32 1 M.e X.es.length vs :: L1) g M hM hfd k (by omega) n.h hn.h A c n.l hn.l hn.m w9 S9 (fun V hV=>HVn V (fun r hr=>hV r (List.mem_cons_of_mem _ hr))) (fun V hV=>R.rd V (fun r hr=>hV r (List.mem_cons_of_mem _ hr)));refine wp_seq (aIl g g4 _ (aN hn.h) hb9 _ hWi hz11 o0 o4 (fun a12 w10 hs12 h10=>?_));obtain ⟨hz12,D,o0,o4⟩:=dU hs12 hz11 D o0 o4;obtain ⟨cd,o11,hW⟩:=h10;have hP:=qY hn hk R hW;obtain ⟨hcd,L',M',vs',S10,R'⟩:=hP;have hcd:cd=(X.withinF n).1:=by injection hcd with h;injection h with _ h
  by_cases hc:(X.withinF n).1=0 ∧ X.nd=false
  case pos=>
   rw [if_pos hc];rw [hcd,hc.1] at o11
   have hX:(X.withinF n).2=X:=by
    have h:=hc.1;unfold MS.withinF at h ⊢
    split
    . rfl
    . rename_i h1
      rw [if_neg h1,if_pos hc.2] at h;simp at h
   rw [hX] at S10 R';have S10:Held w0 w10 (aB g 85 M'.cells :: aG 32 1 M'.e X.es.length vs' :: (L' ++ L1)):=S10;refine wp_seq (wp_seq (zT g _ false (S10.at_ (l1:=[])) (by have:=R'.nd;rw [hc.2] at this;rw [<- this];exact oX R'.ok.la) hz12 o0 o11 (fun a13 w11 hs13 k11 o68=>?_)));obtain ⟨hz13,D,o0,o4,o11⟩:=dF hs13 hz12 D o0 o4 o11;have S11:=S10.kp k11;refine cS o68 ?_;have hNote:=kL w0 (aB g 85 M'.cells :: aG 32 1 M'.e X.es.length vs' :: (L' ++ L1)) n.z n.h hn.h A c n.l hn.l hn.m w11 S11 (fun V SV=>HVn V (fun r hr=>SV.ok r (by simp [hr])));refine aIs w0 g g4 _ (aN hn.h) (hb4 (fun r hr=>S11.ok r (by simp [hr]))) n.z n.h hn.h n.l.length (bB n.l) _ (qF R'.ok.la R'.ok.fk) _ M'.nd (fun v=>(by rw [jS];exact vE R'.ok.la:(M'.cells.toList.take 4 ++ (bD n.z n.h v).toList ++ M'.cells.toList.drop (4+34)).toArray=dO (bX M'.nm) (.slice M'.Ak M'.sec.length M'.ck) M'.e (.slice M'.Ah M'.hl.length M'.ch) (pK n.z n.h v) M'.nd M'.fk M'.fd true)) (fun v=>oX (gT hn.h)) (aG 32 1 M'.e X.es.length vs' :: (L' ++ L1)) (hNote.mono (fun r w' ⟨v,h1,h2⟩=>⟨v,h1,h2.pull 1 rfl⟩)) hz13 o0 o4 (fun a14 w12 hs14 h12=>?_);obtain ⟨hz14,D,o0,o4,o11⟩:=dF hs14 hz13 D o0 o4 o11;obtain ⟨v,S12⟩:=h12;rw [sM (gT hn.h)] at S12;obtain ⟨Av,cv,rfl,-⟩:=aS (S12.at_ (l1:=[_]));simp only [Exit.then];refine wp_seq (aCc _ hz14 o11 (fun a15 hs15 o6=>?_));obtain ⟨hz15,D,o11⟩:=eY hs15 hz14 D o11;refine wp_ret ?_
   try simp only [Exit.then,Exit.inBlock]
   refine bodyPost_ret (bA (by rfl) (o6.eval (by rw [hz15];decide))) D (hG ⟨rfl,aG 89 33 (.slice Av n.l.length cv) n.l.length (bB n.l) :: L',{ M' with la:=pK n.z n.h (.slice Av n.l.length cv),nd:=true },vs',(S12.pull 2 rfl).pull 1 rfl,?_⟩);exact vN R' (fun r hr=>List.mem_cons_of_mem _ hr) n hn Av cv (fun V hV=>iR (e:=89) hV (by simp))
  rw [if_neg hc];refine wp_seq (wp_seq (aMc cd g _ M'.nd (S10.at_ (l1:=[])) (oX R'.ok.la) hz12 o0 o11 (fun a13 w11 hs13 k11 o68=>?_)));obtain ⟨hz13,D,o0,o4,o11⟩:=dF hs13 hz12 D o0 o4 o11
  have hcb:(decide (cd=0) && !M'.nd)=false:=by
   rw [hcd,R'.nd];unfold MS.withinF at hc ⊢
   split at hc
   . rename_i h1
     rw [if_pos h1]
     cases hh:X.nd with
     |true=>simp [hh]
     |false=>exact absurd ⟨rfl,hh⟩ hc
   . rename_i h1
     rw [if_neg h1]
     split <;> simp
  refine dD o68 (wp_skip ?_) (by rw [hcb]);simp only [Exit.then];refine wp_seq (aCc _ hz13 o11 (fun a14 hs14 o6=>?_));obtain ⟨hz14,D⟩:=dS hs14 hz13 D;refine wp_ret ?_
  try simp only [Exit.then,Exit.inBlock]
  rw [hcd] at o6;exact bodyPost_ret (bA (by rfl) (o6.eval (by rw [hz14];decide))) D (hG (⟨rfl,L',M',vs',S10.kp k11,R'⟩))
 rw [if_neg (by omega:¬ n.z<=(X.es.length:Int))];refine dD o55 (wp_skip ?_) (by rw [decide_eq_false (by omega)]);simp only [Exit.then]
 skip
 have HC1:∀ V,Kp [] w0 V->(∀ r ∈ (aG 32 1 M.e X.es.length vs :: L1),r.ok V)->Calls prog 48 #[.slice Ax ls.length cx] V fun r w'=>∃ v,r=.returned v ∧ Held V w' [aG 23 32 v ls.length (dA (ls.map bE))]:=fun V kV hV=>yM _ ls (by omega) hlb V ⟨_,HVx V kV (fun r hr=>hV r (List.mem_cons_of_mem _ hr))⟩
 have HC2:∀ V v2 v,Ow V 29 1 v2 2 [.slice M.Ah M.hl.length M.ch,v]->Ow V 23 32 v ls.length (dA (ls.map bE))->(∀ r ∈ (aG 32 1 M.e X.es.length vs :: L1),r.ok V)->Calls prog 47 #[v2] V fun r w'=>∃ u,r=.returned u ∧ Held V w' [aG 23 32 u (M.hl ++ ls.map bE).length (dA (M.hl ++ ls.map bE))]:=by
  intro V v2 v h1 h2 hV;obtain ⟨A2,c2,rfl,-⟩:=aS h1;have hx:tK [((.slice M.Ah M.hl.length M.ch:Value),M.hl),(v,ls.map bE)]=M.hl ++ ls.map bE:=by simp [tK]
  have:=zH A2 c2 [((.slice M.Ah M.hl.length M.ch:Value),M.hl),(v,ls.map bE)] (by rw [hx];simp;omega) V (Rd.of_own h1) (by
   intro x hm;rcases List.mem_cons.1 hm with rfl|hm
   . exact (R.rd V (fun r hr=>hV r (List.mem_cons_of_mem _ hr))).2
   . simp only [List.mem_singleton] at hm;subst hm;have:=Rd.of_own h2
     rw [show (ls.map bE).length=ls.length by simp];exact this)
  rw [hx] at this;exact this
 refine wp_seq (aIw w0 g _ M.Ah Ax M.hl.length M.ch ls.length cx _ _ _ _ uR (aG 32 1 M.e X.es.length vs :: L1) HC1 HC2 hz11 o0 o2 S9  (fun a12 vs18 gs18 w10 hs12 o12 S10=>?_));obtain ⟨hz12,D,o0,o2,o4⟩:=dF hs12 hz11 D o0 o2 o4;generalize vs18 6=u6 at *;generalize vs18 7=u7 at *;generalize vs18 8=u8 at *;obtain ⟨Au,cu,rfl,-⟩:=aS (S10.at_ (l1:=[_,_]));have hqL:(M.hl ++ ls.map bE).length=X.es.length+ls.length:=by simp [hXl]
 have S10:=(S10.drop).drop
 have hHs:dP (M.hl ++ ls.map bE):=fun x hx=>by
  rcases List.mem_append.1 hx with hx|hx
  . exact hM.hs x hx
  . exact kE ls x hx
 rw [<- R.hl];refine wp_seq (wp_seq (aNb g4 n.z n.h hn.h _ Au (M.hl ++ ls.map bE).length cu (bJ (M.hl ++ ls.map bE)) (bS hHs) (hb4 (fun r hr=>S10.ok r (by simp [hr]))) (fun V kV=>rS Au cu (M.hl ++ ls.map bE) hHs V (Rd.of_own ((S10.kp kV).at_ (l1:=[])))) hz12 o4 o12 (fun a13 w11 hs13 k11 o94=>?_)));obtain ⟨hz13,D,o0,o2,o4,o12⟩:=fH hs13 hz12 D o0 o2 o4 o12;have S11:=S10.kp (((Kp.refl [] w10).drew).trans k11 (by simp))
 by_cases hr:bJ (M.hl ++ ls.map bE)=n.h
 case neg=>
  rw [if_neg hr];refine cS o94 ?_ (by rw [beq_eq_false_iff_ne.2 hr];rfl);refine wp_seq (aK2 hz13 (fun a14 hs14 o6=>?_));obtain ⟨hz14,D,o0,o2,o4,o12,o94⟩:=jJ hs14 hz13 D o0 o2 o4 o12 o94;refine wp_ret ?_
  try simp only [Exit.then,Exit.inBlock]
  exact bodyPost_ret (bA (by rfl) (o6.eval (by rw [hz14];decide))) D (hG (aAm [_] R ((S11.pull 2 rfl).pull 2 rfl)))
 rw [if_pos hr];refine dD o94 (wp_skip ?_) (by rw [hr,beq_self_eq_true];rfl);simp only [Exit.then];refine wp_seq (aMa w0 g _ _ ⟨_,_,_,rfl⟩ _ ⟨_,_,_,rfl⟩ uR _ (S11.pull 1 rfl) hz13 o0 o12 (fun a14 w12 hs14 S12=>?_));obtain ⟨hz14,D,o0,o2,o4,o12⟩:=fH hs14 hz13 D o0 o2 o4 o12
 have S12:Held w0 w12 (aB g 85 (dO (bX M.nm) (.slice M.Ak M.sec.length M.ck) M.e (.slice Au (M.hl ++ ls.map bE).length cu) M.la M.nd M.fk M.fd true) :: aG 23 32 (.slice Au (M.hl ++ ls.map bE).length cu) (M.hl ++ ls.map bE).length (dA (M.hl ++ ls.map bE)) :: aG 32 1 M.e X.es.length vs :: L1):=by
  have h:=S12;rw [aEd] at h;exact h
 rw [hMe] at S12;have S12:=(S12.pull 1 rfl).pull 2 rfl;have S12:=S12.pull 2 rfl;have S12:=S12.pull 1 rfl
 try simp only [List.eraseIdx] at S12
 refine wp_seq (wp_seq (aKs Ax ls.length cx hz14 o2 (fun a15 hs15 o100 o101 o102=>?_)));obtain ⟨hz15,D,o0,o2,o4⟩:=dF hs15 hz14 D o0 o2 o4;obtain ⟨L2,hL2⟩:∃ L2,aG 23 32 (.slice Au (M.hl ++ ls.map bE).length cu) (M.hl ++ ls.map bE).length (dA (M.hl ++ ls.map bE)) :: L1=L2:=⟨_,rfl⟩;have hsub2:∀ r ∈ L1,r ∈ L2:=fun r hr=>by rw [<- hL2];exact List.mem_cons_of_mem _ hr
 rw [hL2] at S12;refine wp_block ?_
 (conv=>arg 2;whnf)
 refine wp_loop (fun a' w'=>∃ (i:Nat) (Ae:Option Addr) (ce:Nat) (us:List Value) (L':List Res),i<=ls.length ∧ a'.tmps.size=130 ∧ a'.defers=[] ∧ Sl a' 0 (Pq g 0) ∧ Sl a' 4 (Pq g4 0) ∧ Sl a' 100 (.slice Ax ls.length cx) ∧ Sl a' 101 (Nq (ls.length)) ∧ Sl a' 102 (Nq i) ∧ EnR (L' ++ L2) us (ls.take i) ∧ Held w0 w' (aG 32 1 (.slice Ae (X.es.length+i) ce) (X.es.length+i) (vs ++ us) :: aB g 85 (dO (bX M.nm) (.slice M.Ak M.sec.length M.ck) (.slice Ae (X.es.length+i) ce) (.slice Au (M.hl ++ ls.map bE).length cu) M.la M.nd M.fk M.fd true) :: (L' ++ L2))) (fun a' _=>ls.length - (intOf (a'.eval (.tmp 102))).toNat) ⟨0,Ae,ce,[],[],Nat.zero_le _,hz15,D,o0,o4,o100,o101,o102,EnR.nil _,by simpa using S12⟩ ?_
 iterate 9 (try clear o2)
 iterate 9 (try clear o12)
 iterate 9 (try clear o0)
 iterate 9 (try clear o4)
 iterate 9 (try clear o100)
 iterate 9 (try clear o101)
 iterate 9 (try clear o102)
 iterate 9 (try clear D)
 iterate 9 (try clear S12)
 iterate 9 (try clear S11)
 iterate 9 (try clear S10)
 iterate 9 (try clear S9)
 iterate 9 (try clear S8)
 iterate 9 (try clear S)
 rintro a7 w7 ⟨i,Ae,ce,us,L',hi,hz7,D,o0,o4,o100,o101,o102,hen,S⟩;have e102:=o102.eval (by rw [hz7];decide);have okL2:∀ {V:World} {r1 r2:Res},Held w0 V (r1 :: r2 :: (L' ++ L2))->∀ r ∈ L1,r.ok V:=fun SV r hr=>SV.ok r (List.mem_cons_of_mem _ (List.mem_cons_of_mem _ (List.mem_append_right _ (hsub2 r hr))))
 refine wp_seq (aJp i ls.length hz7 o101 o102 (fun a8 hs8 o103=>?_));obtain ⟨hz8,D,o0,o4,o100,o101,o102⟩:=jJ hs8 hz7 D o0 o4 o100 o101 o102
 by_cases hlt:i < ls.length
 case pos=>
  refine wp_seq (cS o103 (wp_skip ?_) (by rw [decide_eq_true hlt]));simp only [Exit.then];obtain ⟨t,ht⟩:∃ t,ls[i]?=some t:=⟨_,List.getElem?_eq_getElem hlt⟩;obtain ⟨ad,At,ct,rfl,htv,hcell,hrd⟩:=aAd (HVx w7 S.k (okL2 S)) ht;have htm:=List.mem_of_getElem? ht;refine wp_seq (wp_block ?_);refine wp_seq (aNg ad i ls.length cx hlt _ hcell ⟨_,_,_,rfl⟩ hz8 o100 o102 (fun a9 hs9 o14=>?_));obtain ⟨hz9,D,o0,o4,o100,o101,o102⟩:=jJ hs9 hz8 D o0 o4 o100 o101 o102;refine aNa w0 g (X.es.length+i) _ Ae ce (vs ++ us) (by omega) At ct t (hlb t htm) pL (L' ++ L2) (fun V kV hV=>aQt (HVx V kV (fun r hr=>hV r (List.mem_append_right _ (hsub2 r hr)))) ht htv) hz9 o0 o14 S  (fun a10 vs25 gs25 w10 hs10 S10=>?_);obtain ⟨hz10,D,o0,o4,o100,o101,o102⟩:=jJ hs10 hz9 D o0 o4 o100 o101 o102;generalize vs25 7=u7 at *;generalize vs25 8=u8 at *;generalize vs25 9=u9 at *;simp only [Exit.then,Exit.inBlock];obtain ⟨A7,c7,rfl,-⟩:=aS (S10.at_ (l1:=[]));obtain ⟨A9,c9,rfl,-⟩:=aS (S10.at_ (l1:=[_,_]));rw [aEi] at S10;have S10:=(S10.pull 1 rfl).drop;have S10:=(S10.pull 2 rfl).pull 2 rfl
  try simp only [List.eraseIdx] at S10
  refine aL6 i (by omega) hz10 o102 (fun a11 hs11 o102=>?_);have hz11:=hs11.size.trans hz10;refine ⟨⟨i+1,A9,c9,us ++ [.slice A7 t.length c7],aG 5 1 (.slice A7 t.length c7) t.length (bv t) :: L',hlt,hz11,hs11.defers.trans D,hs11.q o0,hs11.q o4,hs11.q o100,hs11.q o101,o102,?_,?_⟩,?_⟩
  . rw [List.take_add_one,ht];exact (hen.more (fun r hr=>List.mem_cons_of_mem _ hr)).app (EnR.one (fun V hV=>iR (e:=5) hV (by simp)))
  . rw [<- Nat.add_assoc,<- List.append_assoc];exact S10
  . show ls.length - (intOf _).toNat < ls.length - (intOf _).toNat
    rw [e102,o102.eval (by rw [hz11];decide)];simp only [intOf];omega
 refine wp_seq (dD o103 (wp_exit ?_) (by rw [decide_eq_false hlt]));simp only [Exit.then,Exit.inBlock];obtain rfl:i=ls.length:=by omega
 rw [List.take_length] at hen;clear hlt hi e102 o100 o101 o102 o103;have S:=S.pull 1 rfl
 try simp only [List.eraseIdx] at S
 have hNote:=kL w0 _ n.z n.h hn.h A c n.l hn.l hn.m w7 S (fun V SV=>HVn V (fun r hr=>SV.ok r (List.mem_cons_of_mem _ (List.mem_cons_of_mem _ (List.mem_append_right _ (hsub2 r hr))))));refine wp_seq (aJo w0 g g4 _ (aN hn.h) (hb4 (fun r hr=>S.ok r (List.mem_cons_of_mem _ (List.mem_cons_of_mem _ (List.mem_append_right _ (hsub2 r hr)))))) n.z n.h hn.h n.l.length (bB n.l) _ (qF hM.la hM.fk) _ M.nd (fun v=>by rw [jS];exact vE hM.la) (fun v=>oX (gT hn.h)) _ (hNote.mono (fun r w' ⟨v,h1,h2⟩=>⟨v,h1,h2.pull 1 rfl⟩)) hz8 o0 o4 (fun a9 w12 hs9 h12=>?_));obtain ⟨hz9,D⟩:=dS hs9 hz8 D;obtain ⟨v,S12⟩:=h12;rw [sM (gT hn.h)] at S12;obtain ⟨Av,cv,rfl,-⟩:=aS (S12.at_ (l1:=[_]))
 try simp only [List.eraseIdx] at S12
 refine wp_seq (aMy hz9 (fun a10 hs10 o6=>?_));obtain ⟨hz10,D⟩:=dS hs10 hz9 D;refine wp_ret ?_
 try simp only [Exit.then,Exit.inBlock]
 have hlen:(M.hl ++ ls.map bE).length=(X.es ++ ls).length:=by rw [hqL];simp
 have S13:=(S12.pull 2 rfl).pull 1 rfl
 try simp only [List.eraseIdx] at S13
 refine bodyPost_ret (bA (by rfl) (o6.eval (by rw [hz10];decide))) D (hG ⟨rfl,aG 89 33 (.slice Av n.l.length cv) n.l.length (bB n.l) :: (L' ++ [aG 23 32 (.slice Au (M.hl ++ ls.map bE).length cu) (M.hl ++ ls.map bE).length (dA (M.hl ++ ls.map bE))]),{ M with hl:=M.hl ++ ls.map bE,Ah:=Au,ch:=cu,e:=.slice Ae (X.es.length+ls.length) ce,la:=pK n.z n.h (.slice Av n.l.length cv),nd:=true },vs ++ us,?_,?_⟩)
 . have e1:(({ X with es:=X.es ++ ls }:MS).noteF n).es.length=X.es.length+ls.length:=by simp [MS.noteF]
   show Held w0 w12 (_ :: aG _ _ _ (({ X with es:=X.es ++ ls }:MS).noteF n).es.length _ :: _)
   rw [e1,List.cons_append,List.append_assoc,List.singleton_append,hL2];exact S13
 . rw [List.cons_append,List.append_assoc,List.singleton_append,hL2];have R2:=R.more (L':=aG 89 33 (.slice Av n.l.length cv) n.l.length (bB n.l) :: (L' ++ L2)) (fun r hr=>by have:=hsub2 r hr;simp [this])
   have R3:MirR { M with hl:=M.hl ++ ls.map bE,Ah:=Au,ch:=cu,e:=.slice Ae (X.es.length+ls.length) ce } (vs ++ us) { X with es:=X.es ++ ls } (aG 89 33 (.slice Av n.l.length cv) n.l.length (bB n.l) :: (L' ++ L2)):=by
    refine ⟨⟨hM.nm,hHs,by simp at hqL ⊢;omega,hM.la,hM.la1,hM.fk,⟨Ae,ce,?_⟩⟩,R2.nm,R2.sec,?_,?_,R2.nd,R2.fd,R2.la,R2.fk,?_⟩
    . show Value.slice Ae (X.es.length+ls.length) ce=.slice Ae (M.hl ++ ls.map bE).length ce
      rw [hqL]
    . show M.hl ++ ls.map bE=(X.es ++ ls).map bE
      rw [R.hl,List.map_append];rfl
    . intro V hV;exact ⟨(R2.rd V hV).1,iR (e:=23) hV (by rw [<- hL2];simp)⟩
    . exact R2.en.app (hen.more (fun r hr=>List.mem_cons_of_mem _ hr))
   exact vN R3 (fun r hr=>hr) n hn Av cv (fun V hV=>iR (e:=89) hV (by simp))
theorem pY(L:List (List UInt8)):∀ (f m a n:Nat) (whole:Bool) (first:Bs),1<=m->m<=n->n<=2 ^ f->a+n<=L.length->(whole=true->first=bJ (((L.drop a).take n).take m))->
 eS (f+1) m n whole first ((cU (f+1) m a n whole).map fun r=>bJ ((L.drop r.1).take (r.2 - r.1)))=(bJ (((L.drop a).take n).take m),bJ ((L.drop a).take n))
 |f,m,a,n,whole,first,h1,hm,hf,ha,hw=>by
  have hlen:((L.drop a).take n).length=n:=by rw [List.length_take,List.length_drop];omega
  rw [bP];unfold eS
  by_cases hmn:m=n
  . subst hmn;have ht:((L.drop a).take m).take m=(L.drop a).take m:=List.take_of_length_le (by omega);rw [if_pos rfl,if_pos rfl]
    cases whole with
    |true=>
     rw [if_pos rfl,hw rfl,ht]
    |false=>
     rw [if_neg (by decide),if_neg (by decide),ht]
     simp
  . have h2:2<=n:=by omega
    obtain ⟨f,rfl⟩:∃ g,f=g+1:=by
     rcases f with _|g
     . simp at hf;omega
     . exact ⟨g,rfl⟩
    have hs1:=gJ h2;have hs2:=fM h2;have hs3:=vT h2;have hs4:=aCw h2 hf;obtain ⟨s,hs⟩:∃ s,aU n=s:=⟨_,rfl⟩;rw [hs] at hs1 hs2 hs3 hs4;rw [if_neg hmn,if_neg hmn,hs]
    have hroot:bJ ((L.drop a).take n)=cN (bJ ((L.drop a).take s)) (bJ ((L.drop (a+s)).take (n - s))):=by
     rw [jX (by omega),hlen,hs,List.take_take,Nat.min_eq_left (by omega),List.drop_take,List.drop_drop]
    by_cases hk:m<=s
    . rw [if_pos hk,if_pos hk,List.map_append,List.map_singleton,List.dropLast_concat]
      have ih:=pY L f m a s whole first h1 hk hs4 (by omega) (fun e=>by
       rw [hw e,List.take_take,List.take_take,Nat.min_eq_left (by omega),Nat.min_eq_left (by omega)])
      rw [ih,List.getLastD_concat,show a+n - (a+s)=n - s by omega,hroot];rw [List.take_take,List.take_take,Nat.min_eq_left (by omega),Nat.min_eq_left (by omega)]
    . rw [if_neg hk,if_neg hk,List.map_append,List.map_singleton,List.dropLast_concat];have hn2:n - s<=2 ^ f:=by rw [Nat.pow_succ] at hf;omega
      have ih:=pY L f (m - s) (a+s) (n - s) false first (by omega) (by omega) hn2 (by omega) (fun e=>by cases e);rw [ih,List.getLastD_concat,show a+s - a=s by omega,hroot];have hm2:2<=m:=by omega
      have hsm:aU m=s:=by
       rw [iW h2] at hs;rw [<- hs] at hk hs3 ⊢;exact aBu (by omega) (by omega)
      have hlm:(((L.drop a).take n).take m).length=m:=by rw [List.length_take,hlen];omega
      have hroot2:bJ (((L.drop a).take n).take m)=cN (bJ ((L.drop a).take s)) (bJ (((L.drop (a+s)).take (n - s)).take (m - s))):=by
       rw [jX (by omega),hlm,hsm,List.take_take,List.take_take,Nat.min_eq_left (by omega),Nat.min_eq_left (by omega),List.drop_take,List.drop_take,List.drop_drop]
      rw [hroot2]
theorem aDh(l:List (List UInt8))(m:Nat)(hm:m<=l.length)(hl:l.length<=2 ^ 64):eL (m:Int) (l.length:Int) (bJ (l.take m)) (bJ l) (dH (m:Int) l)=0:=by
 unfold eL;rw [if_neg (by omega)]
 by_cases h0:m=0
 . subst h0;have hno:dH ((0:Nat):Int) l=[]:=by unfold dH;rw [lF (by omega)];rfl
   rw [if_pos (by rfl),if_neg];rw [hno];rintro (h|h|⟨h1,h2⟩)
   . exact h rfl
   . exact h rfl
   . have:l=[]:=List.length_eq_zero_iff.1 (by omega)
     subst this;exact h2 rfl
 . rw [if_neg (by omega)]
   have hst:dH (m:Int) l=(kS m l.length).map fun r=>bJ ((l.drop r.1).take (r.2 - r.1)):=by
    unfold dH;rw [lE (by omega) hm]
    rfl
   simp only [Int.toNat_natCast];rw [hst,if_neg (by rw [List.length_map];exact fun h=>h rfl)];have hb:=pY l 64 m 0 l.length true (bJ (l.take m)) (by omega) hm hl (by omega) (fun _=>by rw [List.drop_zero,List.take_length]);rw [List.drop_zero,List.take_length] at hb;unfold nI kS;refine if_neg ?_;rw [show eS 65 m l.length true (bJ (l.take m)) _=_ from hb]
   simp
def eR (nm sec:Bs) (ls:List (List UInt8)):NtD:=⟨(ls.length:Int),bJ (ls.map bE),[(nm,eD (ls.length:Int) (bJ (ls.map bE)) nm sec)]⟩
theorem aEc{nm sec:List UInt8}{ls:List (List UInt8)}(hk:cR nm sec=true)(hl:ls.length<=1000000):(eR nm sec ls).Ok:=by
 refine ⟨⟨by show -9223372036854775808<=(ls.length:Int);omega,by show (ls.length:Int)<=_;omega⟩,bS (kE ls),?_,by show 1<=1000000;omega⟩;intro s hs;rw [List.mem_singleton.1 hs];exact ⟨dM ..,by have:=(mF hk).1;show nm.length<=_;omega⟩
theorem aZv{nm sec:List UInt8}(hk:cR nm sec=true):eZ nm=true ∧ 0 < dW nm []:=by
 rw [uE] at hk;simp only [Bool.and_eq_true] at hk;refine ⟨hk.1.1,?_⟩;have h:=hk.1.1;simp only [eZ,Bool.and_eq_true,decide_eq_true_eq] at h
 cases nm with
 |nil=>simp at h
 |cons x l=>simp [dW,Lib.compareBytes]
theorem aCi{nm sec:List UInt8}{s:List UInt8}{z:Int}(hz:0<=z)(hk:cR nm sec=true):eH z [(nm,s)]=true:=by
 have h:=aZv hk;unfold eH dB dB;rw [decide_eq_true hz,h.1,decide_eq_true h.2]
 rfl
theorem kO{nm sec:List UInt8}{ls:List (List UInt8)}(hk:cR nm sec=true):cF (eR nm sec ls).z (eR nm sec ls).h (eR nm sec ls).l nm sec=0:=by
 have hm:=aCi (s:=eD (ls.length:Int) (bJ (ls.map bE)) nm sec) (z:=(ls.length:Int)) (by omega) hk;have hso:dV (ls.length:Int) nm sec=true:=by simp [dV,hk]
 unfold cF eR eA
 dsimp only
 rw [hm,if_neg (by decide),if_neg];unfold dN;rw [if_pos hm];simp [nO,bO,hso,jQ]
theorem wC{nm sec:List UInt8}{ls:List (List UInt8)}(hk:cR nm sec=true):eA (eR nm sec ls).z (eR nm sec ls).l=0:=by
 unfold eA eR
 dsimp only
 rw [aCi (by omega) hk]
 rfl
theorem wU:cR [119] [1,2]=true:=by decide
def iF (ls:List (List UInt8)):NtD:=eR [119] [1,2] ls
theorem MS.may_noted{X:MS}(hfd:X.fd=false)(hnm:X.nm=[119])(hsec:X.sec=[1,2])(ls:List (List UInt8)):X.mayF (iF ls)=0:=by
 unfold MS.mayF nX;rw [hfd,if_neg (by decide),hnm,hsec];exact kO wU
theorem MS.may_forked{X:MS}(hfd:X.fd=true)(n:NtD):X.mayF n=400:=by
 unfold MS.mayF nX;rw [hfd,if_pos rfl]
def kX0:MS:=MS.new [119] [1,2]
def kX1:MS:=({ kX0 with es:=[[97],[98]] }:MS).noteF (iF [[97],[98]])
def pB:MS:={ kX1 with fk:=aCn kX1 (iF [[120]]),fd:=true }
theorem aD0:bE [97] ≠ bE [120]:=by decide +kernel
theorem aZy:kX0.takeF (iF [[97],[98]]) [[97],[98]]=(0,kX1):=by
 have hm:kX0.mayF (iF [[97],[98]])=0:=MS.may_noted rfl rfl rfl _;have hr:bJ (kX0.hl ++ ([[97],[98]]:List (List UInt8)).map bE)=(iF [[97],[98]]).h:=by kernel_rfl
 unfold MS.takeF;rw [hm,if_neg (by decide),if_neg (by decide),if_neg (by decide),if_neg (by decide),if_pos hr]
 rfl
theorem bAn:bJ (kX1.hl.take (iF [[120]]).z.toNat)=bE [97]:=by kernel_rfl
theorem bAe:(iF [[120]]).h=bE [120]:=by kernel_rfl
theorem aY3:kX1.hearF (iF [[120]]) []=(400,pB):=by
 have hm:kX1.mayF (iF [[120]])=0:=MS.may_noted (by kernel_rfl) (by kernel_rfl) (by kernel_rfl) _
 have hz:(iF [[120]]).z<=(kX1.es.length:Int):=by
  show (1:Int)<=2
  decide
 unfold MS.hearF;rw [hm,if_neg (by decide),if_pos hz];unfold MS.withinF;rw [bAn,bAe,if_neg aD0,if_neg (show ¬ kX1.nd=false by decide)]
 rfl
theorem bBo:pB.fk.r=bE [97]:=by kernel_rfl
theorem bBc:pB.fk.h1=bE [120]:=by kernel_rfl
theorem bBq:eL pB.fk.z1 pB.fk.z2 pB.fk.r pB.fk.h2 pB.fk.pf=eL ((1:Nat):Int) (([bE [97],bE [98]]:List (List UInt8)).length:Int) (bJ (([bE [97],bE [98]]:List (List UInt8)).take 1)) (bJ [bE [97],bE [98]]) (dH ((1:Nat):Int) [bE [97],bE [98]]):=by kernel_rfl
theorem bBd:cF pB.fk.z1 pB.fk.h1 pB.fk.l1 [119] [1,2]=cF (eR [119] [1,2] [[120]]).z (eR [119] [1,2] [[120]]).h (eR [119] [1,2] [[120]]).l [119] [1,2]:=by kernel_rfl
theorem bBh:cF pB.fk.z2 pB.fk.h2 pB.fk.l2 [119] [1,2]=cF (eR [119] [1,2] [[97],[98]]).z (eR [119] [1,2] [[97],[98]]).h (eR [119] [1,2] [[97],[98]]).l [119] [1,2]:=by kernel_rfl
theorem bBf:eA pB.fk.z1 pB.fk.l1=eA (eR [119] [1,2] [[120]]).z (eR [119] [1,2] [[120]]).l:=by kernel_rfl
theorem bAg:eA pB.fk.z2 pB.fk.l2=eA (eR [119] [1,2] [[97],[98]]).z (eR [119] [1,2] [[97],[98]]).l:=by kernel_rfl
theorem aKm:fG pB.fk [119] [1,2]=0:=by
 unfold fG;rw [bBd,bBh,bBf,bAg,kO wU,kO wU,wC wU,wC wU,wU,bBq,aDh _ 1 (by decide) (by decide),bBo,bBc];rw [if_neg (by simp),if_neg (by simp),if_neg];rintro (h|h)
 . exact aD0 h
 . exact h rfl
theorem aN4:pB.mayF (iF [[97],[98]])=400:=MS.may_forked rfl _
end
section
open Go.RowKit
theorem aFh(s:bF)(hs:s.2.length=32):(dQ s).extract 1 33=aA s.2:=by
 apply Array.ext'
 rw [Array.toList_extract,List.extract_eq_take_drop]
 show ((bX s.1 :: bv s.2).drop 1).take 32=bv s.2
 rw [List.drop_succ_cons,List.drop_zero,List.take_of_length_le (by rw [aX,hs];omega)]
theorem aE5(w:World)(d:Nat)(s t:bF)(ha:s.2.length=32)(hb:t.2.length=32):(Op.equalIn (d+3) 89 (.agg (dQ s)) (.agg (dQ t))).run prog w=.ok ((s.1 == t.1) && (s.2 == t.2)) w:=by
 have hu : ∃ f g : Field, prog.underlying 89 = some (.struct #[f, g]) ∧ f.name = "Name" ∧ f.type = 9 ∧ f.offset = 0 ∧ g.name = "Sum" ∧ g.type = 23 ∧ g.offset = 1 := ⟨_, _, underlying89, rfl, rfl, rfl, rfl, rfl, rfl⟩
 obtain ⟨f,g,hu,f1,f2,f3,g1,g2,g3⟩:=hu;have hf:prog.fieldsOf 89=#[f,g]:=by unfold Program.fieldsOf;rw [hu]
 rw [run_equalIn_agg (P:=prog) w (d+2) 89 (dQ s) (dQ t) (by rw [hf];exact hu) Tryz.stoodInHeld89,hf]
 have n1 : ¬ ("Name" = "_") := by decide
 have n2 : ¬ ("Sum" = "_") := by decide
 obtain ⟨bs,hbs,hbl,-,-⟩:=gQ s.1;obtain ⟨bt,hbt,hbm,-,-⟩:=gQ t.1;have p1:(part 9 (dQ s) 0).run prog w=.ok (.string bs) w:=run_part_plain w (by kernel_rfl) (by rw [<- hbs.out];rfl);have p2:(part 9 (dQ t) 0).run prog w=.ok (.string bt) w:=run_part_plain w (by kernel_rfl) (by rw [<- hbt.out];rfl);have p3:=run_equalIn_string (P:=prog) w (d+1) 9 bs bt underlying9
 have q:∀ s:bF,s.2.length=32->(part 23 (dQ s) 1).run prog w=.ok (.agg (aA s.2)) w:=by
  intro s ha
  obtain ⟨i0,hi,hz⟩:∃ i,prog.info? 23=some i ∧ i.size=32:=by
   have:=bBy
   cases h:prog.info? 23 with
   |none=>rw [h] at this;cases this
   |some i=>rw [h] at this;exact ⟨i,rfl,Option.some.inj this⟩
  have hS:(sizeOf 23).run prog w=.ok 32 w:=by rw [<- hz];simp only [sizeOf,typeInfo];simp [hi,go_sem]
  have hA:(isAgg 23).run prog w=.ok true w:=by simp [isAgg,run_underlying underlying23]
  simp only [part,Sem.run_bind,hA,hS,Result.andThen_ok,if_true,Sem.run_pure];rw [show 1+32=33 from rfl,aFh s ha]
 have q3:=mI w d s.2 t.2 ha hb;rw [hbl.out,hbm.out] at p3;exact tV w (d+2) _ _ f g (by rw [f1];exact n1) (by rw [g1];exact n2) (.string bs) (.string bt) (.agg (aA s.2)) (.agg (aA t.2)) _ _ (by rw [f2,f3];exact p1) (by rw [f2,f3];exact p2) (by rw [f2];exact p3) (by rw [g2,g3];exact q s ha) (by rw [g2,g3];exact q t hb) (by rw [g2];exact q3)
theorem aDi(w:World)(s t:bF)(ha:s.2.length=32)(hb:t.2.length=32):(Op.equalIn 10000 89 (.agg (dQ s)) (.agg (dQ t))).run prog w=.ok ((s.1 == t.1) && (s.2 == t.2)) w:=by
 have h:=fun n (e:n+3=10000)=>e ▸ aE5 w n s t ha hb
 exact h 9997 (by decide)
theorem aS5(w:World)(s t:bF)(ha:s.2.length=32)(hb:t.2.length=32):(binOp .neq 89 (.agg (dQ s)) (.agg (dQ t))).run prog w=.ok (.bool (!((s.1 == t.1) && (s.2 == t.2)))) w:=by
 rw [run_neq_struct,aDi w s t ha hb,Result.andThen_ok]
theorem xB(A:Option Addr)(n c k:Nat)(hk:k<=c)(w:World):(Instr.sliceAt 26 (.slice A n c) none (some (.int .i64 (k:Int))) none).run prog w=.ok (.slice A k c) w:=by
 rw [run_sliceAt_slice w 26 _ _ _ _ rU,run_slice_h w 26 A n c rU .i64 k (by omega) (by omega),uN,zE];simp only [Result.andThen_ok,Int.toNat_natCast]
 congr 1
 by_cases e:c=0
 . simp [sliced,e]
 . cases A with
   |none=>simp [sliced,e]
   |some ad=>simp [sliced,e,Addr.add]
theorem aB4{w:World}{A:Option Addr}{n c k:Nat}{l:List bF}(hok:dI l)(h:Rd w 33 (.slice A n c) n (bB l))(hn:n=l.length)(hk:k<=n):Rd w 33 (.slice A k c) k (bB (l.take k)):=by
 subst hn;have hl:=eK hok;have hl2:=eK (l:=l.take k) (fun s hs=>hok s (List.mem_of_mem_take hs));rw [List.length_take,Nat.min_eq_left hk] at hl2;have he:bB l=bB (l.take k) ++ bB (l.drop k):=by rw [<- jI,List.take_append_drop]
 obtain ⟨h1,A',c',e,h2,h3,h4,h5⟩:=h
 cases e;refine ⟨hl2,A,c,rfl,by omega,h3,(fun hA=>?_),fun ad had j u hu=>h5 ad had j u ?_⟩
 . have:=h4 hA;omega
 . rw [he,List.getElem?_append_left (List.getElem?_eq_some_iff.1 hu).1];exact hu
theorem aOi{w:World}{A:Option Addr}{n c k:Nat}{l:List bF}(hok:dI l)(h:Rd w 33 (.slice A n c) n (bB l))(hn:n=l.length)(hk:k<=n):Rd w 33 (sliced A k n c 33) (n - k) (bB (l.drop k)):=by
 subst hn;have hl:=eK hok;have hl1:=eK (l:=l.take k) (fun s hs=>hok s (List.mem_of_mem_take hs));have hl2:=eK (l:=l.drop k) (fun s hs=>hok s (List.mem_of_mem_drop hs));rw [List.length_take,Nat.min_eq_left hk] at hl1;rw [List.length_drop] at hl2;have he:bB l=bB (l.take k) ++ bB (l.drop k):=by rw [<- jI,List.take_append_drop]
 obtain ⟨h1,A',c',e,h2,h3,h4,h5⟩:=h
 cases e;unfold sliced;refine ⟨hl2,_,c - k,rfl,by omega,by omega,(fun hA=>?_),fun ad had j u hu=>?_⟩
 . by_cases e:c=k
   . rw [if_pos e] at hA;have:=h4 hA;omega
   . rw [if_neg e,Option.map_eq_none_iff] at hA;have:=h4 hA;omega
 . by_cases e:c=k
   . have:=(List.getElem?_eq_some_iff.1 hu).1
     rw [hl2] at this;omega
   . rw [if_neg e] at had;obtain ⟨ad0,rfl,rfl⟩:=Option.map_eq_some_iff.1 had;rw [dZ];refine h5 ad0 rfl _ u ?_;rw [he,List.getElem?_append_right (by omega),hl1,show k * 33+j - k * 33=j from by omega];exact hu
end
section
variable {Q:Exit->Act->World->Prop} {a:Act} {w:World}
open Go.RowKit
def loA (A:Option Addr) (k c:Nat):Option Addr:=if c=k then A else A.map (·.add (k * 33))
theorem aL3(A:Option Addr)(n c k:Nat)(hk:k<=n)(w:World):(Instr.sliceAt 26 (.slice A n c) (some (.int .i64 (k:Int))) none none).run prog w=.ok (.slice (loA A k c) (n - k) (c - k)) w:=aIr A n c k hk w
theorem aYi{w:World}{A:Option Addr}{n c k:Nat}{l:List bF}(hok:dI l)(h:Rd w 33 (.slice A n c) n (bB l))(hn:n=l.length)(hk:k<=n):Rd w 33 (.slice (loA A k c) (n - k) (c - k)) (n - k) (bB (l.drop k)):=aOi hok h hn hk
theorem aA5{o:Oper}{a:Act}{w:World}{K:Act->World->Prop}{Q:Exit->Act->World->Prop}(x:Operand)(ho:o.op=.buildSlice 26 1 #[(0,x)])(cs:Array Value)(hcs:cs.size=33)(hx:a.eval x=.agg cs)
 (h:K (a.put o.dst (.slice (some ⟨w.heap.size,0,none⟩) 1 1)) (w.alloc (.cells cs 89))):o.wp prog a w K Q:=by
 obtain ⟨i0,hi,hz,hsize,-⟩:=info_parts bC7;refine wp_buildSlice 26 89 1 #[(0,x)] ho cs i0 _ underlying26 hi hz (by rw [hsize];decide) (by rw [hsize];decide) ?_ h;rw [hsize,show ((#[(0,x)]:Array (Nat × Operand)).map fun (i,x)=>(i,a.eval x)).toList=[(0,.agg cs)] from by simp [hx]];exact zB hcs
theorem wW{ops:Array Oper}{rest:List Oper}{o:Oper}{a:Act}{w:World}{Q:Exit->Act->World->Prop}(hg:o.guard=none)(x:Operand)(ho:o.op=.buildSlice 26 1 #[(0,x)])(cs:Array Value)(hcs:cs.size=33)(hx:a.eval x=.agg cs)
 (h:wpList prog ops Q rest (a.put o.dst (.slice (some ⟨w.heap.size,0,none⟩) 1 1)) (w.alloc (.cells cs 89))):wpList prog ops Q (o :: rest) a w:=
 wpList_plain hg fun _ hK=>aA5 x ho cs hcs hx (hK _ _ h)
theorem aZu(hsz:a.tmps.size=20):bK 0 f85 Q a w fun a' q'=>Sl a' 4 (.int .i64 (0:Int))->q':=rO
theorem aR0(hsz:a.tmps.size=20):bK 1 f85 Q a w fun a' q'=>Sl a' 5 (Nq 0)->q':=rO
theorem aYw(A:Option Addr)(k n c:Nat)(hsz:a.tmps.size=20)(o0:Sl a 0 (.slice A n c))(o5:Sl a 5 (Nq k)):bK 2 f85 Q a w fun a' q'=>Sl a' 9 (.bool (decide (k < n)))->q':=rO
theorem aOn(ad:Addr)(k n c:Nat)(hk:k < n)(ns nm:ByteArray)(hc:w.cell? (ad.add (k * 33))=some (.string ns))(b:Bool)(hb:(ns.toList == nm.toList)=b)(hsz:a.tmps.size=20)(o0:Sl a 0 (.slice (some ad) n c))(o1:Sl a 1 (.string nm))(o5:Sl a 5 (Nq k)):bK 4 f85 Q a w fun a' q'=>Sl a' 18 (.bool b)->q':=by
 have h0:0<=(k:Int):=by omega
 have h1:(k:Int) < (n:Int):=by omega
 exact rO
theorem aQp(k:Nat)(hsz:a.tmps.size=20)(o5:Sl a 5 (Nq k)):bK 5 f85 Q a w fun a' q'=>Sl a' 4 (Nq k)->q':=rO
theorem aOm(k:Nat)(hk:k < 9223372036854775807)(hsz:a.tmps.size=20)(o5:Sl a 5 (Nq k)):bK 3 f85 Q a w fun a' q'=>Sl a' 5 (Nq (k+1))->q':=by
 have hw:wrap64 ((k:Int)+1)=(k:Int)+1:=by unfold wrap64;omega
 exact rO
theorem aXz(hsz:a.tmps.size=20):bK 6 f85 Q a w fun a' q'=>Sl a' 4 (.int .i64 (-1:Int))->q':=rO
theorem aW8(w0:World)(s:bF)(L:List Res)(S:Held w0 w L)(hsz:a.tmps.size=36)(o1:Sl a 1 (.agg (dQ s))):bC false 0 f86 Q a w fun a' W q'=>Sl a' 4 (.slice none 0 0)->(∃ g,Sl a' 3 (Pq g 0) ∧ Held w0 W (aB g 89 (dQ s) :: L))->q':=by
 refine bU fun hend=>?_;unfold Sl at o1;have S0:=LH (S.newBlk 89 (dQ s));generalize dQ s=cs at *;go_wp2_with fail
 try simp only [Act.put]
 exact hend _ _ tS sP (⟨_,cH,S0.out⟩)
theorem aQg(hsz:a.tmps.size=36):bK 1 f86 Q a w fun a' q'=>Sl a' 5 (Nq 0)->q':=rO
theorem aIk(A:Option Addr)(k n c:Nat)(hk:¬ k < n)(hsz:a.tmps.size=36)(o0:Sl a 0 (.slice A n c))(o5:Sl a 5 (Nq k)):bC true 2 f86 Q a w fun a' W q'=>Kp [] w.drew W->Sl a' 20 (.bool false)->q':=by
 intro hend;have hap:=pa 2 f86;refine cO (l:=(aK 2 f86)) (fun i v W=>match i with|0=>v=Nq k|1=>v=.slice A n c|2=>v=Nq n|3=>v=.bool false|4=>v=.bool false|13=>v=.bool false|_=>True) (by kernel_rfl) hap (by kernel_rfl) ?_ ?_ ?_
 . exact fun _ _ _ _ h _=>h
 . and_intros <;> try (intro vs A' W hA hW hd K hK;try (refine aL _ rfl rfl ?_;conv=>arg 2;whnf))
   . exact aJ (eO 5 o5)
   . exact aJ (eO 0 o0)
   . exact aJ (vD 8 1)
   . have e7:=vD 7 0;have e9:=vD 9 2;clear hA hd o0 o5;have hk2:¬ (k:Int) < (n:Int):=by omega
     go_step;exact hK _ _ kR (by first|rfl|(congr 1;exact decide_eq_false (by omega)))
   . exact aJ (vD 10 3)
   . exact sk
   . exact sk
   . exact sk
   . exact sk
   . exact sk
   . exact sk
   . exact sk
   . exact sk
   . exact cM (vD 11 4) (eU 19 12)
   . trivial
 . intro vs W hW hp;rw [aF];exact hend _ W sQ hW (sW (hp 13 sB))
theorem aJd(ad:Addr)(k n c:Nat)(hk:k < n)(nx ns:ByteArray)(hc:∀ V,Kp [] w.drew V->V.cell? (ad.add (k * 33))=some (.string nx))(g:Nat)(s:bF)(hns:bX s.1=.string ns)(hb:aM w.drew g 89 (dQ s))(b:Bool)(hlt:Op.bytesLess nx.toList ns.toList=b)(hsz:a.tmps.size=36)(o0:Sl a 0 (.slice (some ad) n c))(o3:Sl a 3 (Pq g 0))(o5:Sl a 5 (Nq k)):bC true 2 f86 Q a w fun a' W q'=>Kp [] w.drew W->Sl a' 20 (.bool b)->q':=by
 intro hend;have hap:=pa 2 f86;refine cO (l:=(aK 2 f86)) (fun i v W=>match i with|0=>v=Nq k|1=>v=.slice (some ad) n c|2=>v=Nq n|3=>v=.bool true|4=>v=.bool true|5=>v=.slice (some ad) n c|6=>v=Nq k|7=>v=.pointer (some (ad.add (k * 33)))|8=>v=.pointer (some (ad.add (k * 33)))|9=>v=.string nx|10=>v=Pq g 0|11=>v=.string ns|12=>v=.bool b|13=>v=.bool b|_=>True) (by kernel_rfl) hap (by kernel_rfl) ?_ ?_ ?_
 . exact fun _ _ _ _ h _=>h
 . and_intros <;> try (intro vs A' W hA hW hd K hK;try (refine aL _ rfl rfl ?_;conv=>arg 2;whnf))
   . exact aJ (eO 5 o5)
   . exact aJ (eO 0 o0)
   . exact aJ (vD 8 1)
   . have e7:=vD 7 0;have e9:=vD 9 2;clear hA hd o0 o3 o5;have hk2:(k:Int) < (n:Int):=by omega
     go_step;exact hK _ _ kR (by first|rfl|(congr 1;exact decide_eq_true (by omega)))
   . exact aJ (vD 10 3)
   . exact cC (eO 0 o0)
   . exact cC (eO 5 o5)
   . refine qH ?_;(conv=>arg 2;whnf);have h0:0<=(k:Int):=by omega
     have h1:(k:Int) < (n:Int):=by omega
     exact cM (vD 12 5) (vD 13 6)
   . exact cC (vD 14 7)
   . refine qH ?_;(conv=>arg 2;whnf);have c0:=hc _ hW;exact aJ (vD 15 8)
   . exact cC (eO 3 o3)
   . refine qH ?_;(conv=>arg 2;whnf);have c0:W.cell? ⟨g,0,none⟩=some (.string ns):=by rw [(hb.k0 hW).cell,<- hns];rfl
     exact aJ (vD 17 10)
   . refine qH ?_;(conv=>arg 2;whnf);have e16:=vD 16 9;have e18:=vD 18 11;clear hA hd o0 o3 o5;go_step;exact hK _ _ kR (by first|rfl|exact congrArg Value.bool hlt)
   . exact cM (vD 11 4) (vD 19 12)
   . trivial
 . intro vs W hW hp;rw [aF];exact hend _ W sQ hW (sW (hp 13 sB))
theorem aUm(k:Nat)(hk:k < 9223372036854775807)(hsz:a.tmps.size=36)(o5:Sl a 5 (Nq k)):bK 3 f86 Q a w fun a' q'=>Sl a' 5 (Nq (k+1))->q':=by
 have hw:wrap64 ((k:Int)+1)=(k:Int)+1:=by unfold wrap64;omega
 exact rO
theorem aQl(w0:World)(A:Option Addr)(c:Nat)(l:List bF)(hok:dI l)(hll:l.length<=2000000)(k:Nat)(hk:k<=l.length)(hv:∀ V,Kp [] w0 V->Rd V 33 (.slice A l.length c) l.length (bB l))(hc:l.length<=c)(L:List Res)(S:Held w0 w L)(hsz:a.tmps.size=36)(o0:Sl a 0 (.slice A l.length c))(o5:Sl a 5 (Nq k)):bC false 4 f86 Q a w fun a' W q'=>(∃ v,Sl a' 6 v ∧ Held w0 W (aG 89 33 v k (bB (l.take k)) :: L))->q':=by
 refine bU fun hend=>?_;unfold Sl at o0 o5;have S:=LH S;have q:=fun w=>xB A l.length c k (by omega) w
 have HR:=LH (aB4 hok (hv _ S.out.k) rfl hk);have hb1:Hid (k<=maxLen ∧ (k) * 48<=140737488355328):=LH (by unfold maxLen;omega);clear hv;go_wp2_with (at_builtin;refine xG rfl (.const (.slice none 0 0)) (.tmp 25) 26 89 rfl bC7 underlying26 rfl (by decide) rfl S.out (.slice A k c) k (bB (l.take k)) aE HR.out (lW _) hb1.out.1 hb1.out.2 ?_;intro v1 w1 S1;have S1:=LH S1)
 try simp only [Act.put]
 exact hend _ _ tS (⟨v1,cH,S1.out⟩)
theorem aU9(w0:World)(u:Value)(m:Nat)(hm:m<=2000000)(xs:List Value)(g:Nat)(s:bF)(hs:s.2.length=32)(L:List Res)(S:Held w0 w (aG 89 33 u m xs :: aB g 89 (dQ s) :: L))(hsz:a.tmps.size=36)(o3:Sl a 3 (Pq g 0))(o6:Sl a 6 (u)):bC false 5 f86 Q a w fun a' W q'=>(∃ v,Sl a' 6 v ∧ Held w0 W (aG 89 33 v (m+1) (xs ++ (dQ s).toList) :: L))->q':=by
 refine bU fun hend=>?_;unfold Sl at o3 o6;have S:=LH S;have HO:=LH (mM s);have hz2:Hid ((dQ s).size=33):=LH (fL hs);have hR1:=fun V vb (hb:aM V vb 89 (dQ s))=>aBv hb hs
 have hR1:=LH hR1;have hF:=LH (zB (fL hs));have hb1:Hid (m+1<=maxLen ∧ (m+1) * 48<=140737488355328):=LH (by unfold maxLen;omega);generalize dQ s=cs at *
 go_wp2_with (first
  |(refine aQ rfl 89 (.tmp 3) rfl g (aO o3) 89 _ (S.out.at_ (l1:=[_])) _ underlying89 rfl (by rw [hz2.out];exact bC5) ?_)
  |(refine wW rfl (.tmp 28) rfl cs hz2.out aE ?_;have S2:=LH ((S.out.newBlk 89 cs).pull 1 rfl);have HR:=LH (hR1.out _ _ (S2.out.at_ (l1:=[_]))))
  |(at_builtin;refine cY rfl (.tmp 27) (.tmp 29) 26 89 rfl bC7 underlying26 rfl (by decide) u m xs aE S2.out (.slice (some ⟨w.heap.size,0,none⟩) 1 1) 1 cs.toList aE HR.out HO.out hb1.out.1 hb1.out.2 ?_;intro v2 w2 S3;have S3:=LH S3))
 try simp only [Act.put]
 exact hend _ _ tS (⟨v2,cH,S3.out.some_of (List.Sublist.cons_cons _ (List.Sublist.cons _ (List.Sublist.cons _ (List.Sublist.refl _))))⟩)
theorem aRx(w0:World)(A:Option Addr)(c:Nat)(l:List bF)(hok:dI l)(hll:l.length<=2000000)(k:Nat)(hk:k<=l.length)(hv:∀ V,Kp [] w0 V->Rd V 33 (.slice A l.length c) l.length (bB l))(u:Value)(m:Nat)(hm:m<=2000000)(xs:List Value)(L:List Res)(S:Held w0 w (aG 89 33 u m xs :: L))(hsz:a.tmps.size=36)(o0:Sl a 0 (.slice A l.length c))(o5:Sl a 5 (Nq k))(o6:Sl a 6 (u)):bC false 6 f86 Q a w fun a' W q'=>(∃ v,Sl a' 4 v ∧ Held w0 W (aG 89 33 v (m+(l.length - k)) (xs ++ bB (l.drop k)) :: L))->q':=by
 refine bU fun hend=>?_;unfold Sl at o0 o5 o6;have S:=LH S;have q:=fun w=>aL3 A l.length c k hk w
 have HR:=LH (aYi hok (hv _ S.out.k) rfl hk);clear hv;obtain ⟨dk,hdk⟩:∃ dk,l.length - k=dk:=⟨_,rfl⟩;rw [hdk] at HR;simp only [hdk] at q;have hb1:Hid (m+dk<=maxLen ∧ (m+dk) * 48<=140737488355328):=LH (by unfold maxLen;omega);rw [hdk] at hend;clear hdk;go_wp2_with (at_builtin;refine cY rfl (.tmp 31) (.tmp 34) 26 89 rfl bC7 underlying26 rfl (by decide) u m xs aE S.out (.slice (loA A k c) dk (c - k)) dk (bB (l.drop k)) aE HR.out (lW _) hb1.out.1 hb1.out.2 ?_;intro v1 w1 S1;have S1:=LH S1)
 try simp only [Act.put]
 exact hend _ _ tS (⟨v1,cH,S1.out⟩)
end
section
open Go.RowKit
def qK (nm:Bs):List bF->Nat->Int
 |[],_=>-1
 |s :: l,k=>if s.1 == nm then (k:Int) else qK nm l (k+1)
def lH (nm:Bs) (l:List bF):Int:=qK nm l 0
theorem aEg(A:Option Addr)(c:Nat)(l:List bF)(hok:dI l)(hll:l.length < 9223372036854775807)(nm:ByteArray)(w:World)(hv:Rd w 33 (.slice A l.length c) l.length (bB l)):
 Calls prog 85 #[.slice A l.length c,.string nm] w fun e w'=>e=.returned (.int .i64 (lH nm.toList l)) ∧ w=w':=by
 refine aR func85 rfl 20 rfl (fun a0 hsz hdf hAr=>?_);have hz0:a0.tmps.size=20:=hsz;have D:=hdf;have o0:=hAr 0 _ rfl;have o1:=hAr 1 _ rfl;refine wp_seq (aZu hz0 (fun a1 hs1 o4=>?_));obtain ⟨hz1,D,o0,o1⟩:=dU hs1 hz0 D o0 o1;refine wp_seq (wp_seq (aR0 hz1 (fun a2 hs2 o5=>?_)));obtain ⟨hz2,D,o0,o1,o4⟩:=dF hs2 hz1 D o0 o1 o4;refine wp_block ?_
 (conv=>arg 2;whnf)
 refine wp_loop (fun a' w'=>∃ (k:Nat),k<=l.length ∧ a'.tmps.size=20 ∧ a'.defers=[] ∧ w'=w ∧ Sl a' 0 (.slice A l.length c) ∧ Sl a' 1 (.string nm) ∧ Sl a' 5 (Nq k) ∧ lH nm.toList l=qK nm.toList (l.drop k) k) (fun a' _=>l.length - (intOf (a'.eval (.tmp 5))).toNat) ⟨0,Nat.zero_le _,hz2,D,rfl,o0,o1,o5,rfl⟩ ?_
 iterate 6 (try clear o0)
 iterate 6 (try clear o1)
 iterate 6 (try clear o5)
 rintro a3 w3 ⟨k,hk,hz3,D,rfl,o0,o1,o5,hF⟩;have e5:=o5.eval (by rw [hz3];decide);refine wp_seq (wp_seq (aYw A k l.length c hz3 o0 o5 (fun a4 hs4 o9=>?_)));obtain ⟨hz4,D,o0,o1,o5⟩:=dF hs4 hz3 D o0 o1 o5
 by_cases hlt:k < l.length
 . refine cS o9 (wp_skip ?_) (by rw [decide_eq_true hlt]);simp only [Exit.then];obtain ⟨ad,rfl⟩:=iT hv (by omega);obtain ⟨s,hs⟩:∃ s,l[k]?=some s:=⟨_,List.getElem?_eq_getElem hlt⟩;obtain ⟨ns,hns,hnl,-,-⟩:=gQ s.1;have hdr:l.drop k=s :: l.drop (k+1):=by rw [List.drop_eq_getElem_cons hlt,(List.getElem?_eq_some_iff.1 hs).2]
   rw [hdr] at hF;unfold qK at hF
   have hc0:w3.cell? (ad.add (k * 33))=some (.string ns):=by
    have:=gF hv hok hs 0 (bX s.1) rfl
    rwa [mK,hns.out] at this
   refine wp_seq (wp_block ?_);refine wp_seq (aOn ad k l.length c hlt ns nm hc0 (s.1 == nm.toList) (by rw [hnl.out]) hz4 o0 o1 o5 (fun a5 hs5 o18=>?_));obtain ⟨hz5,D,o0,o1,o5,o9⟩:=fH hs5 hz4 D o0 o1 o5 o9
   cases he:s.1 == nm.toList
   . refine dD o18 (wp_skip ?_) (by rw [he]);rw [he,if_neg (by decide)] at hF;simp only [Exit.inBlock,Exit.then];refine aOm k (by omega) hz5 o5 (fun a6 hs6 o5=>?_);obtain ⟨hz6,D,o0,o1,o9,o18⟩:=fH hs6 hz5 D o0 o1 o9 o18;refine ⟨⟨k+1,by omega,hz6,D,rfl,o0,o1,o5,hF⟩,?_⟩
     show l.length - (intOf _).toNat < l.length - (intOf _).toNat
     rw [e5,o5.eval (by rw [hz6];decide)];simp only [intOf];omega
   . refine cS o18 ?_ (by rw [he]);rw [he,if_pos rfl] at hF;refine wp_seq (aQp k hz5 o5 (fun a6 hs6 o4=>?_));obtain ⟨hz6,D,o9⟩:=eY hs6 hz5 D o9;refine wp_ret ?_;simp only [Exit.inBlock,Exit.then];exact (bodyPost_ret (eN (by rfl) (o4.eval (by rw [hz6];decide))) D ⟨by rw [hF],rfl⟩)
 . refine dD o9 (wp_exit ?_) (by rw [decide_eq_false hlt]);simp only [Exit.then,Exit.inBlock];obtain rfl:k=l.length:=by omega
   rw [List.drop_length] at hF;refine wp_seq (aXz hz4 (fun a5 hs5 o4=>?_));obtain ⟨hz5,D⟩:=dS hs5 hz4 D;refine wp_ret ?_;exact (bodyPost_ret (eN (by rfl) (o4.eval (by rw [hz5];decide))) D ⟨by rw [hF];rfl,rfl⟩)
theorem aFp(A:Option Addr)(c:Nat)(l:List bF)(hok:dI l)(hll:l.length<=1000000)(s:bF)(hs:s.2.length=32)(w:World)(hv:Rd w 33 (.slice A l.length c) l.length (bB l)):
 Calls prog 86 #[.slice A l.length c,.agg (dQ s)] w fun e w'=>∃ v,e=.returned v ∧ Held w w' [aG 89 33 v (l.length+1) (bB (pJ l s))]:=by
 obtain ⟨ns,hns,hnl,-,-⟩:=gQ s.1;have hlc:l.length<=c:=by obtain ⟨-,A',c',he,h1,-⟩:=hv;cases he;exact h1
 refine aR func86 rfl 36 rfl (fun a0 hsz hdf hAr=>?_);have hz0:a0.tmps.size=36:=hsz;have D:=hdf;have o0:=hAr 0 _ rfl;have o1:=hAr 1 _ rfl;refine wp_seq (aW8 w s [] (Held.start w) hz0 o1 (fun a1 w1 hs1 o4 h1=>?_));obtain ⟨hz1,D,o0⟩:=eY hs1 hz0 D o0;obtain ⟨gs,o3,S⟩:=h1;refine wp_seq (aQg hz1 (fun a2 hs2 o5=>?_));obtain ⟨hz2,D,o0,o3⟩:=dU hs2 hz1 D o0 o3;refine wp_seq (wp_block ?_)
 (conv=>arg 2;whnf)
 refine wp_loop (fun a' w'=>∃ (k:Nat),k<=l.length ∧ a'.tmps.size=36 ∧ a'.defers=[] ∧ Held w w' [aB gs 89 (dQ s)] ∧ Sl a' 0 (.slice A l.length c) ∧ Sl a' 3 (Pq gs 0) ∧ Sl a' 5 (Nq k) ∧ sY s.1 l=k+sY s.1 (l.drop k)) (fun a' _=>l.length - (intOf (a'.eval (.tmp 5))).toNat) ⟨0,Nat.zero_le _,hz2,D,S,o0,o3,o5,by simp⟩ ?_
 iterate 6 (try clear S)
 iterate 6 (try clear o0)
 iterate 6 (try clear o3)
 iterate 6 (try clear o5)
 rintro a3 w3 ⟨k,hk,hz3,D,S,o0,o3,o5,hF⟩;have e5:=o5.eval (by rw [hz3];decide)
 have hfin:∀ (a4:Act) (w4:World),a4.tmps.size=36->a4.defers=[]->Held w w4 [aB gs 89 (dQ s)]->Sl a4 0 (.slice A l.length c)->Sl a4 3 (Pq gs 0)->Sl a4 5 (Nq k)->sY s.1 l=k->(wK 2 f86).wp prog (bodyPost prog f86 fun e w'=>∃ v,e=.returned v ∧ Held w w' [aG 89 33 v (l.length+1) (bB (pJ l s))]) a4 w4:=by
  intro a4 w4 hz4 D S o0 o3 o5 hp
  (conv=>arg 2;whnf)
  refine wp_seq (aQl w A c l hok (by omega) k hk (fun V kV=>aT hv kV) hlc _ S hz4 o0 o5 (fun a5 w5 hs5 h5=>?_));obtain ⟨hz5,D,o0,o3,o5⟩:=dF hs5 hz4 D o0 o3 o5;obtain ⟨v5,o6,S⟩:=h5;refine wp_seq (aU9 w v5 k (by omega) _ gs s hs [] S hz5 o3 o6 (fun a6 w6 hs6 h6=>?_));obtain ⟨hz6,D,o0,o3,o5⟩:=dF hs6 hz5 D o0 o3 o5;obtain ⟨v6,o6,S⟩:=h6;refine wp_seq (aRx w A c l hok (by omega) k hk (fun V kV=>aT hv kV) v6 (k+1) (by omega) _ _ S hz6 o0 o5 o6 (fun a7 w7 hs7 h7=>?_));obtain ⟨hz7,D,o0,o3,o5⟩:=dF hs7 hz6 D o0 o3 o5;obtain ⟨v7,o4,S⟩:=h7;refine wp_ret ?_;refine (bodyPost_ret (eN (by rfl) (o4.eval (by rw [hz7];decide))) D ⟨_,rfl,?_⟩)
  have e1:bB (l.take k) ++ (dQ s).toList ++ bB (l.drop k)=bB (pJ l s):=by
   unfold pJ;rw [hp,jI,List.append_assoc]
   rfl
  rw [e1,show k+1+(l.length - k)=l.length+1 from by omega] at S;exact S
 by_cases hlt:k < l.length
 . obtain ⟨ad,rfl⟩:=iT hv (by omega);obtain ⟨x,hx⟩:∃ x,l[k]?=some x:=⟨_,List.getElem?_eq_getElem hlt⟩;obtain ⟨nx,hnx,hnxl,-,-⟩:=gQ x.1;have hdr:l.drop k=x :: l.drop (k+1):=by rw [List.drop_eq_getElem_cons hlt,(List.getElem?_eq_some_iff.1 hx).2]
   rw [hdr] at hF
   have hc:∀ V,Kp [] w3.drew V->V.cell? (ad.add (k * 33))=some (.string nx):=by
    intro V kV;have:=gF (aT hv (S.k.drew.trans kV (by simp))) hok hx 0 (bX x.1) rfl
    rwa [mK,hnx.out] at this
   have hlt2:Op.bytesLess nx.toList ns.toList=decide (dW x.1 s.1 < 0):=by rw [hnxl.out,hnl.out,oY]
   refine wp_seq (wp_seq (aJd ad k l.length c hlt nx ns hc gs s hns.out ((S.at_ (l1:=[])).drew) _ hlt2 hz3 o0 o3 o5 (fun a4 w4 hs4 k4 o20=>?_)));obtain ⟨hz4,D,o0,o3,o5⟩:=dF hs4 hz3 D o0 o3 o5;have S:=S.kp (((Kp.refl [] w3).drew).trans k4 (by simp))
   by_cases hc2:dW x.1 s.1 < 0
   . refine cS o20 (wp_skip ?_) (by rw [decide_eq_true hc2]);rw [aCt hc2] at hF;simp only [Exit.then];refine wp_block ?_;refine aUm k (by omega) hz4 o5 (fun a5 hs5 o5'=>?_);have hz5:=hs5.size.trans hz4;simp only [Exit.inBlock,Exit.then];refine ⟨⟨k+1,by omega,hz5,hs5.defers.trans D,S,hs5.q o0,hs5.q o3,o5',by omega⟩,?_⟩
     show l.length - (intOf _).toNat < l.length - (intOf _).toNat
     rw [e5,o5'.eval (by rw [hz5];decide)];simp only [intOf];omega
   . refine dD o20 (wp_exit ?_) (by rw [decide_eq_false hc2]);rw [aCo hc2] at hF;simp only [Exit.then,Exit.inBlock];exact hfin a4 w4 hz4 D S o0 o3 o5 (by omega)
 . refine wp_seq (wp_seq (aIk A k l.length c hlt hz3 o0 o5 (fun a4 w4 hs4 k4 o20=>?_)));obtain ⟨hz4,D,o0,o3,o5⟩:=dF hs4 hz3 D o0 o3 o5;have S:=S.kp (((Kp.refl [] w3).drew).trans k4 (by simp));refine dD o20 (wp_exit ?_);simp only [Exit.then,Exit.inBlock];have hkl:k=l.length:=by omega
   rw [List.drop_of_length_le (by omega)] at hF;exact hfin a4 w4 hz4 D S o0 o3 o5 (by rw [hF];rfl)
def kA (z:Int) (h:Bs) (l:List bF) (y:Int) (g:Bs) (m:List bF):Bool:=(decide (z=y) && (h == g)) && (decide (l.length=m.length) && (l == m))
theorem aAk(z:Int)(h:Bs)(l:List bF):kA z h l z h l=true:=by unfold kA;simp
def lk (nm:Bs) (l:List bF):Option (List UInt8):=(l.find? fun s=>s.1 == nm).map (·.2)
theorem aFx(nm:Bs):lk nm []=none:=rfl
theorem oO(nm:Bs)(s:bF)(l:List bF):lk nm (s :: l)=if s.1 == nm then some s.2 else lk nm l:=by
 unfold lk;rw [List.find?_cons]
 cases s.1 == nm <;> rfl
theorem aC0{nm:List UInt8}:∀ {l:List bF},lk nm l=none ↔ ∀ s,s ∈ l->s.1 ≠ nm
 |[]=>by simp [aFx]
 |x :: l=>by
  rw [oO]
  cases e:x.1 == nm
  . rw [if_neg (by decide),aC0 (l:=l)];refine ⟨fun h s hs=>?_,fun h s hs=>h s (List.mem_cons_of_mem _ hs)⟩;rcases List.mem_cons.1 hs with rfl|hs
    . intro e2;rw [e2,beq_self_eq_true] at e
      cases e
    . exact h s hs
  . rw [if_pos rfl];refine ⟨fun h=>(by cases h),fun h=>absurd (eq_of_beq e) (h x (List.mem_cons_self ..))⟩
theorem aLl{nm v:List UInt8}:∀ {l:List bF} {a:List UInt8},dB a l=true->(lk nm l=some v ↔ (nm,v) ∈ l)
 |[],_,_=>by simp [aFx]
 |x :: l,a,h=>by
  have h':=h;unfold dB at h';simp only [Bool.and_eq_true,decide_eq_true_eq] at h';rw [oO]
  cases e:x.1 == nm
  . rw [if_neg (by decide),aLl h'.2];refine ⟨fun h=>List.mem_cons_of_mem _ h,fun h=>?_⟩;rcases List.mem_cons.1 h with h|h
    . rw [<- h,beq_self_eq_true] at e
      cases e
    . exact h
  . rw [if_pos rfl];have e1:=eq_of_beq e
    constructor
    . intro h
      cases h;rw [<- e1];exact List.mem_cons_self ..
    . intro h2;rcases List.mem_cons.1 h2 with h2|h2
      . rw [<- h2]
      . have:=kX h'.2 _ h2
        rw [e1,fI] at this;omega
theorem aD2{nm:List UInt8}:∀ {l:List bF} {a:List UInt8},dB a l=true->xR nm l=(lk nm l).isSome
 |[],_,_=>rfl
 |x :: l,a,h=>by
  have h':=h;unfold dB at h';simp only [Bool.and_eq_true,decide_eq_true_eq] at h';rw [oO]
  by_cases hx:dW x.1 nm < 0
  . rw [aNe hx,aD2 h'.2,if_neg (by intro e;rw [eq_of_beq e,fI] at hx;omega)]
  . rw [aMj hx]
    by_cases h0:dW x.1 nm=0
    . rw [pM h0,beq_self_eq_true,if_pos rfl,fI];rfl
    . rw [decide_eq_false h0,if_neg (by intro e;rw [eq_of_beq e] at h0;exact h0 (fI _))]
      have:lk nm l=none:=aC0.2 fun s hs e=>by
       have:=kX h'.2 s hs
       rw [e] at this;omega
      rw [this];rfl
theorem bD5(z:Int)(hh:Bs)(hl:hh.length=32)(A:Option Addr)(n c:Nat):prog.built 28 [(0,.agg (cL z hh)),(1,.slice A n c)]=some (bD z hh (.slice A n c)):=by
 rw [bCf];have hs:(cL z hh).size=33:=bV hl;have hs0:bT.size=34:=rfl
 have h:((cL z hh).zipIdx.foldl (fun cs (x:Value × Nat)=>cs.setIfInBounds (0+x.2) x.1) bT)=bD z hh (.slice none 0 0):=by
  have h1:=eM 0 (cL z hh).toList 0 bT;rw [show (cL z hh).zipIdx.foldl (fun cs (x:Value × Nat)=>cs.setIfInBounds (0+x.2) x.1) bT=((cL z hh).toList.zipIdx 0).foldl (fun cs (x:Value × Nat)=>cs.setIfInBounds (0+x.2) x.1) bT from by rw [<- Array.foldl_toList,Array.toList_zipIdx],h1];rw [hs0,List.take_of_length_le (l:=(cL z hh).toList) (by rw [Array.length_toList,hs];decide),Array.length_toList,hs]
  rfl
 unfold Instr.fill
 show (if (decide ((cL z hh).size ≠ 33) || decide (0+(cL z hh).size > bT.size))=true then none else Instr.fill (#[(0,33),(33,1)][·]?) ((cL z hh).zipIdx.foldl (fun cs (x:Value × Nat)=>cs.setIfInBounds (0+x.2) x.1) bT) [(1,.slice A n c)])=_
 rw [hs,hs0,h,if_neg (by decide)];unfold Instr.fill
 show (if (decide (1 ≠ 1) || decide (33+1 > (bD z hh (.slice none 0 0)).size))=true then none else some ((bD z hh (.slice none 0 0)).setIfInBounds (33+0) (.slice A n c)))=_
 rw [aN hl,Nat.add_zero,lV hl]
 rfl
theorem uP{nm:List UInt8}:∀ {l:List bF} {k:Nat},lk nm l=none->qK nm l k=-1
 |[],_,_=>rfl
 |s :: l,k,h=>by
  rw [oO] at h;unfold qK
  cases e:s.1 == nm
  . rw [e,if_neg (by decide)] at h;rw [if_neg (by decide)];exact uP h
  . rw [e,if_pos rfl] at h
    cases h
theorem sI{nm v:List UInt8}:∀ {l:List bF} {k:Nat},lk nm l=some v->∃ p,qK nm l k=((k+p:Nat):Int) ∧ l[p]?=some (nm,v)
 |[],_,h=>by cases h
 |s :: l,k,h=>by
  rw [oO] at h;unfold qK
  cases e:s.1 == nm
  . rw [e,if_neg (by decide)] at h;rw [if_neg (by decide)];obtain ⟨p,h1,h2⟩:=sI (k:=k+1) h;exact ⟨p+1,by rw [h1];congr 1;omega,by rw [List.getElem?_cons_succ];exact h2⟩
  . rw [e,if_pos rfl] at h
    cases h;rw [if_pos rfl];exact ⟨0,rfl,by rw [List.getElem?_cons_zero,<- eq_of_beq e]⟩
end
section
variable {Q:Exit->Act->World->Prop} {a:Act} {w:World}
open Go.RowKit Go.Shelf
attribute [local go_sem] Oper.semAt_some
def dX:bF:=([109,97,114,107],List.replicate 32 0)
theorem bDg:prog.built 89 [(0,.string ⟨#[109,97,114,107]⟩)]=some (dQ dX):=by kernel_rfl
theorem aYn(w0:World)(ca cb:Array Value)(L:List Res)(S:Held w0 w L)(hsz:a.tmps.size=38)(o0:Sl a 0 (.agg ca))(o1:Sl a 1 (.agg cb)):bC false 0 f38 Q a w fun a' W q'=>Sl a' 4 (.bool false)->(∃ g2 g3,Sl a' 2 (Pq g2 0) ∧ Sl a' 3 (Pq g3 0) ∧ Held w0 W (aB g3 28 cb :: aB g2 28 ca :: L))->q':=by
 refine bU fun hend=>?_;unfold Sl at o0 o1;have S1:=LH ((S.newBlk 28 ca).newBlkN 28 cb (g:=w.heap.size+1) (by simp));go_wp2_with fail
 try simp only [Act.put]
 exact hend _ _ tS sP (⟨_,_,cH,cH,S1.out⟩)
theorem aNo(z y:Int)(h g:Bs)(hh:h.length=32)(hg:g.length=32)(A B:Option Addr)(n c m e:Nat)(g2 g3:Nat)(hb2:aM w g2 28 (bD z h (.slice A n c)))(hb3:aM w g3 28 (bD y g (.slice B m e)))(hpq:(decide (z=y) && (h == g))=true)(hsz:a.tmps.size=38)(o2:Sl a 2 (Pq g2 0))(o3:Sl a 3 (Pq g3 0)):bC false 1 f38 Q a w fun a' W q'=>Kp [] w W->Sl a' 19 (.bool (!decide (n=m)))->q':=by
 intro hend;have hap:=pa 1 f38;refine aH (l:=(aK 1 f38)) (fun i v W=>match i with|0=>v=Pq g2 0|1=>v=.agg (cL z h)|2=>v=Pq g3 0|3=>v=.agg (cL y g)|4=>v=.bool false|5=>v=.bool false|6=>v=Pq g2 33|7=>v=.slice A n c|8=>v=Nq n|9=>v=Pq g3 33|10=>v=.slice B m e|11=>v=Nq m|12=>v=.bool (!decide (n=m))|13=>v=.bool (!decide (n=m))|_=>True) hap ?_ ?_ ?_
 . exact fun _ _ _ _ h _=>h
 . and_intros <;> try (intro vs A' W hA hW hd hu K hK;try (refine aL _ rfl rfl ?_;conv=>arg 2;whnf))
   . exact aJ (eO 2 o2)
   . exact dC (cL z h) (vD 6 0) (eE (hb2.k0 hW)) underlying25 (by rw [bV hh];exact bC0)
   . exact aJ (eO 3 o3)
   . exact dC (cL y g) (vD 8 2) (eE (hb3.k0 hW)) underlying25 (by rw [bV hg];exact bC0)
   . have e7:=vD 7 1;have e9:=vD 9 3;clear hA hd hu o2 o3;refine bQ (v:=.bool false) (w':=W) (bH rfl (by simpa [Act.eval] using e7) (by simpa [Act.eval] using e9) eqGuardType25 ((aEt W z y h g hh hg).trans (by rw [hpq];rfl))) ?_;exact hK _ _ kR rfl
   . exact aJ (vD 10 4)
   . exact cC (eO 2 o2)
   . refine qH ?_;(conv=>arg 2;whnf);have c0:W.cell? ⟨g2,33,none⟩=some (.slice A n c):=by rw [(hb2.k0 hW).cell];exact cP hh
     exact aJ (vD 12 6)
   . exact cC (vD 13 7)
   . exact cC (eO 3 o3)
   . refine qH ?_;(conv=>arg 2;whnf);have c0:W.cell? ⟨g3,33,none⟩=some (.slice B m e):=by rw [(hb3.k0 hW).cell];exact cP hg
     exact aJ (vD 15 9)
   . exact cC (vD 16 10)
   . refine qH ?_;(conv=>arg 2;whnf);have e14:=vD 14 8;have e17:=vD 17 11;clear hA hd hu o2 o3;have hd:((n:Int) == (m:Int))=decide (n=m):=by by_cases e:n=m <;> simp [e] <;> omega
     go_step;exact hK _ _ kR (by first|rfl|(congr 1;simp [bne,hd]))
   . exact cM (vD 11 5) (vD 18 12)
   . trivial
 . intro vs W hW hp;rw [aF];exact hend _ W sQ hW (sW (hp 13 sB))
theorem aKl(z y:Int)(h g:Bs)(hh:h.length=32)(hg:g.length=32)(A B:Option Addr)(n c m e:Nat)(g2 g3:Nat)(hb2:aM w g2 28 (bD z h (.slice A n c)))(hb3:aM w g3 28 (bD y g (.slice B m e)))(hpq:(decide (z=y) && (h == g))=false)(hsz:a.tmps.size=38)(o2:Sl a 2 (Pq g2 0))(o3:Sl a 3 (Pq g3 0)):bC false 1 f38 Q a w fun a' W q'=>Kp [] w W->Sl a' 19 (.bool true)->q':=by
 intro hend;have hap:=pa 1 f38;refine aH (l:=(aK 1 f38)) (fun i v W=>match i with|0=>v=Pq g2 0|1=>v=.agg (cL z h)|2=>v=Pq g3 0|3=>v=.agg (cL y g)|4=>v=.bool true|5=>v=.bool true|13=>v=.bool true|_=>True) hap ?_ ?_ ?_
 . exact fun _ _ _ _ h _=>h
 . and_intros <;> try (intro vs A' W hA hW hd hu K hK;try (refine aL _ rfl rfl ?_;conv=>arg 2;whnf))
   . exact aJ (eO 2 o2)
   . exact dC (cL z h) (vD 6 0) (eE (hb2.k0 hW)) underlying25 (by rw [bV hh];exact bC0)
   . exact aJ (eO 3 o3)
   . exact dC (cL y g) (vD 8 2) (eE (hb3.k0 hW)) underlying25 (by rw [bV hg];exact bC0)
   . have e7:=vD 7 1;have e9:=vD 9 3;clear hA hd hu o2 o3;refine bQ (v:=.bool true) (w':=W) (bH rfl (by simpa [Act.eval] using e7) (by simpa [Act.eval] using e9) eqGuardType25 ((aEt W z y h g hh hg).trans (by rw [hpq];rfl))) ?_;exact hK _ _ kR rfl
   . exact aJ (vD 10 4)
   . exact sk
   . exact sk
   . exact sk
   . exact sk
   . exact sk
   . exact sk
   . exact sk
   . exact cM (vD 11 5) (eU 18 12)
   . trivial
 . intro vs W hW hp;rw [aF];exact hend _ W sQ hW (sW (hp 13 sB))
theorem aHu(hsz:a.tmps.size=38):bK 2 f38 Q a w fun a' q'=>Sl a' 4 (.bool false)->q':=rO
theorem aT3(hsz:a.tmps.size=38):bK 7 f38 Q a w fun a' q'=>Sl a' 4 (.bool false)->q':=rO
theorem aSf(hsz:a.tmps.size=38):bK 8 f38 Q a w fun a' q'=>Sl a' 4 (.bool true)->q':=rO
theorem aP2(hsz:a.tmps.size=38):bK 3 f38 Q a w fun a' q'=>Sl a' 5 (Nq 0)->q':=rO
theorem aZp(z:Int)(h:Bs)(hh:h.length=32)(A:Option Addr)(n c g2 k:Nat)(hb2:aM w g2 28 (bD z h (.slice A n c)))(hsz:a.tmps.size=38)(o2:Sl a 2 (Pq g2 0))(o5:Sl a 5 (Nq k)):bK 4 f38 Q a w fun a' q'=>Sl a' 24 (.bool (decide (k < n)))->q':=by
 have c33:w.cell? ⟨g2,33,none⟩=some (.slice A n c):=by rw [hb2.cell];exact cP hh
 exact rO
theorem aVy(z y:Int)(h g:Bs)(hh:h.length=32)(hg:g.length=32)(a2 a3:Addr)(n c m e k:Nat)(hk:k < n)(hkm:k < m)(g2 g3:Nat)(hb2:aM w.drew g2 28 (bD z h (.slice (some a2) n c)))(hb3:aM w.drew g3 28 (bD y g (.slice (some a3) m e)))(s t:bF)(hs:s.2.length=32)(ht:t.2.length=32)(hc2:∀ V,Kp [] w.drew V->∀ j u,(dQ s).toList[j]?=some u->V.cell? ((a2.add (k * 33)).add j)=some u)(hc3:∀ V,Kp [] w.drew V->∀ j u,(dQ t).toList[j]?=some u->V.cell? ((a3.add (k * 33)).add j)=some u)(hsz:a.tmps.size=38)(o2:Sl a 2 (Pq g2 0))(o3:Sl a 3 (Pq g3 0))(o5:Sl a 5 (Nq k)):bC true 6 f38 Q a w fun a' W q'=>Kp [] w.drew W->Sl a' 37 (.bool (!((s.1 == t.1) && (s.2 == t.2))))->q':=by
 intro hend;have hap:=pa 6 f38;refine bZ (l:=(aK 6 f38)) (fun i v W=>match i with|0=>v=Pq g2 33|1=>v=.slice (some a2) n c|2=>v=Nq k|3=>v=.pointer (some (a2.add (k * 33)))|4=>v=.agg (dQ s)|5=>v=Pq g3 33|6=>v=.slice (some a3) m e|7=>v=Nq k|8=>v=.pointer (some (a3.add (k * 33)))|9=>v=.agg (dQ t)|10=>v=.bool (!((s.1 == t.1) && (s.2 == t.2)))|_=>True) (by kernel_rfl) hap (by kernel_rfl) ?_ ?_ ?_
 . exact fun _ _ _ _ h _=>h
 . and_intros <;> try intro vs A' W hA hW hd K hK
   . exact aJ (eO 2 o2)
   . have c0:W.cell? ⟨g2,33,none⟩=some (.slice (some a2) n c):=by rw [(hb2.k0 hW).cell];exact cP hh
     exact aJ (vD 27 0)
   . exact aJ (eO 5 o5)
   . have h0:0<=(k:Int):=by omega
     have h1:(k:Int) < (n:Int):=by omega
     exact cM (vD 28 1) (vD 29 2)
   . exact dC (dQ s) (vD 30 3) (hc2 _ hW) underlying89 (by rw [fL hs];exact bC5)
   . exact aJ (eO 3 o3)
   . have c0:W.cell? ⟨g3,33,none⟩=some (.slice (some a3) m e):=by rw [(hb3.k0 hW).cell];exact cP hg
     exact aJ (vD 32 5)
   . exact aJ (eO 5 o5)
   . have h0:0<=(k:Int):=by omega
     have h1:(k:Int) < (m:Int):=by omega
     exact cM (vD 33 6) (vD 34 7)
   . exact dC (dQ t) (vD 35 8) (hc3 _ hW) underlying89 (by rw [fL ht];exact bC5)
   . have e31:=vD 31 4;have e36:=vD 36 9;clear hA hd o2 o3 o5;refine bQ (v:=.bool (!((s.1 == t.1) && (s.2 == t.2)))) (w':=W) (bH rfl (by simpa [Act.eval] using e31) (by simpa [Act.eval] using e36) eqGuardType89 (aS5 W s t hs ht)) ?_;exact hK _ _ kR rfl
   . trivial
 . intro vs W hW hp;rw [aF];exact hend _ W sQ hW (sW (hp 10 sB))
theorem aPm(k:Nat)(hk:k < 9223372036854775807)(hsz:a.tmps.size=38)(o5:Sl a 5 (Nq k)):bK 5 f38 Q a w fun a' q'=>Sl a' 5 (Nq (k+1))->q':=by
 have hw:wrap64 ((k:Int)+1)=(k:Int)+1:=by unfold wrap64;omega
 exact rO
theorem aZm(w0:World)(ca:Array Value)(L:List Res)(S:Held w0 w L)(hsz:a.tmps.size=15)(o0:Sl a 0 (.agg ca)):bC false 0 f8 Q a w fun a' W q'=>(∃ g1 g2,Sl a' 1 (Pq g1 0) ∧ Sl a' 2 (Pq g2 0) ∧ Held w0 W (aB g2 28 bT :: aB g1 28 ca :: L))->q':=by
 refine bU fun hend=>?_;unfold Sl at o0;have S1:=LH ((S.newBlk 28 ca).newBlkN 28 bT (g:=w.heap.size+1) (by simp));go_wp2_with fail
 try simp only [Act.put]
 exact hend _ _ tS (⟨_,_,cH,cH,S1.out⟩)
theorem aXd(w0:World)(z:Int)(h:Bs)(hh:h.length=32)(A:Option Addr)(c:Nat)(l:List bF)(hok:dI l)(hll:(l.length+1) * 48<=140737488355328)(hv:∀ V,Kp [] w0 V->Rd V 33 (.slice A l.length c) l.length (bB l))(g1:Nat)(L:List Res)(hsz:a.tmps.size=15)(o1:Sl a 1 (Pq g1 0))
 (S0:Held w0 w (aB g1 28 (bD z h (.slice A l.length c)) :: L))
 (hend:∀ (a':Act) (vs:Nat->Value) (gs:Nat->Nat) (W:World),Same a a' [3,4,5,6,7,8,9,10,11,12,13]->Sl a' 12 (vs 9)->(∃ A c,vs 9=.slice A l.length c)->Held w0 W (aB (gs 4) 89 (dQ dX) :: aG 89 33 (aFq (vs 9)) (l.length+1) (bB (l ++ [dX])) :: aB g1 28 (bD z h (vs 9)) :: L)->Q .normal a' W):(Code.region 1 (aK 1 f8).toArray true).wp prog Q a w:=by
 have hap:=pa 1 f8
 refine aP (Γ:=Nat) (l:=(aK 1 f8)) 2 [0,1,3,4,6,7,8,9,10,11,13]
  (fun i vs gs=>match i with|0=>vs 0=Pq g1 33|1=>vs 1=.slice A l.length c|3=>vs 3=.agg (dQ dX)|4=>vs 4=.slice (some ⟨gs 4,0,none⟩) 1 1|6=>vs 6=Pq g1 33|7=>vs 7=.slice A l.length c|8=>vs 8=Nq (l.length)|9=>∃ A c,vs 9=.slice A l.length c|10=>vs 10=Pq g1 33|_=>True)
  (fun i vs gs=>match i with|2=>[aG 89 33 (vs 2) l.length (bB l)]|4=>[aB (gs 4) 89 (dQ dX)]|5=>[aG 89 33 (vs 5) (l.length+1) (bB (l ++ [dX]))]|9=>[aG 89 33 (aFq (vs 9)) (l.length+1) (bB (l ++ [dX]))]|11=>[aB g1 28 (bD z h (vs 9))]|12=>[aB g1 28 (bD z h (.slice A l.length c))]|13=>L|_=>[])
  (fun i=>match i with|5=>[2]|9=>[5]|11=>[12]|_=>[]) (fun i=>match i with|1=>[12]|5=>[4]|7=>[12]|_=>[]) S0 (by kernel_rfl) hap (by kernel_rfl) (by kernel_rfl) (fun i=>match i with|0=>[0]|1=>[1]|2=>[2]|3=>[3]|4=>[4]|5=>[5]|6=>[6]|7=>[7]|8=>[8]|9=>[9]|10=>[10]|11=>[9]|_=>[]) (by kernel_rfl) ?_ (by kernel_rfl) ?_ ?_ ?_
 . exact lA
 . exact pA
 . clear S0 hend
   and_intros <;> try intro vs gs A' W LF hA S hR hd hu K hK
   . exact aJ (eO 1 o1)
   . have c33:W.cell? ⟨g1,33,none⟩=some (.slice A l.length c):=by rw [(show aM W g1 28 (bD z h (.slice A l.length c)) from S.ok (aB g1 28 (bD z h (.slice A l.length c))) (hR 12 (List.mem_singleton.2 rfl) _ (List.mem_singleton.2 rfl))).cell];exact cP hh
     exact aJ (vD 3 0)
   . replace hK:=hK default;have e4:=vD 4 1;clear hA o1;exact nV (.const (.slice none 0 0)) (.tmp 4) 26 89 rfl bC7 underlying26 rfl (by decide) rfl S (.slice A l.length c) l.length (bB l) (by simpa [Act.eval] using e4) (hv _ S.k) (lW _) (by unfold maxLen;omega) (by omega) (fun v' w' S'=>hK v' w' S' trivial)
   . replace hK:=hK default;clear hA o1;refine gG 89 _ rfl [(0,.string ⟨#[109,97,114,107]⟩)] (by simp [Act.eval]) _ bDg ?_;exact hK _ _ S rfl
   . have e6:=vD 6 3;clear hA o1;refine aA5 (.tmp 6) rfl (dQ dX) (fL rfl) (by simpa [Act.eval] using e6) ?_;exact hK W.heap.size _ _ (S.newBlk _ _) rfl
   . replace hK:=hK default;have e5:=eU 5 2;have e7:=vD 7 4;clear hA o1;refine lO (.tmp 5) (.tmp 7) 26 89 rfl bC7 underlying26 rfl (by decide) (vs 2) l.length (bB l) (by simpa [Act.eval] using e5) S (.slice (some ⟨gs 4,0,none⟩) 1 1) 1 (dQ dX).toList (by simpa [Act.eval] using e7) (aBv (show aM W (gs 4) 89 (dQ dX) from S.ok (aB (gs 4) 89 (dQ dX)) (List.mem_cons_of_mem _ (hR 4 (List.mem_singleton.2 rfl) _ (List.mem_singleton.2 rfl)))) rfl) (mM _) (by unfold maxLen;omega) (by omega) (fun v' w' S'=>hK v' w' (by rw [jI,show bB [dX]=(dQ dX).toList from by simp [bB,dQ]];exact S') trivial)
   . exact aJ (eO 1 o1)
   . have c33:W.cell? ⟨g1,33,none⟩=some (.slice A l.length c):=by rw [(show aM W g1 28 (bD z h (.slice A l.length c)) from S.ok (aB g1 28 (bD z h (.slice A l.length c))) (hR 12 (List.mem_singleton.2 rfl) _ (List.mem_singleton.2 rfl))).cell];exact cP hh
     exact aJ (vD 9 6)
   . exact aJ (vD 10 7)
   . replace hK:=hK default;have e8:=eU 8 5;have e11:=vD 11 8;clear hA o1;have S1:Held w0 W (aG 89 33 (vs 5) (l.length+1) (bB (l ++ [dX])) :: LF):=S;obtain ⟨A7,c7,h7,h7a,h7b⟩:=aS (S1.at_ (l1:=[]));clear S1;rw [h7] at e8;have q:=fun w=>xB A7 (l.length+1) c7 l.length (by omega) w
     go_step;refine hK _ _ ?_ ⟨A7,c7,rfl⟩;have S2:Held w0 W (aG 89 33 (vs 5) (l.length+1) (bB (l ++ [dX])) :: LF):=S;rw [h7] at S2;exact S2
   . exact aJ (eO 1 o1)
   . replace hK:=hK default;have e13:=vD 13 10;have f9:∃ A c,vs 9=.slice A l.length c:=hd 9 (by kernel_rfl);have e12:=eU 12 9;clear hA o1;obtain ⟨A1,c1,hq⟩:=f9;rw [hq] at e12;have S1:Held w0 W (aB g1 28 (bD z h (.slice A l.length c)) :: LF):=S;have S2:=S1.set (l1:=[]) 33 (.slice A1 l.length c1);rw [lV hh,show bD z h (.slice A1 l.length c1)=bD z h (vs 9) from by rw [hq]] at S2;have c33:W.cell? ⟨g1,33,none⟩=some (.slice A l.length c):=by rw [(S1.at_ (l1:=[])).cell];exact cP hh
     have f33:=(show aM W g1 _ _ from S1.at_ (l1:=[])).frozen 33;go_step;exact hK undef _ S2 trivial
   . trivial
 . intro vs gs W S hp;have S:Held w0 W (aB (gs 4) 89 (dQ dX) :: aG 89 33 (aFq (vs 9)) (l.length+1) (bB (l ++ [dX])) :: aB g1 28 (bD z h (vs 9)) :: L):=by simpa only [List.flatMap_cons,List.flatMap_nil,List.append_nil,List.nil_append,List.cons_append,List.append_assoc] using S
   rw [aF];exact hend _ vs gs W sQ sX (hp 9 sB) S
theorem aTi(w0:World)(g1 g2:Nat)(cn:Array Value)(hcn:cn.size=34)(h1:∀ u,u ∈ cn.toList->u.oneCell'=true)(L:List Res)(S:Held w0 w (aB g2 28 bT :: aB g1 28 cn :: L))(hsz:a.tmps.size=15)(o1:Sl a 1 (Pq g1 0))(o2:Sl a 2 (Pq g2 0)):bC false 2 f8 Q a w fun a' W q'=>(Held w0 W (aB g2 28 cn :: aB g1 28 cn :: L))->q':=by
 refine bU fun hend=>?_;unfold Sl at o1 o2;have S1:=LH S;clear S;have hz2:=LH hcn;have HO:=LH h1;clear hcn h1
 go_wp2_with (first
  |(refine aQ rfl 28 (.tmp 1) rfl g1 (aO o1) 28 _ (S1.out.at_ (l1:=[_])) _ underlying28 rfl (by rw [hz2.out];exact bBz) ?_)
  |(refine aD rfl 28 (.tmp 2) (.tmp 14) rfl g2 (aO o2) cn aE 28 _ (S1.out.at_ (l1:=[])) (by rw [hz2.out];exact bBz) (by rw [hz2.out];rfl) HO.out ?_;intro w7 b7 k7;have S7:=LH (Held.setBlk (l1:=[]) S1.out b7 k7);clear b7 k7))
 try simp only [Act.put]
 exact hend _ _ tS (S7.out)
theorem aYl(w0:World)(ca cb:Array Value)(L:List Res)(S:Held w0 w L)(hsz:a.tmps.size=24)(o0:Sl a 0 (.agg ca))(o1:Sl a 1 (.agg cb)):bC false 0 f11 Q a w fun a' W q'=>Sl a' 4 (.bool false)->(∃ g2 g3,Sl a' 2 (Pq g2 0) ∧ Sl a' 3 (Pq g3 0) ∧ Held w0 W (aB g3 28 cb :: aB g2 28 ca :: L))->q':=by
 refine bU fun hend=>?_;unfold Sl at o0 o1;have S1:=LH ((S.newBlk 28 ca).newBlkN 28 cb (g:=w.heap.size+1) (by simp));go_wp2_with fail
 try simp only [Act.put]
 exact hend _ _ tS sP (⟨_,_,cH,cH,S1.out⟩)
theorem bA3(z:Int)(h:Bs)(hh:h.length=32)(A:Option Addr)(c:Nat)(l:List bF)(hll:(l.length+1) * 48<=140737488355328)(g2 g3 gr cr:Nat)(hcr:l.length+1<=cr)(hb2:aM w.drew g2 28 (bD z h (.slice (some ⟨gr,0,none⟩) l.length cr)))(hb3:aM w.drew g3 28 (bD z h (.slice A l.length c)))(hrm:w.drew.cell? ⟨gr,l.length * 33,none⟩=some (.string ⟨#[109,97,114,107]⟩))(hS:∀ V,Kp [] w.drew V->Calls prog 38 #[.agg (bD z h (.slice (some ⟨gr,0,none⟩) l.length cr)),.agg (bD z h (.slice A l.length c))] V fun e w'=>e=.returned (.bool true) ∧ Kp [] V w')(hsz:a.tmps.size=24)(o2:Sl a 2 (Pq g2 0))(o3:Sl a 3 (Pq g3 0)):bC true 1 f11 Q a w fun a' W q'=>Kp [] w.drew W->Sl a' 4 (.bool true)->q':=by
 intro hend;have hap:=pa 1 f11;refine cO (l:=(aK 1 f11)) (fun i v W=>match i with|0=>v=.agg (bD z h (.slice (some ⟨gr,0,none⟩) l.length cr))|1=>v=.agg (bD z h (.slice A l.length c))|2=>v=.bool true|3=>v=.bool true|4=>v=Pq g2 33|5=>v=.slice (some ⟨gr,0,none⟩) l.length cr|6=>v=Pq g3 33|7=>v=.slice A l.length c|8=>v=.int .i64 (l.length:Int)|9=>v=.int .i64 ((l.length:Int)+1)|10=>v=.slice (some ⟨gr,0,none⟩) (l.length+1) cr|11=>v=Pq g3 33|12=>v=.slice A l.length c|13=>v=.int .i64 (l.length:Int)|14=>v=.pointer (some ⟨gr,l.length * 33,none⟩)|15=>v=.pointer (some ⟨gr,l.length * 33,none⟩)|16=>v=.string ⟨#[109,97,114,107]⟩|17=>v=.bool true|18=>v=.bool true|19=>v=.bool true|_=>True) (by kernel_rfl) hap (by kernel_rfl) ?_ ?_ ?_
 . exact fun _ _ _ _ h _=>h
 . and_intros <;> try (intro vs A' W hA hW hd K hK;try (refine aL _ rfl rfl ?_;conv=>arg 2;whnf))
   . exact dC (bD z h (.slice (some ⟨gr,0,none⟩) l.length cr)) (eO 2 o2) (aM.agg (hb2.k0 hW)) underlying28 (by rw [aN hh];exact bBz)
   . exact dC (bD z h (.slice A l.length c)) (eO 3 o3) (aM.agg (hb3.k0 hW)) underlying28 (by rw [aN hh];exact bBz)
   . have e5:=vD 5 0;have e6:=vD 6 1;clear hA hd o2 o3;go_step;refine (hS _ hW).mono ?_;rintro e w' ⟨rfl,k⟩;exact hK _ _ k rfl
   . exact aJ (vD 7 2)
   . exact cC (eO 2 o2)
   . refine qH ?_;(conv=>arg 2;whnf);have c0:W.cell? ⟨g2,33,none⟩=some (.slice (some ⟨gr,0,none⟩) l.length cr):=by rw [(hb2.k0 hW).cell];exact cP hh
     exact aJ (vD 9 4)
   . exact cC (eO 3 o3)
   . refine qH ?_;(conv=>arg 2;whnf);have c0:W.cell? ⟨g3,33,none⟩=some (.slice A l.length c):=by rw [(hb3.k0 hW).cell];exact cP hh
     exact aJ (vD 11 6)
   . exact cC (vD 12 7)
   . refine qH ?_;(conv=>arg 2;whnf);have hw:wrap64 ((l.length:Int)+1)=(l.length:Int)+1:=by unfold wrap64;omega
     exact aJ (vD 13 8)
   . refine qH ?_;(conv=>arg 2;whnf);have q:=fun w=>xB (some ⟨gr,0,none⟩) l.length cr (l.length+1) hcr w
     have q2:((l.length+1:Nat):Int)=(l.length:Int)+1:=by omega
     rw [q2] at q;exact cM (vD 10 5) (vD 14 9)
   . exact cC (eO 3 o3)
   . refine qH ?_;(conv=>arg 2;whnf);have c0:W.cell? ⟨g3,33,none⟩=some (.slice A l.length c):=by rw [(hb3.k0 hW).cell];exact cP hh
     exact aJ (vD 16 11)
   . exact cC (vD 17 12)
   . refine qH ?_;(conv=>arg 2;whnf);have h0:0<=(l.length:Int):=by omega
     have h1:(l.length:Int) < (l.length:Int)+1:=by omega
     exact cM (vD 15 10) (vD 18 13)
   . exact cC (vD 19 14)
   . refine qH ?_;(conv=>arg 2;whnf);have c0:=iO hrm hW;exact aJ (vD 20 15)
   . exact cC (vD 21 16)
   . exact cM (vD 8 3) (vD 22 17)
   . exact aJ (vD 23 18)
   . trivial
 . intro vs W hW hp;rw [aF];exact hend _ W sQ hW (sW (hp 19 sB))
end
section
open Go.RowKit
theorem aBs(z y:Int)(h g:Bs)(hh:h.length=32)(hg:g.length=32)(A B:Option Addr)(c e:Nat)(l m:List bF)(hok:dI l)(hmk:dI m)(hll:l.length < 9223372036854775807)(w:World)(hv:Rd w 33 (.slice A l.length c) l.length (bB l))(hu:Rd w 33 (.slice B m.length e) m.length (bB m)):
 Calls prog 38 #[.agg (bD z h (.slice A l.length c)),.agg (bD y g (.slice B m.length e))] w fun r w'=>r=.returned (.bool (kA z h l y g m)) ∧ Kp [] w w':=by
 refine aR func38 rfl 38 rfl (fun a0 hsz hdf hAr=>?_);have hz0:a0.tmps.size=38:=hsz;have D:=hdf;have o0:=hAr 0 _ rfl;have o1:=hAr 1 _ rfl;refine wp_seq (aYn w _ _ [] (Held.start w) hz0 o0 o1 (fun a1 w1 hs1 o4 h1=>?_));obtain ⟨hz1,D⟩:=dS hs1 hz0 D;obtain ⟨g2,g3,o2,o3,S⟩:=h1;have hb2:=S.at_ (l1:=[_]);have hb3:=S.at_ (l1:=[]);have K:=S.k
 have hfail:∀ (a:Act) (W:World),a.tmps.size=38->a.defers=[]->Sl a 4 (.bool false)->Kp [] w W->kA z h l y g m=false->bodyPost prog f38 (fun r w'=>r=.returned (.bool (kA z h l y g m)) ∧ Kp [] w w') .ret a W:=by
  intro a W hs hd o4 kk hb;exact (bodyPost_ret (eN (by rfl) (o4.eval (by rw [hs];decide))) hd ⟨by rw [hb],kk⟩)
 cases hpq:(decide (z=y) && (h == g))
 . have hF:kA z h l y g m=false:=by unfold kA;rw [hpq,Bool.false_and]
   refine wp_seq (wp_seq (aKl z y h g hh hg A B l.length c m.length e g2 g3 hb2 hb3 hpq hz1 o2 o3 (fun a2 w2 hs2 k2 o19=>?_)));have hz2:=hs2.size.trans hz1;refine cS o19 ?_;refine wp_seq (aHu hz2 (fun a3 hs3 o4=>?_));refine wp_ret ?_;simp only [Exit.then];exact hfail a3 w2 (hs3.size.trans hz2) (hs3.defers.trans (hs2.defers.trans D)) o4 (K.trans k2 (by simp)) hF
 . refine wp_seq (wp_seq (aNo z y h g hh hg A B l.length c m.length e g2 g3 hb2 hb3 hpq hz1 o2 o3 (fun a2 w2 hs2 k2 o19=>?_)));obtain ⟨hz2,D,o2,o3⟩:=dU hs2 hz1 D o2 o3;have hb2:=hb2.kp k2 (by simp);have hb3:=hb3.kp k2 (by simp);have K:=K.trans k2 (by simp)
   by_cases hlm:l.length=m.length
   . refine dD o19 (wp_skip ?_) (by rw [decide_eq_true hlm];rfl);simp only [Exit.then];refine wp_seq (wp_seq (aP2 hz2 (fun a3 hs3 o5=>?_)));obtain ⟨hz3,D,o2,o3⟩:=dU hs3 hz2 D o2 o3;refine wp_block ?_
     (conv=>arg 2;whnf)
     refine wp_loop (fun a' w'=>∃ (k:Nat),k<=l.length ∧ a'.tmps.size=38 ∧ a'.defers=[] ∧ Kp [] w2 w' ∧ Sl a' 2 (Pq g2 0) ∧ Sl a' 3 (Pq g3 0) ∧ Sl a' 5 (Nq k) ∧ l.take k=m.take k) (fun a' _=>l.length - (intOf (a'.eval (.tmp 5))).toNat) ⟨0,Nat.zero_le _,hz3,D,Kp.refl _ _,o2,o3,o5,by rw [List.take_zero,List.take_zero]⟩ ?_
     iterate 8 (try clear o2)
     iterate 8 (try clear o3)
     iterate 8 (try clear o5)
     rintro a4 w4 ⟨k,hk,hz4,D,k4,o2,o3,o5,hT⟩;have e5:=o5.eval (by rw [hz4];decide);have hb2:=hb2.kp k4 (by simp);have hb3:=hb3.kp k4 (by simp);refine wp_seq (wp_seq (aZp z h hh A l.length c g2 k hb2 hz4 o2 o5 (fun a5 hs5 o24=>?_)));obtain ⟨hz5,D,o2,o3,o5⟩:=dF hs5 hz4 D o2 o3 o5
     by_cases hlt:k < l.length
     . refine cS o24 (wp_skip ?_) (by rw [decide_eq_true hlt]);simp only [Exit.then];obtain ⟨a2',hA⟩:=iT hv (by omega);obtain ⟨a3',hB⟩:=iT hu (by omega);obtain ⟨s,hs⟩:∃ s,l[k]?=some s:=⟨_,List.getElem?_eq_getElem hlt⟩;obtain ⟨t,ht⟩:∃ t,m[k]?=some t:=⟨_,List.getElem?_eq_getElem (by omega)⟩;have kk:=K.trans k4.drew (by simp);have hb2':=(hb2.drew);have hb3':=(hb3.drew);rw [hA] at hb2' hv;rw [hB] at hb3' hu;refine wp_seq (wp_block ?_);refine wp_seq (aVy z y h g hh hg a2' a3' l.length c m.length e k hlt (by omega) g2 g3 hb2' hb3' s t (hok s (List.mem_of_getElem? hs)).1 (hmk t (List.mem_of_getElem? ht)).1 (fun V kV=>gF (aT hv (kk.trans kV (by simp))) hok hs) (fun V kV=>gF (aT hu (kk.trans kV (by simp))) hmk ht) hz5 o2 o3 o5 (fun a6 w6 hs6 k6 o37=>?_));obtain ⟨hz6,D,o2,o3,o5⟩:=dF hs6 hz5 D o2 o3 o5;have k46:=k4.drew.trans k6 (by simp)
       cases hst:((s.1 == t.1) && (s.2 == t.2))
       . have hF:kA z h l y g m=false:=by
          have hne:(l == m)=false:=by
           refine beq_false_of_ne (fun e0=>?_);subst e0;rw [hs] at ht
           cases ht;simp at hst
          unfold kA;rw [hne,Bool.and_false,Bool.and_false]
         refine cS o37 ?_ (by rw [hst];rfl);refine wp_seq (aT3 hz6 (fun a7 hs7 o4=>?_));refine wp_ret ?_;simp only [Exit.inBlock,Exit.then];exact hfail a7 w6 (hs7.size.trans hz6) (hs7.defers.trans D) o4 (K.trans k46 (by simp)) hF
       . have hst2:s=t:=by
          simp only [Bool.and_eq_true,beq_iff_eq] at hst;exact Prod.ext hst.1 hst.2
         refine dD o37 (wp_skip ?_) (by rw [hst];rfl);simp only [Exit.inBlock,Exit.then];refine aPm k (by omega) hz6 o5 (fun a7 hs7 o5'=>?_);have hz7:=hs7.size.trans hz6;refine ⟨⟨k+1,by omega,hz7,hs7.defers.trans D,k46,hs7.q o2,hs7.q o3,o5',by rw [List.take_add_one,List.take_add_one,hs,ht,hT,hst2]⟩,?_⟩
         show l.length - (intOf _).toNat < l.length - (intOf _).toNat
         rw [e5,o5'.eval (by rw [hz7];decide)];simp only [intOf];omega
     . refine dD o24 (wp_exit ?_) (by rw [decide_eq_false hlt]);simp only [Exit.then,Exit.inBlock];have hkl:k=l.length:=by omega
       have hlm2:l=m:=by rw [hkl,List.take_length,hlm,List.take_length] at hT;exact hT
       have hF:kA z h l y g m=true:=by unfold kA;rw [hpq,decide_eq_true hlm,hlm2];simp
       refine wp_seq (aSf hz5 (fun a6 hs6 o4=>?_));refine wp_ret ?_;exact (bodyPost_ret (eN (by rfl) (o4.eval (by rw [hs6.size.trans hz5];decide))) (hs6.defers.trans D) ⟨by rw [hF],K.trans k4 (by simp)⟩)
   . have hF:kA z h l y g m=false:=by unfold kA;rw [decide_eq_false hlm,Bool.false_and,Bool.and_false]
     refine cS o19 ?_ (by rw [decide_eq_false hlm];rfl);refine wp_seq (aHu hz2 (fun a3 hs3 o4=>?_));refine wp_ret ?_;simp only [Exit.then];exact hfail a3 w2 (hs3.size.trans hz2) (hs3.defers.trans D) o4 K hF
theorem wG(z:Int)(h:Bs)(hh:h.length=32)(A:Option Addr)(c:Nat)(l:List bF)(hok:dI l)(hll:(l.length+1) * 48<=140737488355328)(w:World)(hv:Rd w 33 (.slice A l.length c) l.length (bB l)):
 Calls prog 8 #[.agg (bD z h (.slice A l.length c))] w fun e w'=>∃ gr cr,e=.returned (.agg (bD z h (.slice (some ⟨gr,0,none⟩) l.length cr))) ∧ l.length+1<=cr ∧ Held w w' [aG 89 33 (.slice (some ⟨gr,0,none⟩) (l.length+1) cr) (l.length+1) (bB (l ++ [dX]))]:=by
 refine aR func8 rfl 15 rfl (fun a0 hsz hdf hAr=>?_);have hz0:a0.tmps.size=15:=hsz;have D:=hdf;have o0:=hAr 0 _ rfl;refine wp_seq (aZm w _ [] (Held.start w) hz0 o0 (fun a1 w1 hs1 h1=>?_));obtain ⟨hz1,D⟩:=dS hs1 hz0 D;obtain ⟨g1,g2,o1,o2,S⟩:=h1;have S:Held w w1 [aB g1 28 (bD z h (.slice A l.length c)),aB g2 28 bT]:=S.pull 1 rfl;refine wp_seq (aXd w z h hh A c l hok hll (fun V kV=>aT hv kV) g1 _ hz1 o1 S (fun a2 vs gs w2 hs2 o12 hf S=>?_));obtain ⟨hz2,D,o1,o2⟩:=dU hs2 hz1 D o1 o2;obtain ⟨A1,c1,hq⟩:=hf;rw [hq] at S;have S:Held w w2 [aG 89 33 (.slice A1 (l.length+1) c1) (l.length+1) (bB (l ++ [dX])),aB g1 28 (bD z h (.slice A1 l.length c1)),aB g2 28 bT]:=S.drop;obtain ⟨gr,cr,hgr,hcr,-⟩:=sC (show Ow w2 89 33 (.slice A1 (l.length+1) c1) (l.length+1) (bB (l ++ [dX])) from S.at_ (l1:=[])) (by omega)
 cases hgr;have S:Held w w2 [aB g2 28 bT,aB g1 28 (bD z h (.slice (some ⟨gr,0,none⟩) l.length c1)),aG 89 33 (.slice (some ⟨gr,0,none⟩) (l.length+1) c1) (l.length+1) (bB (l ++ [dX]))]:=(S.pull 1 rfl).pull 2 rfl;refine wp_seq (aTi w g1 g2 _ (aN hh) (cT rfl) _ S hz2 o1 o2 (fun a3 w3 hs3 S=>?_));obtain ⟨hz3,D,o2⟩:=eY hs3 hz2 D o2;refine wp_ret ?_;refine (bodyPost_ret (aV (by rfl) (o2.eval (by rw [hz3];decide)) (S.at_ (l1:=[])) underlying28 rfl (by rw [aN hh];exact bBz)) D ⟨gr,c1,rfl,hcr,S.some_of (List.singleton_sublist.2 (by simp))⟩)
theorem vC(z:Int)(h:Bs)(hh:h.length=32)(A:Option Addr)(c:Nat)(l:List bF)(hok:dI l)(hll:(l.length+1) * 48<=140737488355328)(gr cr:Nat)(hcr:l.length+1<=cr)(w:World)(hv:Rd w 33 (.slice A l.length c) l.length (bB l))(ho:Ow w 89 33 (.slice (some ⟨gr,0,none⟩) (l.length+1) cr) (l.length+1) (bB (l ++ [dX]))):
 Calls prog 11 #[.agg (bD z h (.slice (some ⟨gr,0,none⟩) l.length cr)),.agg (bD z h (.slice A l.length c))] w fun e w'=>e=.returned (.bool true) ∧ Kp [] w w':=by
 have hok1:dI (l ++ [dX]):=by
  intro s hs;rcases List.mem_append.1 hs with hs|hs
  . exact hok s hs
  . rw [List.mem_singleton.1 hs];exact ⟨rfl,by decide⟩
 have hro:=Rd.of_own ho
 have hr2:Rd w 33 (.slice (some ⟨gr,0,none⟩) l.length cr) l.length (bB l):=by
  have:=aB4 hok1 hro (by rw [List.length_append];rfl) (show l.length<=l.length+1 by omega)
  rwa [List.take_left' rfl] at this
 have hrm:w.cell? ⟨gr,l.length * 33,none⟩=some (.string ⟨#[109,97,114,107]⟩):=by
  have:=gF hro hok1 (k:=l.length) (s:=dX) (by rw [List.getElem?_append_right (Nat.le_refl _),Nat.sub_self];rfl) 0 (bX dX.1) rfl
  rw [mK,Addr.add_lit,Nat.zero_add] at this;exact this
 refine aR func11 rfl 24 rfl (fun a0 hsz hdf hAr=>?_);have hz0:a0.tmps.size=24:=hsz;have D:=hdf;have o0:=hAr 0 _ rfl;have o1:=hAr 1 _ rfl;refine wp_seq (aYl w _ _ [] (Held.start w) hz0 o0 o1 (fun a1 w1 hs1 o4 h1=>?_));obtain ⟨hz1,D⟩:=dS hs1 hz0 D;obtain ⟨g2,g3,o2,o3,S⟩:=h1;have kd:=S.k.drew;refine wp_seq (bA3 z h hh A c l hll g2 g3 gr cr hcr ((S.at_ (l1:=[_])).drew) ((S.at_ (l1:=[])).drew) (iO hrm kd) (fun V kV=>?_) hz1 o2 o3 (fun a2 w2 hs2 k2 o4=>?_))
 . have:=aBs z z h h hh hh (some ⟨gr,0,none⟩) A cr c l l hok hok (by omega) V (aT hr2 (kd.trans kV (by simp))) (aT hv (kd.trans kV (by simp)))
   rw [aAk] at this;exact this
 . refine wp_ret ?_;exact (bodyPost_ret (eN (by rfl) (o4.eval (by rw [hs2.size.trans hz1];decide))) (hs2.defers.trans D) ⟨rfl,kd.trans k2 (by simp)⟩)
end
section
variable {Q:Exit->Act->World->Prop} {a:Act} {w:World}
open Go.RowKit
theorem aTb(w0:World)(ca ck:Array Value)(L:List Res)(S:Held w0 w L)(hsz:a.tmps.size=15)(o0:Sl a 0 (.agg ca))(o1:Sl a 1 (.agg ck)):bC false 0 f87 Q a w fun a' W q'=>(∃ g2 g3 g4,Sl a' 2 (Pq g2 0) ∧ Sl a' 3 (Pq g3 0) ∧ Sl a' 4 (Pq g4 0) ∧ Held w0 W (aB g4 23 (aA (List.replicate 32 0)) :: aB g3 34 ck :: aB g2 25 ca :: L))->q':=by
 refine bU fun hend=>?_;unfold Sl at o0 o1;have S1:=LH (((S.newBlk 25 ca).newBlkN 34 ck (g:=w.heap.size+1) (by simp)).newBlkN 23 (aA (List.replicate 32 0)) (g:=w.heap.size+2) (by simp));go_wp2_with fail
 try simp only [Act.put]
 exact hend _ _ tS (⟨w.heap.size,w.heap.size+1,w.heap.size+2,cH,cH,cH,S1.out⟩)
theorem aUy(w0:World)(n:Nat)(hn:n < 9223372036854775808)(h:Bs)(hh:h.length=32)(nm:Bs)(Ak:Option Addr)(ck:Nat)(sec:Bs)(hnl:nm.length<=64)(hsl:sec.length<=256)(hva:∀ V,Kp [] w0 V->Rd V 1 (.slice Ak sec.length ck) sec.length (bv sec))(g2 g3 g4:Nat)(L:List Res)(hsz:a.tmps.size=15)(o2:Sl a 2 (Pq g2 0))(o3:Sl a 3 (Pq g3 0))(o4:Sl a 4 (Pq g4 0))
 (S0:Held w0 w (aB g4 23 (aA (List.replicate 32 0)) :: aB g2 25 (cL (n:Int) h) :: aB g3 34 #[.string ⟨nm.toArray⟩,.slice Ak sec.length ck] :: L)):RG2 1 f87 Q a w fun a' vs gs W q'=>Held w0 W (nD (vs 8) (nm ++ 10 :: fK n h).length (bv (nm ++ 10 :: fK n h)) :: aB g4 23 (aA (eD (n:Int) h nm sec)) :: aB g2 25 (cL (n:Int) h) :: aB g3 34 #[.string ⟨nm.toArray⟩,.slice Ak sec.length ck] :: L)->q':=by
 intro hend;have hap:=pa 1 f87
 refine aP (Γ:=Unit) (l:=(aK 1 f87)) 4 [0,1,2,3,4,5,6,7,8,9,10,12,13,14]
  (fun i vs gs=>match i with|0=>vs 0=Pq g3 1|1=>vs 1=.slice Ak sec.length ck|2=>vs 2=Pq g3 0|3=>vs 3=.string ⟨(nm).toArray⟩|4=>vs 4=.string ⟨(nm ++ [10]).toArray⟩|5=>vs 5=.agg (cL (n:Int) h)|6=>vs 6=.string ⟨(fK n h).toArray⟩|7=>vs 7=.string ⟨(nm ++ 10 :: fK n h).toArray⟩|9=>vs 9=.agg (aA (eD (n:Int) h nm sec))|_=>True)
  (fun i vs gs=>match i with|8=>[nD (vs 8) (nm ++ 10 :: fK n h).length (bv (nm ++ 10 :: fK n h))]|10=>[aB g4 23 (aA (eD (n:Int) h nm sec))]|11=>[aB g4 23 (aA (List.replicate 32 0))]|12=>[aB g2 25 (cL (n:Int) h)]|13=>[aB g3 34 #[.string ⟨nm.toArray⟩,.slice Ak sec.length ck]]|14=>L|_=>[])
  (fun i=>match i with|10=>[11]|_=>[]) (fun i=>match i with|1=>[13]|3=>[13]|5=>[12]|9=>[8]|_=>[]) S0 (by kernel_rfl) hap (by kernel_rfl) (by kernel_rfl) (fun i=>match i with|0=>[0]|1=>[1]|2=>[2]|3=>[3]|4=>[4]|5=>[5]|6=>[6]|7=>[7]|8=>[8]|9=>[9]|_=>[]) (by kernel_rfl) ?_ (by kernel_rfl) ?_ ?_ ?_
 . intro s vs vs' gs gs' h
   iterate 15 (rcases s with _|s;· (first|exact ⟨rfl,id⟩|(simp only [List.mem_cons,List.not_mem_nil,or_false,forall_eq] at h;simp [h])))
   exact ⟨rfl,id⟩
 . simp only [List.range,List.range.loop,List.flatMap_cons,List.flatMap_nil,List.append_nil];exact List.Perm.refl _
 . clear S0 hend
   and_intros <;> try intro vs gs A' W LF hA S hR hd hu K hK
   . exact aJ (eO 3 o3)
   . have c0:W.cell? ⟨g3,1,none⟩=some (.slice Ak sec.length ck):=by rw [(show aM W g3 34 (#[.string ⟨nm.toArray⟩,.slice Ak sec.length ck]) from S.ok (aB g3 34 (#[.string ⟨nm.toArray⟩,.slice Ak sec.length ck])) (hR 13 (List.mem_singleton.2 rfl) _ (List.mem_singleton.2 rfl))).cell];rfl
     exact aJ (vD 5 0)
   . exact aJ (eO 3 o3)
   . have c0:W.cell? ⟨g3,0,none⟩=some (.string ⟨(nm).toArray⟩):=by rw [(show aM W g3 34 (#[.string ⟨nm.toArray⟩,.slice Ak sec.length ck]) from S.ok (aB g3 34 (#[.string ⟨nm.toArray⟩,.slice Ak sec.length ck])) (hR 13 (List.mem_singleton.2 rfl) _ (List.mem_singleton.2 rfl))).cell];rfl
     exact aJ (vD 7 2)
   . replace hK:=hK default;have e8:=vD 8 3;clear hA o2 o3 o4;have hsz2:¬ 9223372036854775807 < nm.length+1:=by omega
     go_step;exact hK _ _ S (congrArg Value.string ((jK nm [10]).trans (congrArg (fun x:List UInt8=>ByteArray.mk x.toArray) (by simp))))
   . exact dC (cL (n:Int) h) (eO 2 o2) (aM.agg (show aM W g2 25 (cL (n:Int) h) from S.ok (aB g2 25 (cL (n:Int) h)) (hR 12 (List.mem_singleton.2 rfl) _ (List.mem_singleton.2 rfl)))) underlying25 (by rw [bV hh];exact bC0)
   . replace hK:=hK default;have e10:=vD 10 5;clear hA o2 o3 o4;simp only at *
     go_step;refine (aDt n hn h hh W).mono ?_;rintro e w' ⟨rfl,k⟩;exact hK _ _ (S.kp k) rfl
   . replace hK:=hK default;have e9:=vD 9 4;have e11:=vD 11 6;clear hA o2 o3 o4;have htl:=sF n hn h hh;have hsz2:¬ 9223372036854775807 < nm.length+1+(fK n h).length:=by omega
     go_step;exact hK _ _ S (congrArg Value.string ((jK (nm ++ [10]) (fK n h)).trans (congrArg (fun x:List UInt8=>ByteArray.mk x.toArray) (by simp))))
   . replace hK:=hK default;have e12:=vD 12 7;clear hA o2 o3 o4;have htl:=sF n hn h hh;obtain ⟨v,w',hrun,S'⟩:=yO W ⟨(nm ++ 10 :: fK n h).toArray⟩ (by rw [iX,List.length_append,List.length_cons];omega);rw [iX] at S';refine bQ (v:=v) (w':=w') ?_ (hK _ _ (S.new _ S'.k (S'.at_ (l1:=[])) (fun b hb=>S'.base _ (List.mem_singleton.2 rfl) b hb)) trivial);have e12':A'.eval (.tmp 12)=.string ⟨(nm ++ 10 :: fK n h).toArray⟩:=by simpa [Act.eval] using e12
     simp [execOp,e12',hrun,Result.andThen]
   . replace hK:=hK default;have e6:=vD 6 1;have e13:=eU 13 8;clear hA o2 o3 o4;go_step;have htl:=sF n hn h hh;obtain ⟨Ax,cx,hx⟩:=eG (show Rd W 1 (vs 8) (nm ++ 10 :: fK n h).length (bv (nm ++ 10 :: fK n h)) from (S.ok (nD (vs 8) (nm ++ 10 :: fK n h).length (bv (nm ++ 10 :: fK n h))) (hR 8 (List.mem_singleton.2 rfl) _ (List.mem_singleton.2 rfl))).1);have hsum:eD (n:Int) h nm sec=xE sec (nm ++ 10 :: fK n h):=by unfold eD;rw [Int.toNat_natCast];simp
     have hM:=aF9 w0 LF Ak ck sec (by omega) Ax cx (nm ++ 10 :: fK n h) (by rw [List.length_append,List.length_cons];omega) W S (fun V L' SV=>hva V SV.k) (fun V L' SV=>by rw [<- hx];exact (SV.ok (nD (vs 8) (nm ++ 10 :: fK n h).length (bv (nm ++ 10 :: fK n h))) (List.mem_append_right _ (hR 8 (List.mem_singleton.2 rfl) _ (List.mem_singleton.2 rfl)))).1);rw [<- hx] at hM;refine hM.mono ?_;rintro e w' ⟨rfl,S2⟩;exact hK _ _ S2 (congrArg (fun x=>Value.agg (aA x)) hsum.symm)
   . replace hK:=hK default;have e4:=eO 4 o4;have e14:=vD 14 9;clear hA o2 o3 o4;have S1:Held w0 W (aB g4 23 (aA (List.replicate 32 0)) :: LF):=S;refine aZ (.tmp 4) (.tmp 14) 23 rfl g4 (by simpa [Act.eval] using e4) (aA (eD (n:Int) h nm sec)) (by simpa [Act.eval] using e14) 23 (aA (List.replicate 32 0)) S1 (by rw [aC,dM];exact bBy) (by rw [aC,dM] <;> rfl) (aI _) ?_;intro w' S2;exact hK _ _ S2 trivial
   . trivial
 . intro vs gs W S hp;have S:Held w0 W (nD (vs 8) (nm ++ 10 :: fK n h).length (bv (nm ++ 10 :: fK n h)) :: aB g4 23 (aA (eD (n:Int) h nm sec)) :: aB g2 25 (cL (n:Int) h) :: aB g3 34 #[.string ⟨nm.toArray⟩,.slice Ak sec.length ck] :: L):=by simpa only [List.flatMap_cons,List.flatMap_nil,List.append_nil,List.nil_append,List.cons_append,List.append_assoc] using S
   rw [aF];exact hend _ vs gs W sQ  S
theorem aWh(w0:World)(ca ck:Array Value)(L:List Res)(S:Held w0 w L)(hsz:a.tmps.size=18)(o0:Sl a 0 (.agg ca))(o1:Sl a 1 (.agg ck)):bC false 0 f76 Q a w fun a' W q'=>Sl a' 5 (.int .i64 (0:Int))->(∃ g2 g3 g4,Sl a' 2 (Pq g2 0) ∧ Sl a' 3 (Pq g3 0) ∧ Sl a' 4 (Pq g4 0) ∧ Held w0 W (aB g4 23 (aA (List.replicate 32 0)) :: aB g3 34 ck :: aB g2 25 ca :: L))->q':=by
 refine bU fun hend=>?_;unfold Sl at o0 o1;have S1:=LH (((S.newBlk 25 ca).newBlkN 34 ck (g:=w.heap.size+1) (by simp)).newBlkN 23 (aA (List.replicate 32 0)) (g:=w.heap.size+2) (by simp));go_wp2_with fail
 try simp only [Act.put]
 exact hend _ _ tS sP (⟨w.heap.size,w.heap.size+1,w.heap.size+2,cH,cH,cH,S1.out⟩)
theorem aNz(z:Int)(hz:z < 0)(h:Bs)(nm:Bs)(Ak:Option Addr)(ck:Nat)(sec:Bs)(hnl:nm.length<=9223372036854775807)(g2 g3:Nat)(hb2:aM w g2 25 (cL z h))(hb3:aM w g3 34 #[.string ⟨nm.toArray⟩,.slice Ak sec.length ck])(hsz:a.tmps.size=18)(o2:Sl a 2 (Pq g2 0))(o3:Sl a 3 (Pq g3 0)):bC false 1 f76 Q a w fun a' W q'=>Kp [] w W->Sl a' 13 (.bool true)->q':=by
 intro hend;have hap:=pa 1 f76;refine aH (l:=(aK 1 f76)) (fun i v W=>match i with|0=>v=Pq g2 0|1=>v=.int .i64 z|2=>v=.bool true|3=>v=.bool true|7=>v=.bool true|_=>True) hap ?_ ?_ ?_
 . exact fun _ _ _ _ h _=>h
 . and_intros <;> try (intro vs A' W hA hW hd hu K hK;try (refine aL _ rfl rfl ?_;conv=>arg 2;whnf))
   . exact aJ (eO 2 o2)
   . have c0:W.cell? ⟨g2,0,none⟩=some (.int .i64 z):=by rw [(hb2.k0 hW).cell];rfl
     exact aJ (vD 6 0)
   . have e7:=vD 7 1;clear hA hd hu o2 o3;have hzz:z < 0:=by omega
     go_step;exact hK _ _ kR (by first|rfl|(refine congrArg Value.bool ?_;simp [hzz];done)|(refine congrArg Value.bool ?_;simp;omega))
   . exact aJ (vD 8 2)
   . exact sk
   . exact sk
   . exact sk
   . exact cM (vD 9 3) (eU 12 6)
   . trivial
 . intro vs W hW hp;rw [aF];exact hend _ W sQ hW (sW (hp 7 sB))
theorem aLs(z:Int)(hz:0<=z)(h:Bs)(nm:Bs)(Ak:Option Addr)(ck:Nat)(sec:Bs)(hnl:nm.length<=9223372036854775807)(g2 g3:Nat)(hb2:aM w g2 25 (cL z h))(hb3:aM w g3 34 #[.string ⟨nm.toArray⟩,.slice Ak sec.length ck])(hsz:a.tmps.size=18)(o2:Sl a 2 (Pq g2 0))(o3:Sl a 3 (Pq g3 0)):bC false 1 f76 Q a w fun a' W q'=>Kp [] w W->Sl a' 13 (.bool (!cR nm sec))->q':=by
 intro hend;have hap:=pa 1 f76;refine aH (l:=(aK 1 f76)) (fun i v W=>match i with|0=>v=Pq g2 0|1=>v=.int .i64 z|2=>v=.bool false|3=>v=.bool false|4=>v=.agg #[.string ⟨nm.toArray⟩,.slice Ak sec.length ck]|5=>v=.bool (cR nm sec)|6=>v=.bool (!cR nm sec)|7=>v=.bool (!cR nm sec)|_=>True) hap ?_ ?_ ?_
 . exact fun _ _ _ _ h _=>h
 . and_intros <;> try (intro vs A' W hA hW hd hu K hK;try (refine aL _ rfl rfl ?_;conv=>arg 2;whnf))
   . exact aJ (eO 2 o2)
   . have c0:W.cell? ⟨g2,0,none⟩=some (.int .i64 z):=by rw [(hb2.k0 hW).cell];rfl
     exact aJ (vD 6 0)
   . have e7:=vD 7 1;clear hA hd hu o2 o3;have hzz:¬ z < 0:=by omega
     go_step;exact hK _ _ kR (by first|rfl|(refine congrArg Value.bool ?_;simp [hzz];done)|(refine congrArg Value.bool ?_;simp;omega))
   . exact aJ (vD 8 2)
   . refine qH ?_;(conv=>arg 2;whnf);have e3:=eO 3 o3;clear hA hd hu o2 o3;refine bQ (v:=.agg #[.string ⟨nm.toArray⟩,.slice Ak sec.length ck]) (w':=W) (dK rfl (by simpa [Act.eval] using e3) (bY W (⟨g3,0,none⟩) 34 (#[.string ⟨nm.toArray⟩,.slice Ak sec.length ck]).toList _ (aM.agg (hb3.k0 hW)) underlying34 rfl (by exact bC4))) ?_;exact hK _ _ kR rfl
   . refine qH ?_;(conv=>arg 2;whnf);have e10:=vD 10 4;clear hA hd hu o2 o3;go_step;refine (tX ⟨nm.toArray⟩ (by rw [iX];omega) Ak sec.length ck W).mono ?_;rintro e w' ⟨rfl,k⟩;exact hK _ _ k rfl
   . exact cC (vD 11 5)
   . exact cM (vD 9 3) (vD 12 6)
   . trivial
 . intro vs W hW hp;rw [aF];exact hend _ W sQ hW (sW (hp 7 sB))
theorem aEq(w0:World)(g4:Nat)(L:List Res)(S:Held w0 w (aB g4 23 (aA (List.replicate 32 0)) :: L))(hsz:a.tmps.size=18)(o4:Sl a 4 (Pq g4 0)):bC false 2 f76 Q a w fun a' W q'=>Sl a' 5 (.int .i64 (2:Int))->(Held w0 W (aB g4 23 (aA (List.replicate 32 0)) :: L))->q':=by
 refine bU fun hend=>?_;unfold Sl at o4;have S:=LH S;have HB0:=LH bCb;have hzz:Hid ((aA (List.replicate 32 0)).size=32):=LH rfl;have hOz:=LH (aI (List.replicate 32 0));generalize (aA (List.replicate 32 0))=cz at *;go_wp2_with (first|(refine bR rfl 23 _ rfl [] (by simp [Act.eval,Act.put]) _ HB0.out ?_)|(refine aD rfl 23 (.tmp 4) (.tmp 14) rfl g4 (aO o4) cz aE 23 _ (S.out.at_ (l1:=[])) (by rw [hzz.out];exact bBy) (by rw [hzz.out]) hOz.out ?_;intro w7 b7 k7;have S7:=LH (Held.setBlk (l1:=[]) S.out b7 k7);clear b7 k7))
 try simp only [Act.put]
 exact hend _ _ tS sP (S7.out)
theorem aYr(w0:World)(ca ck cn:Array Value)(hca:ca.size=33)(hck:ck.size=2)(hcn:cn.size=32)(h1:∀ u,u ∈ cn.toList->u.oneCell'=true)(g2 g3 g4:Nat)(L:List Res)(S:Held w0 w (aB g4 23 (aA (List.replicate 32 0)) :: aB g3 34 ck :: aB g2 25 ca :: L))(HJ:Calls prog 87 #[.agg ca,.agg ck] w fun r w'=>r=.returned (.agg cn) ∧ Kp [] w w')(hsz:a.tmps.size=18)(o2:Sl a 2 (Pq g2 0))(o3:Sl a 3 (Pq g3 0))(o4:Sl a 4 (Pq g4 0)):bC false 3 f76 Q a w fun a' W q'=>Sl a' 5 (.int .i64 (0:Int))->(Held w0 W (aB g4 23 cn :: aB g3 34 ck :: aB g2 25 ca :: L))->q':=by
 refine bU fun hend=>?_;unfold Sl at o2 o3 o4;have S:=LH S;have HJ:=LH HJ;have hca:=LH hca;have hck:=LH hck;have hcn:=LH hcn;have HO:=LH h1;clear h1;have hzz:Hid ((aA (List.replicate 32 0)).size=32):=LH rfl;generalize (aA (List.replicate 32 0))=cz at *
 go_wp2_with (first
  |(refine aQ rfl 25 (.tmp 2) rfl g2 (aO o2) 25 _ (S.out.at_ (l1:=[_,_])) _ underlying25 rfl (by rw [hca.out];exact bC0) ?_)
  |(refine aQ rfl 34 (.tmp 3) rfl g3 (aO o3) 34 _ (S.out.at_ (l1:=[_])) _ underlying34 rfl (by rw [hck.out];exact bC4) ?_))
 refine HJ.out.mono ?_;rintro e w1 ⟨rfl,k1⟩;have S1:=LH (S.out.kp k1);clear k1;go_wp2_with (refine aD rfl 23 (.tmp 4) (.tmp 17) rfl g4 (aO o4) cn aE 23 _ (S1.out.at_ (l1:=[])) (by rw [hcn.out];exact bBy) (by rw [hcn.out,hzz.out]) HO.out ?_;intro w7 b7 k7;have S7:=LH (Held.setBlk (l1:=[]) S1.out b7 k7);clear b7 k7)
 try simp only [Act.put]
 exact hend _ _ tS sP (S7.out)
theorem aSg(w0:World)(ca ck:Array Value)(L:List Res)(S:Held w0 w L)(hsz:a.tmps.size=40)(o0:Sl a 0 (.agg ca))(o1:Sl a 1 (.agg ck)):bC false 0 f43 Q a w fun a' W q'=>Sl a' 5 (.int .i64 (0:Int))->(∃ g2 g3 g4,Sl a' 2 (Pq g2 0) ∧ Sl a' 3 (Pq g3 0) ∧ Sl a' 4 (Pq g4 0) ∧ Held w0 W (aB g4 28 bT :: aB g3 34 ck :: aB g2 28 ca :: L))->q':=by
 refine bU fun hend=>?_;unfold Sl at o0 o1;have S1:=LH (((S.newBlk 28 ca).newBlkN 34 ck (g:=w.heap.size+1) (by simp)).newBlkN 28 bT (g:=w.heap.size+2) (by simp));go_wp2_with fail
 try simp only [Act.put]
 exact hend _ _ tS sP (⟨w.heap.size,w.heap.size+1,w.heap.size+2,cH,cH,cH,S1.out⟩)
theorem aM1(z:Int)(hz:-9223372036854775808<=z ∧ z<=9223372036854775807)(h:Bs)(hh:h.length=32)(A:Option Addr)(c:Nat)(l:List bF)(hok:dI l)(hll:l.length<=9223372036854775806)(hv:Rd w 33 (.slice A l.length c) l.length (bB l))(nm:Bs)(Ak:Option Addr)(ck:Nat)(sec:Bs)(hnl:nm.length<=9223372036854775807)(g2 g3:Nat)(hb2:aM w g2 28 (bD z h (.slice A l.length c)))(hb3:aM w g3 34 #[.string ⟨nm.toArray⟩,.slice Ak sec.length ck])(hm:eH z l=false)(hsz:a.tmps.size=40)(o2:Sl a 2 (Pq g2 0))(o3:Sl a 3 (Pq g3 0)):bC false 1 f43 Q a w fun a' W q'=>Kp [] w W->Sl a' 13 (.bool true)->q':=by
 intro hend;have hap:=pa 1 f43;refine aH (l:=(aK 1 f43)) (fun i v W=>match i with|0=>v=.agg (bD z h (.slice A l.length c))|1=>v=.bool false|2=>v=.bool true|3=>v=.bool true|7=>v=.bool true|_=>True) hap ?_ ?_ ?_
 . exact fun _ _ _ _ h _=>h
 . and_intros <;> try (intro vs A' W hA hW hd hu K hK;try (refine aL _ rfl rfl ?_;conv=>arg 2;whnf))
   . exact dC (bD z h (.slice A l.length c)) (eO 2 o2) (aM.agg (hb2.k0 hW)) underlying28 (by rw [aN hh];exact bBz)
   . have e6:=vD 6 0;clear hA hd hu o2 o3;go_step;refine (kM z hz h hh l hok (by omega) A c W (aT hv hW)).mono ?_;rintro e w' ⟨rfl,k⟩;exact hK _ _ k (congrArg Value.bool hm)
   . exact aJ (vD 7 1)
   . exact aJ (vD 8 2)
   . exact sk
   . exact sk
   . exact sk
   . exact cM (vD 9 3) (eU 12 6)
   . trivial
 . intro vs W hW hp;rw [aF];exact hend _ W sQ hW (sW (hp 7 sB))
theorem aO3(z:Int)(hz:-9223372036854775808<=z ∧ z<=9223372036854775807)(h:Bs)(hh:h.length=32)(A:Option Addr)(c:Nat)(l:List bF)(hok:dI l)(hll:l.length<=9223372036854775806)(hv:Rd w 33 (.slice A l.length c) l.length (bB l))(nm:Bs)(Ak:Option Addr)(ck:Nat)(sec:Bs)(hnl:nm.length<=9223372036854775807)(g2 g3:Nat)(hb2:aM w g2 28 (bD z h (.slice A l.length c)))(hb3:aM w g3 34 #[.string ⟨nm.toArray⟩,.slice Ak sec.length ck])(hm:eH z l=true)(hsz:a.tmps.size=40)(o2:Sl a 2 (Pq g2 0))(o3:Sl a 3 (Pq g3 0)):bC false 1 f43 Q a w fun a' W q'=>Kp [] w W->Sl a' 13 (.bool (!cR nm sec))->q':=by
 intro hend;have hap:=pa 1 f43;refine aH (l:=(aK 1 f43)) (fun i v W=>match i with|0=>v=.agg (bD z h (.slice A l.length c))|1=>v=.bool true|2=>v=.bool false|3=>v=.bool false|4=>v=.agg #[.string ⟨nm.toArray⟩,.slice Ak sec.length ck]|5=>v=.bool (cR nm sec)|6=>v=.bool (!cR nm sec)|7=>v=.bool (!cR nm sec)|_=>True) hap ?_ ?_ ?_
 . exact fun _ _ _ _ h _=>h
 . and_intros <;> try (intro vs A' W hA hW hd hu K hK;try (refine aL _ rfl rfl ?_;conv=>arg 2;whnf))
   . exact dC (bD z h (.slice A l.length c)) (eO 2 o2) (aM.agg (hb2.k0 hW)) underlying28 (by rw [aN hh];exact bBz)
   . have e6:=vD 6 0;clear hA hd hu o2 o3;go_step;refine (kM z hz h hh l hok (by omega) A c W (aT hv hW)).mono ?_;rintro e w' ⟨rfl,k⟩;exact hK _ _ k (congrArg Value.bool hm)
   . exact aJ (vD 7 1)
   . exact aJ (vD 8 2)
   . refine qH ?_;(conv=>arg 2;whnf);have e3:=eO 3 o3;clear hA hd hu o2 o3;refine bQ (v:=.agg #[.string ⟨nm.toArray⟩,.slice Ak sec.length ck]) (w':=W) (dK rfl (by simpa [Act.eval] using e3) (bY W (⟨g3,0,none⟩) 34 (#[.string ⟨nm.toArray⟩,.slice Ak sec.length ck]).toList _ (aM.agg (hb3.k0 hW)) underlying34 rfl (by exact bC4))) ?_;exact hK _ _ kR rfl
   . refine qH ?_;(conv=>arg 2;whnf);have e10:=vD 10 4;clear hA hd hu o2 o3;go_step;refine (tX ⟨nm.toArray⟩ (by rw [iX];omega) Ak sec.length ck W).mono ?_;rintro e w' ⟨rfl,k⟩;exact hK _ _ k rfl
   . exact cC (vD 11 5)
   . exact cM (vD 9 3) (vD 12 6)
   . trivial
 . intro vs W hW hp;rw [aF];exact hend _ W sQ hW (sW (hp 7 sB))
theorem aEu(w0:World)(g4:Nat)(L:List Res)(S:Held w0 w (aB g4 28 bT :: L))(hsz:a.tmps.size=40)(o4:Sl a 4 (Pq g4 0)):bC false 2 f43 Q a w fun a' W q'=>Sl a' 5 (.int .i64 (2:Int))->(Held w0 W (aB g4 28 bT :: L))->q':=by
 refine bU fun hend=>?_;unfold Sl at o4;have S:=LH S;have HB0:=LH bCd;have hzz:Hid (bT.size=34):=LH rfl;have hOz:Hid (∀ u,u ∈ bT.toList->u.oneCell'=true):=LH (cT (v:=.slice none 0 0) rfl);generalize bT=cz at *;go_wp2_with (first|(refine bR rfl 28 _ rfl [] (by simp [Act.eval,Act.put]) _ HB0.out ?_)|(refine aD rfl 28 (.tmp 4) (.tmp 14) rfl g4 (aO o4) cz aE 28 _ (S.out.at_ (l1:=[])) (by rw [hzz.out];exact bBz) (by rw [hzz.out]) hOz.out ?_;intro w7 b7 k7;have S7:=LH (Held.setBlk (l1:=[]) S.out b7 k7);clear b7 k7))
 try simp only [Act.put]
 exact hend _ _ tS sP (S7.out)
theorem aW1(w0:World)(g4:Nat)(L:List Res)(S:Held w0 w (aB g4 28 bT :: L))(hsz:a.tmps.size=40)(o4:Sl a 4 (Pq g4 0)):bC false 4 f43 Q a w fun a' W q'=>Sl a' 5 (.int .i64 (8:Int))->(Held w0 W (aB g4 28 bT :: L))->q':=by
 refine bU fun hend=>?_;unfold Sl at o4;have S:=LH S;have HB0:=LH bCd;have hzz:Hid (bT.size=34):=LH rfl;have hOz:Hid (∀ u,u ∈ bT.toList->u.oneCell'=true):=LH (cT (v:=.slice none 0 0) rfl);generalize bT=cz at *;go_wp2_with (first|(refine bR rfl 28 _ rfl [] (by simp [Act.eval,Act.put]) _ HB0.out ?_)|(refine aD rfl 28 (.tmp 4) (.tmp 21) rfl g4 (aO o4) cz aE 28 _ (S.out.at_ (l1:=[])) (by rw [hzz.out];exact bBz) (by rw [hzz.out]) hOz.out ?_;intro w7 b7 k7;have S7:=LH (Held.setBlk (l1:=[]) S.out b7 k7);clear b7 k7))
 try simp only [Act.put]
 exact hend _ _ tS sP (S7.out)
theorem aQ5(w0:World)(g4:Nat)(L:List Res)(S:Held w0 w (aB g4 28 bT :: L))(hsz:a.tmps.size=40)(o4:Sl a 4 (Pq g4 0)):bC false 6 f43 Q a w fun a' W q'=>Sl a' 5 (.int .i64 (380:Int))->(Held w0 W (aB g4 28 bT :: L))->q':=by
 refine bU fun hend=>?_;unfold Sl at o4;have S:=LH S;have HB0:=LH bCd;have hzz:Hid (bT.size=34):=LH rfl;have hOz:Hid (∀ u,u ∈ bT.toList->u.oneCell'=true):=LH (cT (v:=.slice none 0 0) rfl);generalize bT=cz at *;go_wp2_with (first|(refine bR rfl 28 _ rfl [] (by simp [Act.eval,Act.put]) _ HB0.out ?_)|(refine aD rfl 28 (.tmp 4) (.tmp 26) rfl g4 (aO o4) cz aE 28 _ (S.out.at_ (l1:=[])) (by rw [hzz.out];exact bBz) (by rw [hzz.out]) hOz.out ?_;intro w7 b7 k7;have S7:=LH (Held.setBlk (l1:=[]) S.out b7 k7);clear b7 k7))
 try simp only [Act.put]
 exact hend _ _ tS sP (S7.out)
theorem aUd(z:Int)(hz:-9223372036854775808<=z ∧ z<=9223372036854775807)(h:Bs)(hh:h.length=32)(A:Option Addr)(c:Nat)(l:List bF)(hok:dI l)(hll:l.length<=9223372036854775806)(hv:Rd w 33 (.slice A l.length c) l.length (bB l))(nm:Bs)(Ak:Option Addr)(ck:Nat)(sec:Bs)(g2 g3:Nat)(hb2:aM w g2 28 (bD z h (.slice A l.length c)))(hb3:aM w g3 34 #[.string ⟨nm.toArray⟩,.slice Ak sec.length ck])(hsz:a.tmps.size=40)(o2:Sl a 2 (Pq g2 0))(o3:Sl a 3 (Pq g3 0)):bC false 3 f43 Q a w fun a' W q'=>Kp [] w W->Sl a' 20 (.bool (decide (0<=lH nm l)))->q':=by
 intro hend;have hap:=pa 3 f43;refine aH (l:=(aK 3 f43)) (fun i v W=>match i with|0=>v=Pq g2 33|1=>v=.slice A l.length c|2=>v=Pq g3 0|3=>v=.string ⟨(nm).toArray⟩|4=>v=.int .i64 (lH nm l)|5=>v=.bool (decide (0<=lH nm l))|_=>True) hap ?_ ?_ ?_
 . exact fun _ _ _ _ h _=>h
 . and_intros <;> try (intro vs A' W hA hW hd hu K hK;try (refine aL _ rfl rfl ?_;conv=>arg 2;whnf))
   . exact aJ (eO 2 o2)
   . have c0:W.cell? ⟨g2,33,none⟩=some (.slice A l.length c):=by rw [(hb2.k0 hW).cell];exact cP hh
     exact aJ (vD 15 0)
   . exact aJ (eO 3 o3)
   . have c0:W.cell? ⟨g3,0,none⟩=some (.string ⟨(nm).toArray⟩):=by rw [(hb3.k0 hW).cell];rfl
     exact aJ (vD 17 2)
   . have e16:=vD 16 1;have e18:=vD 18 3;clear hA hd hu o2 o3;go_step;refine (aEg A c l hok (by omega) ⟨nm.toArray⟩ W (aT hv hW)).mono ?_;rintro e w' ⟨rfl,rfl⟩;exact hK _ _ kR (show Value.int .i64 (lH (ByteArray.mk nm.toArray).toList l)=Value.int .i64 (lH nm l) from by rw [oF])
   . have e19:=vD 19 4;clear hA hd hu o2 o3;go_step;exact hK _ _ kR (by first|rfl|(refine congrArg Value.bool ?_;simp))
   . trivial
 . intro vs W hW hp;rw [aF];exact hend _ W sQ hW (sW (hp 5 sB))
theorem aU4(z:Int)(h:Bs)(hh:h.length=32)(A:Option Addr)(n c g2:Nat)(hb:aM w g2 28 (bD z h (.slice A n c)))(hsz:a.tmps.size=40)(o2:Sl a 2 (Pq g2 0)):bK 5 f43 Q a w fun a' q'=>Sl a' 25 (.bool ((n:Int) == 64))->q':=by
 have c33:w.cell? ⟨g2,33,none⟩=some (.slice A n c):=by rw [hb.cell];exact cP hh
 exact rO
theorem bA4(w0:World)(z:Int)(h:Bs)(hh:h.length=32)(A:Option Addr)(c:Nat)(l:List bF)(hok:dI l)(hll:l.length<=64)(hva:∀ V,Kp [] w0 V->Rd V 33 (.slice A l.length c) l.length (bB l))(nm:Bs)(Ak:Option Addr)(ck:Nat)(sec:Bs)(HJ:∀ V,Kp [] w0 V->Calls prog 87 #[.agg (cL z h),.agg #[.string ⟨nm.toArray⟩,.slice Ak sec.length ck]] V fun r w'=>r=.returned (.agg (aA (eD z h nm sec))) ∧ Kp [] V w')(g2 g3 g4:Nat)(L:List Res)(hsz:a.tmps.size=40)(o2:Sl a 2 (Pq g2 0))(o3:Sl a 3 (Pq g3 0))(o4:Sl a 4 (Pq g4 0))
 (S0:Held w0 w (aB g4 28 bT :: aB g2 28 (bD z h (.slice A l.length c)) :: aB g3 34 #[.string ⟨nm.toArray⟩,.slice Ak sec.length ck] :: L)):RG2 7 f43 Q a w fun a' vs gs W q'=>Sl a' 5 (.int .i64 (0:Int))->Held w0 W (aG 89 33 (vs 11) (l.length+1) (bB (pJ l (nm,eD z h nm sec))) :: aB g4 28 (bD z h (vs 11)) :: aB g2 28 (bD z h (.slice A l.length c)) :: aB g3 34 #[.string ⟨nm.toArray⟩,.slice Ak sec.length ck] :: L)->q':=by
 intro hend;have hap:=pa 7 f43
 refine aP (Γ:=Unit) (l:=(aK 7 f43)) 4 [0,1,2,3,4,5,6,7,8,9,10,11,12,13,14,16,17,18]
  (fun i vs gs=>match i with|0=>vs 0=Pq g2 0|1=>vs 1=.agg (cL z h)|2=>vs 2=Pq g2 33|3=>vs 3=.slice A l.length c|4=>vs 4=Pq g3 0|5=>vs 5=.string ⟨(nm).toArray⟩|6=>vs 6=Pq g2 0|7=>vs 7=.agg (cL z h)|8=>vs 8=.agg #[.string ⟨nm.toArray⟩,.slice Ak sec.length ck]|9=>vs 9=.agg (aA (eD z h nm sec))|10=>vs 10=.agg (dQ (nm,eD z h nm sec))|12=>vs 12=.agg (bD z h (vs 11))|14=>vs 14=.int .i64 (0:Int)|_=>True)
  (fun i vs gs=>match i with|11=>[aG 89 33 (vs 11) (l.length+1) (bB (pJ l (nm,eD z h nm sec)))]|13=>[aB g4 28 (bD z h (vs 11))]|15=>[aB g4 28 bT]|16=>[aB g2 28 (bD z h (.slice A l.length c))]|17=>[aB g3 34 #[.string ⟨nm.toArray⟩,.slice Ak sec.length ck]]|18=>L|_=>[])
  (fun i=>match i with|13=>[15]|_=>[]) (fun i=>match i with|1=>[16]|3=>[16]|5=>[17]|7=>[16]|8=>[17]|12=>[11]|13=>[11]|_=>[]) S0 (by kernel_rfl) hap (by kernel_rfl) (by kernel_rfl) (fun i=>match i with|0=>[0]|1=>[1]|2=>[2]|3=>[3]|4=>[4]|5=>[5]|6=>[6]|7=>[7]|8=>[8]|9=>[9]|10=>[10]|11=>[11]|12=>[11,12]|13=>[11]|14=>[14]|_=>[]) (by kernel_rfl) ?_ (by kernel_rfl) ?_ ?_ ?_
 . exact lA
 . simp only [List.range,List.range.loop,List.flatMap_cons,List.flatMap_nil,List.append_nil];exact List.Perm.refl _
 . clear S0 hend
   and_intros <;> try intro vs gs A' W LF hA S hR hd hu K hK
   . exact aJ (eO 2 o2)
   . exact dC (cL z h) (vD 27 0) (eE (show aM W g2 28 (bD z h (.slice A l.length c)) from S.ok (aB g2 28 (bD z h (.slice A l.length c))) (hR 16 (List.mem_singleton.2 rfl) _ (List.mem_singleton.2 rfl)))) underlying25 (by rw [bV hh];exact bC0)
   . exact aJ (eO 2 o2)
   . have c33:W.cell? ⟨g2,33,none⟩=some (.slice A l.length c):=by rw [(show aM W g2 28 (bD z h (.slice A l.length c)) from S.ok (aB g2 28 (bD z h (.slice A l.length c))) (hR 16 (List.mem_singleton.2 rfl) _ (List.mem_singleton.2 rfl))).cell];exact cP hh
     exact aJ (vD 29 2)
   . exact aJ (eO 3 o3)
   . have c0:W.cell? ⟨g3,0,none⟩=some (.string ⟨(nm).toArray⟩):=by rw [(show aM W g3 34 (#[.string ⟨nm.toArray⟩,.slice Ak sec.length ck]) from S.ok (aB g3 34 (#[.string ⟨nm.toArray⟩,.slice Ak sec.length ck])) (hR 17 (List.mem_singleton.2 rfl) _ (List.mem_singleton.2 rfl))).cell];rfl
     exact aJ (vD 31 4)
   . exact aJ (eO 2 o2)
   . exact dC (cL z h) (vD 33 6) (eE (show aM W g2 28 (bD z h (.slice A l.length c)) from S.ok (aB g2 28 (bD z h (.slice A l.length c))) (hR 16 (List.mem_singleton.2 rfl) _ (List.mem_singleton.2 rfl)))) underlying25 (by rw [bV hh];exact bC0)
   . replace hK:=hK default;have e3:=eO 3 o3;clear hA o2 o3 o4;refine bQ (v:=.agg (#[.string ⟨nm.toArray⟩,.slice Ak sec.length ck])) (w':=W) (dK rfl (by simpa [Act.eval] using e3) (bY W (⟨g3,0,none⟩) 34 (#[.string ⟨nm.toArray⟩,.slice Ak sec.length ck]).toList _ (aM.agg (show aM W g3 34 (#[.string ⟨nm.toArray⟩,.slice Ak sec.length ck]) from S.ok (aB g3 34 (#[.string ⟨nm.toArray⟩,.slice Ak sec.length ck])) (hR 17 (List.mem_singleton.2 rfl) _ (List.mem_singleton.2 rfl)))) underlying34 rfl (by exact bC4))) ?_;exact hK _ _ S rfl
   . replace hK:=hK default;have e34:=vD 34 7;have e35:=vD 35 8;clear hA o2 o3 o4;go_step;refine (HJ _ S.k).mono ?_;rintro e w' ⟨rfl,k⟩;exact hK _ _ (S.kp k) rfl
   . replace hK:=hK default;have e32:=vD 32 5;have e36:=vD 36 9;clear hA o2 o3 o4;refine gG 89 _ rfl [(0,bX nm),(1,.agg (aA (eD z h nm sec)))] (by simp [Act.eval,e32,e36,bX]) _ (bCz (nm,eD z h nm sec) (dM ..)) ?_;exact hK _ _ S rfl
   . replace hK:=hK default;have e30:=vD 30 3;have e37:=vD 37 10;clear hA o2 o3 o4;go_step;refine (aFp A c l hok (by omega) (nm,eD z h nm sec) (dM ..) W (hva _ S.k)).mono ?_;rintro e w' ⟨v,rfl,H⟩;exact hK v w' ((S.join H).perm (List.perm_append_singleton _ _)) trivial
   . replace hK:=hK default;have e28:=vD 28 1;have e38:=eU 38 11;clear hA o2 o3 o4;obtain ⟨Av,cv,hv4,-,-⟩:=aS (show Ow W 89 33 (vs 11) (l.length+1) (bB (pJ l (nm,eD z h nm sec))) from S.ok (aG 89 33 (vs 11) (l.length+1) (bB (pJ l (nm,eD z h nm sec)))) (hR 11 (List.mem_singleton.2 rfl) _ (List.mem_singleton.2 rfl)));rw [hv4] at e38;refine gG 28 _ rfl [(0,.agg (cL z h)),(1,.slice Av (l.length+1) cv)] (by simp [Act.eval,e28,e38]) _ (bD5 z h hh Av (l.length+1) cv) ?_;rw [<- hv4];exact hK _ _ S rfl
   . replace hK:=hK default;have e4:=eO 4 o4;have e39:=vD 39 12;clear hA o2 o3 o4;have S1:Held w0 W (aB g4 28 bT :: LF):=S;obtain ⟨Av,cv,hv4,-,-⟩:=aS (show Ow W 89 33 (vs 11) (l.length+1) (bB (pJ l (nm,eD z h nm sec))) from S.ok (aG 89 33 (vs 11) (l.length+1) (bB (pJ l (nm,eD z h nm sec)))) (List.mem_cons_of_mem _ (hR 11 (List.mem_singleton.2 rfl) _ (List.mem_singleton.2 rfl))));refine aZ (.tmp 4) (.tmp 39) 28 rfl g4 (by simpa [Act.eval] using e4) (bD z h (vs 11)) (by simpa [Act.eval] using e39) 28 bT S1 (by rw [aN hh];exact bBz) (by rw [aN hh] <;> rfl) (cT (by rw [hv4];rfl)) ?_;intro w' S2;exact hK _ _ S2 trivial
   . exact lK
   . trivial
 . intro vs gs W S hp;have S:Held w0 W (aG 89 33 (vs 11) (l.length+1) (bB (pJ l (nm,eD z h nm sec))) :: aB g4 28 (bD z h (vs 11)) :: aB g2 28 (bD z h (.slice A l.length c)) :: aB g3 34 #[.string ⟨nm.toArray⟩,.slice Ak sec.length ck] :: L):=by simpa only [List.flatMap_cons,List.flatMap_nil,List.append_nil,List.nil_append,List.cons_append,List.append_assoc] using S
   rw [aF];exact hend _ vs gs W sQ (sW (hp 14 sB)) S
end
end Go.Proofs.YtmkfopmdingaoaaGreatDoor
