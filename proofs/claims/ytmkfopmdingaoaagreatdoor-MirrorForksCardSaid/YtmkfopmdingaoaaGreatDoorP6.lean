/- Several texts in one: ConC, ConD, ConE, ConF, ConG, ConH, ConI, ConJ. -/
import Derived.Laws.EntriesVeiled
import Derived.Test.YtmkfopmdingaoaaGreatDoorP5
set_option linter.unusedVariables false
set_option linter.unusedSimpArgs false
set_option maxRecDepth 100000
set_option maxHeartbeats 8000000
open Go.Proofs.Tryz
namespace Go.Proofs.YtmkfopmdingaoaaGreatDoor
section
variable {Q:Exit->Act->World->Prop} {a:Act} {w:World}
open Go.RowKit Go.Shelf
def oB (m n:Int):List (Nat × Nat):=if m<=0 ∨ n < m then [] else kS m.toNat n.toNat
theorem lF{m n:Int}(h:m<=0 ∨ n < m):oB m n=[]:=if_pos h
theorem lE{m n:Nat}(h1:1<=m)(h2:m<=n):oB m n=cU 65 m 0 n true:=by unfold oB kS;rw [if_neg (by omega)];simp
theorem tM(m n:Int):(oB m n).length<=65:=by
 unfold oB
 split
 . simp
 . exact dL _ _ _ _ _
theorem aWe(w0:World)(z:Int)(L:List Res)(S:Held w0 w L)(hsz:a.tmps.size=22)(o0:Sl a 0 (.int .i64 z)):bC false 0 f116 Q a w fun a' W q'=>(∃ g,Sl a' 2 (Pq g 0) ∧ Held w0 W (aB g 2 #[.int .i64 z] :: L))->q':=by
 refine bU fun hend=>?_;unfold Sl at o0;have S1:=LH (S.newBlk 2 #[.int .i64 z]);go_wp2
 try simp only [Act.put]
 exact hend _ _ tS (⟨w.heap.size,cH,S1.out⟩)
theorem aM9(z y:Int)(hz:z < 0)(gz:Nat)(hb:aM w gz 2 #[.int .i64 z])(hsz:a.tmps.size=22)(o1:Sl a 1 (.int .i64 y))(o2:Sl a 2 (Pq gz 0)):bC false 1 f116 Q a w fun a' W q'=>Kp [] w W->Sl a' 14 (.bool true)->q':=by
 intro hend;have hap:=pa 1 f116;refine aH (l:=(aK 1 f116)) (fun i v W=>match i with|0=>v=.int .i64 z|1=>v=.bool true|2=>v=.bool true|6=>v=.bool true|_=>True) hap ?_ ?_ ?_
 . exact fun _ _ _ _ h _=>h
 . and_intros <;> try (intro vs A' W hA hW hd hu K hK;try (refine aL _ rfl rfl ?_;conv=>arg 2;whnf))
   . have c0:W.cell? ⟨gz,0,none⟩=some (.int .i64 z):=(hb.k0 hW).cell 0;exact aJ (eO 2 o2)
   . have e8:=vD 8 0;clear hA hd hu o1 o2;go_step;exact hK _ _ kR (by first|rfl|(refine congrArg Value.bool ?_;simp;omega)|(refine congrArg Value.bool ?_;simp [hz];done))
   . exact aJ (vD 9 1)
   . exact sk
   . exact sk
   . exact sk
   . exact cM (vD 10 2) (eU 13 5)
   . trivial
 . intro vs W hW hp;rw [aF];exact hend _ W sQ hW (sW (hp 6 sB))
theorem aMq(z y:Int)(hz:¬ z < 0)(gz:Nat)(hb:aM w gz 2 #[.int .i64 z])(hsz:a.tmps.size=22)(o1:Sl a 1 (.int .i64 y))(o2:Sl a 2 (Pq gz 0)):bC false 1 f116 Q a w fun a' W q'=>Kp [] w W->Sl a' 14 (.bool (decide (y < z)))->q':=by
 intro hend;have hap:=pa 1 f116;refine aH (l:=(aK 1 f116)) (fun i v W=>match i with|0=>v=.int .i64 z|1=>v=.bool false|2=>v=.bool false|3=>v=.int .i64 z|4=>v=.int .i64 y|5=>v=.bool (decide (y < z))|6=>v=.bool (decide (y < z))|_=>True) hap ?_ ?_ ?_
 . exact fun _ _ _ _ h _=>h
 . and_intros <;> try (intro vs A' W hA hW hd hu K hK;try (refine aL _ rfl rfl ?_;conv=>arg 2;whnf))
   . have c0:W.cell? ⟨gz,0,none⟩=some (.int .i64 z):=(hb.k0 hW).cell 0;exact aJ (eO 2 o2)
   . have e8:=vD 8 0;clear hA hd hu o1 o2;go_step;exact hK _ _ kR (by first|rfl|(refine congrArg Value.bool ?_;simp;omega)|(refine congrArg Value.bool ?_;simp [hz];done))
   . exact aJ (vD 9 1)
   . refine qH ?_;(conv=>arg 2;whnf);have c0:W.cell? ⟨gz,0,none⟩=some (.int .i64 z):=(hb.k0 hW).cell 0;exact aJ (eO 2 o2)
   . exact cC (eO 1 o1)
   . exact xZ (vD 11 3) (vD 12 4)
   . exact cM (vD 10 2) (vD 13 5)
   . trivial
 . intro vs W hW hp;rw [aF];exact hend _ W sQ hW (sW (hp 6 sB))
theorem aFw(hsz:a.tmps.size=22):bK 2 f116 Q a w fun a' q'=>Sl a' 4 (.slice none 0 0)->Sl a' 5 (.int .i64 (4:Int))->q':=rO
theorem aY8(hsz:a.tmps.size=22):bK 4 f116 Q a w fun a' q'=>Sl a' 4 (.slice none 0 0)->Sl a' 5 (.int .i64 (0:Int))->q':=rO
theorem aXl(g2:Nat)(z:Int)(hb:aM w g2 2 #[.int .i64 z])(hsz:a.tmps.size=22)(o2:Sl a 2 (Pq g2 0)):bK 3 f116 Q a w fun a' q'=>Sl a' 16 (.bool (z == 0))->q':=by
 have c0:w.cell? ⟨g2,0,none⟩=some (.int .i64 z):=hb.cell 0;exact rO
theorem aR6(w0:World)(L:List Res)(S:Held w0 w L)(hsz:a.tmps.size=22):bC false 5 f116 Q a w fun a' W q'=>(∃ g,Sl a' 6 (Pq g 0) ∧ Held w0 W (aB g 164 #[.slice none 0 0] :: L))->q':=by
 refine bU fun hend=>?_;have S1:=LH (S.newBlk 164 #[.slice none 0 0]);go_wp2
 try simp only [Act.put]
 exact hend _ _ tS (⟨w.heap.size,cH,S1.out⟩)
theorem aW0(w0:World)(L:List Res)(S:Held w0 w L)(hsz:a.tmps.size=22):bC false 6 f116 Q a w fun a' W q'=>(∃ g,Sl a' 7 (Pq g 0) ∧ Held w0 W (aB g 188 #[.nilFunc] :: L))->q':=by
 refine bU fun hend=>?_;have S1:=LH (S.newBlk 188 #[.nilFunc]);go_wp2
 try simp only [Act.put]
 exact hend _ _ tS (⟨w.heap.size,cH,S1.out⟩)
theorem aZh(w0:World)(g2 g6 g7:Nat)(L:List Res)(S:Held w0 w (aB g7 188 #[.nilFunc] :: L))(hsz:a.tmps.size=22)(o2:Sl a 2 (Pq g2 0))(o6:Sl a 6 (Pq g6 0))(o7:Sl a 7 (Pq g7 0)):bC false 7 f116 Q a w fun a' W q'=>(Held w0 W (aB g7 188 #[.func (.func 128) #[] #[Pq g2 0,Pq g6 0,Pq g7 0]] :: L))->q':=by
 refine bU fun hend=>?_;unfold Sl at o2 o6 o7;have S:=LH S;obtain ⟨c1,c2,c3⟩:=aM.c1 (S.out.at_ (l1:=[]));have S1:=LH (S.out.set (l1:=[]) 0 (.func (.func 128) #[] #[Pq g2 0,Pq g6 0,Pq g7 0]));go_wp2_with fail
 try simp only [Act.put]
 exact hend _ _ tS (S1.out)
theorem aTm(g2 g6 g7:Nat)(y:Int)(R:World->Prop)(hb:aM w g7 188 #[.func (.func 128) #[] #[Pq g2 0,Pq g6 0,Pq g7 0]])(HC0:Calls prog 128 #[.int .i64 0,.int .i64 y,.bool true,Pq g2 0,Pq g6 0,Pq g7 0] w fun e w'=>e=.returned (.tuple #[]) ∧ R w')(hsz:a.tmps.size=22)(o1:Sl a 1 (.int .i64 y))(o7:Sl a 7 (Pq g7 0)):bC false 8 f116 Q a w fun a' W q'=>(R W)->q':=by
 refine bU fun hend=>?_;unfold Sl at o1 o7;have HC:=LH HC0;clear HC0;have c0:w.cell? ⟨g7,0,none⟩=some (.func (.func 128) #[] #[Pq g2 0,Pq g6 0,Pq g7 0]):=hb.cell 0;clear hb;go_wp2_with fail
 refine HC.out.mono ?_;rintro e w1 ⟨rfl,r1⟩;have r1:=LH r1;go_wp2_with fail
 try simp only [Act.put]
 exact hend _ _ tS (r1.out)
theorem aSs(g6:Nat)(u:Value)(hus:∃ A n c,u=.slice A n c)(hb:aM w g6 164 #[u])(hsz:a.tmps.size=22)(o6:Sl a 6 (Pq g6 0)):bK 9 f116 Q a w fun a' q'=>Sl a' 4 (u)->Sl a' 5 (.int .i64 (0:Int))->q':=by
 obtain ⟨A,n,c,rfl⟩:=hus;have c0:w.cell? ⟨g6,0,none⟩=some (.slice A n c):=hb.cell 0;exact rO
theorem tB(m n:Int)(hn:n < 9223372036854775808)(w:World):Calls prog 116 #[.int .i64 m,.int .i64 n] w fun e w'=>∃ v,e=.returned (.tuple #[v,.int .i64 (if m < 0 ∨ n < m then 4 else 0)]) ∧ Held w w' [aG 176 2 v (oB m n).length (kU (oB m n))]:=by
 refine aR func116 rfl 22 rfl (fun a0 hsz hdf hAr=>?_);have hz0:a0.tmps.size=22:=hsz;have D:=hdf;have o0:=hAr 0 _ rfl;have o1:=hAr 1 _ rfl;refine wp_seq (aWe w m [] (Held.start w) hz0 o0 (fun a1 w1 hs1 h1=>?_));obtain ⟨hz1,D,o1⟩:=eY hs1 hz0 D o1;obtain ⟨g2,o2,S⟩:=h1
 by_cases hm:m < 0
 . skip
   refine wp_seq (wp_seq (aM9 m n hm g2 (S.at_ (l1:=[])) hz1 o1 o2 (fun a2 w2 hs2 k2 o14=>?_)));obtain ⟨hz2,D,o1,o2⟩:=dU hs2 hz1 D o1 o2;refine cS o14 ?_;refine wp_seq (aFw hz2 (fun a3 hs3 o4 o5=>?_));obtain ⟨hz3,D,o1,o2,o14⟩:=dF hs3 hz2 D o1 o2 o14;refine wp_ret ?_
   try simp only [Exit.then]
   exact bodyPost_ret (gH (by rfl) (o4.eval (by rw [hz3];decide)) (o5.eval (by rw [hz3];decide))) D ⟨.slice none 0 0,by rw [if_pos (Or.inl hm)],by rw [lF (by omega)];exact ((Held.start w).kp (S.k.trans k2 (by simp))).rownew (World.ownsRow_nil _ _ _ _:Ow _ 176 2 (.slice none 0 0) 0 []) (Kp.refl [] _) (fun g hg=>by cases hg)⟩
 . skip
   refine wp_seq (wp_seq (aMq m n hm g2 (S.at_ (l1:=[])) hz1 o1 o2 (fun a2 w2 hs2 k2 o14=>?_)));obtain ⟨hz2,D,o1,o2⟩:=dU hs2 hz1 D o1 o2;have S:=S.kp k2
   by_cases hmn:n < m
   . refine cS o14 ?_ (by rw [decide_eq_true hmn]);refine wp_seq (aFw hz2 (fun a3 hs3 o4 o5=>?_));obtain ⟨hz3,D,o1,o2,o14⟩:=dF hs3 hz2 D o1 o2 o14;refine wp_ret ?_
     try simp only [Exit.then]
     exact bodyPost_ret (gH (by rfl) (o4.eval (by rw [hz3];decide)) (o5.eval (by rw [hz3];decide))) D ⟨.slice none 0 0,by rw [if_pos (Or.inr hmn)],by rw [lF (by omega)];exact ((Held.start w).kp S.k).rownew (World.ownsRow_nil _ _ _ _:Ow _ 176 2 (.slice none 0 0) 0 []) (Kp.refl [] _) (fun g hg=>by cases hg)⟩
   . refine dD o14 (wp_skip ?_) (by rw [decide_eq_false hmn]);simp only [Exit.then];refine wp_seq (wp_seq (aXl g2 m (S.at_ (l1:=[])) hz2 o2 (fun a3 hs3 o16=>?_)));obtain ⟨hz3,D,o1,o2⟩:=dU hs3 hz2 D o1 o2
     by_cases h0:m=0
     . refine cS o16 ?_ (by rw [h0];rfl);refine wp_seq (aY8 hz3 (fun a4 hs4 o4 o5=>?_));obtain ⟨hz4,D,o1,o2,o16⟩:=dF hs4 hz3 D o1 o2 o16;refine wp_ret ?_
       try simp only [Exit.then]
       exact bodyPost_ret (gH (by rfl) (o4.eval (by rw [hz4];decide)) (o5.eval (by rw [hz4];decide))) D ⟨.slice none 0 0,by rw [if_neg (by omega)],by rw [lF (by omega)];exact ((Held.start w).kp S.k).rownew (World.ownsRow_nil _ _ _ _:Ow _ 176 2 (.slice none 0 0) 0 []) (Kp.refl [] _) (fun g hg=>by cases hg)⟩
     . have hq:(m == 0)=false:=by rw [beq_eq_false_iff_ne];exact h0
       refine dD o16 (wp_skip ?_) (by rw [hq]);simp only [Exit.then];obtain ⟨mN,rfl⟩:=Int.eq_ofNat_of_zero_le (show 0<=m by omega);obtain ⟨nN,rfl⟩:=Int.eq_ofNat_of_zero_le (show 0<=n by omega);refine wp_seq (aR6 w _ S hz3 (fun a4 w4 hs4 h4=>?_));obtain ⟨hz4,D,o1,o2⟩:=dU hs4 hz3 D o1 o2;obtain ⟨g6,o6,S⟩:=h4;refine wp_seq (aW0 w _ S hz4 (fun a5 w5 hs5 h5=>?_));obtain ⟨hz5,D,o1,o2,o6⟩:=dF hs5 hz4 D o1 o2 o6;obtain ⟨g7,o7,S⟩:=h5;refine wp_seq (aZh w g2 g6 g7 _ S hz5 o2 o6 o7 (fun a6 w6 hs6 S=>?_));obtain ⟨hz6,D,o1,o6,o7⟩:=dF hs6 hz5 D o1 o6 o7;have S:=S.rownew (World.ownsRow_nil _ _ _ _:Ow w6 176 2 (.slice none 0 0) 0 []) (Kp.refl [] w6) (fun g hg=>by cases hg)
       have S:Held w w6 (aG 176 2 (.slice none 0 0) ([]:List (Nat × Nat)).length (kU []) :: aB g6 164 #[.slice none 0 0] :: aB g2 2 #[Nq (0+mN)] :: aB g7 188 #[.func (.func 128) #[] #[Pq g2 0,Pq g6 0,Pq g7 0]] :: []):=by
        rw [Nat.zero_add];exact (((S.pull 1 rfl).pull 3 rfl).pull 3 rfl).pull 3 rfl
       have HC:=xW g2 g6 g7 w [] 64 0 mN nN true _ [] w6 (by omega) (by omega) (by omega) (by omega) (by decide) S;rw [Nat.zero_add nN] at HC;refine wp_seq (aTm g2 g6 g7 (nN:Int) _ (S.at_ (l1:=[_,_,_])) HC hz6 o1 o7 (fun a7 w7 hs7 h7=>?_));obtain ⟨hz7,D,o6⟩:=eY hs7 hz6 D o6;obtain ⟨u,S⟩:=h7;obtain ⟨Au,cu,hu,-,-⟩:=aS (S.at_ (l1:=[]));refine wp_seq (aSs g6 u ⟨_,_,_,hu⟩ (S.at_ (l1:=[_])) hz7 o6 (fun a8 hs8 o4 o5=>?_));obtain ⟨hz8,D⟩:=dS hs8 hz7 D;refine wp_ret ?_;refine bodyPost_ret (gH (by rfl) (o4.eval (by rw [hz8];decide)) (o5.eval (by rw [hz8];decide))) D ⟨u,by rw [if_neg (by omega)],?_⟩;rw [lE (by omega) (by omega)];rw [List.nil_append] at S;exact S.some_of (List.Sublist.cons_cons _ (List.nil_sublist _))
theorem aQa(hsz:a.tmps.size=17):bK 0 f107 Q a w fun a' q'=>Sl a' 4 (.int .i64 (0:Int))->Sl a' 5 (.int .i64 (0:Int))->q':=rO
theorem aPd(m n x:Int)(q:Nat)(R:Value->World->Prop)(HC0:Calls prog 116 #[.int .i64 m,.int .i64 n] w fun e w'=>∃ v,e=.returned (.tuple #[v,.int .i64 x]) ∧ R v w')(hsz:a.tmps.size=17)(o0:Sl a 0 (.int .i64 m))(o1:Sl a 1 (.int .i64 n)):bC false 1 f107 Q a w fun a' W q'=>(∃ v,Sl a' 6 v ∧ Sl a' 7 (.int .i64 x) ∧ R v W)->q':=by
 refine bU fun hend=>?_;unfold Sl at o0 o1;have HC:=LH HC0;clear HC0;go_wp2_with fail
 refine HC.out.mono ?_;rintro e w1 ⟨v,rfl,r1⟩;have r1:=LH r1;go_wp2_with fail
 try simp only [Act.put]
 exact hend _ _ tS (⟨v,cH,cH,r1.out⟩)
theorem aWa(A:Option Addr)(n c:Nat)(x:Int)(hsz:a.tmps.size=17)(o6:Sl a 6 (.slice A n c))(o7:Sl a 7 (.int .i64 x)):bK 2 f107 Q a w fun a' q'=>Sl a' 4 (Nq n)->Sl a' 5 (.int .i64 x)->q':=rO
theorem aDj(m n:Int)(hn:n < 9223372036854775808)(w:World):Calls prog 107 #[.int .i64 m,.int .i64 n] w fun e w'=>e=.returned (.tuple #[.int .i64 (((oB m n).length:Nat):Int),.int .i64 (if m < 0 ∨ n < m then 4 else 0)]) ∧ Kp [] w w':=by
 refine aR func107 rfl 17 rfl (fun a0 hsz hdf hAr=>?_);have hz0:a0.tmps.size=17:=hsz;have D:=hdf;have o0:=hAr 0 _ rfl;have o1:=hAr 1 _ rfl;refine wp_seq (aQa hz0 (fun a1 hs1 o4 o5=>?_));obtain ⟨hz1,D,o0,o1⟩:=dU hs1 hz0 D o0 o1;refine wp_seq (aPd m n _ 0 _ (tB m n hn w) hz1 o0 o1 (fun a2 w2 hs2 h2=>?_));obtain ⟨hz2,D⟩:=dS hs2 hz1 D;obtain ⟨v,o6,o7,S⟩:=h2;obtain ⟨A,c,rfl,-,-⟩:=aS (S.at_ (l1:=[]));refine wp_seq (aWa A _ c _ hz2 o6 o7 (fun a3 hs3 o4 o5=>?_));obtain ⟨hz3,D⟩:=dS hs3 hz2 D;refine wp_ret ?_;exact bodyPost_ret (gH (by rfl) (o4.eval (by rw [hz3];decide)) (o5.eval (by rw [hz3];decide))) D ⟨rfl,S.k⟩
theorem aPk(hsz:a.tmps.size=56):bK 0 f125 Q a w fun a' q'=>Sl a' 8 (.slice none 0 0)->q':=rO
theorem aR3(hsz:a.tmps.size=56):bK 3 f125 Q a w fun a' q'=>Sl a' 8 (.slice none 0 0)->q':=rO
theorem aTy(m n:Nat)(hsz:a.tmps.size=56)(o0:Sl a 0 (Nq m))(o2:Sl a 2 (Nq n)):bK 1 f125 Q a w fun a' q'=>Sl a' 12 (.bool ((m:Int) == (n:Int)))->q':=rO
theorem aTl(b:Bool)(hsz:a.tmps.size=56)(o3:Sl a 3 (.bool b)):bK 2 f125 Q a w fun a' q'=>Sl a' 13 (.bool b)->q':=rO
theorem aSk(fr n:Nat)(hn:fr+n < 9223372036854775808)(hsz:a.tmps.size=56)(o1:Sl a 1 (Nq fr))(o2:Sl a 2 (Nq n)):bC false 4 f125 Q a w fun a' W q'=>(∃ v,Sl a' 8 v ∧ Held w W [aG 176 2 v 1 [.int .i64 (fr:Int),.int .i64 ((fr:Int)+(n:Int))]])->q':=by
 refine bU fun hend=>?_;unfold Sl at o1 o2;have hw:wrap64 ((fr:Int)+(n:Int))=(fr:Int)+(n:Int):=by unfold wrap64;omega
 have S1:=LH ((Held.start w).rownew (cZ w 176 2 1 #[.int .i64 (fr:Int),.int .i64 ((fr:Int)+(n:Int))] rfl (by decide)) ((Kp.refl [] w).alloc _) (fun g hg=>Nat.le_of_eq (Option.some.inj hg)));clear hn;go_wp2_with fail
 try simp only [Act.put]
 exact hend _ _ tS (⟨_,cH,S1.out⟩)
theorem aUr(n:Nat)(hn:n < 9223372036854775808)(hsz:a.tmps.size=56)(o2:Sl a 2 (Nq n)):bK 5 f125 Q a w fun a' q'=>Sl a' 9 (Nq (aU n))->q':=by
 refine jG fun hend=>?_;unfold Sl at o2;have HR:=LH (nS n hn w);go_wp2_with fail
 refine HR.out.mono ?_;rintro e w' ⟨rfl,rfl⟩;go_wp2_with fail
 try simp only [Act.put]
 exact hend _ tS sP
theorem aZo(m k:Nat)(hsz:a.tmps.size=56)(o0:Sl a 0 (Nq m))(o9:Sl a 9 (Nq k)):bK 6 f125 Q a w fun a' q'=>Sl a' 24 (.bool (decide ((m:Int)<=(k:Int))))->q':=rO
theorem aZx(fr m n k za zb:Nat)(b:Bool)(hz:Hid (za=fr+k ∧ zb=fr+n ∧ fr+n < 9223372036854775808 ∧ k<=n))(q:Nat)(hq:q<=1000000)(xs:List Value)(HC0:Calls prog 125 #[.int .i64 (m:Int),.int .i64 (fr:Int),.int .i64 (k:Int),.bool b] w fun e w'=>∃ v,e=.returned v ∧ Held w w' [aG 176 2 v q xs])(hsz:a.tmps.size=56)(o0:Sl a 0 (Nq m))(o1:Sl a 1 (Nq fr))(o2:Sl a 2 (Nq n))(o3:Sl a 3 (.bool b))(o9:Sl a 9 (Nq k)):bC false 7 f125 Q a w fun a' W q'=>(∃ v,Sl a' 8 v ∧ Held w W [aG 176 2 v (q+1) (xs ++ [.int .i64 (za:Int),.int .i64 (zb:Int)])])->q':=by
 refine bU fun hend=>?_;unfold Sl at o0 o1 o2 o3 o9;have hw1:wrap64 ((fr:Int)+(k:Int))=(za:Int):=by have:=hz.out;unfold wrap64;omega
 have hw2:wrap64 ((fr:Int)+(n:Int))=(zb:Int):=by have:=hz.out;unfold wrap64;omega
 have HC:=LH HC0;clear HC0;have hb1:Hid (q+1<=maxLen ∧ (q+1) * 16<=140737488355328):=LH (by unfold maxLen;omega);clear hq;go_wp2_with fail
 refine HC.out.mono ?_;rintro e w1 ⟨v,rfl,S1⟩;have S1:=LH (S1.alloc (.cells #[.int .i64 (za:Int),.int .i64 (zb:Int)] 176));have HN:=LH (Rd.of_own (cZ w1 176 2 1 #[.int .i64 (za:Int),.int .i64 (zb:Int)] rfl (by decide)));go_wp2_with (at_builtin;refine cY rfl (.tmp 29) (.tmp 37) 164 176 rfl bCa underlying164 rfl (by decide) v q xs aE S1.out (.slice (some ⟨w1.heap.size,0,none⟩) 1 1) 1 [.int .i64 (za:Int),.int .i64 (zb:Int)] aE HN.out (by intro x hx;simp at hx;rcases hx with rfl|rfl <;> rfl) hb1.out.1 hb1.out.2 ?_;intro v2 w2 S3;have S3:=LH S3)
 try simp only [Act.put]
 exact hend _ _ tS (⟨v2,cH,S3.out⟩)
theorem aSh(fr m n k m2 n2 za:Nat)(hz:Hid (za=fr+k ∧ m2+k=m ∧ n2+k=n ∧ fr+n < 9223372036854775808 ∧ m<=n))(q:Nat)(hq:q<=1000000)(xs:List Value)(HC0:Calls prog 125 #[.int .i64 (m2:Int),.int .i64 (za:Int),.int .i64 (n2:Int),.bool false] w fun e w'=>∃ v,e=.returned v ∧ Held w w' [aG 176 2 v q xs])(hsz:a.tmps.size=56)(o0:Sl a 0 (Nq m))(o1:Sl a 1 (Nq fr))(o2:Sl a 2 (Nq n))(o9:Sl a 9 (Nq k)):bC false 8 f125 Q a w fun a' W q'=>(∃ v,Sl a' 8 v ∧ Held w W [aG 176 2 v (q+1) (xs ++ [.int .i64 (fr:Int),.int .i64 (za:Int)])])->q':=by
 refine bU fun hend=>?_;unfold Sl at o0 o1 o2 o9;have hw1:wrap64 ((fr:Int)+(k:Int))=(za:Int):=by have:=hz.out;unfold wrap64;omega
 have hw2:wrap64 ((m:Int) - (k:Int))=(m2:Int):=by have:=hz.out;unfold wrap64;omega
 have hw3:wrap64 ((n:Int) - (k:Int))=(n2:Int):=by have:=hz.out;unfold wrap64;omega
 have HC:=LH HC0;clear HC0;have hb1:Hid (q+1<=maxLen ∧ (q+1) * 16<=140737488355328):=LH (by unfold maxLen;omega);clear hq;go_wp2_with fail
 refine HC.out.mono ?_;rintro e w1 ⟨v,rfl,S1⟩;have S1:=LH (S1.alloc (.cells #[.int .i64 (fr:Int),.int .i64 (za:Int)] 176));have HN:=LH (Rd.of_own (cZ w1 176 2 1 #[.int .i64 (fr:Int),.int .i64 (za:Int)] rfl (by decide)));go_wp2_with (at_builtin;refine cY rfl (.tmp 48) (.tmp 54) 164 176 rfl bCa underlying164 rfl (by decide) v q xs aE S1.out (.slice (some ⟨w1.heap.size,0,none⟩) 1 1) 1 [.int .i64 (fr:Int),.int .i64 (za:Int)] aE HN.out (by intro x hx;simp at hx;rcases hx with rfl|rfl <;> rfl) hb1.out.1 hb1.out.2 ?_;intro v2 w2 S3;have S3:=LH S3)
 try simp only [Act.put]
 exact hend _ _ tS (⟨v2,cH,S3.out⟩)
theorem xI:∀ (fu fr m n:Nat) (whole:Bool) (w:World),1<=m->m<=n->n<=2 ^ fu->fr+n < 9223372036854775808->fu<=900000->
 Calls prog 125 #[.int .i64 (m:Int),.int .i64 (fr:Int),.int .i64 (n:Int),.bool whole] w fun e w'=>∃ v,e=.returned v ∧ Held w w' [aG 176 2 v (cU (fu+1) m fr n whole).length (kU (cU (fu+1) m fr n whole))]
 |fu,fr,m,n,whole,w,h1,hm,hf,hn,hx=>by
  refine aR func125 rfl 56 rfl (fun a0 hsz hdf hAr=>?_);have hz0:a0.tmps.size=56:=hsz;have D:=hdf;have o0:=hAr 0 _ rfl;have o1:=hAr 1 _ rfl;have o2:=hAr 2 _ rfl;have o3:=hAr 3 _ rfl;refine wp_seq (aPk hz0 (fun a1 hs1 o8=>?_));obtain ⟨hz1,D,o0,o1,o2,o3⟩:=fH hs1 hz0 D o0 o1 o2 o3;refine wp_seq (wp_seq (aTy m n hz1 o0 o2 (fun a2 hs2 o12=>?_)));obtain ⟨hz2,D,o0,o1,o2,o3⟩:=fH hs2 hz1 D o0 o1 o2 o3
  by_cases he:m=n
  . subst he;refine cS o12 ?_ (by simp);refine wp_seq (wp_seq (aTl whole hz2 o3 (fun a3 hs3 o13=>?_)));obtain ⟨hz3,D,o0,o1,o2,o3,o12⟩:=jJ hs3 hz2 D o0 o1 o2 o3 o12
    cases whole
    . refine dD o13 (wp_skip ?_)
      try simp only [Exit.inBlock,Exit.then]
      refine wp_seq (aSk fr m hn hz3 o1 o2 (fun a4 w4 hs4 h4=>?_));obtain ⟨v,o8,S⟩:=h4;refine wp_ret ?_
      try simp only [Exit.inBlock,Exit.then]
      refine bodyPost_ret (bA (by rfl) (o8.eval (by rw [hs4.size,hz3];decide))) (hs4.defers.trans D) ⟨v,rfl,?_⟩;rw [bP,if_pos rfl,if_neg (by decide)];exact S
    . refine cS o13 ?_;refine wp_seq (aR3 hz3 (fun a4 hs4 o8=>?_));obtain ⟨hz4,D,o0,o1,o2,o3,o12⟩:=jJ hs4 hz3 D o0 o1 o2 o3 o12;refine wp_ret ?_
      try simp only [Exit.inBlock,Exit.then]
      refine bodyPost_ret (bA (by rfl) (o8.eval (by rw [hz4];decide))) D ⟨_,rfl,?_⟩;rw [bP,if_pos rfl,if_pos rfl];exact (Held.start w).rownew (World.ownsRow_nil _ _ _ _:Ow w 176 2 (.slice none 0 0) 0 []) (Kp.refl [] w) (fun g hg=>by cases hg)
  . have hq:(((m:Nat):Int) == ((n:Nat):Int))=false:=by rw [beq_eq_false_iff_ne];omega
    refine dD o12 (wp_skip ?_) (by rw [hq])
    try simp only [Exit.inBlock,Exit.then]
    obtain ⟨fu,rfl⟩:∃ fu',fu=fu'+1:=by
     cases fu with
     |zero=>simp at hf;omega
     |succ fu=>exact ⟨fu,rfl⟩
    have h2:2<=n:=by omega
    have hk1:=fM h2;have hk2:=gJ h2;obtain ⟨d1,d2⟩:=Deep.next (f:=fu) hf h2;refine wp_seq (aUr n (by omega) hz2 o2 (fun a3 hs3 o9=>?_));obtain ⟨hz3,D,o0,o1,o2,o3⟩:=fH hs3 hz2 D o0 o1 o2 o3;refine wp_seq (wp_seq (aZo m (aU n) hz3 o0 o9 (fun a4 hs4 o24=>?_)));obtain ⟨hz4,D,o0,o1,o2,o3,o9⟩:=jJ hs4 hz3 D o0 o1 o2 o3 o9
    by_cases hk:m<=aU n
    . refine cS o24 ?_ (by rw [decide_eq_true (by omega)]);refine wp_seq (aZx fr m n (aU n) (fr+aU n) (fr+n) whole (LH ⟨rfl,rfl,hn,by omega⟩) _ (Nat.le_trans (dL (fu+1) m fr (aU n) whole) (by omega)) _ (xI fu fr m (aU n) whole w h1 hk d1 (by omega) (by omega)) hz4 o0 o1 o2 o3 o9 (fun a5 w5 hs5 h5=>?_));obtain ⟨v,o8,S⟩:=h5;refine wp_ret ?_
      try simp only [Exit.inBlock,Exit.then]
      refine bodyPost_ret (bA (by rfl) (o8.eval (by rw [hs5.size,hz4];decide))) (hs5.defers.trans D) ⟨v,rfl,?_⟩;rw [bP,if_neg he,if_pos hk,iZ,List.length_append];exact S
    . refine dD o24 (wp_skip ?_) (by rw [decide_eq_false (by omega)])
      try simp only [Exit.inBlock,Exit.then]
      refine wp_seq (aSh fr m n (aU n) (m - aU n) (n - aU n) (fr+aU n) (LH ⟨rfl,by omega,by omega,hn,hm⟩) _ (Nat.le_trans (dL (fu+1) (m - aU n) (fr+aU n) (n - aU n) false) (by omega)) _ (xI fu (fr+aU n) (m - aU n) (n - aU n) false w (by omega) (by omega) d2 (by omega) (by omega)) hz4 o0 o1 o2 o9 (fun a5 w5 hs5 h5=>?_));obtain ⟨v,o8,S⟩:=h5;refine wp_ret ?_
      try simp only [Exit.inBlock,Exit.then]
      refine bodyPost_ret (bA (by rfl) (o8.eval (by rw [hs5.size,hz4];decide))) (hs5.defers.trans D) ⟨v,rfl,?_⟩;rw [bP,if_neg he,if_neg hk,iZ,List.length_append];exact S
theorem aOt(hsz:a.tmps.size=18):bK 0 f112 Q a w fun a' q'=>Sl a' 4 (.slice none 0 0)->Sl a' 5 (.int .i64 (0:Int))->q':=rO
theorem aIu(z y:Int)(hz:z < 0)(hsz:a.tmps.size=18)(o0:Sl a 0 (.int .i64 z))(o1:Sl a 1 (.int .i64 y)):bC false 1 f112 Q a w fun a' W q'=>Kp [] w W->Sl a' 12 (.bool true)->q':=by
 intro hend;have hap:=pa 1 f112;refine aH (l:=(aK 1 f112)) (fun i v W=>match i with|0=>v=.int .i64 z|1=>v=.bool true|2=>v=.bool true|6=>v=.bool true|_=>True) hap ?_ ?_ ?_
 . exact fun _ _ _ _ h _=>h
 . and_intros <;> try (intro vs A' W hA hW hd hu K hK;try (refine aL _ rfl rfl ?_;conv=>arg 2;whnf))
   . exact aJ (eO 0 o0)
   . have e6:=vD 6 0;clear hA hd hu o0 o1;go_step;exact hK _ _ kR (by first|rfl|(refine congrArg Value.bool ?_;simp;omega)|(refine congrArg Value.bool ?_;simp [hz];done))
   . exact aJ (vD 7 1)
   . exact sk
   . exact sk
   . exact sk
   . exact cM (vD 8 2) (eU 11 5)
   . trivial
 . intro vs W hW hp;rw [aF];exact hend _ W sQ hW (sW (hp 6 sB))
theorem aMn(z y:Int)(hz:¬ z < 0)(hsz:a.tmps.size=18)(o0:Sl a 0 (.int .i64 z))(o1:Sl a 1 (.int .i64 y)):bC false 1 f112 Q a w fun a' W q'=>Kp [] w W->Sl a' 12 (.bool (decide (y < z)))->q':=by
 intro hend;have hap:=pa 1 f112;refine aH (l:=(aK 1 f112)) (fun i v W=>match i with|0=>v=.int .i64 z|1=>v=.bool false|2=>v=.bool false|3=>v=.int .i64 z|4=>v=.int .i64 y|5=>v=.bool (decide (y < z))|6=>v=.bool (decide (y < z))|_=>True) hap ?_ ?_ ?_
 . exact fun _ _ _ _ h _=>h
 . and_intros <;> try (intro vs A' W hA hW hd hu K hK;try (refine aL _ rfl rfl ?_;conv=>arg 2;whnf))
   . exact aJ (eO 0 o0)
   . have e6:=vD 6 0;clear hA hd hu o0 o1;go_step;exact hK _ _ kR (by first|rfl|(refine congrArg Value.bool ?_;simp;omega)|(refine congrArg Value.bool ?_;simp [hz];done))
   . exact aJ (vD 7 1)
   . exact cC (eO 0 o0)
   . exact cC (eO 1 o1)
   . exact xZ (vD 9 3) (vD 10 4)
   . exact cM (vD 8 2) (vD 11 5)
   . trivial
 . intro vs W hW hp;rw [aF];exact hend _ W sQ hW (sW (hp 6 sB))
theorem aEw(hsz:a.tmps.size=18):bK 2 f112 Q a w fun a' q'=>Sl a' 4 (.slice none 0 0)->Sl a' 5 (.int .i64 (4:Int))->q':=rO
theorem aQu(hsz:a.tmps.size=18):bK 4 f112 Q a w fun a' q'=>Sl a' 4 (.slice none 0 0)->Sl a' 5 (.int .i64 (0:Int))->q':=rO
theorem aYm(z:Int)(hsz:a.tmps.size=18)(o0:Sl a 0 (.int .i64 z)):bK 3 f112 Q a w fun a' q'=>Sl a' 14 (.bool (z == 0))->q':=rO
theorem aTf(m n:Int)(R:Value->World->Prop)(HC0:Calls prog 125 #[.int .i64 m,.int .i64 0,.int .i64 n,.bool true] w fun e w'=>∃ v,e=.returned v ∧ R v w')(hsz:a.tmps.size=18)(o0:Sl a 0 (.int .i64 m))(o1:Sl a 1 (.int .i64 n)):bC false 5 f112 Q a w fun a' W q'=>Sl a' 5 (.int .i64 (0:Int))->(∃ v,Sl a' 4 v ∧ R v W)->q':=by
 refine bU fun hend=>?_;unfold Sl at o0 o1;have HC:=LH HC0;clear HC0;go_wp2_with fail
 refine HC.out.mono ?_;rintro e w1 ⟨v,rfl,r1⟩;have r1:=LH r1;go_wp2_with fail
 try simp only [Act.put]
 exact hend _ _ tS sP (⟨v,cH,r1.out⟩)
theorem aAn(m n:Int)(hn:n < 9223372036854775808)(w:World):Calls prog 112 #[.int .i64 m,.int .i64 n] w fun e w'=>∃ v,e=.returned (.tuple #[v,.int .i64 (if m < 0 ∨ n < m then 4 else 0)]) ∧ Held w w' [aG 176 2 v (oB m n).length (kU (oB m n))]:=by
 refine aR func112 rfl 18 rfl (fun a0 hsz hdf hAr=>?_);have hz0:a0.tmps.size=18:=hsz;have D:=hdf;have o0:=hAr 0 _ rfl;have o1:=hAr 1 _ rfl;refine wp_seq (aOt hz0 (fun a1 hs1 o4 o5=>?_));obtain ⟨hz1,D,o0,o1⟩:=dU hs1 hz0 D o0 o1
 by_cases hm:m < 0
 . skip
   refine wp_seq (wp_seq (aIu m n hm hz1 o0 o1 (fun a2 w2 hs2 k2 o12=>?_)));obtain ⟨hz2,D,o0,o1⟩:=dU hs2 hz1 D o0 o1;refine cS o12 ?_;refine wp_seq (aEw hz2 (fun a3 hs3 o4 o5=>?_));obtain ⟨hz3,D,o0,o1,o12⟩:=dF hs3 hz2 D o0 o1 o12;refine wp_ret ?_
   try simp only [Exit.then]
   exact bodyPost_ret (gH (by rfl) (o4.eval (by rw [hz3];decide)) (o5.eval (by rw [hz3];decide))) D ⟨.slice none 0 0,by rw [if_pos (Or.inl hm)],by rw [lF (by omega)];exact ((Held.start w).kp k2).rownew (World.ownsRow_nil _ _ _ _:Ow _ 176 2 (.slice none 0 0) 0 []) (Kp.refl [] _) (fun g hg=>by cases hg)⟩
 . skip
   refine wp_seq (wp_seq (aMn m n hm hz1 o0 o1 (fun a2 w2 hs2 k2 o12=>?_)));obtain ⟨hz2,D,o0,o1⟩:=dU hs2 hz1 D o0 o1
   by_cases hmn:n < m
   . refine cS o12 ?_ (by rw [decide_eq_true hmn]);refine wp_seq (aEw hz2 (fun a3 hs3 o4 o5=>?_));obtain ⟨hz3,D,o0,o1,o12⟩:=dF hs3 hz2 D o0 o1 o12;refine wp_ret ?_
     try simp only [Exit.then]
     exact bodyPost_ret (gH (by rfl) (o4.eval (by rw [hz3];decide)) (o5.eval (by rw [hz3];decide))) D ⟨.slice none 0 0,by rw [if_pos (Or.inr hmn)],by rw [lF (by omega)];exact ((Held.start w).kp k2).rownew (World.ownsRow_nil _ _ _ _:Ow _ 176 2 (.slice none 0 0) 0 []) (Kp.refl [] _) (fun g hg=>by cases hg)⟩
   . refine dD o12 (wp_skip ?_) (by rw [decide_eq_false hmn]);simp only [Exit.then];refine wp_seq (wp_seq (aYm m hz2 o0 (fun a3 hs3 o14=>?_)));obtain ⟨hz3,D,o0,o1⟩:=dU hs3 hz2 D o0 o1
     by_cases h0:m=0
     . refine cS o14 ?_ (by rw [h0];rfl);refine wp_seq (aQu hz3 (fun a4 hs4 o4 o5=>?_));obtain ⟨hz4,D,o0,o1,o14⟩:=dF hs4 hz3 D o0 o1 o14;refine wp_ret ?_
       try simp only [Exit.then]
       exact bodyPost_ret (gH (by rfl) (o4.eval (by rw [hz4];decide)) (o5.eval (by rw [hz4];decide))) D ⟨.slice none 0 0,by rw [if_neg (by omega)],by rw [lF (by omega)];exact ((Held.start w).kp k2).rownew (World.ownsRow_nil _ _ _ _:Ow _ 176 2 (.slice none 0 0) 0 []) (Kp.refl [] _) (fun g hg=>by cases hg)⟩
     . have hq:(m == 0)=false:=by rw [beq_eq_false_iff_ne];exact h0
       refine dD o14 (wp_skip ?_) (by rw [hq]);simp only [Exit.then];obtain ⟨mN,rfl⟩:=Int.eq_ofNat_of_zero_le (show 0<=m by omega);obtain ⟨nN,rfl⟩:=Int.eq_ofNat_of_zero_le (show 0<=n by omega);have HC:=xI 64 0 mN nN true w2 (by omega) (by omega) (by omega) (by omega) (by decide);refine wp_seq (aTf (mN:Int) (nN:Int) _ HC hz3 o0 o1 (fun a4 w4 hs4 o5 h4=>?_));obtain ⟨hz4,D⟩:=dS hs4 hz3 D;obtain ⟨v,o4,S⟩:=h4;refine wp_ret ?_;refine bodyPost_ret (gH (by rfl) (o4.eval (by rw [hz4];decide)) (o5.eval (by rw [hz4];decide))) D ⟨v,by rw [if_neg (by omega)],?_⟩;rw [lE (by omega) (by omega)];exact S.back k2
theorem aZ0(w0:World)(L:List Res)(S:Held w0 w L)(hsz:a.tmps.size=10):bC false 0 f108 Q a w fun a' W q'=>(∃ g,Sl a' 2 (Pq g 0) ∧ Held w0 W (aB g 23 (aA (List.replicate 32 0)) :: L))->q':=by
 refine bU fun hend=>?_;have S1:=LH (S.newBlk 23 (aA (List.replicate 32 0)));go_wp2
 try simp only [Act.put]
 exact hend _ _ tS (⟨w.heap.size,cH,S1.out⟩)
theorem aW4(w0:World)(gn k:Nat)(hk:k<=1000000)(L:List Res)(S:Held w0 w (aB gn 3 #[Nq k] :: L))(hsz:a.tmps.size=10)(o0:Sl a 0 (Pq gn 0)):bC false 1 f108 Q a w fun a' W q'=>(Held w0 W (aB gn 3 #[Nq (k+1)] :: L))->q':=by
 refine bU fun hend=>?_;unfold Sl at o0;have S:=LH S;obtain ⟨c1,c2,c3⟩:=aM.c1 (S.out.at_ (l1:=[]));have hw:wrap64 ((k:Int)+1)=((k+1:Nat):Int):=by unfold wrap64;omega
 have S1:=LH (S.out.set (l1:=[]) 0 (Nq (k+1)));go_wp2_with fail
 try simp only [hw]
 try simp only [Act.put]
 exact hend _ _ tS (S1.out)
theorem aOp(w0:World)(gn gp g2 k n c:Nat)(ad:Addr)(hk:k < n)(hkb:k<=1000000)(x:Bs)(hx32:x.length=32)(hx:∀ j u,(aA x).toList[j]?=some u->w.cell? ((ad.add (k * 32)).add j)=some u)(hbn:aM w gn 3 #[Nq (k+1)])(hbp:aM w gp 29 #[.slice (some ad) n c])(L:List Res)(S:Held w0 w (aB g2 23 (aA (List.replicate 32 0)) :: L))(hsz:a.tmps.size=10)(o0:Sl a 0 (Pq gn 0))(o1:Sl a 1 (Pq gp 0))(o2:Sl a 2 (Pq g2 0)):bC false 2 f108 Q a w fun a' W q'=>(Held w0 W (aB g2 23 (aA x) :: L))->q':=by
 refine bU fun hend=>?_;unfold Sl at o0 o1 o2;have c0:w.cell? ⟨gn,0,none⟩=some (.int .i64 ((k:Int)+1)):=hbn.cell 0;have c1:w.cell? ⟨gp,0,none⟩=some (.slice (some ad) n c):=hbp.cell 0;have hw:wrap64 (k:Int)=(k:Int):=by unfold wrap64;omega
 have h0:0<=(k:Int):=by omega
 have h1:(k:Int) < (n:Int):=by omega
 have hch:Hid ((aA (x)).size=32):=LH (by rw [aC,hx32]);have Och:=LH (aI (x));obtain ⟨ch,Ech⟩:∃ cs,Hid (aA (x)=cs):=⟨_,LH rfl⟩;rw [Ech.out] at hch Och;have hcz:Hid ((aA (List.replicate 32 0)).size=32):=LH rfl;obtain ⟨cz,Ecz⟩:∃ cs,Hid ((aA (List.replicate 32 0))=cs):=⟨_,LH rfl⟩;rw [Ecz.out] at hcz;have HC:Hid (∀ j u,ch.toList[j]?=some u->w.cell? ((ad.add (k * 32)).add j)=some u):=LH (by rw [<- Ech.out];exact hx);clear hx hbn hbp;rw [Ecz.out] at S;have S:=LH S;go_wp2_with (first|(refine bW rfl 23 (.tmp 8) rfl (ad.add (k * 32)) aE ch.toList _ HC.out underlying23 rfl (by rw [Array.length_toList,hch.out];exact bBy) ?_)|(refine aD rfl 23 (.tmp 2) (.tmp 9) rfl g2 (aO o2) ch aE 23 _ (S.out.at_ (l1:=[])) (by rw [hch.out];exact bBy) (by rw [hch.out,hcz.out]) Och.out ?_;intro w7 b7 k7;have S7:=LH (Held.setBlk (l1:=[]) S.out b7 k7);clear b7 k7))
 rw [<- Ech.out] at S7
 try simp only [Act.put]
 exact hend _ _ tS (S7.out)
theorem aXp(w0:World)(L:List Res)(S:Held w0 w L)(hsz:a.tmps.size=66):bC false 0 f109 Q a w fun a' W q'=>(∃ g10 g11,Sl a' 10 (Pq g10 0) ∧ Sl a' 11 (Pq g11 0) ∧ Held w0 W (aB g11 23 (aA (List.replicate 32 0)) :: aB g10 23 (aA (List.replicate 32 0)) :: L))->q':=by
 refine bU fun hend=>?_;have S1:=LH ((S.newBlk 23 (aA (List.replicate 32 0))).newBlkN 23 (aA (List.replicate 32 0)) (g:=w.heap.size+1) (by simp));go_wp2
 try simp only [Act.put]
 exact hend _ _ tS (⟨w.heap.size,w.heap.size+1,cH,cH,S1.out⟩)
theorem aUg(g3:Nat)(x z:Int)(hb:aM w g3 2 #[.int .i64 x])(hsz:a.tmps.size=66)(o1:Sl a 1 (.int .i64 z))(o3:Sl a 3 (Pq g3 0)):bK 1 f109 Q a w fun a' q'=>Sl a' 21 (.bool (x == z))->q':=by
 have c0:w.cell? ⟨g3,0,none⟩=some (.int .i64 x):=hb.cell 0;exact rO
theorem aQ1(w0:World)(g4:Nat)(x:Bs)(hx32:x.length=32)(hb:aM w g4 23 (aA x))(L:List Res)(S:Held w0 w L)(hsz:a.tmps.size=66)(o4:Sl a 4 (Pq g4 0)):bC false 2 f109 Q a w fun a' W q'=>(∃ g12,Sl a' 12 (Pq g12 0) ∧ Held w0 W (aB g12 23 (aA x) :: L))->q':=by
 refine bU fun hend=>?_;unfold Sl at o4;have hch:Hid ((aA (x)).size=32):=LH (by rw [aC,hx32]);have Och:=LH (aI (x));obtain ⟨ch,Ech⟩:∃ cs,Hid (aA (x)=cs):=⟨_,LH rfl⟩;rw [Ech.out] at hch Och;rw [Ech.out] at hb;have HB:=LH hb;clear hb;have S1:=LH (S.newBlk 23 (aA (List.replicate 32 0)));clear S;go_wp2_with (first|(refine aQ rfl 23 (.tmp 4) rfl g4 (aO o4) 23 _ HB.out _ underlying23 rfl (by rw [hch.out];exact bBy) ?_)|(refine aD rfl 23 (.tmp 12) (.tmp 22) rfl w.heap.size aE ch aE 23 _ (S1.out.at_ (l1:=[])) (by rw [hch.out];exact bBy) (by rw [hch.out];rfl) Och.out ?_;intro w7 b7 k7;have S7:=LH (Held.setBlk (l1:=[]) S1.out b7 k7);clear b7 k7))
 rw [<- Ech.out] at S7
 try simp only [Act.put]
 exact hend _ _ tS (⟨_,cH,S7.out⟩)
theorem aV9(b:Bool)(hsz:a.tmps.size=66)(o2:Sl a 2 (.bool b)):bK 3 f109 Q a w fun a' q'=>Sl a' 24 (.bool (!b))->q':=rO
theorem aPe(w0:World)(gn gp g5 g12:Nat)(x y:Bs)(hx32:x.length=32)(hy32:y.length=32)(hb5:aM w g5 131 #[.func (.func 108) #[] #[Pq gn 0,Pq gp 0]])(L:List Res)(HC0:Calls prog 108 #[Pq gn 0,Pq gp 0] w fun e w'=>e=.returned (.agg (aA x)) ∧ Held w0 w' (aB g12 23 (aA y) :: L))(hsz:a.tmps.size=66)(o5:Sl a 5 (Pq g5 0))(o12:Sl a 12 (Pq g12 0)):bC false 4 f109 Q a w fun a' W q'=>(Held w0 W (aB g12 23 (aA x) :: L))->q':=by
 refine bU fun hend=>?_;unfold Sl at o5 o12;have hch:Hid ((aA (x)).size=32):=LH (by rw [aC,hx32]);have Och:=LH (aI (x));obtain ⟨ch,Ech⟩:∃ cs,Hid (aA (x)=cs):=⟨_,LH rfl⟩;rw [Ech.out] at hch Och;have hcz:Hid ((aA (y)).size=32):=LH (by rw [aC,hy32]);have Ocz:=LH (aI (y));obtain ⟨cz,Ecz⟩:∃ cs,Hid (aA (y)=cs):=⟨_,LH rfl⟩;rw [Ecz.out] at hcz Ocz;rw [Ecz.out] at HC0;rw [Ech.out] at HC0;have HC:=LH HC0;clear HC0;have c5:w.cell? ⟨g5,0,none⟩=some (.func (.func 108) #[] #[Pq gn 0,Pq gp 0]):=hb5.cell 0;clear hb5;go_wp2_with fail
 refine HC.out.mono ?_;rintro e w1 ⟨rfl,S1⟩;have S1:=LH S1;go_wp2_with (refine aD rfl 23 (.tmp 12) (.tmp 26) rfl g12 (aO o12) ch aE 23 _ (S1.out.at_ (l1:=[])) (by rw [hch.out];exact bBy) (by rw [hch.out,hcz.out]) Och.out ?_;intro w7 b7 k7;have S7:=LH (Held.setBlk (l1:=[]) S1.out b7 k7);clear b7 k7)
 rw [<- Ech.out] at S7
 try simp only [Act.put]
 exact hend _ _ tS (S7.out)
theorem aOo(f n t m:Nat)(ht:Hid (t=f+n ∧ m=f+aU n ∧ f+n < 9223372036854775808))(hsz:a.tmps.size=66)(o0:Sl a 0 (Nq f))(o1:Sl a 1 (Nq t)):bK 6 f109 Q a w fun a' q'=>Sl a' 13 (Nq m)->q':=by
 refine jG fun hend=>?_;unfold Sl at o0 o1;have HR:=LH (nQ n (by have:=ht.out;omega) w);have hw:wrap64 ((t:Int) - (f:Int))=(n:Int):=by have:=ht.out;unfold wrap64;omega
 have hs:=LH (vV n);obtain ⟨k,hk⟩:∃ k,Hid (aU n=k):=⟨_,LH rfl⟩;rw [hk.out] at HR hs ht;have hw2:wrap64 ((f:Int)+(k:Int))=(m:Int):=by have:=hs.out;have:=ht.out;unfold wrap64;omega
 go_wp2_with fail
 refine HR.out.mono ?_;rintro e w' ⟨rfl,rfl⟩;go_wp2_with fail
 try simp only [Act.put]
 exact hend _ tS sP
theorem aU1(g3:Nat)(x z:Int)(hb:aM w g3 2 #[.int .i64 x])(hsz:a.tmps.size=66)(o3:Sl a 3 (Pq g3 0))(o13:Sl a 13 (.int .i64 z)):bK 7 f109 Q a w fun a' q'=>Sl a' 37 (.bool (decide (x<=z)))->q':=by
 have c0:w.cell? ⟨g3,0,none⟩=some (.int .i64 x):=hb.cell 0;exact rO
theorem aWo(w0:World)(g3 g4 g5 g6:Nat)(za zb:Int)(b:Bool)(x y:Bs)(hx32:x.length=32)(hy32:y.length=32)(L:List Res)(hb:aM w g6 162 #[.func (.func 109) #[] #[Pq g3 0,Pq g4 0,Pq g5 0,Pq g6 0]])(HC0:Calls prog 109 #[.int .i64 za,.int .i64 zb,.bool b,Pq g3 0,Pq g4 0,Pq g5 0,Pq g6 0] w fun e w'=>e=.returned (.tuple #[.agg (aA x),.agg (aA y)]) ∧ Held w0 w' L)(hsz:a.tmps.size=66)(o0:Sl a 0 (.int .i64 za))(o2:Sl a 2 (.bool b))(o6:Sl a 6 (Pq g6 0))(o13:Sl a 13 (.int .i64 zb)):bC false 8 f109 Q a w fun a' W q'=>(∃ g7 g8,Sl a' 14 (Pq g7 0) ∧ Sl a' 15 (Pq g8 0) ∧ Held w0 W (aB g8 23 (aA y) :: aB g7 23 (aA x) :: L))->q':=by
 refine bU fun hend=>?_;unfold Sl at o0 o2 o6 o13;have hca:Hid ((aA (x)).size=32):=LH (by rw [aC,hx32]);have Oca:=LH (aI (x));obtain ⟨ca,Eca⟩:∃ cs,Hid (aA (x)=cs):=⟨_,LH rfl⟩;rw [Eca.out] at hca Oca;have hcb:Hid ((aA (y)).size=32):=LH (by rw [aC,hy32]);have Ocb:=LH (aI (y));obtain ⟨cb,Ecb⟩:∃ cs,Hid (aA (y)=cs):=⟨_,LH rfl⟩;rw [Ecb.out] at hcb Ocb;rw [Eca.out,Ecb.out] at HC0;have HC:=LH HC0;clear HC0;have c0:w.cell? ⟨g6,0,none⟩=some (.func (.func 109) #[] #[Pq g3 0,Pq g4 0,Pq g5 0,Pq g6 0]):=hb.cell 0;clear hb;go_wp2_with fail
 refine HC.out.mono ?_;rintro e w1 ⟨rfl,S1⟩;have S2:=LH ((S1.newBlk 23 (aA (List.replicate 32 0))).newBlkN 23 (aA (List.replicate 32 0)) (g:=w1.heap.size+1) (by simp));clear S1;go_wp2_with (first|(refine aD rfl 23 (.tmp 14) (.tmp 44) rfl w1.heap.size aE ca aE 23 _ (S2.out.at_ (l1:=[_])) (by rw [hca.out];exact bBy) (by rw [hca.out];rfl) Oca.out ?_;intro w7 b7 k7;have S7:=LH (Held.setBlk (l1:=[_]) S2.out b7 k7);clear b7 k7)|(refine aD rfl 23 (.tmp 15) (.tmp 45) rfl (w1.heap.size+1) aE cb aE 23 _ (S7.out.at_ (l1:=[])) (by rw [hcb.out];exact bBy) (by rw [hcb.out];rfl) Ocb.out ?_;intro w7 b7 k7;have S8:=LH (Held.setBlk (l1:=[]) S7.out b7 k7);clear b7 k7))
 rw [<- Eca.out,<- Ecb.out] at S8
 try simp only [Act.put]
 exact hend _ _ tS (⟨_,_,cH,cH,S8.out⟩)
theorem aLw(w0:World)(g3 g4 g5 g6:Nat)(za zb:Int)(x y:Bs)(hx32:x.length=32)(hy32:y.length=32)(L:List Res)(hb:aM w g6 162 #[.func (.func 109) #[] #[Pq g3 0,Pq g4 0,Pq g5 0,Pq g6 0]])(HC0:Calls prog 109 #[.int .i64 za,.int .i64 zb,.bool false,Pq g3 0,Pq g4 0,Pq g5 0,Pq g6 0] w fun e w'=>e=.returned (.tuple #[.agg (aA x),.agg (aA y)]) ∧ Held w0 w' L)(hsz:a.tmps.size=66)(o1:Sl a 1 (.int .i64 zb))(o6:Sl a 6 (Pq g6 0))(o13:Sl a 13 (.int .i64 za)):bC false 10 f109 Q a w fun a' W q'=>(∃ g7 g8,Sl a' 16 (Pq g7 0) ∧ Sl a' 17 (Pq g8 0) ∧ Held w0 W (aB g8 23 (aA y) :: aB g7 23 (aA x) :: L))->q':=by
 refine bU fun hend=>?_;unfold Sl at o1 o6 o13;have hca:Hid ((aA (x)).size=32):=LH (by rw [aC,hx32]);have Oca:=LH (aI (x));obtain ⟨ca,Eca⟩:∃ cs,Hid (aA (x)=cs):=⟨_,LH rfl⟩;rw [Eca.out] at hca Oca;have hcb:Hid ((aA (y)).size=32):=LH (by rw [aC,hy32]);have Ocb:=LH (aI (y));obtain ⟨cb,Ecb⟩:∃ cs,Hid (aA (y)=cs):=⟨_,LH rfl⟩;rw [Ecb.out] at hcb Ocb;rw [Eca.out,Ecb.out] at HC0;have HC:=LH HC0;clear HC0;have c0:w.cell? ⟨g6,0,none⟩=some (.func (.func 109) #[] #[Pq g3 0,Pq g4 0,Pq g5 0,Pq g6 0]):=hb.cell 0;clear hb;go_wp2_with fail
 refine HC.out.mono ?_;rintro e w1 ⟨rfl,S1⟩;have S2:=LH ((S1.newBlk 23 (aA (List.replicate 32 0))).newBlkN 23 (aA (List.replicate 32 0)) (g:=w1.heap.size+1) (by simp));clear S1;go_wp2_with (first|(refine aD rfl 23 (.tmp 16) (.tmp 56) rfl w1.heap.size aE ca aE 23 _ (S2.out.at_ (l1:=[_])) (by rw [hca.out];exact bBy) (by rw [hca.out];rfl) Oca.out ?_;intro w7 b7 k7;have S7:=LH (Held.setBlk (l1:=[_]) S2.out b7 k7);clear b7 k7)|(refine aD rfl 23 (.tmp 17) (.tmp 57) rfl (w1.heap.size+1) aE cb aE 23 _ (S7.out.at_ (l1:=[])) (by rw [hcb.out];exact bBy) (by rw [hcb.out];rfl) Ocb.out ?_;intro w7 b7 k7;have S8:=LH (Held.setBlk (l1:=[]) S7.out b7 k7);clear b7 k7))
 rw [<- Eca.out,<- Ecb.out] at S8
 try simp only [Act.put]
 exact hend _ _ tS (⟨_,_,cH,cH,S8.out⟩)
theorem aJa(w0:World)(gn gp g5:Nat)(x:Bs)(hx32:x.length=32)(hb5:aM w g5 131 #[.func (.func 108) #[] #[Pq gn 0,Pq gp 0]])(L:List Res)(HC0:Calls prog 108 #[Pq gn 0,Pq gp 0] w fun e w'=>e=.returned (.agg (aA x)) ∧ Held w0 w' (L))(hsz:a.tmps.size=66)(o5:Sl a 5 (Pq g5 0)):bC false 11 f109 Q a w fun a' W q'=>(∃ g18,Sl a' 18 (Pq g18 0) ∧ Held w0 W (aB g18 23 (aA x) :: L))->q':=by
 refine bU fun hend=>?_;unfold Sl at o5;have hch:Hid ((aA (x)).size=32):=LH (by rw [aC,hx32]);have Och:=LH (aI (x));obtain ⟨ch,Ech⟩:∃ cs,Hid (aA (x)=cs):=⟨_,LH rfl⟩;rw [Ech.out] at hch Och;rw [Ech.out] at HC0;have HC:=LH HC0;clear HC0;have c5:w.cell? ⟨g5,0,none⟩=some (.func (.func 108) #[] #[Pq gn 0,Pq gp 0]):=hb5.cell 0;clear hb5;go_wp2_with fail
 refine HC.out.mono ?_;rintro e w1 ⟨rfl,S1⟩;have S1:=LH (S1.newBlk 23 (aA (List.replicate 32 0)));go_wp2_with (refine aD rfl 23 (.tmp 18) (.tmp 59) rfl w1.heap.size aE ch aE 23 _ (S1.out.at_ (l1:=[])) (by rw [hch.out];exact bBy) (by rw [hch.out];rfl) Och.out ?_;intro w7 b7 k7;have S7:=LH (Held.setBlk (l1:=[]) S1.out b7 k7);clear b7 k7)
 rw [<- Ech.out] at S7
 try simp only [Act.put]
 exact hend _ _ tS (⟨_,cH,S7.out⟩)
theorem aFo(w0:World)(g10 g11 g12:Nat)(x:Bs)(hx32:x.length=32)(L:List Res)(hsz:a.tmps.size=66)(o10:Sl a 10 (Pq g10 0))(o11:Sl a 11 (Pq g11 0))(o12:Sl a 12 (Pq g12 0))
 (S0:Held w0 w (aB g10 23 (aA (List.replicate 32 0)) :: aB g11 23 (aA (List.replicate 32 0)) :: aB g12 23 (aA x) :: L)):bC true 5 f109 Q a w fun a' W q'=>Held w0 W (aB g10 23 (aA x) :: aB g11 23 (aA x) :: aB g12 23 (aA x) :: L)->q':=by
 intro hend;have hap:=pa 5 f109
 refine aP (Γ:=Unit) (l:=(aK 5 f109)) 4 [0,1,2,3,6,7]
  (fun i vs gs=>match i with|0=>vs 0=.agg (aA x)|1=>vs 1=.agg (aA x)|_=>True)
  (fun i vs gs=>match i with|2=>[aB g10 23 (aA x)]|3=>[aB g11 23 (aA x)]|4=>[aB g10 23 (aA (List.replicate 32 0))]|5=>[aB g11 23 (aA (List.replicate 32 0))]|6=>[aB g12 23 (aA x)]|7=>L|_=>[])
  (fun i=>match i with|2=>[4]|3=>[5]|_=>[]) (fun i=>match i with|0=>[6]|1=>[6]|_=>[]) S0 (by kernel_rfl) hap (by kernel_rfl) (by kernel_rfl) (fun i=>match i with|0=>[0]|1=>[1]|_=>[]) (by kernel_rfl) ?_ (by kernel_rfl) ?_ ?_ ?_
 . exact lA
 . exact pA
 . clear S0 hend;refine ⟨?_,?_,?_,?_,trivial⟩ <;> intro vs gs A' W LF hA S hR hd hu K hK
   . exact dC (aA x) (eO 12 o12) (aM.agg (show aM W g12 23 (aA x) from S.ok (aB g12 23 (aA x)) (hR 6 (by simp) _ (List.mem_singleton.2 rfl)))) underlying23 (by rw [aC,hx32];exact bBy)
   . exact dC (aA x) (eO 12 o12) (aM.agg (show aM W g12 23 (aA x) from S.ok (aB g12 23 (aA x)) (hR 6 (by simp) _ (List.mem_singleton.2 rfl)))) underlying23 (by rw [aC,hx32];exact bBy)
   . replace hK:=hK default;have e10:=eO 10 o10;have e27:=vD 27 0;clear hA o10 o11 o12;have S1:Held w0 W (aB g10 23 (aA (List.replicate 32 0)) :: LF):=S;refine aZ (.tmp 10) (.tmp 27) 23 rfl g10 (by simpa [Act.eval] using e10) (aA (x)) (by simpa [Act.eval] using e27) 23 (aA (List.replicate 32 0)) S1 (by rw [aC,hx32];exact bBy) (by rw [aC,aC,hx32,List.length_replicate]) (aI _) ?_;intro w' S2;exact hK _ _ S2 trivial
   . replace hK:=hK default;have e11:=eO 11 o11;have e28:=vD 28 1;clear hA o10 o11 o12;have S1:Held w0 W (aB g11 23 (aA (List.replicate 32 0)) :: LF):=S;refine aZ (.tmp 11) (.tmp 28) 23 rfl g11 (by simpa [Act.eval] using e11) (aA (x)) (by simpa [Act.eval] using e28) 23 (aA (List.replicate 32 0)) S1 (by rw [aC,hx32];exact bBy) (by rw [aC,aC,hx32,List.length_replicate]) (aI _) ?_;intro w' S2;exact hK _ _ S2 trivial
 . intro vs gs W S hp;have S:Held w0 W (aB g10 23 (aA x) :: aB g11 23 (aA x) :: aB g12 23 (aA x) :: L):=by simpa only [List.flatMap_cons,List.flatMap_nil,List.append_nil,List.nil_append,List.cons_append,List.append_assoc] using S
   rw [aF];exact hend _ W sQ  S
theorem aMs(w0:World)(g10 g11 g16 g17 g18:Nat)(x a1 b1:Bs)(hx32:x.length=32)(h1:a1.length=32)(h2:b1.length=32)(L:List Res)(hsz:a.tmps.size=66)(o10:Sl a 10 (Pq g10 0))(o11:Sl a 11 (Pq g11 0))(o16:Sl a 16 (Pq g16 0))(o17:Sl a 17 (Pq g17 0))(o18:Sl a 18 (Pq g18 0))
 (S0:Held w0 w (aB g10 23 (aA (List.replicate 32 0)) :: aB g11 23 (aA (List.replicate 32 0)) :: aB g18 23 (aA x) :: aB g16 23 (aA a1) :: aB g17 23 (aA b1) :: L)):bC true 12 f109 Q a w fun a' W q'=>Held w0 W (aB g10 23 (aA (cN x a1)) :: aB g11 23 (aA (cN x b1)) :: aB g18 23 (aA x) :: aB g16 23 (aA a1) :: aB g17 23 (aA b1) :: L)->q':=by
 intro hend;have hap:=pa 12 f109
 refine aP (Γ:=Unit) (l:=(aK 12 f109)) 6 [0,1,2,3,4,5,6,7,10,11,12,13]
  (fun i vs gs=>match i with|0=>vs 0=.agg (aA x)|1=>vs 1=.agg (aA a1)|2=>vs 2=.agg (aA (cN x a1))|3=>vs 3=.agg (aA x)|4=>vs 4=.agg (aA b1)|5=>vs 5=.agg (aA (cN x b1))|_=>True)
  (fun i vs gs=>match i with|6=>[aB g10 23 (aA (cN x a1))]|7=>[aB g11 23 (aA (cN x b1))]|8=>[aB g10 23 (aA (List.replicate 32 0))]|9=>[aB g11 23 (aA (List.replicate 32 0))]|10=>[aB g18 23 (aA x)]|11=>[aB g16 23 (aA a1)]|12=>[aB g17 23 (aA b1)]|13=>L|_=>[])
  (fun i=>match i with|6=>[8]|7=>[9]|_=>[]) (fun i=>match i with|0=>[10]|1=>[11]|3=>[10]|4=>[12]|_=>[]) S0 (by kernel_rfl) hap (by kernel_rfl) (by kernel_rfl) (fun i=>match i with|0=>[0]|1=>[1]|2=>[2]|3=>[3]|4=>[4]|5=>[5]|_=>[]) (by kernel_rfl) ?_ (by kernel_rfl) ?_ ?_ ?_
 . exact lA
 . exact pA
 . clear S0 hend
   and_intros <;> try intro vs gs A' W LF hA S hR hd hu K hK
   . exact dC (aA x) (eO 18 o18) (aM.agg (show aM W g18 23 (aA x) from S.ok (aB g18 23 (aA x)) (hR 10 (by simp) _ (List.mem_singleton.2 rfl)))) underlying23 (by rw [aC,hx32];exact bBy)
   . exact dC (aA a1) (eO 16 o16) (aM.agg (show aM W g16 23 (aA a1) from S.ok (aB g16 23 (aA a1)) (hR 11 (by simp) _ (List.mem_singleton.2 rfl)))) underlying23 (by rw [aC,h1];exact bBy)
   . replace hK:=hK default;have e60:=vD 60 0;have e61:=vD 61 1;clear hA o10 o11 o16 o17 o18;go_step;refine (mQ x a1 hx32 h1 W).mono ?_;rintro e w' ⟨rfl,k⟩;exact hK _ _ (S.kp k) rfl
   . exact dC (aA x) (eO 18 o18) (aM.agg (show aM W g18 23 (aA x) from S.ok (aB g18 23 (aA x)) (hR 10 (by simp) _ (List.mem_singleton.2 rfl)))) underlying23 (by rw [aC,hx32];exact bBy)
   . exact dC (aA b1) (eO 17 o17) (aM.agg (show aM W g17 23 (aA b1) from S.ok (aB g17 23 (aA b1)) (hR 12 (by simp) _ (List.mem_singleton.2 rfl)))) underlying23 (by rw [aC,h2];exact bBy)
   . replace hK:=hK default;have e63:=vD 63 3;have e64:=vD 64 4;clear hA o10 o11 o16 o17 o18;go_step;refine (mQ x b1 hx32 h2 W).mono ?_;rintro e w' ⟨rfl,k⟩;exact hK _ _ (S.kp k) rfl
   . replace hK:=hK default;have e10:=eO 10 o10;have e62:=vD 62 2;clear hA o10 o11 o16 o17 o18;have S1:Held w0 W (aB g10 23 (aA (List.replicate 32 0)) :: LF):=S;refine aZ (.tmp 10) (.tmp 62) 23 rfl g10 (by simpa [Act.eval] using e10) (aA (cN x a1)) (by simpa [Act.eval] using e62) 23 (aA (List.replicate 32 0)) S1 (by rw [aC,bL];exact bBy) (by rw [aC,aC,bL,List.length_replicate]) (aI _) ?_;intro w' S2;exact hK _ _ S2 trivial
   . replace hK:=hK default;have e11:=eO 11 o11;have e65:=vD 65 5;clear hA o10 o11 o16 o17 o18;have S1:Held w0 W (aB g11 23 (aA (List.replicate 32 0)) :: LF):=S;refine aZ (.tmp 11) (.tmp 65) 23 rfl g11 (by simpa [Act.eval] using e11) (aA (cN x b1)) (by simpa [Act.eval] using e65) 23 (aA (List.replicate 32 0)) S1 (by rw [aC,bL];exact bBy) (by rw [aC,aC,bL,List.length_replicate]) (aI _) ?_;intro w' S2;exact hK _ _ S2 trivial
   . trivial
 . intro vs gs W S hp;have S:Held w0 W (aB g10 23 (aA (cN x a1)) :: aB g11 23 (aA (cN x b1)) :: aB g18 23 (aA x) :: aB g16 23 (aA a1) :: aB g17 23 (aA b1) :: L):=by simpa only [List.flatMap_cons,List.flatMap_nil,List.append_nil,List.nil_append,List.cons_append,List.append_assoc] using S
   rw [aF];exact hend _ W sQ  S
theorem aQv(w0:World)(g5 g10 g11 g14 g15 gn gp k:Nat)(slv:Value)(x a1 b1:Bs)(hx32:x.length=32)(h1:a1.length=32)(h2:b1.length=32)(HT1:∀ (V:World) (LL:List Res),Held w0 V (aB gn 3 #[Nq k] :: LL)->aB gp 29 #[slv] ∈ LL->Calls prog 108 #[Pq gn 0,Pq gp 0] V fun e w'=>e=.returned (.agg (aA x)) ∧ Held w0 w' (aB gn 3 #[Nq (k+1)] :: LL))(L:List Res)(hsz:a.tmps.size=66)(o5:Sl a 5 (Pq g5 0))(o10:Sl a 10 (Pq g10 0))(o11:Sl a 11 (Pq g11 0))(o14:Sl a 14 (Pq g14 0))(o15:Sl a 15 (Pq g15 0))
 (S0:Held w0 w (aB g10 23 (aA (List.replicate 32 0)) :: aB g11 23 (aA (List.replicate 32 0)) :: aB g14 23 (aA a1) :: aB g15 23 (aA b1) :: aB g5 131 #[.func (.func 108) #[] #[Pq gn 0,Pq gp 0]] :: aB gn 3 #[Nq k] :: aB gp 29 #[slv] :: L)):bC true 9 f109 Q a w fun a' W q'=>Held w0 W (aB gn 3 #[Nq (k+1)] :: aB g10 23 (aA a1) :: aB g11 23 (aA (cN b1 x)) :: aB g14 23 (aA a1) :: aB g15 23 (aA b1) :: aB g5 131 #[.func (.func 108) #[] #[Pq gn 0,Pq gp 0]] :: aB gp 29 #[slv] :: L)->q':=by
 intro hend;have hap:=pa 9 f109
 refine aP (Γ:=Unit) (l:=(aK 9 f109)) 8 [0,1,2,3,4,5,6,9,10,11,13,14]
  (fun i vs gs=>match i with|0=>vs 0=.agg (aA a1)|1=>vs 1=.agg (aA b1)|2=>vs 2=.func (.func 108) #[] #[Pq gn 0,Pq gp 0]|3=>vs 3=.agg (aA x)|4=>vs 4=.agg (aA (cN b1 x))|_=>True)
  (fun i vs gs=>match i with|3=>[aB gn 3 #[Nq (k+1)]]|5=>[aB g10 23 (aA a1)]|6=>[aB g11 23 (aA (cN b1 x))]|7=>[aB g10 23 (aA (List.replicate 32 0))]|8=>[aB g11 23 (aA (List.replicate 32 0))]|9=>[aB g14 23 (aA a1)]|10=>[aB g15 23 (aA b1)]|11=>[aB g5 131 #[.func (.func 108) #[] #[Pq gn 0,Pq gp 0]]]|12=>[aB gn 3 #[Nq k]]|13=>[aB gp 29 #[slv]]|14=>L|_=>[])
  (fun i=>match i with|3=>[12]|5=>[7]|6=>[8]|_=>[]) (fun i=>match i with|0=>[9]|1=>[10]|2=>[11]|3=>[13]|_=>[]) S0 (by kernel_rfl) hap (by kernel_rfl) (by kernel_rfl) (fun i=>match i with|0=>[0]|1=>[1]|2=>[2]|3=>[3]|4=>[4]|_=>[]) (by kernel_rfl) ?_ (by kernel_rfl) ?_ ?_ ?_
 . exact lA
 . exact pA
 . clear S0 hend
   and_intros <;> try intro vs gs A' W LF hA S hR hd hu K hK
   . exact dC (aA a1) (eO 14 o14) (aM.agg (show aM W g14 23 (aA a1) from S.ok (aB g14 23 (aA a1)) (hR 9 (by simp) _ (List.mem_singleton.2 rfl)))) underlying23 (by rw [aC,h1];exact bBy)
   . exact dC (aA b1) (eO 15 o15) (aM.agg (show aM W g15 23 (aA b1) from S.ok (aB g15 23 (aA b1)) (hR 10 (by simp) _ (List.mem_singleton.2 rfl)))) underlying23 (by rw [aC,h2];exact bBy)
   . have c0:W.cell? ⟨g5,0,none⟩=some (.func (.func 108) #[] #[Pq gn 0,Pq gp 0]):=(show aM W g5 131 _ from S.ok (aB g5 131 #[.func (.func 108) #[] #[Pq gn 0,Pq gp 0]]) (hR 11 (by simp) _ (List.mem_singleton.2 rfl))).cell 0;exact aJ (eO 5 o5)
   . replace hK:=hK default;have e48:=vD 48 2;clear hA o5 o10 o11 o14 o15;go_step;have S1:Held w0 W (aB gn 3 #[Nq k] :: LF):=S;refine (HT1 W LF S1 (hR 13 (by simp) _ (List.mem_singleton.2 rfl))).mono ?_;rintro e w' ⟨rfl,S2⟩;exact hK _ _ S2 rfl
   . replace hK:=hK default;have e47:=vD 47 1;have e49:=vD 49 3;clear hA o5 o10 o11 o14 o15;go_step;refine (mQ b1 x h2 hx32 W).mono ?_;rintro e w' ⟨rfl,k⟩;exact hK _ _ (S.kp k) rfl
   . replace hK:=hK default;have e10:=eO 10 o10;have e46:=vD 46 0;clear hA o5 o10 o11 o14 o15;have S1:Held w0 W (aB g10 23 (aA (List.replicate 32 0)) :: LF):=S;refine aZ (.tmp 10) (.tmp 46) 23 rfl g10 (by simpa [Act.eval] using e10) (aA (a1)) (by simpa [Act.eval] using e46) 23 (aA (List.replicate 32 0)) S1 (by rw [aC,h1];exact bBy) (by rw [aC,aC,h1,List.length_replicate]) (aI _) ?_;intro w' S2;exact hK _ _ S2 trivial
   . replace hK:=hK default;have e11:=eO 11 o11;have e50:=vD 50 4;clear hA o5 o10 o11 o14 o15;have S1:Held w0 W (aB g11 23 (aA (List.replicate 32 0)) :: LF):=S;refine aZ (.tmp 11) (.tmp 50) 23 rfl g11 (by simpa [Act.eval] using e11) (aA (cN b1 x)) (by simpa [Act.eval] using e50) 23 (aA (List.replicate 32 0)) S1 (by rw [aC,bL];exact bBy) (by rw [aC,aC,bL,List.length_replicate]) (aI _) ?_;intro w' S2;exact hK _ _ S2 trivial
   . trivial
 . intro vs gs W S hp;have S:Held w0 W (aB gn 3 #[Nq (k+1)] :: aB g10 23 (aA a1) :: aB g11 23 (aA (cN b1 x)) :: aB g14 23 (aA a1) :: aB g15 23 (aA b1) :: aB g5 131 #[.func (.func 108) #[] #[Pq gn 0,Pq gp 0]] :: aB gp 29 #[slv] :: L):=by simpa only [List.flatMap_cons,List.flatMap_nil,List.append_nil,List.nil_append,List.cons_append,List.append_assoc] using S
   rw [aF];exact hend _ W sQ  S
end
section
open Go.RowKit Go.Shelf
theorem mC{P:Program}{fn:Func}{w:World}{tmps:Array Value}{a b t t2 g g2:Nat}{t' t2':TypeId}{cs cs2:Array Value}{d d2:TypeDesc}(h:fn.results=#[.cell a t,.cell b t2])(ha:tmps.getD a undef=Pq g 0)(hb:tmps.getD b undef=Pq g2 0)(h1:aM w g t' cs)(h2:aM w g2 t2' cs2)
 (hu:P.underlying t=some d) (hd:nW d=true) (hi:(P.info? t).map (·.size)=some cs.size) (hu2:P.underlying t2=some d2) (hd2:nW d2=true) (hi2:(P.info? t2).map (·.size)=some cs2.size):(results fn tmps).run P w=.ok (.tuple #[.agg cs,.agg cs2]) w:=by
 have hl:(loadCells ⟨g,0,none⟩ cs.size).run P w=.ok cs w:=by
  have:=run_loadCells_list (P:=P) w ⟨g,0,none⟩ cs.toList h1.agg
  simpa using this
 have hl2:(loadCells ⟨g2,0,none⟩ cs2.size).run P w=.ok cs2 w:=by
  have:=run_loadCells_list (P:=P) w ⟨g2,0,none⟩ cs2.toList h2.agg
  simpa using this
 cases hq:P.info? t with
 |none=>simp [hq] at hi
 |some i=>
  cases hq2:P.info? t2 with
  |none=>simp [hq2] at hi2
  |some i2=>
   have hs:i.size=cs.size:=by simpa [hq] using hi
   have hs2:i2.size=cs2.size:=by simpa [hq2] using hi2
   simp only [Array.getD_eq_getD_getElem?] at ha hb;simp [results,h,ha,hb,loadVar,asAddr,Sem.run_bind,gX hu hd,gX hu2 hd2,sizeOf,typeInfo,hq,hq2,hs,hs2,hl,hl2]
theorem eF(f m n:Nat)(whole:Bool)(first:Bs)(proof:List (List UInt8)):eS (f+1) m n whole first proof=if m=n then (if whole then (first,first) else (proof.headD [],proof.headD [])) else
 if m<=aU n then ((eS f m (aU n) whole first proof.dropLast).1,cN (eS f m (aU n) whole first proof.dropLast).2 (proof.getLastD []))
 else (cN (proof.getLastD []) (eS f (m - aU n) (n - aU n) false first proof.dropLast).1,cN (proof.getLastD []) (eS f (m - aU n) (n - aU n) false first proof.dropLast).2):=rfl
theorem iH:∀ (fu fr m n:Nat) (whole:Bool) (first:Bs) (proof:List (List UInt8)),first.length=32->dP proof->proof.length=(cU (fu+1) m fr n whole).length->1<=m->m<=n->n<=2 ^ fu->
 (eS (fu+1) m n whole first proof).1.length=32 ∧ (eS (fu+1) m n whole first proof).2.length=32
 |fu,fr,m,n,whole,first,proof,h0,hok,hl,h1,hm,hf=>by
  by_cases he:m=n
  . subst he;rw [eF,if_pos rfl]
    cases whole with
    |true=>exact ⟨h0,h0⟩
    |false=>
     rw [bP,if_pos rfl,if_neg (by decide)] at hl
     match proof,hl with
     |[x],_=>
      have:=hok x (List.mem_cons_self ..)
      exact ⟨this,this⟩
  . obtain ⟨fu,rfl⟩:∃ fu',fu=fu'+1:=by
     cases fu with
     |zero=>simp at hf;omega
     |succ fu=>exact ⟨fu,rfl⟩
    have h2:2<=n:=by omega
    obtain ⟨d1,d2⟩:=Deep.next (f:=fu) hf h2;have hd:dP proof.dropLast:=fun x hx=>hok x (List.dropLast_subset _ hx)
    rw [eF,if_neg he];rw [bP,if_neg he] at hl
    by_cases hk:m<=aU n
    . rw [if_pos hk] at hl ⊢;have:=iH fu fr m (aU n) whole first proof.dropLast h0 hd (by rw [List.length_dropLast,hl,List.length_append];simp) h1 hk d1
      exact ⟨this.1,bL _ _⟩
    . rw [if_neg hk];exact ⟨bL _ _,bL _ _⟩
theorem pF{pf:List (List UInt8)}{c:Nat}{x:List UInt8}(hx:pf[c]?=some x):(pf.take (c+1)).dropLast=pf.take c ∧ (pf.take (c+1)).getLastD []=x:=by
 have hc:=(List.getElem?_eq_some_iff.1 hx).1;rw [List.take_add_one,hx,Option.toList_some];exact ⟨List.dropLast_concat,by simp⟩
theorem pN(w0:World)(gn gp k:Nat)(A:Option Addr)(c:Nat)(pf:List (List UInt8))(hok:dP pf)(x:Bs)(hx:pf[k]?=some x)(hk:k<=1000000)(hv:∀ V,Kp [] w0 V->Rd V 32 (.slice A pf.length c) pf.length (dA pf))(L:List Res)(hg:aB gp 29 #[.slice A pf.length c] ∈ L)(w:World)(S:Held w0 w (aB gn 3 #[Nq k] :: L)):
 Calls prog 108 #[Pq gn 0,Pq gp 0] w fun e w'=>e=.returned (.agg (aA x)) ∧ Held w0 w' (aB gn 3 #[Nq (k+1)] :: L):=by
 have hkl:=(List.getElem?_eq_some_iff.1 hx).1;obtain ⟨ad,rfl⟩:=gD (hv w S.k) (by omega);have hx32:=hok x (List.mem_of_getElem? hx);refine aR func108 rfl 10 rfl (fun a0 hsz hdf hAr=>?_);have hz0:a0.tmps.size=10:=hsz;have D:=hdf;have o0:=hAr 0 _ rfl;have o1:=hAr 1 _ rfl;refine wp_seq (aZ0 w0 _ S hz0 (fun a1 w1 hs1 h1=>?_));obtain ⟨hz1,D,o0,o1⟩:=dU hs1 hz0 D o0 o1;obtain ⟨g2,o2,S⟩:=h1;have S:=S.pull 1 rfl;refine wp_seq (aW4 w0 gn k hk _ S hz1 o0 (fun a2 w2 hs2 S=>?_));obtain ⟨hz2,D,o0,o1,o2⟩:=dF hs2 hz1 D o0 o1 o2;have hbn:=S.at_ (l1:=[]);have hbp:aM w2 gp 29 #[.slice (some ad) pf.length c]:=S.ok (aB gp 29 #[.slice (some ad) pf.length c]) (by simp [hg]);have S:=S.pull 1 rfl;refine wp_seq (aOp w0 gn gp g2 k pf.length c ad hkl hk x hx32 (fT hok (hv w2 S.k) hx) hbn hbp _ S hz2 o0 o1 o2 (fun a3 w3 hs3 S=>?_));obtain ⟨hz3,D,o2⟩:=eY hs3 hz2 D o2;refine wp_ret ?_;exact bodyPost_ret (aV (by rfl) (o2.eval (by rw [hz3];decide)) (S.at_ (l1:=[])) underlying23 rfl (by rw [aC,hx32];exact bBy)) D ⟨rfl,S.drop⟩
theorem pI(w0:World)(gn gp g3 g4 g5 g6:Nat)(first:Bs)(hf32:first.length=32)(A:Option Addr)(c:Nat)(pf:List (List UInt8))(hok:dP pf)(hpl:pf.length<=1000000)(hv:∀ V,Kp [] w0 V->Rd V 32 (.slice A pf.length c) pf.length (dA pf)):∀ (fu fr m n:Nat) (whole:Bool) (L:List Res) (w:World),1<=m->m<=n->n<=2 ^ fu->fr+n < 9223372036854775808->(cU (fu+1) m fr n whole).length<=pf.length->
 Held w0 w (aB gn 3 #[Nq 0] :: aB gp 29 #[.slice A pf.length c] :: aB g3 2 #[Nq (fr+m)] :: aB g4 23 (aA first) :: aB g5 131 #[.func (.func 108) #[] #[Pq gn 0,Pq gp 0]] :: aB g6 162 #[.func (.func 109) #[] #[Pq g3 0,Pq g4 0,Pq g5 0,Pq g6 0]] :: L)->
 Calls prog 109 #[.int .i64 (fr:Int),Nq (fr+n),.bool whole,Pq g3 0,Pq g4 0,Pq g5 0,Pq g6 0] w fun e w'=>e=.returned (.tuple #[.agg (aA (eS (fu+1) m n whole first (pf.take (cU (fu+1) m fr n whole).length)).1),.agg (aA (eS (fu+1) m n whole first (pf.take (cU (fu+1) m fr n whole).length)).2)]) ∧ Held w0 w' (aB gn 3 #[.int .i64 (((cU (fu+1) m fr n whole).length:Nat):Int)] :: aB gp 29 #[.slice A pf.length c] :: aB g3 2 #[Nq (fr+m)] :: aB g4 23 (aA first) :: aB g5 131 #[.func (.func 108) #[] #[Pq gn 0,Pq gp 0]] :: aB g6 162 #[.func (.func 109) #[] #[Pq g3 0,Pq g4 0,Pq g5 0,Pq g6 0]] :: L)
 |fu,fr,m,n,whole,L,w,h1,hm,hf,hn,hc,S=>by
  refine aR func109 rfl 66 rfl (fun a0 hsz hdf hAr=>?_);have hz0:a0.tmps.size=66:=hsz;have D:=hdf;have o0:=hAr 0 _ rfl;have o1:=hAr 1 _ rfl;have o2:=hAr 2 _ rfl;have o3:=hAr 3 _ rfl;have o4:=hAr 4 _ rfl;have o5:=hAr 5 _ rfl;have o6:=hAr 6 _ rfl;refine wp_seq (aXp w0 _ S hz0 (fun a1 w1 hs1 h1=>?_));obtain ⟨hz1,D,o0,o1,o2,o3,o4,o5,o6⟩:=vQ hs1 hz0 D o0 o1 o2 o3 o4 o5 o6;obtain ⟨g10,g11,o10,o11,S⟩:=h1;refine wp_seq (wp_seq (aUg g3 ((fr+m:Nat):Int) ((fr+n:Nat):Int) (S.at_ (l1:=[_,_,_,_])) hz1 o1 o3 (fun a2 hs2 o21=>?_)));obtain ⟨hz2,D,o0,o1,o2,o3,o4,o5,o6,o10,o11⟩:=kq9 hs2 hz1 D o0 o1 o2 o3 o4 o5 o6 o10 o11
  by_cases he:m=n
  . subst he;refine cS o21 ?_ (by simp);refine wp_seq (aQ1 w0 g4 first hf32 (S.at_ (l1:=[_,_,_,_,_])) _ S hz2 o4 (fun a3 w3 hs3 h3=>?_));obtain ⟨hz3,D,o0,o1,o2,o3,o5,o6,o10,o11,o21⟩:=kq9 hs3 hz2 D o0 o1 o2 o3 o5 o6 o10 o11 o21;obtain ⟨g12,o12,S⟩:=h3;refine wp_seq (wp_seq (aV9 whole hz3 o2 (fun a4 hs4 o24=>?_)));obtain ⟨hz4,D,o0,o1,o2,o3,o5,o6,o10,o11,o21,o12⟩:=aF7 hs4 hz3 D o0 o1 o2 o3 o5 o6 o10 o11 o21 o12
    cases whole
    . obtain ⟨x,hx⟩:∃ x,pf[0]?=some x:=⟨_,List.getElem?_eq_getElem (by rw [bP,if_pos rfl,if_neg (by decide)] at hc;exact hc)⟩;have hx32:=hok x (List.mem_of_getElem? hx);refine cS o24 ?_;have S:=(((((((((S.pull 8 rfl).pull 8 rfl).pull 8 rfl).pull 8 rfl).pull 8 rfl).pull 7 rfl).pull 7 rfl).pull 7 rfl).pull 8 rfl);have HT:=pN w0 gn gp 0 A c pf hok x hx (by decide) hv _ (by simp) _ S;have S5:=S.at_ (l1:=[_,_,_,_,_,_,_]);have HT':=HT.mono (fun e w' h=>(⟨h.1,h.2.pull 1 rfl⟩:e=.returned (.agg (aA x)) ∧ Held w0 w' (aB g12 23 (aA first) :: _)));refine aPe w0 gn gp g5 g12 x first hx32 hf32 S5 _ HT' hz4 o5 o12 (fun a5 w5 hs5 S=>?_);simp only [Exit.then];obtain ⟨hz5,D,o10,o11,o12⟩:=dF hs5 hz4 D o10 o11 o12;have S:=(((((((((S.pull 8 rfl).pull 8 rfl).pull 8 rfl).pull 8 rfl).pull 8 rfl).pull 6 rfl).pull 6 rfl).pull 7 rfl).pull 8 rfl);refine wp_seq (aFo w0 g10 g11 g12 x hx32 _ hz5 o10 o11 o12 S (fun a6 w5 hs6 S=>?_));obtain ⟨hz6,D,o10,o11,o12⟩:=dF hs6 hz5 D o10 o11 o12;refine wp_ret ?_
      try simp only [Exit.inBlock,Exit.then]
      refine bodyPost_ret (mC (by rfl) (o10.eval (by rw [hz6];decide)) (o11.eval (by rw [hz6];decide)) (S.ok (aB g10 23 (aA x)) (by simp)) (S.ok (aB g11 23 (aA x)) (by simp)) underlying23 rfl (by rw [aC,hx32];exact bBy) underlying23 rfl (by rw [aC,hx32];exact bBy)) D ⟨?_,?_⟩
      . rw [eF,if_pos rfl,if_neg (by decide),bP,if_pos rfl,if_neg (by decide)]
        have e:(pf.take 1).headD []=x:=by cases pf with
         |nil=>simp at hx
         |cons y l=>cases hx;rfl
        rw [show List.length [(fr,fr+m)]=1 from rfl,e]
      . rw [bP,if_pos rfl,if_neg (by decide)];exact S.drop.drop.drop
    . refine dD o24 (wp_skip ?_);simp only [Exit.then];have S:=(((((((((S.pull 8 rfl).pull 8 rfl).pull 8 rfl).pull 8 rfl).pull 8 rfl).pull 8 rfl).pull 6 rfl).pull 7 rfl).pull 8 rfl);refine wp_seq (aFo w0 g10 g11 g12 first hf32 _ hz4 o10 o11 o12 S (fun a5 w5 hs5 S=>?_));obtain ⟨hz5,D,o0,o1,o2,o3,o5,o6,o10,o11,o21⟩:=kq9 hs5 hz4 D o0 o1 o2 o3 o5 o6 o10 o11 o21;refine wp_ret ?_
      try simp only [Exit.inBlock,Exit.then]
      refine bodyPost_ret (mC (by rfl) (o10.eval (by rw [hz5];decide)) (o11.eval (by rw [hz5];decide)) (S.ok (aB g10 23 (aA first)) (by simp)) (S.ok (aB g11 23 (aA first)) (by simp)) underlying23 rfl (by rw [aC,hf32];exact bBy) underlying23 rfl (by rw [aC,hf32];exact bBy)) D ⟨?_,?_⟩
      . rw [eF,if_pos rfl,if_pos rfl]
      . rw [bP,if_pos rfl,if_pos rfl];exact S.drop.drop.drop
  . have hq:(((fr+m:Nat):Int) == ((fr+n:Nat):Int))=false:=by rw [beq_eq_false_iff_ne];omega
    refine dD o21 (wp_skip ?_) (by rw [hq]);simp only [Exit.then]
    obtain ⟨fu,rfl⟩:∃ fu',fu=fu'+1:=by
     cases fu with
     |zero=>simp at hf;omega
     |succ fu=>exact ⟨fu,rfl⟩
    have h2:2<=n:=by omega
    have hk1:=fM h2;have hk2:=gJ h2;obtain ⟨d1,d2⟩:=Deep.next (f:=fu) hf h2;refine wp_seq (aOo fr n (fr+n) (fr+aU n) (LH ⟨rfl,rfl,hn⟩) hz2 o0 o1 (fun a3 hs3 o13=>?_));obtain ⟨hz3,D,o0,o1,o2,o3,o5,o6,o10,o11⟩:=kq8 hs3 hz2 D o0 o1 o2 o3 o5 o6 o10 o11;refine wp_seq (wp_seq (aU1 g3 ((fr+m:Nat):Int) ((fr+aU n:Nat):Int) (S.at_ (l1:=[_,_,_,_])) hz3 o3 o13 (fun a4 hs4 o37=>?_)));obtain ⟨hz4,D,o0,o1,o2,o5,o6,o10,o11,o13⟩:=kq8 hs4 hz3 D o0 o1 o2 o5 o6 o10 o11 o13;have S:=((((((((S.pull 1 rfl).pull 1 rfl).pull 7 rfl).pull 7 rfl).pull 7 rfl).pull 7 rfl).pull 7 rfl).pull 7 rfl)
    by_cases hk:m<=aU n
    . refine cS o37 ?_ (by rw [decide_eq_true (by omega)]);rw [bP,if_neg he,if_pos hk,List.length_append] at hc;have hc':(cU (fu+1) m fr (aU n) whole).length < pf.length:=hc;obtain ⟨c',hc0⟩:∃ c',(cU (fu+1) m fr (aU n) whole).length=c':=⟨_,rfl⟩;have HB:=pI w0 gn gp g3 g4 g5 g6 first hf32 A c pf hok hpl hv fu fr m (aU n) whole _ w1 h1 hk d1 (by omega) (by omega) S;have hbo:=iH fu fr m (aU n) whole first (pf.take c') hf32 (hok.take c') (by rw [List.length_take,hc0];omega) h1 hk d1;rw [hc0] at HB hc';obtain ⟨x,hx⟩:∃ x,pf[c']?=some x:=⟨_,List.getElem?_eq_getElem hc'⟩;have hx32:=hok x (List.mem_of_getElem? hx);obtain ⟨e1,e2⟩:=pF hx;obtain ⟨BB,hBB⟩:∃ BB,eS (fu+1) m (aU n) whole first (pf.take c')=BB:=⟨_,rfl⟩;rw [hBB] at HB hbo;refine wp_seq (aWo w0 g3 g4 g5 g6 fr ((fr+aU n:Nat):Int) whole BB.1 BB.2 hbo.1 hbo.2 _ (S.at_ (l1:=[_,_,_,_,_])) HB hz4 o0 o2 o6 o13 (fun a5 w5 hs5 h5=>?_));obtain ⟨hz5,D,o1,o5,o6,o10,o11,o13,o37⟩:=vQ hs5 hz4 D o1 o5 o6 o10 o11 o13 o37;obtain ⟨g14,g15,o14,o15,S⟩:=h5;have S:=((((((((((S.pull 7 rfl).pull 6 rfl).pull 6 rfl).pull 6 rfl).pull 6 rfl).pull 7 rfl).pull 6 rfl).pull 7 rfl).pull 8 rfl).pull 9 rfl);refine wp_seq (aQv w0 g5 g10 g11 g14 g15 gn gp c' (.slice A pf.length c) x BB.1 BB.2 hx32 hbo.1 hbo.2 (fun V LL SV hg=>pN w0 gn gp c' A c pf hok x hx (by omega) hv LL hg V SV) _ hz5 o5 o10 o11 o14 o15 S (fun a6 w6 hs6 S=>?_));obtain ⟨hz6,D,o10,o11,o5⟩:=dF hs6 hz5 D o10 o11 o5;refine wp_ret ?_
      try simp only [Exit.inBlock,Exit.then]
      have S9:=S;refine bodyPost_ret (mC (by rfl) (o10.eval (by rw [hz6];decide)) (o11.eval (by rw [hz6];decide)) (S.ok (aB g10 23 (aA BB.1)) (by simp)) (S.ok (aB g11 23 (aA (cN BB.2 x))) (by simp)) underlying23 rfl (by rw [aC,hbo.1];exact bBy) underlying23 rfl (by rw [aC,bL];exact bBy)) D ⟨?_,?_⟩
      . rw [bP,if_neg he,if_pos hk,List.length_append,hc0,eF,if_neg he,if_pos hk];rw [show c'+List.length [(_ ,_)]=c'+1 from rfl,e1,e2,hBB]
      . rw [bP,if_neg he,if_pos hk,List.length_append,hc0];exact (((((((((((S.pull 9 rfl).pull 6 rfl).pull 9 rfl).pull 9 rfl).pull 9 rfl).pull 5 rfl).pull 9 rfl).pull 9 rfl).pull 9 rfl).pull 9 rfl)).drop.drop.drop.drop
    . refine dD o37 (wp_skip ?_) (by rw [decide_eq_false (by omega)]);simp only [Exit.then];rw [bP,if_neg he,if_neg hk,List.length_append] at hc;have hc':(cU (fu+1) (m - aU n) (fr+aU n) (n - aU n) false).length < pf.length:=hc;obtain ⟨c',hc0⟩:∃ c',(cU (fu+1) (m - aU n) (fr+aU n) (n - aU n) false).length=c':=⟨_,rfl⟩;have hm':fr+m=(fr+aU n)+(m - aU n):=by omega
      have hn':fr+n=(fr+aU n)+(n - aU n):=by omega
      have SB:=S.at_ (l1:=[_,_,_,_,_]);rw [hm'] at S;have HB:=pI w0 gn gp g3 g4 g5 g6 first hf32 A c pf hok hpl hv fu (fr+aU n) (m - aU n) (n - aU n) false _ w1 (by omega) (by omega) d2 (by omega) (by omega) S;rw [<- hm',<- hn',hc0] at HB;have hbo:=iH fu (fr+aU n) (m - aU n) (n - aU n) false first (pf.take c') hf32 (hok.take c') (by rw [List.length_take,hc0];omega) (by omega) (by omega) d2;rw [hc0] at hc';obtain ⟨x,hx⟩:∃ x,pf[c']?=some x:=⟨_,List.getElem?_eq_getElem hc'⟩;have hx32:=hok x (List.mem_of_getElem? hx);obtain ⟨e1,e2⟩:=pF hx;obtain ⟨BB,hBB⟩:∃ BB,eS (fu+1) (m - aU n) (n - aU n) false first (pf.take c')=BB:=⟨_,rfl⟩;rw [hBB] at HB hbo;refine wp_seq (aLw w0 g3 g4 g5 g6 ((fr+aU n:Nat):Int) ((fr+n:Nat):Int) BB.1 BB.2 hbo.1 hbo.2 _ SB HB hz4 o1 o6 o13 (fun a5 w5 hs5 h5=>?_));obtain ⟨hz5,D,o5,o10,o11⟩:=dF hs5 hz4 D o5 o10 o11;obtain ⟨g16,g17,o16,o17,S⟩:=h5;have S:=((((((((((S.pull 9 rfl).pull 9 rfl).pull 9 rfl).pull 9 rfl).pull 9 rfl).pull 9 rfl).pull 9 rfl).pull 8 rfl).pull 8 rfl).pull 9 rfl);have HT:=pN w0 gn gp c' A c pf hok x hx (by omega) hv _ (by simp) _ S;refine wp_seq (aJa w0 gn gp g5 x hx32 (S.at_ (l1:=[_,_,_,_,_,_])) _ HT hz5 o5 (fun a6 w6 hs6 h6=>?_));obtain ⟨hz6,D,o10,o11,o16,o17⟩:=fH hs6 hz5 D o10 o11 o16 o17;obtain ⟨g18,o18,S⟩:=h6;have S:=(((((((((((S.pull 8 rfl).pull 8 rfl).pull 8 rfl).pull 8 rfl).pull 8 rfl).pull 6 rfl).pull 7 rfl).pull 8 rfl).pull 8 rfl).pull 9 rfl).pull 10 rfl);refine wp_seq (aMs w0 g10 g11 g16 g17 g18 x BB.1 BB.2 hx32 hbo.1 hbo.2 _ hz6 o10 o11 o16 o17 o18 S (fun a7 w7 hs7 S=>?_));obtain ⟨hz7,D,o10,o11⟩:=dU hs7 hz6 D o10 o11;refine wp_ret ?_
      try simp only [Exit.inBlock,Exit.then]
      have S9:=S;refine bodyPost_ret (mC (by rfl) (o10.eval (by rw [hz7];decide)) (o11.eval (by rw [hz7];decide)) (S.ok (aB g10 23 (aA (cN x BB.1))) (by simp)) (S.ok (aB g11 23 (aA (cN x BB.2))) (by simp)) underlying23 rfl (by rw [aC,bL];exact bBy) underlying23 rfl (by rw [aC,bL];exact bBy)) D ⟨?_,?_⟩
      . rw [bP,if_neg he,if_neg hk,List.length_append,hc0,eF,if_neg he,if_neg hk];rw [show c'+List.length [(_ ,_)]=c'+1 from rfl,e1,e2,hBB]
      . rw [bP,if_neg he,if_neg hk,List.length_append,hc0];exact S.drop.drop.drop.drop.drop
end
section
variable {Q:Exit->Act->World->Prop} {a:Act} {w:World}
open Go.RowKit Go.Shelf
theorem aUt(w0:World)(xa:Array Value)(L:List Res)(S:Held w0 w L)(hsz:a.tmps.size=78)(o3:Sl a 3 (.agg xa)):bC false 0 f113 Q a w fun a' W q'=>(∃ g8 g10 g11,Sl a' 8 (Pq g8 0) ∧ Sl a' 10 (Pq g10 0) ∧ Sl a' 11 (Pq g11 0) ∧ Held w0 W (aB g11 23 (aA (List.replicate 32 0)) :: aB g10 23 (aA (List.replicate 32 0)) :: aB g8 23 xa :: L))->q':=by
 refine bU fun hend=>?_;unfold Sl at o3;have S1:=LH (((S.newBlk 23 xa).newBlkN 23 (aA (List.replicate 32 0)) (g:=w.heap.size+1) (by simp)).newBlkN 23 (aA (List.replicate 32 0)) (g:=w.heap.size+2) (by simp));go_wp2
 try simp only [Act.put]
 exact hend _ _ tS (⟨w.heap.size,w.heap.size+1,w.heap.size+2,cH,cH,cH,S1.out⟩)
theorem aRc(m n:Nat)(hsz:a.tmps.size=78)(o0:Sl a 0 (Nq m))(o1:Sl a 1 (Nq n)):bK 1 f113 Q a w fun a' q'=>Sl a' 21 (.bool ((m:Int) == (n:Int)))->q':=rO
theorem aP5(b:Bool)(hsz:a.tmps.size=78)(o2:Sl a 2 (.bool b)):bK 2 f113 Q a w fun a' q'=>Sl a' 22 (.bool b)->q':=rO
theorem aVo(w0:World)(g8 g10 g11:Nat)(x:Bs)(hx32:x.length=32)(L:List Res)(hsz:a.tmps.size=78)(o8:Sl a 8 (Pq g8 0))(o10:Sl a 10 (Pq g10 0))(o11:Sl a 11 (Pq g11 0))
 (S0:Held w0 w (aB g10 23 (aA (List.replicate 32 0)) :: aB g11 23 (aA (List.replicate 32 0)) :: aB g8 23 (aA x) :: L)):bC true 3 f113 Q a w fun a' W q'=>Held w0 W (aB g10 23 (aA x) :: aB g11 23 (aA x) :: aB g8 23 (aA x) :: L)->q':=by
 intro hend;have hap:=pa 3 f113
 refine aP (Γ:=Unit) (l:=(aK 3 f113)) 4 [0,1,2,3,6,7]
  (fun i vs gs=>match i with|0=>vs 0=.agg (aA x)|1=>vs 1=.agg (aA x)|_=>True)
  (fun i vs gs=>match i with|2=>[aB g10 23 (aA x)]|3=>[aB g11 23 (aA x)]|4=>[aB g10 23 (aA (List.replicate 32 0))]|5=>[aB g11 23 (aA (List.replicate 32 0))]|6=>[aB g8 23 (aA x)]|7=>L|_=>[])
  (fun i=>match i with|2=>[4]|3=>[5]|_=>[]) (fun i=>match i with|0=>[6]|1=>[6]|_=>[]) S0 (by kernel_rfl) hap (by kernel_rfl) (by kernel_rfl) (fun i=>match i with|0=>[0]|1=>[1]|_=>[]) (by kernel_rfl) ?_ (by kernel_rfl) ?_ ?_ ?_
 . exact lA
 . exact pA
 . clear S0 hend;refine ⟨?_,?_,?_,?_,trivial⟩ <;> intro vs gs A' W LF hA S hR hd hu K hK
   . exact dC (aA x) (eO 8 o8) (aM.agg (show aM W g8 23 (aA x) from S.ok (aB g8 23 (aA x)) (hR 6 (by simp) _ (List.mem_singleton.2 rfl)))) underlying23 (by rw [aC,hx32];exact bBy)
   . exact dC (aA x) (eO 8 o8) (aM.agg (show aM W g8 23 (aA x) from S.ok (aB g8 23 (aA x)) (hR 6 (by simp) _ (List.mem_singleton.2 rfl)))) underlying23 (by rw [aC,hx32];exact bBy)
   . replace hK:=hK default;have e10:=eO 10 o10;have e23:=vD 23 0;clear hA o8 o10 o11;have S1:Held w0 W (aB g10 23 (aA (List.replicate 32 0)) :: LF):=S;refine aZ (.tmp 10) (.tmp 23) 23 rfl g10 (by simpa [Act.eval] using e10) (aA (x)) (by simpa [Act.eval] using e23) 23 (aA (List.replicate 32 0)) S1 (by rw [aC,hx32];exact bBy) (by rw [aC,aC,hx32,List.length_replicate]) (aI _) ?_;intro w' S2;exact hK _ _ S2 trivial
   . replace hK:=hK default;have e11:=eO 11 o11;have e24:=vD 24 1;clear hA o8 o10 o11;have S1:Held w0 W (aB g11 23 (aA (List.replicate 32 0)) :: LF):=S;refine aZ (.tmp 11) (.tmp 24) 23 rfl g11 (by simpa [Act.eval] using e11) (aA (x)) (by simpa [Act.eval] using e24) 23 (aA (List.replicate 32 0)) S1 (by rw [aC,hx32];exact bBy) (by rw [aC,aC,hx32,List.length_replicate]) (aI _) ?_;intro w' S2;exact hK _ _ S2 trivial
 . intro vs gs W S hp;have S:Held w0 W (aB g10 23 (aA x) :: aB g11 23 (aA x) :: aB g8 23 (aA x) :: L):=by simpa only [List.flatMap_cons,List.flatMap_nil,List.append_nil,List.nil_append,List.cons_append,List.append_assoc] using S
   rw [aF];exact hend _ W sQ  S
theorem aU6(w0:World)(g10 g11:Nat)(ad:Addr)(n c:Nat)(hn:0 < n)(x:Bs)(hx32:x.length=32)(hxc:∀ V,Kp [] w0 V->∀ j u,(aA x).toList[j]?=some u->V.cell? (ad.add j)=some u)(L:List Res)(hsz:a.tmps.size=78)(o4:Sl a 4 (.slice (some ad) n c))(o10:Sl a 10 (Pq g10 0))(o11:Sl a 11 (Pq g11 0))
 (S0:Held w0 w (aB g10 23 (aA (List.replicate 32 0)) :: aB g11 23 (aA (List.replicate 32 0)) :: L)):bC true 4 f113 Q a w fun a' W q'=>Held w0 W (aB g10 23 (aA x) :: aB g11 23 (aA x) :: L)->q':=by
 intro hend;have hap:=pa 4 f113
 refine aP (Γ:=Unit) (l:=(aK 4 f113)) 3 [0,1,2,3,4,5,6,7,10]
  (fun i vs gs=>match i with|0=>vs 0=.slice (some ad) n c|1=>vs 1=.pointer (some ad)|2=>vs 2=.agg (aA x)|3=>vs 3=.slice (some ad) n c|4=>vs 4=.pointer (some ad)|5=>vs 5=.agg (aA x)|_=>True)
  (fun i vs gs=>match i with|6=>[aB g10 23 (aA x)]|7=>[aB g11 23 (aA x)]|8=>[aB g10 23 (aA (List.replicate 32 0))]|9=>[aB g11 23 (aA (List.replicate 32 0))]|10=>L|_=>[])
  (fun i=>match i with|6=>[8]|7=>[9]|_=>[]) (fun i=>match i with  | _=>[]) S0 (by kernel_rfl) hap (by kernel_rfl) (by kernel_rfl) (fun i=>match i with|0=>[0]|1=>[1]|2=>[2]|3=>[3]|4=>[4]|5=>[5]|_=>[]) (by kernel_rfl) ?_ (by kernel_rfl) ?_ ?_ ?_
 . exact lA
 . exact pA
 . clear S0 hend
   and_intros <;> try intro vs gs A' W LF hA S hR hd hu K hK
   . exact aJ (eO 4 o4)
   . replace hK:=hK default;have e25:=vD 25 0;clear hA o4 o10 o11;have h0:(0:Int) < (n:Int):=by omega
     go_step;exact hK _ _ S (by first|rfl|(simp [Addr.add];done))
   . exact dC (aA x) (vD 26 1) (hxc W S.k) underlying23 (by rw [aC,hx32];exact bBy)
   . exact aJ (eO 4 o4)
   . replace hK:=hK default;have e28:=vD 28 3;clear hA o4 o10 o11;have h0:(0:Int) < (n:Int):=by omega
     go_step;exact hK _ _ S (by first|rfl|(simp [Addr.add];done))
   . exact dC (aA x) (vD 29 4) (hxc W S.k) underlying23 (by rw [aC,hx32];exact bBy)
   . replace hK:=hK default;have e10:=eO 10 o10;have e27:=vD 27 2;clear hA o4 o10 o11;have S1:Held w0 W (aB g10 23 (aA (List.replicate 32 0)) :: LF):=S;refine aZ (.tmp 10) (.tmp 27) 23 rfl g10 (by simpa [Act.eval] using e10) (aA (x)) (by simpa [Act.eval] using e27) 23 (aA (List.replicate 32 0)) S1 (by rw [aC,hx32];exact bBy) (by rw [aC,aC,hx32,List.length_replicate]) (aI _) ?_;intro w' S2;exact hK _ _ S2 trivial
   . replace hK:=hK default;have e11:=eO 11 o11;have e30:=vD 30 5;clear hA o4 o10 o11;have S1:Held w0 W (aB g11 23 (aA (List.replicate 32 0)) :: LF):=S;refine aZ (.tmp 11) (.tmp 30) 23 rfl g11 (by simpa [Act.eval] using e11) (aA (x)) (by simpa [Act.eval] using e30) 23 (aA (List.replicate 32 0)) S1 (by rw [aC,hx32];exact bBy) (by rw [aC,aC,hx32,List.length_replicate]) (aI _) ?_;intro w' S2;exact hK _ _ S2 trivial
   . trivial
 . intro vs gs W S hp;have S:Held w0 W (aB g10 23 (aA x) :: aB g11 23 (aA x) :: L):=by simpa only [List.flatMap_cons,List.flatMap_nil,List.append_nil,List.nil_append,List.cons_append,List.append_assoc] using S
   rw [aF];exact hend _ W sQ  S
theorem bA0(n:Nat)(hn:n < 9223372036854775808)(hsz:a.tmps.size=78)(o1:Sl a 1 (Nq n)):bK 5 f113 Q a w fun a' q'=>Sl a' 12 (Nq (aU n))->q':=by
 refine jG fun hend=>?_;unfold Sl at o1;have HR:=LH (nS n hn w);go_wp2_with fail
 refine HR.out.mono ?_;rintro e w' ⟨rfl,rfl⟩;go_wp2_with fail
 try simp only [Act.put]
 exact hend _ tS sP
theorem aQe(A:Option Addr)(q c:Nat)(hq:q<=1000000)(hsz:a.tmps.size=78)(o4:Sl a 4 (.slice A (q+1) c)):bK 6 f113 Q a w fun a' q'=>Sl a' 13 (Nq q)->q':=by
 have hw:wrap64 (q:Int)=(q:Int):=by unfold wrap64;omega
 exact rO
theorem aS2(w0:World)(ad:Addr)(q c:Nat)(x:Bs)(hx32:x.length=32)(hx:∀ j u,(aA x).toList[j]?=some u->w.cell? ((ad.add (q * 32)).add j)=some u)(L:List Res)(S:Held w0 w L)(hsz:a.tmps.size=78)(o4:Sl a 4 (.slice (some ad) (q+1) c))(o13:Sl a 13 (Nq q)):bC false 7 f113 Q a w fun a' W q'=>(∃ g14,Sl a' 14 (Pq g14 0) ∧ Held w0 W (aB g14 23 (aA x) :: L))->q':=by
 refine bU fun hend=>?_;unfold Sl at o4 o13;have h0:0<=(q:Int):=by omega
 have h1:(q:Int) < (q:Int)+1:=by omega
 have hch:Hid ((aA (x)).size=32):=LH (by rw [aC,hx32]);have Och:=LH (aI (x));obtain ⟨ch,Ech⟩:∃ cs,Hid (aA (x)=cs):=⟨_,LH rfl⟩;rw [Ech.out] at hch Och;have HC:Hid (∀ j u,ch.toList[j]?=some u->w.cell? ((ad.add (q * 32)).add j)=some u):=LH (by rw [<- Ech.out];exact hx);clear hx;have S1:=LH (S.newBlk 23 (aA (List.replicate 32 0)));clear S;go_wp2_with (first|(refine bW rfl 23 (.tmp 38) rfl (ad.add (q * 32)) aE ch.toList _ HC.out underlying23 rfl (by rw [Array.length_toList,hch.out];exact bBy) ?_)|(refine aD rfl 23 (.tmp 14) (.tmp 39) rfl w.heap.size aE ch aE 23 _ (S1.out.at_ (l1:=[])) (by rw [hch.out];exact bBy) (by rw [hch.out];rfl) Och.out ?_;intro w7 b7 k7;have S7:=LH (Held.setBlk (l1:=[]) S1.out b7 k7);clear b7 k7))
 rw [<- Ech.out] at S7
 try simp only [Act.put]
 exact hend _ _ tS (⟨_,cH,S7.out⟩)
theorem aQy(m k:Nat)(hsz:a.tmps.size=78)(o0:Sl a 0 (Nq m))(o12:Sl a 12 (Nq k)):bK 8 f113 Q a w fun a' q'=>Sl a' 42 (.bool (decide ((m:Int)<=(k:Int))))->q':=rO
theorem aY1(w0:World)(g8:Nat)(m k u0:Nat)(b:Bool)(ad:Addr)(q c:Nat)(hqc:q<=c)(first x y:Bs)(hf32:first.length=32)(hx32:x.length=32)(hy32:y.length=32)(HC:∀ V,Kp [] w0 V->Calls prog 113 #[.int .i64 (m:Int),.int .i64 (k:Int),.bool b,.agg (aA first),.slice (some ad) q c] V fun e w'=>e=.returned (.tuple #[.agg (aA x),.agg (aA y)]) ∧ Kp [] V w')(L:List Res)(hsz:a.tmps.size=78)(o0:Sl a 0 (Nq m))(o2:Sl a 2 (.bool b))(o4:Sl a 4 (.slice (some ad) (q+1) c))(o8:Sl a 8 (Pq g8 0))(o12:Sl a 12 (Nq k))(o13:Sl a 13 (Nq q))
 (S0:Held w0 w (aB g8 23 (aA first) :: L))
 (hend:∀ (a':Act) (vs:Nat->Value) (gs:Nat->Nat) (W:World),Same a a' [44,45,46,47,48,49,50,51,43,52,53,15,16]->Sl a' 15 (Pq (gs 11) 0)->Sl a' 16 (Pq (gs 12) 0)->Held w0 W (aB (gs 11) 23 (aA x) :: aB (gs 12) 23 (aA y) :: aB g8 23 (aA first) :: L)->Q .normal a' W):(Code.region 9 (aK 9 f113).toArray true).wp prog Q a w:=by
 have hap:=pa 9 f113
 refine aP (Γ:=Nat) (l:=(aK 9 f113)) 2 [0,1,2,3,4,5,6,7,8,9,10,13,14,15,16]
  (fun i vs gs=>match i with|0=>vs 0=Nq m|1=>vs 1=Nq k|2=>vs 2=.bool b|3=>vs 3=.agg (aA first)|4=>vs 4=.slice (some ad) (q+1) c|5=>vs 5=Nq q|6=>vs 6=.slice (some ad) q c|7=>vs 7=.tuple #[.agg (aA x),.agg (aA y)]|8=>vs 8=.tuple #[.agg (aA x),.agg (aA y)]|9=>vs 9=.agg (aA x)|10=>vs 10=.agg (aA y)|11=>vs 11=Pq (gs 11) 0|12=>vs 12=Pq (gs 12) 0|_=>True)
  (fun i vs gs=>match i with|11=>[aB (gs 11) 23 (aA (List.replicate 32 0))]|12=>[aB (gs 12) 23 (aA (List.replicate 32 0))]|13=>[aB (gs 11) 23 (aA x)]|14=>[aB (gs 12) 23 (aA y)]|15=>[aB g8 23 (aA first)]|16=>L|_=>[])
  (fun i=>match i with|13=>[11]|14=>[12]|_=>[]) (fun i=>match i with|3=>[15]|_=>[]) S0 (by kernel_rfl) hap (by kernel_rfl) (by kernel_rfl) (fun i=>match i with|0=>[0]|1=>[1]|2=>[2]|3=>[3]|4=>[4]|5=>[5]|6=>[6]|7=>[7]|8=>[8]|9=>[9]|10=>[10]|11=>[11]|12=>[12]|13=>[11]|14=>[12]|_=>[]) (by kernel_rfl) ?_ (by kernel_rfl) ?_ ?_ ?_
 . exact lA
 . exact pA
 . clear S0 hend
   and_intros <;> try intro vs gs A' W LF hA S hR hd hu K hK
   . exact aJ (eO 0 o0)
   . exact aJ (eO 12 o12)
   . exact aJ (eO 2 o2)
   . exact dC (aA first) (eO 8 o8) (aM.agg (show aM W g8 23 (aA first) from S.ok (aB g8 23 (aA first)) (hR 15 (by simp) _ (List.mem_singleton.2 rfl)))) underlying23 (by rw [aC,hf32];exact bBy)
   . exact aJ (eO 4 o4)
   . exact aJ (eO 13 o13)
   . have hq:=oE (some ad) (q+1) c q (by omega) W;exact cM (vD 48 4) (vD 49 5)
   . replace hK:=hK default;have e44:=vD 44 0;have e45:=vD 45 1;have e46:=vD 46 2;have e47:=vD 47 3;have e50:=vD 50 6;clear hA o0 o2 o4 o8 o12 o13;go_step;refine (HC W S.k).mono ?_;rintro e w' ⟨rfl,k⟩;exact hK _ _ (S.kp k) rfl
   . exact aJ (vD 51 7)
   . exact aJ (vD 43 8)
   . exact aJ (vD 43 8)
   . clear hA o0 o2 o4 o8 o12 o13;go_step;exact hK W.heap.size _ _ (S.newBlk 23 (aA (List.replicate 32 0))) rfl
   . clear hA o0 o2 o4 o8 o12 o13;go_step;exact hK W.heap.size _ _ (S.newBlk 23 (aA (List.replicate 32 0))) rfl
   . replace hK:=hK default;have e15:=vD 15 11;have e52:=vD 52 9;clear hA o0 o2 o4 o8 o12 o13;have S1:Held w0 W (aB (gs 11) 23 (aA (List.replicate 32 0)) :: LF):=S;refine aZ (.tmp 15) (.tmp 52) 23 rfl (gs 11) (by simpa [Act.eval] using e15) (aA (x)) (by simpa [Act.eval] using e52) 23 (aA (List.replicate 32 0)) S1 (by rw [aC,hx32];exact bBy) (by rw [aC,aC,hx32,List.length_replicate]) (aI _) ?_;intro w' S2;exact hK _ _ S2 trivial
   . replace hK:=hK default;have e16:=vD 16 12;have e53:=vD 53 10;clear hA o0 o2 o4 o8 o12 o13;have S1:Held w0 W (aB (gs 12) 23 (aA (List.replicate 32 0)) :: LF):=S;refine aZ (.tmp 16) (.tmp 53) 23 rfl (gs 12) (by simpa [Act.eval] using e16) (aA (y)) (by simpa [Act.eval] using e53) 23 (aA (List.replicate 32 0)) S1 (by rw [aC,hy32];exact bBy) (by rw [aC,aC,hy32,List.length_replicate]) (aI _) ?_;intro w' S2;exact hK _ _ S2 trivial
   . trivial
 . intro vs gs W S hp;have S:Held w0 W (aB (gs 11) 23 (aA x) :: aB (gs 12) 23 (aA y) :: aB g8 23 (aA first) :: L):=by simpa only [List.flatMap_cons,List.flatMap_nil,List.append_nil,List.nil_append,List.cons_append,List.append_assoc] using S
   rw [aF];exact hend _ vs gs W sQ (sW (hp 11 sB)) (sW (hp 12 sB)) S
theorem aI9(w0:World)(g8:Nat)(m k n m2 n2:Nat)(ad:Addr)(q c:Nat)(hqc:q<=c)(hz:Hid (m2+k=m ∧ n2+k=n ∧ m<=n ∧ n < 9223372036854775808))(first x y:Bs)(hf32:first.length=32)(hx32:x.length=32)(hy32:y.length=32)(HC:∀ V,Kp [] w0 V->Calls prog 113 #[.int .i64 (m2:Int),.int .i64 (n2:Int),.bool false,.agg (aA first),.slice (some ad) q c] V fun e w'=>e=.returned (.tuple #[.agg (aA x),.agg (aA y)]) ∧ Kp [] V w')(L:List Res)(hsz:a.tmps.size=78)(o0:Sl a 0 (Nq m))(o1:Sl a 1 (Nq n))(o4:Sl a 4 (.slice (some ad) (q+1) c))(o8:Sl a 8 (Pq g8 0))(o12:Sl a 12 (Nq k))(o13:Sl a 13 (Nq q))
 (S0:Held w0 w (aB g8 23 (aA first) :: L))
 (hend:∀ (a':Act) (vs:Nat->Value) (gs:Nat->Nat) (W:World),Same a a' [59,60,61,62,63,64,65,66,67,68,69,58,70,71,17,18]->Sl a' 17 (Pq (gs 14) 0)->Sl a' 18 (Pq (gs 15) 0)->Held w0 W (aB (gs 14) 23 (aA x) :: aB (gs 15) 23 (aA y) :: aB g8 23 (aA first) :: L)->Q .normal a' W):(Code.region 11 (aK 11 f113).toArray true).wp prog Q a w:=by
 have hap:=pa 11 f113
 refine aP (Γ:=Nat) (l:=(aK 11 f113)) 2 [0,1,2,3,4,5,6,7,8,9,10,11,12,13,16,17,18,19]
  (fun i vs gs=>match i with|0=>vs 0=Nq m|1=>vs 1=Nq k|2=>vs 2=Nq m2|3=>vs 3=Nq n|4=>vs 4=Nq k|5=>vs 5=Nq n2|6=>vs 6=.agg (aA first)|7=>vs 7=.slice (some ad) (q+1) c|8=>vs 8=Nq q|9=>vs 9=.slice (some ad) q c|10=>vs 10=.tuple #[.agg (aA x),.agg (aA y)]|11=>vs 11=.tuple #[.agg (aA x),.agg (aA y)]|12=>vs 12=.agg (aA x)|13=>vs 13=.agg (aA y)|14=>vs 14=Pq (gs 14) 0|15=>vs 15=Pq (gs 15) 0|_=>True)
  (fun i vs gs=>match i with|14=>[aB (gs 14) 23 (aA (List.replicate 32 0))]|15=>[aB (gs 15) 23 (aA (List.replicate 32 0))]|16=>[aB (gs 14) 23 (aA x)]|17=>[aB (gs 15) 23 (aA y)]|18=>[aB g8 23 (aA first)]|19=>L|_=>[])
  (fun i=>match i with|16=>[14]|17=>[15]|_=>[]) (fun i=>match i with|6=>[18]|_=>[]) S0 (by kernel_rfl) hap (by kernel_rfl) (by kernel_rfl) (fun i=>match i with|0=>[0]|1=>[1]|2=>[2]|3=>[3]|4=>[4]|5=>[5]|6=>[6]|7=>[7]|8=>[8]|9=>[9]|10=>[10]|11=>[11]|12=>[12]|13=>[13]|14=>[14]|15=>[15]|16=>[14]|17=>[15]|_=>[]) (by kernel_rfl) ?_ (by kernel_rfl) ?_ ?_ ?_
 . exact lA
 . exact pA
 . clear S0 hend
   and_intros <;> try intro vs gs A' W LF hA S hR hd hu K hK
   . exact aJ (eO 0 o0)
   . exact aJ (eO 12 o12)
   . replace hK:=hK default;have e59:=vD 59 0;have e60:=vD 60 1;clear hA o0 o1 o4 o8 o12 o13;have hw:wrap64 ((m:Int) - (k:Int))=(m2:Int):=by have:=hz.out;unfold wrap64;omega
     go_step;exact hK _ _ S (by first|rfl|exact congrArg (Value.int .i64) hw)
   . exact aJ (eO 1 o1)
   . exact aJ (eO 12 o12)
   . replace hK:=hK default;have e62:=vD 62 3;have e63:=vD 63 4;clear hA o0 o1 o4 o8 o12 o13;have hw:wrap64 ((n:Int) - (k:Int))=(n2:Int):=by have:=hz.out;unfold wrap64;omega
     go_step;exact hK _ _ S (by first|rfl|exact congrArg (Value.int .i64) hw)
   . exact dC (aA first) (eO 8 o8) (aM.agg (show aM W g8 23 (aA first) from S.ok (aB g8 23 (aA first)) (hR 18 (by simp) _ (List.mem_singleton.2 rfl)))) underlying23 (by rw [aC,hf32];exact bBy)
   . exact aJ (eO 4 o4)
   . exact aJ (eO 13 o13)
   . have hq:=oE (some ad) (q+1) c q (by omega) W;exact cM (vD 66 7) (vD 67 8)
   . replace hK:=hK default;have e61:=vD 61 2;have e64:=vD 64 5;have e65:=vD 65 6;have e68:=vD 68 9;clear hA o0 o1 o4 o8 o12 o13;go_step;refine (HC W S.k).mono ?_;rintro e w' ⟨rfl,k⟩;exact hK _ _ (S.kp k) rfl
   . exact aJ (vD 69 10)
   . exact aJ (vD 58 11)
   . exact aJ (vD 58 11)
   . clear hA o0 o1 o4 o8 o12 o13;go_step;exact hK W.heap.size _ _ (S.newBlk 23 (aA (List.replicate 32 0))) rfl
   . clear hA o0 o1 o4 o8 o12 o13;go_step;exact hK W.heap.size _ _ (S.newBlk 23 (aA (List.replicate 32 0))) rfl
   . replace hK:=hK default;have e17:=vD 17 14;have e70:=vD 70 12;clear hA o0 o1 o4 o8 o12 o13;have S1:Held w0 W (aB (gs 14) 23 (aA (List.replicate 32 0)) :: LF):=S;refine aZ (.tmp 17) (.tmp 70) 23 rfl (gs 14) (by simpa [Act.eval] using e17) (aA (x)) (by simpa [Act.eval] using e70) 23 (aA (List.replicate 32 0)) S1 (by rw [aC,hx32];exact bBy) (by rw [aC,aC,hx32,List.length_replicate]) (aI _) ?_;intro w' S2;exact hK _ _ S2 trivial
   . replace hK:=hK default;have e18:=vD 18 15;have e71:=vD 71 13;clear hA o0 o1 o4 o8 o12 o13;have S1:Held w0 W (aB (gs 15) 23 (aA (List.replicate 32 0)) :: LF):=S;refine aZ (.tmp 18) (.tmp 71) 23 rfl (gs 15) (by simpa [Act.eval] using e18) (aA (y)) (by simpa [Act.eval] using e71) 23 (aA (List.replicate 32 0)) S1 (by rw [aC,hy32];exact bBy) (by rw [aC,aC,hy32,List.length_replicate]) (aI _) ?_;intro w' S2;exact hK _ _ S2 trivial
   . trivial
 . intro vs gs W S hp;have S:Held w0 W (aB (gs 14) 23 (aA x) :: aB (gs 15) 23 (aA y) :: aB g8 23 (aA first) :: L):=by simpa only [List.flatMap_cons,List.flatMap_nil,List.append_nil,List.nil_append,List.cons_append,List.append_assoc] using S
   rw [aF];exact hend _ vs gs W sQ (sW (hp 14 sB)) (sW (hp 15 sB)) S
theorem aMo(w0:World)(g10 g11 g14 g15 g16:Nat)(x a1 b1:Bs)(hx32:x.length=32)(h1:a1.length=32)(h2:b1.length=32)(L:List Res)(hsz:a.tmps.size=78)(o10:Sl a 10 (Pq g10 0))(o11:Sl a 11 (Pq g11 0))(o14:Sl a 14 (Pq g14 0))(o15:Sl a 15 (Pq g15 0))(o16:Sl a 16 (Pq g16 0))
 (S0:Held w0 w (aB g10 23 (aA (List.replicate 32 0)) :: aB g11 23 (aA (List.replicate 32 0)) :: aB g15 23 (aA a1) :: aB g16 23 (aA b1) :: aB g14 23 (aA x) :: L)):bC true 10 f113 Q a w fun a' W q'=>Held w0 W (aB g10 23 (aA a1) :: aB g11 23 (aA (cN b1 x)) :: aB g15 23 (aA a1) :: aB g16 23 (aA b1) :: aB g14 23 (aA x) :: L)->q':=by
 intro hend;have hap:=pa 10 f113
 refine aP (Γ:=Unit) (l:=(aK 10 f113)) 6 [0,1,2,3,4,5,8,9,10,11]
  (fun i vs gs=>match i with|0=>vs 0=.agg (aA a1)|1=>vs 1=.agg (aA b1)|2=>vs 2=.agg (aA x)|3=>vs 3=.agg (aA (cN b1 x))|_=>True)
  (fun i vs gs=>match i with|4=>[aB g10 23 (aA a1)]|5=>[aB g11 23 (aA (cN b1 x))]|6=>[aB g10 23 (aA (List.replicate 32 0))]|7=>[aB g11 23 (aA (List.replicate 32 0))]|8=>[aB g15 23 (aA a1)]|9=>[aB g16 23 (aA b1)]|10=>[aB g14 23 (aA x)]|11=>L|_=>[])
  (fun i=>match i with|4=>[6]|5=>[7]|_=>[]) (fun i=>match i with|0=>[8]|1=>[9]|2=>[10]|_=>[]) S0 (by kernel_rfl) hap (by kernel_rfl) (by kernel_rfl) (fun i=>match i with|0=>[0]|1=>[1]|2=>[2]|3=>[3]|_=>[]) (by kernel_rfl) ?_ (by kernel_rfl) ?_ ?_ ?_
 . exact lA
 . exact pA
 . clear S0 hend
   and_intros <;> try intro vs gs A' W LF hA S hR hd hu K hK
   . exact dC (aA a1) (eO 15 o15) (aM.agg (show aM W g15 23 (aA a1) from S.ok (aB g15 23 (aA a1)) (hR 8 (by simp) _ (List.mem_singleton.2 rfl)))) underlying23 (by rw [aC,h1];exact bBy)
   . exact dC (aA b1) (eO 16 o16) (aM.agg (show aM W g16 23 (aA b1) from S.ok (aB g16 23 (aA b1)) (hR 9 (by simp) _ (List.mem_singleton.2 rfl)))) underlying23 (by rw [aC,h2];exact bBy)
   . exact dC (aA x) (eO 14 o14) (aM.agg (show aM W g14 23 (aA x) from S.ok (aB g14 23 (aA x)) (hR 10 (by simp) _ (List.mem_singleton.2 rfl)))) underlying23 (by rw [aC,hx32];exact bBy)
   . replace hK:=hK default;have e55:=vD 55 1;have e56:=vD 56 2;clear hA o10 o11 o14 o15 o16;go_step;refine (mR b1 x h2 hx32 W).mono ?_;rintro e w' ⟨rfl,k⟩;exact hK _ _ (S.kp k) rfl
   . replace hK:=hK default;have e10:=eO 10 o10;have e54:=vD 54 0;clear hA o10 o11 o14 o15 o16;have S1:Held w0 W (aB g10 23 (aA (List.replicate 32 0)) :: LF):=S;refine aZ (.tmp 10) (.tmp 54) 23 rfl g10 (by simpa [Act.eval] using e10) (aA (a1)) (by simpa [Act.eval] using e54) 23 (aA (List.replicate 32 0)) S1 (by rw [aC,h1];exact bBy) (by rw [aC,aC,h1,List.length_replicate]) (aI _) ?_;intro w' S2;exact hK _ _ S2 trivial
   . replace hK:=hK default;have e11:=eO 11 o11;have e57:=vD 57 3;clear hA o10 o11 o14 o15 o16;have S1:Held w0 W (aB g11 23 (aA (List.replicate 32 0)) :: LF):=S;refine aZ (.tmp 11) (.tmp 57) 23 rfl g11 (by simpa [Act.eval] using e11) (aA (cN b1 x)) (by simpa [Act.eval] using e57) 23 (aA (List.replicate 32 0)) S1 (by rw [aC,bL];exact bBy) (by rw [aC,aC,bL,List.length_replicate]) (aI _) ?_;intro w' S2;exact hK _ _ S2 trivial
   . trivial
 . intro vs gs W S hp;have S:Held w0 W (aB g10 23 (aA a1) :: aB g11 23 (aA (cN b1 x)) :: aB g15 23 (aA a1) :: aB g16 23 (aA b1) :: aB g14 23 (aA x) :: L):=by simpa only [List.flatMap_cons,List.flatMap_nil,List.append_nil,List.nil_append,List.cons_append,List.append_assoc] using S
   rw [aF];exact hend _ W sQ  S
theorem aN3(w0:World)(g10 g11 g14 g17 g18:Nat)(x a1 b1:Bs)(hx32:x.length=32)(h1:a1.length=32)(h2:b1.length=32)(L:List Res)(hsz:a.tmps.size=78)(o10:Sl a 10 (Pq g10 0))(o11:Sl a 11 (Pq g11 0))(o14:Sl a 14 (Pq g14 0))(o17:Sl a 17 (Pq g17 0))(o18:Sl a 18 (Pq g18 0))
 (S0:Held w0 w (aB g10 23 (aA (List.replicate 32 0)) :: aB g11 23 (aA (List.replicate 32 0)) :: aB g14 23 (aA x) :: aB g17 23 (aA a1) :: aB g18 23 (aA b1) :: L)):bC true 12 f113 Q a w fun a' W q'=>Held w0 W (aB g10 23 (aA (cN x a1)) :: aB g11 23 (aA (cN x b1)) :: aB g14 23 (aA x) :: aB g17 23 (aA a1) :: aB g18 23 (aA b1) :: L)->q':=by
 intro hend;have hap:=pa 12 f113
 refine aP (Γ:=Unit) (l:=(aK 12 f113)) 6 [0,1,2,3,4,5,6,7,10,11,12,13]
  (fun i vs gs=>match i with|0=>vs 0=.agg (aA x)|1=>vs 1=.agg (aA a1)|2=>vs 2=.agg (aA (cN x a1))|3=>vs 3=.agg (aA x)|4=>vs 4=.agg (aA b1)|5=>vs 5=.agg (aA (cN x b1))|_=>True)
  (fun i vs gs=>match i with|6=>[aB g10 23 (aA (cN x a1))]|7=>[aB g11 23 (aA (cN x b1))]|8=>[aB g10 23 (aA (List.replicate 32 0))]|9=>[aB g11 23 (aA (List.replicate 32 0))]|10=>[aB g14 23 (aA x)]|11=>[aB g17 23 (aA a1)]|12=>[aB g18 23 (aA b1)]|13=>L|_=>[])
  (fun i=>match i with|6=>[8]|7=>[9]|_=>[]) (fun i=>match i with|0=>[10]|1=>[11]|3=>[10]|4=>[12]|_=>[]) S0 (by kernel_rfl) hap (by kernel_rfl) (by kernel_rfl) (fun i=>match i with|0=>[0]|1=>[1]|2=>[2]|3=>[3]|4=>[4]|5=>[5]|_=>[]) (by kernel_rfl) ?_ (by kernel_rfl) ?_ ?_ ?_
 . exact lA
 . exact pA
 . clear S0 hend
   and_intros <;> try intro vs gs A' W LF hA S hR hd hu K hK
   . exact dC (aA x) (eO 14 o14) (aM.agg (show aM W g14 23 (aA x) from S.ok (aB g14 23 (aA x)) (hR 10 (by simp) _ (List.mem_singleton.2 rfl)))) underlying23 (by rw [aC,hx32];exact bBy)
   . exact dC (aA a1) (eO 17 o17) (aM.agg (show aM W g17 23 (aA a1) from S.ok (aB g17 23 (aA a1)) (hR 11 (by simp) _ (List.mem_singleton.2 rfl)))) underlying23 (by rw [aC,h1];exact bBy)
   . replace hK:=hK default;have e72:=vD 72 0;have e73:=vD 73 1;clear hA o10 o11 o14 o17 o18;go_step;refine (mR x a1 hx32 h1 W).mono ?_;rintro e w' ⟨rfl,k⟩;exact hK _ _ (S.kp k) rfl
   . exact dC (aA x) (eO 14 o14) (aM.agg (show aM W g14 23 (aA x) from S.ok (aB g14 23 (aA x)) (hR 10 (by simp) _ (List.mem_singleton.2 rfl)))) underlying23 (by rw [aC,hx32];exact bBy)
   . exact dC (aA b1) (eO 18 o18) (aM.agg (show aM W g18 23 (aA b1) from S.ok (aB g18 23 (aA b1)) (hR 12 (by simp) _ (List.mem_singleton.2 rfl)))) underlying23 (by rw [aC,h2];exact bBy)
   . replace hK:=hK default;have e75:=vD 75 3;have e76:=vD 76 4;clear hA o10 o11 o14 o17 o18;go_step;refine (mR x b1 hx32 h2 W).mono ?_;rintro e w' ⟨rfl,k⟩;exact hK _ _ (S.kp k) rfl
   . replace hK:=hK default;have e10:=eO 10 o10;have e74:=vD 74 2;clear hA o10 o11 o14 o17 o18;have S1:Held w0 W (aB g10 23 (aA (List.replicate 32 0)) :: LF):=S;refine aZ (.tmp 10) (.tmp 74) 23 rfl g10 (by simpa [Act.eval] using e10) (aA (cN x a1)) (by simpa [Act.eval] using e74) 23 (aA (List.replicate 32 0)) S1 (by rw [aC,bL];exact bBy) (by rw [aC,aC,bL,List.length_replicate]) (aI _) ?_;intro w' S2;exact hK _ _ S2 trivial
   . replace hK:=hK default;have e11:=eO 11 o11;have e77:=vD 77 5;clear hA o10 o11 o14 o17 o18;have S1:Held w0 W (aB g11 23 (aA (List.replicate 32 0)) :: LF):=S;refine aZ (.tmp 11) (.tmp 77) 23 rfl g11 (by simpa [Act.eval] using e11) (aA (cN x b1)) (by simpa [Act.eval] using e77) 23 (aA (List.replicate 32 0)) S1 (by rw [aC,bL];exact bBy) (by rw [aC,aC,bL,List.length_replicate]) (aI _) ?_;intro w' S2;exact hK _ _ S2 trivial
   . trivial
 . intro vs gs W S hp;have S:Held w0 W (aB g10 23 (aA (cN x a1)) :: aB g11 23 (aA (cN x b1)) :: aB g14 23 (aA x) :: aB g17 23 (aA a1) :: aB g18 23 (aA b1) :: L):=by simpa only [List.flatMap_cons,List.flatMap_nil,List.append_nil,List.nil_append,List.cons_append,List.append_assoc] using S
   rw [aF];exact hend _ W sQ  S
end
section
open Go.RowKit Go.Shelf
theorem pW(first:Bs)(hf32:first.length=32):∀ (fu m n:Nat) (whole:Bool) (A:Option Addr) (c:Nat) (pf:List (List UInt8)) (w:World),dP pf->pf.length<=1000000->1<=m->m<=n->n<=2 ^ fu->n < 9223372036854775808->pf.length=(cU (fu+1) m 0 n whole).length->Rd w 32 (.slice A pf.length c) pf.length (dA pf)->
 Calls prog 113 #[.int .i64 (m:Int),.int .i64 (n:Int),.bool whole,.agg (aA first),.slice A pf.length c] w fun e w'=>e=.returned (.tuple #[.agg (aA (eS (fu+1) m n whole first pf).1),.agg (aA (eS (fu+1) m n whole first pf).2)]) ∧ Kp [] w w'
 |fu,m,n,whole,A,c,pf,w,hok,hpl,h1,hm,hf,hn,hc,hv=>by
  have hlc:pf.length<=c:=by
   obtain ⟨-,A',c',e,h1,h2,-,-⟩:=hv
   cases e;exact h1
  refine aR func113 rfl 78 rfl (fun a0 hsz hdf hAr=>?_);have hz0:a0.tmps.size=78:=hsz;have D:=hdf;have o0:=hAr 0 _ rfl;have o1:=hAr 1 _ rfl;have o2:=hAr 2 _ rfl;have o3:=hAr 3 _ rfl;have o4:=hAr 4 _ rfl;refine wp_seq (aUt w _ [] (Held.start w) hz0 o3 (fun a1 w1 hs1 h1=>?_));obtain ⟨hz1,D,o0,o1,o2,o3,o4⟩:=jJ hs1 hz0 D o0 o1 o2 o3 o4;obtain ⟨g8,g10,g11,o8,o10,o11,S⟩:=h1;refine wp_seq (wp_seq (aRc m n hz1 o0 o1 (fun a2 hs2 o21=>?_)));obtain ⟨hz2,D,o0,o1,o2,o4,o8,o10,o11⟩:=vQ hs2 hz1 D o0 o1 o2 o4 o8 o10 o11
  by_cases he:m=n
  . subst he;refine cS o21 ?_ (by simp);refine wp_seq (wp_seq (aP5 whole hz2 o2 (fun a3 hs3 o22=>?_)));obtain ⟨hz3,D,o0,o1,o2,o4,o8,o10,o11,o21⟩:=kq8 hs3 hz2 D o0 o1 o2 o4 o8 o10 o11 o21
    cases whole
    . refine dD o22 (wp_skip ?_);simp only [Exit.then];rw [bP,if_pos rfl,if_neg (by decide)] at hc;have hc1:pf.length=1:=hc;obtain ⟨x,hx⟩:∃ x,pf[0]?=some x:=⟨_,List.getElem?_eq_getElem (by omega)⟩;have hx32:=hok x (List.mem_of_getElem? hx);obtain ⟨ad,rfl⟩:=gD hv (by omega)
      have hxc:∀ V,Kp [] w V->∀ j u,(aA x).toList[j]?=some u->V.cell? (ad.add j)=some u:=fun V kV j u hu=>by
       have:=fT hok (aT hv kV) hx j u hu
       rwa [show (ad.add (0 * 32))=ad by simp [Addr.add]] at this
      have S:=(S.pull 1 rfl)
      iterate 9 (try clear o3)
      refine wp_seq (aU6 w g10 g11 ad pf.length c (by omega) x hx32 hxc _ hz3 o4 o10 o11 S (fun a4 w4 hs4 S=>?_));obtain ⟨hz4,D,o0,o1,o2,o4,o8,o10,o11,o21,o22⟩:=kq9 hs4 hz3 D o0 o1 o2 o4 o8 o10 o11 o21 o22;refine wp_ret ?_
      try simp only [Exit.inBlock,Exit.then]
      refine bodyPost_ret (mC (by rfl) (o10.eval (by rw [hz4];decide)) (o11.eval (by rw [hz4];decide)) (S.ok (aB g10 23 (aA x)) (by simp)) (S.ok (aB g11 23 (aA x)) (by simp)) underlying23 rfl (by rw [aC,hx32];exact bBy) underlying23 rfl (by rw [aC,hx32];exact bBy)) D ⟨?_,S.k⟩;rw [eF,if_pos rfl,if_neg (by decide)]
      have e:pf.headD []=x:=by cases pf with
       |nil=>simp at hx
       |cons y l=>cases hx;rfl
      rw [e]
    . refine cS o22 ?_;have S:=(((S.pull 2 rfl).pull 1 rfl).pull 2 rfl);refine wp_seq (aVo w g8 g10 g11 first hf32 _ hz3 o8 o10 o11 S (fun a4 w4 hs4 S=>?_));obtain ⟨hz4,D,o0,o1,o2,o4,o8,o10,o11,o21⟩:=kq8 hs4 hz3 D o0 o1 o2 o4 o8 o10 o11 o21;refine wp_ret ?_
      try simp only [Exit.inBlock,Exit.then]
      refine bodyPost_ret (mC (by rfl) (o10.eval (by rw [hz4];decide)) (o11.eval (by rw [hz4];decide)) (S.ok (aB g10 23 (aA first)) (by simp)) (S.ok (aB g11 23 (aA first)) (by simp)) underlying23 rfl (by rw [aC,hf32];exact bBy) underlying23 rfl (by rw [aC,hf32];exact bBy)) D ⟨?_,S.k⟩;rw [eF,if_pos rfl,if_pos rfl]
  . have hq:(((m:Nat):Int) == ((n:Nat):Int))=false:=by rw [beq_eq_false_iff_ne];omega
    refine dD o21 (wp_skip ?_) (by rw [hq]);simp only [Exit.then]
    obtain ⟨fu,rfl⟩:∃ fu',fu=fu'+1:=by
     cases fu with
     |zero=>simp at hf;omega
     |succ fu=>exact ⟨fu,rfl⟩
    have h2:2<=n:=by omega
    have hk1:=fM h2;have hk2:=gJ h2;obtain ⟨d1,d2⟩:=Deep.next (f:=fu) hf h2
    obtain ⟨q,hpq⟩:∃ q,pf.length=q+1:=by
     rw [bP,if_neg he] at hc
     by_cases hk:m<=aU n
     . rw [if_pos hk,List.length_append] at hc;exact ⟨_,hc⟩
     . rw [if_neg hk,List.length_append] at hc;exact ⟨_,hc⟩
    obtain ⟨x,hx⟩:∃ x,pf[q]?=some x:=⟨_,List.getElem?_eq_getElem (by omega)⟩;have hx32:=hok x (List.mem_of_getElem? hx);obtain ⟨ad,rfl⟩:=gD hv (by omega);obtain ⟨e1,e2⟩:=pF hx;rw [List.take_of_length_le (by omega)] at e1 e2;have hpt:(pf.take q).length=q:=by rw [List.length_take];omega
    have hvq:∀ V,Kp [] w V->Rd V 32 (.slice (some ad) (pf.take q).length c) (pf.take q).length (dA (pf.take q)):=fun V kV=>by
     rw [hpt];exact uA hok (aT hv kV) rfl (by omega)
    have o4':Sl a2 4 (.slice (some ad) (q+1) c):=by rw [<- hpq];exact o4
    clear o4;have o4:=o4';clear o4';refine wp_seq (bA0 n hn hz2 o1 (fun a3 hs3 o12=>?_));obtain ⟨hz3,D,o0,o1,o2,o4,o8,o10,o11⟩:=vQ hs3 hz2 D o0 o1 o2 o4 o8 o10 o11;refine wp_seq (aQe (some ad) q c (by omega) hz3 o4 (fun a4 hs4 o13=>?_));obtain ⟨hz4,D,o0,o1,o2,o4,o8,o10,o11,o12⟩:=kq8 hs4 hz3 D o0 o1 o2 o4 o8 o10 o11 o12;refine wp_seq (aS2 w ad q c x hx32 (fT hok (aT hv S.k) hx) _ S hz4 o4 o13 (fun a5 w5 hs5 h5=>?_));obtain ⟨hz5,D,o0,o1,o2,o4,o8,o10,o11,o12,o13⟩:=kq9 hs5 hz4 D o0 o1 o2 o4 o8 o10 o11 o12 o13;obtain ⟨g14,o14,S⟩:=h5;refine wp_seq (wp_seq (aQy m (aU n) hz5 o0 o12 (fun a6 hs6 o42=>?_)));obtain ⟨hz6,D,o0,o1,o2,o4,o8,o10,o11,o12,o13,o14⟩:=aF7 hs6 hz5 D o0 o1 o2 o4 o8 o10 o11 o12 o13 o14;have S:=((((S.pull 1 rfl).pull 2 rfl).pull 2 rfl).pull 3 rfl)
    by_cases hk:m<=aU n
    . refine cS o42 ?_ (by rw [decide_eq_true (by omega)]);rw [bP,if_neg he,if_pos hk,List.length_append] at hc;have hc':q=(cU (fu+1) m 0 (aU n) whole).length:=by rw [hpq] at hc;simpa using hc
      have hbo:=iH fu 0 m (aU n) whole first (pf.take q) hf32 (hok.take q) (by rw [hpt];exact hc') h1 hk d1;have HC:=fun (V:World) (kV:Kp [] w V)=>pW first hf32 fu m (aU n) whole (some ad) c (pf.take q) V (hok.take q) (by omega) h1 hk d1 (by omega) (by rw [hpt];exact hc') (hvq V kV)
      rw [hpt] at HC;obtain ⟨BB,hBB⟩:∃ BB,eS (fu+1) m (aU n) whole first (pf.take q)=BB:=⟨_,rfl⟩;rw [hBB] at HC hbo;refine wp_seq (aY1 w g8 m (aU n) 0 whole ad q c (by omega) first BB.1 BB.2 hf32 hbo.1 hbo.2 HC _ hz6 o0 o2 o4 o8 o12 o13 S (fun a7 vs gs w7 hs7 o15 o16 S=>?_));obtain ⟨hz7,D,o10,o11,o14⟩:=dF hs7 hz6 D o10 o11 o14;have S:=(((((S.pull 3 rfl).pull 2 rfl).pull 2 rfl).pull 5 rfl).pull 5 rfl);refine wp_seq (aMo w g10 g11 g14 _ _ x BB.1 BB.2 hx32 hbo.1 hbo.2 _ hz7 o10 o11 o14 o15 o16 S (fun a8 w8 hs8 S=>?_));obtain ⟨hz8,D,o10,o11,o14⟩:=dF hs8 hz7 D o10 o11 o14;refine wp_ret ?_
      try simp only [Exit.inBlock,Exit.then]
      refine bodyPost_ret (mC (by rfl) (o10.eval (by rw [hz8];decide)) (o11.eval (by rw [hz8];decide)) (S.ok (aB g10 23 (aA BB.1)) (by simp)) (S.ok (aB g11 23 (aA (cN BB.2 x))) (by simp)) underlying23 rfl (by rw [aC,hbo.1];exact bBy) underlying23 rfl (by rw [aC,bL];exact bBy)) D ⟨?_,S.k⟩;rw [eF,if_neg he,if_pos hk,e1,e2,hBB]
    . refine dD o42 (wp_skip ?_) (by rw [decide_eq_false (by omega)]);simp only [Exit.then];rw [bP,if_neg he,if_neg hk,List.length_append] at hc;have hc':q=(cU (fu+1) (m - aU n) 0 (n - aU n) false).length:=by rw [hpq] at hc;rw [lP _ _ _ (0+aU n)];simpa using hc
      have hbo:=iH fu 0 (m - aU n) (n - aU n) false first (pf.take q) hf32 (hok.take q) (by rw [hpt];exact hc') (by omega) (by omega) d2;have HC:=fun (V:World) (kV:Kp [] w V)=>pW first hf32 fu (m - aU n) (n - aU n) false (some ad) c (pf.take q) V (hok.take q) (by omega) (by omega) (by omega) d2 (by omega) (by rw [hpt];exact hc') (hvq V kV)
      rw [hpt] at HC;obtain ⟨BB,hBB⟩:∃ BB,eS (fu+1) (m - aU n) (n - aU n) false first (pf.take q)=BB:=⟨_,rfl⟩;rw [hBB] at HC hbo;refine wp_seq (aI9 w g8 m (aU n) n (m - aU n) (n - aU n) ad q c (by omega) (LH ⟨by omega,by omega,hm,hn⟩) first BB.1 BB.2 hf32 hbo.1 hbo.2 HC _ hz6 o0 o1 o4 o8 o12 o13 S (fun a7 vs gs w7 hs7 o17 o18 S=>?_));obtain ⟨hz7,D,o10,o11,o14⟩:=dF hs7 hz6 D o10 o11 o14;have S:=(((((S.pull 1 rfl).pull 1 rfl).pull 3 rfl).pull 5 rfl).pull 5 rfl);refine wp_seq (aN3 w g10 g11 g14 _ _ x BB.1 BB.2 hx32 hbo.1 hbo.2 _ hz7 o10 o11 o14 o17 o18 S (fun a8 w8 hs8 S=>?_));obtain ⟨hz8,D,o10,o11⟩:=dU hs8 hz7 D o10 o11;refine wp_ret ?_
      try simp only [Exit.inBlock,Exit.then]
      refine bodyPost_ret (mC (by rfl) (o10.eval (by rw [hz8];decide)) (o11.eval (by rw [hz8];decide)) (S.ok (aB g10 23 (aA (cN x BB.1))) (by simp)) (S.ok (aB g11 23 (aA (cN x BB.2))) (by simp)) underlying23 rfl (by rw [aC,bL];exact bBy) underlying23 rfl (by rw [aC,bL];exact bBy)) D ⟨?_,S.k⟩;rw [eF,if_neg he,if_neg hk,e1,e2,hBB]
end
section
variable {Q:Exit->Act->World->Prop} {a:Act} {w:World}
open Go.RowKit Go.Shelf
theorem aSv(w0:World)(z:Int)(xa:Array Value)(A:Option Addr)(n c:Nat)(L:List Res)(S:Held w0 w L)(hsz:a.tmps.size=49)(o0:Sl a 0 (.int .i64 z))(o2:Sl a 2 (.agg xa))(o3:Sl a 3 (.slice A n c)):bC false 0 f75 Q a w fun a' W q'=>Sl a' 10 (.int .i64 (0:Int))->(∃ g4 g6 g7 g8 g9,Sl a' 4 (Pq g4 0) ∧ Sl a' 6 (Pq g6 0) ∧ Sl a' 7 (Pq g7 0) ∧ Sl a' 8 (Pq g8 0) ∧ Sl a' 9 (Pq g9 0) ∧ Held w0 W (aB g9 23 (aA (List.replicate 32 0)) :: aB g8 23 (aA (List.replicate 32 0)) :: aB g7 29 #[.slice A n c] :: aB g6 23 xa :: aB g4 2 #[.int .i64 z] :: L))->q':=by
 refine bU fun hend=>?_;unfold Sl at o0 o2 o3;have S1:=LH (((((S.newBlk 2 #[.int .i64 z]).newBlkN 23 xa (g:=w.heap.size+1) (by simp)).newBlkN 29 #[.slice A n c] (g:=w.heap.size+2) (by simp)).newBlkN 23 (aA (List.replicate 32 0)) (g:=w.heap.size+3) (by simp)).newBlkN 23 (aA (List.replicate 32 0)) (g:=w.heap.size+4) (by simp));go_wp2
 try simp only [Act.put]
 exact hend _ _ tS sP (⟨w.heap.size,w.heap.size+1,w.heap.size+2,w.heap.size+3,w.heap.size+4,cH,cH,cH,cH,cH,S1.out⟩)
theorem aNn(z y:Int)(hz:z < 1)(gz:Nat)(hb:aM w gz 2 #[.int .i64 z])(hsz:a.tmps.size=49)(o1:Sl a 1 (.int .i64 y))(o4:Sl a 4 (Pq gz 0)):bC false 1 f75 Q a w fun a' W q'=>Kp [] w W->Sl a' 24 (.bool true)->q':=by
 intro hend;have hap:=pa 1 f75;refine aH (l:=(aK 1 f75)) (fun i v W=>match i with|0=>v=.int .i64 z|1=>v=.bool true|2=>v=.bool true|6=>v=.bool true|_=>True) hap ?_ ?_ ?_
 . exact fun _ _ _ _ h _=>h
 . and_intros <;> try (intro vs A' W hA hW hd hu K hK;try (refine aL _ rfl rfl ?_;conv=>arg 2;whnf))
   . have c0:W.cell? ⟨gz,0,none⟩=some (.int .i64 z):=(hb.k0 hW).cell 0;exact aJ (eO 4 o4)
   . have e18:=vD 18 0;clear hA hd hu o1 o4;go_step;exact hK _ _ kR (by first|rfl|(refine congrArg Value.bool ?_;simp;omega)|(refine congrArg Value.bool ?_;simp [hz];done))
   . exact aJ (vD 19 1)
   . exact sk
   . exact sk
   . exact sk
   . exact cM (vD 20 2) (eU 23 5)
   . trivial
 . intro vs W hW hp;rw [aF];exact hend _ W sQ hW (sW (hp 6 sB))
theorem aKj(z y:Int)(hz:¬ z < 1)(gz:Nat)(hb:aM w gz 2 #[.int .i64 z])(hsz:a.tmps.size=49)(o1:Sl a 1 (.int .i64 y))(o4:Sl a 4 (Pq gz 0)):bC false 1 f75 Q a w fun a' W q'=>Kp [] w W->Sl a' 24 (.bool (decide (y < z)))->q':=by
 intro hend;have hap:=pa 1 f75;refine aH (l:=(aK 1 f75)) (fun i v W=>match i with|0=>v=.int .i64 z|1=>v=.bool false|2=>v=.bool false|3=>v=.int .i64 z|4=>v=.int .i64 y|5=>v=.bool (decide (y < z))|6=>v=.bool (decide (y < z))|_=>True) hap ?_ ?_ ?_
 . exact fun _ _ _ _ h _=>h
 . and_intros <;> try (intro vs A' W hA hW hd hu K hK;try (refine aL _ rfl rfl ?_;conv=>arg 2;whnf))
   . have c0:W.cell? ⟨gz,0,none⟩=some (.int .i64 z):=(hb.k0 hW).cell 0;exact aJ (eO 4 o4)
   . have e18:=vD 18 0;clear hA hd hu o1 o4;go_step;exact hK _ _ kR (by first|rfl|(refine congrArg Value.bool ?_;simp;omega)|(refine congrArg Value.bool ?_;simp [hz];done))
   . exact aJ (vD 19 1)
   . refine qH ?_;(conv=>arg 2;whnf);have c0:W.cell? ⟨gz,0,none⟩=some (.int .i64 z):=(hb.k0 hW).cell 0;exact aJ (eO 4 o4)
   . exact cC (eO 1 o1)
   . exact xZ (vD 21 3) (vD 22 4)
   . exact cM (vD 20 2) (vD 23 5)
   . trivial
 . intro vs W hW hp;rw [aF];exact hend _ W sQ hW (sW (hp 6 sB))
theorem aG7(w0:World)(g8 g9:Nat)(L:List Res)(S:Held w0 w (aB g8 23 (aA (List.replicate 32 0)) :: aB g9 23 (aA (List.replicate 32 0)) :: L))(hsz:a.tmps.size=49)(o8:Sl a 8 (Pq g8 0))(o9:Sl a 9 (Pq g9 0)):bC false 2 f75 Q a w fun a' W q'=>Sl a' 10 (.int .i64 (4:Int))->(Held w0 W (aB g8 23 (aA (List.replicate 32 0)) :: aB g9 23 (aA (List.replicate 32 0)) :: L))->q':=by
 refine bU fun hend=>?_;unfold Sl at o8 o9;have S:=LH S;have HB0:=LH bCb;have hcz:Hid ((aA (List.replicate 32 0)).size=32):=LH rfl;have Ocz:=LH (aI (List.replicate 32 0));generalize (aA (List.replicate 32 0))=cz at *;go_wp2_with (first|(refine bR rfl 23 _ rfl [] (by simp [Act.eval,Act.put]) _ HB0.out ?_)|(refine aD rfl 23 (.tmp 8) (.tmp 25) rfl g8 (aO o8) cz aE 23 _ (S.out.at_ (l1:=[])) (by rw [hcz.out];exact bBy) (rfl) Ocz.out ?_;intro w7 b7 k7;have S7:=LH (Held.setBlk (l1:=[]) S.out b7 k7);clear b7 k7)|(refine aD rfl 23 (.tmp 9) (.tmp 26) rfl g9 (aO o9) cz aE 23 _ (S7.out.at_ (l1:=[_])) (by rw [hcz.out];exact bBy) (rfl) Ocz.out ?_;intro w7 b7 k7;have S8:=LH (Held.setBlk (l1:=[_]) S7.out b7 k7);clear b7 k7))
 try simp only [Act.put]
 exact hend _ _ tS sP (S8.out)
theorem aWj(w0:World)(g8 g9:Nat)(L:List Res)(S:Held w0 w (aB g8 23 (aA (List.replicate 32 0)) :: aB g9 23 (aA (List.replicate 32 0)) :: L))(hsz:a.tmps.size=49)(o8:Sl a 8 (Pq g8 0))(o9:Sl a 9 (Pq g9 0)):bC false 5 f75 Q a w fun a' W q'=>Sl a' 10 (.int .i64 (220:Int))->(Held w0 W (aB g8 23 (aA (List.replicate 32 0)) :: aB g9 23 (aA (List.replicate 32 0)) :: L))->q':=by
 refine bU fun hend=>?_;unfold Sl at o8 o9;have S:=LH S;have HB0:=LH bCb;have hcz:Hid ((aA (List.replicate 32 0)).size=32):=LH rfl;have Ocz:=LH (aI (List.replicate 32 0));generalize (aA (List.replicate 32 0))=cz at *;go_wp2_with (first|(refine bR rfl 23 _ rfl [] (by simp [Act.eval,Act.put]) _ HB0.out ?_)|(refine aD rfl 23 (.tmp 8) (.tmp 37) rfl g8 (aO o8) cz aE 23 _ (S.out.at_ (l1:=[])) (by rw [hcz.out];exact bBy) (rfl) Ocz.out ?_;intro w7 b7 k7;have S7:=LH (Held.setBlk (l1:=[]) S.out b7 k7);clear b7 k7)|(refine aD rfl 23 (.tmp 9) (.tmp 38) rfl g9 (aO o9) cz aE 23 _ (S7.out.at_ (l1:=[_])) (by rw [hcz.out];exact bBy) (rfl) Ocz.out ?_;intro w7 b7 k7;have S8:=LH (Held.setBlk (l1:=[_]) S7.out b7 k7);clear b7 k7))
 try simp only [Act.put]
 exact hend _ _ tS sP (S8.out)
theorem aPb(g4 q:Nat)(z y x:Int)(hb:aM w g4 2 #[.int .i64 z])(HC0:Calls prog 107 #[.int .i64 z,.int .i64 y] w fun e w'=>e=.returned (.tuple #[Nq q,.int .i64 x]) ∧ Kp [] w w')(hsz:a.tmps.size=49)(o1:Sl a 1 (.int .i64 y))(o4:Sl a 4 (Pq g4 0)):bC false 3 f75 Q a w fun a' W q'=>Sl a' 11 (Nq q)->(Kp [] w W)->q':=by
 refine bU fun hend=>?_;unfold Sl at o1 o4;have HC:=LH HC0;clear HC0;have c0:w.cell? ⟨g4,0,none⟩=some (.int .i64 z):=hb.cell 0;clear hb;go_wp2_with fail
 refine HC.out.mono ?_;rintro e w1 ⟨rfl,k1⟩;have k1:=LH k1;go_wp2_with fail
 try simp only [Act.put]
 exact hend _ _ tS sP (k1.out)
theorem aWq(g7 q n c:Nat)(A:Option Addr)(hb:aM w g7 29 #[.slice A n c])(hsz:a.tmps.size=49)(o7:Sl a 7 (Pq g7 0))(o11:Sl a 11 (Nq q)):bK 4 f75 Q a w fun a' q'=>Sl a' 36 (.bool ((q:Int) != (n:Int)))->q':=by
 have c0:w.cell? ⟨g7,0,none⟩=some (.slice A n c):=hb.cell 0;exact rO
theorem aUz(w0:World)(L:List Res)(S:Held w0 w L)(hsz:a.tmps.size=49):bC false 6 f75 Q a w fun a' W q'=>(∃ g,Sl a' 13 (Pq g 0) ∧ Held w0 W (aB g 3 #[Nq 0] :: L))->q':=by
 refine bU fun hend=>?_;have S1:=LH (S.newBlk 3 #[Nq 0]);go_wp2_with fail
 try simp only [Act.put]
 exact hend _ _ tS (⟨_,cH,S1.out⟩)
theorem aVm(w0:World)(gn gp:Nat)(L:List Res)(S:Held w0 w L)(hsz:a.tmps.size=49)(o7:Sl a 7 (Pq gp 0))(o13:Sl a 13 (Pq gn 0)):bC false 7 f75 Q a w fun a' W q'=>(∃ g,Sl a' 14 (Pq g 0) ∧ Held w0 W (aB g 131 #[.func (.func 108) #[] #[Pq gn 0,Pq gp 0]] :: L))->q':=by
 refine bU fun hend=>?_;unfold Sl at o7 o13;have S1:=LH (S.newBlk 131 #[.func (.func 108) #[] #[Pq gn 0,Pq gp 0]]);go_wp2_with fail
 try simp only [Act.put]
 exact hend _ _ tS (⟨_,cH,S1.out⟩)
theorem aSu(w0:World)(L:List Res)(S:Held w0 w L)(hsz:a.tmps.size=49):bC false 8 f75 Q a w fun a' W q'=>(∃ g,Sl a' 15 (Pq g 0) ∧ Held w0 W (aB g 162 #[.nilFunc] :: L))->q':=by
 refine bU fun hend=>?_;have S1:=LH (S.newBlk 162 #[.nilFunc]);go_wp2
 try simp only [Act.put]
 exact hend _ _ tS (⟨w.heap.size,cH,S1.out⟩)
theorem aOr(w0:World)(g3 g4 g5 g6:Nat)(L:List Res)(S:Held w0 w (aB g6 162 #[.nilFunc] :: L))(hsz:a.tmps.size=49)(o4:Sl a 4 (Pq g3 0))(o6:Sl a 6 (Pq g4 0))(o14:Sl a 14 (Pq g5 0))(o15:Sl a 15 (Pq g6 0)):bC false 9 f75 Q a w fun a' W q'=>(Held w0 W (aB g6 162 #[.func (.func 109) #[] #[Pq g3 0,Pq g4 0,Pq g5 0,Pq g6 0]] :: L))->q':=by
 refine bU fun hend=>?_;unfold Sl at o4 o6 o14 o15;have S:=LH S;obtain ⟨c1,c2,c3⟩:=aM.c1 (S.out.at_ (l1:=[]));have S1:=LH (S.out.set (l1:=[]) 0 (.func (.func 109) #[] #[Pq g3 0,Pq g4 0,Pq g5 0,Pq g6 0]));go_wp2_with fail
 try simp only [Act.put]
 exact hend _ _ tS (S1.out)
theorem aM7(w0:World)(g3 g4 g5 g6:Nat)(zb:Int)(hb:aM w g6 162 #[.func (.func 109) #[] #[Pq g3 0,Pq g4 0,Pq g5 0,Pq g6 0]])(x y:Bs)(hx32:x.length=32)(hy32:y.length=32)(L:List Res)(HC0:Calls prog 109 #[.int .i64 0,.int .i64 zb,.bool true,Pq g3 0,Pq g4 0,Pq g5 0,Pq g6 0] w fun e w'=>e=.returned (.tuple #[.agg (aA x),.agg (aA y)]) ∧ Held w0 w' L)(hsz:a.tmps.size=49)(o1:Sl a 1 (.int .i64 zb))(o15:Sl a 15 (Pq g6 0)):bC false 10 f75 Q a w fun a' W q'=>(∃ g7 g8,Sl a' 16 (Pq g7 0) ∧ Sl a' 17 (Pq g8 0) ∧ Held w0 W (aB g8 23 (aA y) :: aB g7 23 (aA x) :: L))->q':=by
 refine bU fun hend=>?_;unfold Sl at o1 o15;have hca:Hid ((aA (x)).size=32):=LH (by rw [aC,hx32]);have Oca:=LH (aI (x));obtain ⟨ca,Eca⟩:∃ cs,Hid (aA (x)=cs):=⟨_,LH rfl⟩;rw [Eca.out] at hca Oca;have hcb:Hid ((aA (y)).size=32):=LH (by rw [aC,hy32]);have Ocb:=LH (aI (y));obtain ⟨cb,Ecb⟩:∃ cs,Hid (aA (y)=cs):=⟨_,LH rfl⟩;rw [Ecb.out] at hcb Ocb;rw [Eca.out,Ecb.out] at HC0;have HC:=LH HC0;clear HC0;have c0:w.cell? ⟨g6,0,none⟩=some (.func (.func 109) #[] #[Pq g3 0,Pq g4 0,Pq g5 0,Pq g6 0]):=hb.cell 0;clear hb;go_wp2_with fail
 refine HC.out.mono ?_;rintro e w1 ⟨rfl,S1⟩;have S2:=LH ((S1.newBlk 23 (aA (List.replicate 32 0))).newBlkN 23 (aA (List.replicate 32 0)) (g:=w1.heap.size+1) (by simp));clear S1;go_wp2_with (first|(refine aD rfl 23 (.tmp 16) (.tmp 45) rfl w1.heap.size aE ca aE 23 _ (S2.out.at_ (l1:=[_])) (by rw [hca.out];exact bBy) (by rw [hca.out];rfl) Oca.out ?_;intro w7 b7 k7;have S7:=LH (Held.setBlk (l1:=[_]) S2.out b7 k7);clear b7 k7)|(refine aD rfl 23 (.tmp 17) (.tmp 46) rfl (w1.heap.size+1) aE cb aE 23 _ (S7.out.at_ (l1:=[])) (by rw [hcb.out];exact bBy) (by rw [hcb.out];rfl) Ocb.out ?_;intro w7 b7 k7;have S8:=LH (Held.setBlk (l1:=[]) S7.out b7 k7);clear b7 k7))
 rw [<- Eca.out,<- Ecb.out] at S8
 try simp only [Act.put]
 exact hend _ _ tS (⟨_,_,cH,cH,S8.out⟩)
theorem aLt(w0:World)(g8 g9 g16 g17:Nat)(x y:Bs)(hx32:x.length=32)(hy32:y.length=32)(L:List Res)(hsz:a.tmps.size=49)(o8:Sl a 8 (Pq g8 0))(o9:Sl a 9 (Pq g9 0))(o16:Sl a 16 (Pq g16 0))(o17:Sl a 17 (Pq g17 0))
 (S0:Held w0 w (aB g8 23 (aA (List.replicate 32 0)) :: aB g9 23 (aA (List.replicate 32 0)) :: aB g16 23 (aA x) :: aB g17 23 (aA y) :: L)):bC true 11 f75 Q a w fun a' W q'=>Sl a' 10 (.int .i64 (0:Int))->Held w0 W (aB g8 23 (aA x) :: aB g9 23 (aA y) :: aB g16 23 (aA x) :: aB g17 23 (aA y) :: L)->q':=by
 intro hend;have hap:=pa 11 f75
 refine aP (Γ:=Unit) (l:=(aK 11 f75)) 5 [0,1,2,3,4,7,8,9]
  (fun i vs gs=>match i with|0=>vs 0=.agg (aA x)|1=>vs 1=.agg (aA y)|4=>vs 4=.int .i64 (0:Int)|_=>True)
  (fun i vs gs=>match i with|2=>[aB g8 23 (aA x)]|3=>[aB g9 23 (aA y)]|5=>[aB g8 23 (aA (List.replicate 32 0))]|6=>[aB g9 23 (aA (List.replicate 32 0))]|7=>[aB g16 23 (aA x)]|8=>[aB g17 23 (aA y)]|9=>L|_=>[])
  (fun i=>match i with|2=>[5]|3=>[6]|_=>[]) (fun i=>match i with|0=>[7]|1=>[8]|_=>[]) S0 (by kernel_rfl) hap (by kernel_rfl) (by kernel_rfl) (fun i=>match i with|0=>[0]|1=>[1]|4=>[4]|_=>[]) (by kernel_rfl) ?_ (by kernel_rfl) ?_ ?_ ?_
 . exact lA
 . exact pA
 . clear S0 hend
   and_intros <;> try intro vs gs A' W LF hA S hR hd hu K hK
   . exact dC (aA x) (eO 16 o16) (aM.agg (show aM W g16 23 (aA x) from S.ok (aB g16 23 (aA x)) (hR 7 (by simp) _ (List.mem_singleton.2 rfl)))) underlying23 (by rw [aC,hx32];exact bBy)
   . exact dC (aA y) (eO 17 o17) (aM.agg (show aM W g17 23 (aA y) from S.ok (aB g17 23 (aA y)) (hR 8 (by simp) _ (List.mem_singleton.2 rfl)))) underlying23 (by rw [aC,hy32];exact bBy)
   . replace hK:=hK default;have e8:=eO 8 o8;have e47:=vD 47 0;clear hA o8 o9 o16 o17;have S1:Held w0 W (aB g8 23 (aA (List.replicate 32 0)) :: LF):=S;refine aZ (.tmp 8) (.tmp 47) 23 rfl g8 (by simpa [Act.eval] using e8) (aA (x)) (by simpa [Act.eval] using e47) 23 (aA (List.replicate 32 0)) S1 (by rw [aC,hx32];exact bBy) (by rw [aC,aC,hx32,List.length_replicate]) (aI _) ?_;intro w' S2;exact hK _ _ S2 trivial
   . replace hK:=hK default;have e9:=eO 9 o9;have e48:=vD 48 1;clear hA o8 o9 o16 o17;have S1:Held w0 W (aB g9 23 (aA (List.replicate 32 0)) :: LF):=S;refine aZ (.tmp 9) (.tmp 48) 23 rfl g9 (by simpa [Act.eval] using e9) (aA (y)) (by simpa [Act.eval] using e48) 23 (aA (List.replicate 32 0)) S1 (by rw [aC,hy32];exact bBy) (by rw [aC,aC,hy32,List.length_replicate]) (aI _) ?_;intro w' S2;exact hK _ _ S2 trivial
   . exact lK
   . trivial
 . intro vs gs W S hp;have S:Held w0 W (aB g8 23 (aA x) :: aB g9 23 (aA y) :: aB g16 23 (aA x) :: aB g17 23 (aA y) :: L):=by simpa only [List.flatMap_cons,List.flatMap_nil,List.append_nil,List.nil_append,List.cons_append,List.append_assoc] using S
   rw [aF];exact hend _ W sQ (sW (hp 4 sB)) S
theorem aV6(w0:World)(xa:Array Value)(L:List Res)(S:Held w0 w L)(hsz:a.tmps.size=47)(o2:Sl a 2 (.agg xa)):bC false 0 f80 Q a w fun a' W q'=>Sl a' 10 (.int .i64 (0:Int))->(∃ g6 g8 g9,Sl a' 6 (Pq g6 0) ∧ Sl a' 8 (Pq g8 0) ∧ Sl a' 9 (Pq g9 0) ∧ Held w0 W (aB g9 23 (aA (List.replicate 32 0)) :: aB g8 23 (aA (List.replicate 32 0)) :: aB g6 23 xa :: L))->q':=by
 refine bU fun hend=>?_;unfold Sl at o2;have S1:=LH (((S.newBlk 23 xa).newBlkN 23 (aA (List.replicate 32 0)) (g:=w.heap.size+1) (by simp)).newBlkN 23 (aA (List.replicate 32 0)) (g:=w.heap.size+2) (by simp));go_wp2
 try simp only [Act.put]
 exact hend _ _ tS sP (⟨w.heap.size,w.heap.size+1,w.heap.size+2,cH,cH,cH,S1.out⟩)
theorem aIb(z y:Int)(hz:z < 1)(hsz:a.tmps.size=47)(o0:Sl a 0 (.int .i64 z))(o1:Sl a 1 (.int .i64 y)):bC false 1 f80 Q a w fun a' W q'=>Kp [] w W->Sl a' 21 (.bool true)->q':=by
 intro hend;have hap:=pa 1 f80;refine aH (l:=(aK 1 f80)) (fun i v W=>match i with|0=>v=.int .i64 z|1=>v=.bool true|2=>v=.bool true|6=>v=.bool true|_=>True) hap ?_ ?_ ?_
 . exact fun _ _ _ _ h _=>h
 . and_intros <;> try (intro vs A' W hA hW hd hu K hK;try (refine aL _ rfl rfl ?_;conv=>arg 2;whnf))
   . exact aJ (eO 0 o0)
   . have e15:=vD 15 0;clear hA hd hu o0 o1;go_step;exact hK _ _ kR (by first|rfl|(refine congrArg Value.bool ?_;simp;omega)|(refine congrArg Value.bool ?_;simp [hz];done))
   . exact aJ (vD 16 1)
   . exact sk
   . exact sk
   . exact sk
   . exact cM (vD 17 2) (eU 20 5)
   . trivial
 . intro vs W hW hp;rw [aF];exact hend _ W sQ hW (sW (hp 6 sB))
theorem aIc(z y:Int)(hz:¬ z < 1)(hsz:a.tmps.size=47)(o0:Sl a 0 (.int .i64 z))(o1:Sl a 1 (.int .i64 y)):bC false 1 f80 Q a w fun a' W q'=>Kp [] w W->Sl a' 21 (.bool (decide (y < z)))->q':=by
 intro hend;have hap:=pa 1 f80;refine aH (l:=(aK 1 f80)) (fun i v W=>match i with|0=>v=.int .i64 z|1=>v=.bool false|2=>v=.bool false|3=>v=.int .i64 z|4=>v=.int .i64 y|5=>v=.bool (decide (y < z))|6=>v=.bool (decide (y < z))|_=>True) hap ?_ ?_ ?_
 . exact fun _ _ _ _ h _=>h
 . and_intros <;> try (intro vs A' W hA hW hd hu K hK;try (refine aL _ rfl rfl ?_;conv=>arg 2;whnf))
   . exact aJ (eO 0 o0)
   . have e15:=vD 15 0;clear hA hd hu o0 o1;go_step;exact hK _ _ kR (by first|rfl|(refine congrArg Value.bool ?_;simp;omega)|(refine congrArg Value.bool ?_;simp [hz];done))
   . exact aJ (vD 16 1)
   . exact cC (eO 0 o0)
   . exact cC (eO 1 o1)
   . exact xZ (vD 18 3) (vD 19 4)
   . exact cM (vD 17 2) (vD 20 5)
   . trivial
 . intro vs W hW hp;rw [aF];exact hend _ W sQ hW (sW (hp 6 sB))
theorem aEr(w0:World)(g8 g9:Nat)(L:List Res)(S:Held w0 w (aB g8 23 (aA (List.replicate 32 0)) :: aB g9 23 (aA (List.replicate 32 0)) :: L))(hsz:a.tmps.size=47)(o8:Sl a 8 (Pq g8 0))(o9:Sl a 9 (Pq g9 0)):bC false 2 f80 Q a w fun a' W q'=>Sl a' 10 (.int .i64 (4:Int))->(Held w0 W (aB g8 23 (aA (List.replicate 32 0)) :: aB g9 23 (aA (List.replicate 32 0)) :: L))->q':=by
 refine bU fun hend=>?_;unfold Sl at o8 o9;have S:=LH S;have HB0:=LH bCb;have hcz:Hid ((aA (List.replicate 32 0)).size=32):=LH rfl;have Ocz:=LH (aI (List.replicate 32 0));generalize (aA (List.replicate 32 0))=cz at *;go_wp2_with (first|(refine bR rfl 23 _ rfl [] (by simp [Act.eval,Act.put]) _ HB0.out ?_)|(refine aD rfl 23 (.tmp 8) (.tmp 22) rfl g8 (aO o8) cz aE 23 _ (S.out.at_ (l1:=[])) (by rw [hcz.out];exact bBy) (rfl) Ocz.out ?_;intro w7 b7 k7;have S7:=LH (Held.setBlk (l1:=[]) S.out b7 k7);clear b7 k7)|(refine aD rfl 23 (.tmp 9) (.tmp 23) rfl g9 (aO o9) cz aE 23 _ (S7.out.at_ (l1:=[_])) (by rw [hcz.out];exact bBy) (rfl) Ocz.out ?_;intro w7 b7 k7;have S8:=LH (Held.setBlk (l1:=[_]) S7.out b7 k7);clear b7 k7))
 try simp only [Act.put]
 exact hend _ _ tS sP (S8.out)
theorem aQ7(w0:World)(g8 g9:Nat)(L:List Res)(S:Held w0 w (aB g8 23 (aA (List.replicate 32 0)) :: aB g9 23 (aA (List.replicate 32 0)) :: L))(hsz:a.tmps.size=47)(o8:Sl a 8 (Pq g8 0))(o9:Sl a 9 (Pq g9 0)):bC false 5 f80 Q a w fun a' W q'=>Sl a' 10 (.int .i64 (220:Int))->(Held w0 W (aB g8 23 (aA (List.replicate 32 0)) :: aB g9 23 (aA (List.replicate 32 0)) :: L))->q':=by
 refine bU fun hend=>?_;unfold Sl at o8 o9;have S:=LH S;have HB0:=LH bCb;have hcz:Hid ((aA (List.replicate 32 0)).size=32):=LH rfl;have Ocz:=LH (aI (List.replicate 32 0));generalize (aA (List.replicate 32 0))=cz at *;go_wp2_with (first|(refine bR rfl 23 _ rfl [] (by simp [Act.eval,Act.put]) _ HB0.out ?_)|(refine aD rfl 23 (.tmp 8) (.tmp 35) rfl g8 (aO o8) cz aE 23 _ (S.out.at_ (l1:=[])) (by rw [hcz.out];exact bBy) (rfl) Ocz.out ?_;intro w7 b7 k7;have S7:=LH (Held.setBlk (l1:=[]) S.out b7 k7);clear b7 k7)|(refine aD rfl 23 (.tmp 9) (.tmp 36) rfl g9 (aO o9) cz aE 23 _ (S7.out.at_ (l1:=[_])) (by rw [hcz.out];exact bBy) (rfl) Ocz.out ?_;intro w7 b7 k7;have S8:=LH (Held.setBlk (l1:=[_]) S7.out b7 k7);clear b7 k7))
 try simp only [Act.put]
 exact hend _ _ tS sP (S8.out)
theorem aQr(m n x:Int)(R:Value->World->Prop)(HC0:Calls prog 112 #[.int .i64 m,.int .i64 n] w fun e w'=>∃ v,e=.returned (.tuple #[v,.int .i64 x]) ∧ R v w')(hsz:a.tmps.size=47)(o0:Sl a 0 (.int .i64 m))(o1:Sl a 1 (.int .i64 n)):bC false 3 f80 Q a w fun a' W q'=>(∃ v,Sl a' 11 v ∧ R v W)->q':=by
 refine bU fun hend=>?_;unfold Sl at o0 o1;have HC:=LH HC0;clear HC0;go_wp2_with fail
 refine HC.out.mono ?_;rintro e w1 ⟨v,rfl,r1⟩;have r1:=LH r1;go_wp2_with fail
 try simp only [Act.put]
 exact hend _ _ tS (⟨v,cH,r1.out⟩)
theorem aWb(A B:Option Addr)(q d n c:Nat)(hsz:a.tmps.size=47)(o3:Sl a 3 (.slice A n c))(o11:Sl a 11 (.slice B q d)):bK 4 f80 Q a w fun a' q'=>Sl a' 34 (.bool ((q:Int) != (n:Int)))->q':=rO
theorem aW6(w0:World)(g6:Nat)(z y2:Int)(f:Bs)(hf32:f.length=32)(sl:Value)(hb:aM w g6 23 (aA f))(x y:Bs)(hx32:x.length=32)(hy32:y.length=32)(L:List Res)(HC0:Calls prog 113 #[.int .i64 z,.int .i64 y2,.bool true,.agg (aA f),sl] w fun e w'=>e=.returned (.tuple #[.agg (aA x),.agg (aA y)]) ∧ Held w0 w' L)(hsz:a.tmps.size=47)(o0:Sl a 0 (.int .i64 z))(o1:Sl a 1 (.int .i64 y2))(o3:Sl a 3 (sl))(o6:Sl a 6 (Pq g6 0)):bC false 6 f80 Q a w fun a' W q'=>(∃ g7 g8,Sl a' 13 (Pq g7 0) ∧ Sl a' 14 (Pq g8 0) ∧ Held w0 W (aB g8 23 (aA y) :: aB g7 23 (aA x) :: L))->q':=by
 refine bU fun hend=>?_;unfold Sl at o0 o1 o3 o6;have hca:Hid ((aA (x)).size=32):=LH (by rw [aC,hx32]);have Oca:=LH (aI (x));obtain ⟨ca,Eca⟩:∃ cs,Hid (aA (x)=cs):=⟨_,LH rfl⟩;rw [Eca.out] at hca Oca;have hcb:Hid ((aA (y)).size=32):=LH (by rw [aC,hy32]);have Ocb:=LH (aI (y));obtain ⟨cb,Ecb⟩:∃ cs,Hid (aA (y)=cs):=⟨_,LH rfl⟩;rw [Ecb.out] at hcb Ocb;rw [Eca.out,Ecb.out] at HC0;have HC:=LH HC0;clear HC0;have hcf:Hid ((aA (f)).size=32):=LH (by rw [aC,hf32]);have Ocf:=LH (aI (f));obtain ⟨cf,Ecf⟩:∃ cs,Hid (aA (f)=cs):=⟨_,LH rfl⟩;rw [Ecf.out] at hcf Ocf;rw [Ecf.out] at HC hb;have HB:=LH hb;clear hb;go_wp2_with (refine aQ rfl 23 (.tmp 6) rfl g6 (aO o6) 23 _ HB.out _ underlying23 rfl (by rw [hcf.out];exact bBy) ?_)
 refine HC.out.mono ?_;rintro e w1 ⟨rfl,S1⟩;have S2:=LH ((S1.newBlk 23 (aA (List.replicate 32 0))).newBlkN 23 (aA (List.replicate 32 0)) (g:=w1.heap.size+1) (by simp));clear S1;go_wp2_with (first|(refine aD rfl 23 (.tmp 13) (.tmp 43) rfl w1.heap.size aE ca aE 23 _ (S2.out.at_ (l1:=[_])) (by rw [hca.out];exact bBy) (by rw [hca.out];rfl) Oca.out ?_;intro w7 b7 k7;have S7:=LH (Held.setBlk (l1:=[_]) S2.out b7 k7);clear b7 k7)|(refine aD rfl 23 (.tmp 14) (.tmp 44) rfl (w1.heap.size+1) aE cb aE 23 _ (S7.out.at_ (l1:=[])) (by rw [hcb.out];exact bBy) (by rw [hcb.out];rfl) Ocb.out ?_;intro w7 b7 k7;have S8:=LH (Held.setBlk (l1:=[]) S7.out b7 k7);clear b7 k7))
 rw [<- Eca.out,<- Ecb.out] at S8
 try simp only [Act.put]
 exact hend _ _ tS (⟨_,_,cH,cH,S8.out⟩)
theorem aZ1(w0:World)(g8 g9 g13 g14:Nat)(x y:Bs)(hx32:x.length=32)(hy32:y.length=32)(L:List Res)(hsz:a.tmps.size=47)(o8:Sl a 8 (Pq g8 0))(o9:Sl a 9 (Pq g9 0))(o13:Sl a 13 (Pq g13 0))(o14:Sl a 14 (Pq g14 0))
 (S0:Held w0 w (aB g8 23 (aA (List.replicate 32 0)) :: aB g9 23 (aA (List.replicate 32 0)) :: aB g13 23 (aA x) :: aB g14 23 (aA y) :: L)):bC true 7 f80 Q a w fun a' W q'=>Sl a' 10 (.int .i64 (0:Int))->Held w0 W (aB g8 23 (aA x) :: aB g9 23 (aA y) :: aB g13 23 (aA x) :: aB g14 23 (aA y) :: L)->q':=by
 intro hend;have hap:=pa 7 f80
 refine aP (Γ:=Unit) (l:=(aK 7 f80)) 5 [0,1,2,3,4,7,8,9]
  (fun i vs gs=>match i with|0=>vs 0=.agg (aA x)|1=>vs 1=.agg (aA y)|4=>vs 4=.int .i64 (0:Int)|_=>True)
  (fun i vs gs=>match i with|2=>[aB g8 23 (aA x)]|3=>[aB g9 23 (aA y)]|5=>[aB g8 23 (aA (List.replicate 32 0))]|6=>[aB g9 23 (aA (List.replicate 32 0))]|7=>[aB g13 23 (aA x)]|8=>[aB g14 23 (aA y)]|9=>L|_=>[])
  (fun i=>match i with|2=>[5]|3=>[6]|_=>[]) (fun i=>match i with|0=>[7]|1=>[8]|_=>[]) S0 (by kernel_rfl) hap (by kernel_rfl) (by kernel_rfl) (fun i=>match i with|0=>[0]|1=>[1]|4=>[4]|_=>[]) (by kernel_rfl) ?_ (by kernel_rfl) ?_ ?_ ?_
 . exact lA
 . exact pA
 . clear S0 hend
   and_intros <;> try intro vs gs A' W LF hA S hR hd hu K hK
   . exact dC (aA x) (eO 13 o13) (aM.agg (show aM W g13 23 (aA x) from S.ok (aB g13 23 (aA x)) (hR 7 (by simp) _ (List.mem_singleton.2 rfl)))) underlying23 (by rw [aC,hx32];exact bBy)
   . exact dC (aA y) (eO 14 o14) (aM.agg (show aM W g14 23 (aA y) from S.ok (aB g14 23 (aA y)) (hR 8 (by simp) _ (List.mem_singleton.2 rfl)))) underlying23 (by rw [aC,hy32];exact bBy)
   . replace hK:=hK default;have e8:=eO 8 o8;have e45:=vD 45 0;clear hA o8 o9 o13 o14;have S1:Held w0 W (aB g8 23 (aA (List.replicate 32 0)) :: LF):=S;refine aZ (.tmp 8) (.tmp 45) 23 rfl g8 (by simpa [Act.eval] using e8) (aA (x)) (by simpa [Act.eval] using e45) 23 (aA (List.replicate 32 0)) S1 (by rw [aC,hx32];exact bBy) (by rw [aC,aC,hx32,List.length_replicate]) (aI _) ?_;intro w' S2;exact hK _ _ S2 trivial
   . replace hK:=hK default;have e9:=eO 9 o9;have e46:=vD 46 1;clear hA o8 o9 o13 o14;have S1:Held w0 W (aB g9 23 (aA (List.replicate 32 0)) :: LF):=S;refine aZ (.tmp 9) (.tmp 46) 23 rfl g9 (by simpa [Act.eval] using e9) (aA (y)) (by simpa [Act.eval] using e46) 23 (aA (List.replicate 32 0)) S1 (by rw [aC,hy32];exact bBy) (by rw [aC,aC,hy32,List.length_replicate]) (aI _) ?_;intro w' S2;exact hK _ _ S2 trivial
   . exact lK
   . trivial
 . intro vs gs W S hp;have S:Held w0 W (aB g8 23 (aA x) :: aB g9 23 (aA y) :: aB g13 23 (aA x) :: aB g14 23 (aA y) :: L):=by simpa only [List.flatMap_cons,List.flatMap_nil,List.append_nil,List.nil_append,List.cons_append,List.append_assoc] using S
   rw [aF];exact hend _ W sQ (sW (hp 4 sB)) S
end
section
open Go.RowKit Go.Shelf
theorem sE{P:Program}{fn:Func}{w:World}{tmps:Array Value}{a b t t2 g g2 u:Nat}{x:Value}{t' t2':TypeId}{cs cs2:Array Value}{d d2:TypeDesc}(h:fn.results=#[.cell a t,.cell b t2,.tmp u])(hx:tmps.getD u undef=x)(ha:tmps.getD a undef=Pq g 0)(hb:tmps.getD b undef=Pq g2 0)(h1:aM w g t' cs)(h2:aM w g2 t2' cs2)
 (hu:P.underlying t=some d) (hd:nW d=true) (hi:(P.info? t).map (·.size)=some cs.size) (hu2:P.underlying t2=some d2) (hd2:nW d2=true) (hi2:(P.info? t2).map (·.size)=some cs2.size):(results fn tmps).run P w=.ok (.tuple #[.agg cs,.agg cs2,x]) w:=by
 have hl:(loadCells ⟨g,0,none⟩ cs.size).run P w=.ok cs w:=by
  have:=run_loadCells_list (P:=P) w ⟨g,0,none⟩ cs.toList h1.agg
  simpa using this
 have hl2:(loadCells ⟨g2,0,none⟩ cs2.size).run P w=.ok cs2 w:=by
  have:=run_loadCells_list (P:=P) w ⟨g2,0,none⟩ cs2.toList h2.agg
  simpa using this
 cases hq:P.info? t with
 |none=>simp [hq] at hi
 |some i=>
  cases hq2:P.info? t2 with
  |none=>simp [hq2] at hi2
  |some i2=>
   have hs:i.size=cs.size:=by simpa [hq] using hi
   have hs2:i2.size=cs2.size:=by simpa [hq2] using hi2
   simp only [Array.getD_eq_getD_getElem?] at ha hb hx;simp [results,h,ha,hb,hx,loadVar,asAddr,Sem.run_bind,gX hu hd,gX hu2 hd2,sizeOf,typeInfo,hq,hq2,hs,hs2,hl,hl2]
def rR (m n:Int) (k:Nat):Nat:=if m < 1 ∨ n < m then 4 else if (oB m n).length ≠ k then 220 else 0
def tA (m n:Int) (first:Bs) (pf:List (List UInt8)):List UInt8 × List UInt8:=if rR m n pf.length=0 then nI m.toNat n.toNat first pf else (List.replicate 32 0,List.replicate 32 0)
theorem aBt{m n:Int}{k:Nat}(h:m < 1 ∨ n < m):rR m n k=4:=if_pos h
theorem aBx{m n:Int}{k:Nat}(h:¬ (m < 1 ∨ n < m))(h2:(oB m n).length ≠ k):rR m n k=220:=by unfold rR;rw [if_neg h,if_pos h2]
theorem aOg{m n:Int}{k:Nat}(h:¬ (m < 1 ∨ n < m))(h2:(oB m n).length=k):rR m n k=0:=by unfold rR;rw [if_neg h,if_neg (by omega)]
theorem aAh{m n:Int}{first:List UInt8}{pf:List (List UInt8)}(h:rR m n pf.length ≠ 0):tA m n first pf=(List.replicate 32 0,List.replicate 32 0):=if_neg h
theorem mT{m n:Int}{first:List UInt8}{pf:List (List UInt8)}(h:rR m n pf.length=0):tA m n first pf=nI m.toNat n.toNat first pf:=if_pos h
theorem aDn(m n:Int)(hn:n < 9223372036854775808)(first:Bs)(hf32:first.length=32)(A:Option Addr)(c:Nat)(pf:List (List UInt8))(hok:dP pf)(w:World)(hv:Rd w 32 (.slice A pf.length c) pf.length (dA pf)):
 Calls prog 75 #[.int .i64 m,.int .i64 n,.agg (aA first),.slice A pf.length c] w fun e w'=>e=.returned (.tuple #[.agg (aA (tA m n first pf).1),.agg (aA (tA m n first pf).2),Nq (rR m n pf.length)]) ∧ Kp [] w w':=by
 refine aR func75 rfl 49 rfl (fun a0 hsz hdf hAr=>?_);have hz0:a0.tmps.size=49:=hsz;have D:=hdf;have o0:=hAr 0 _ rfl;have o1:=hAr 1 _ rfl;have o2:=hAr 2 _ rfl;have o3:=hAr 3 _ rfl
 have hfail:∀ (a:Act) (W:World) (g8 g9 E:Nat) (L:List Res),a.tmps.size=49->a.defers=[]->Sl a 8 (Pq g8 0)->Sl a 9 (Pq g9 0)->Sl a 10 (.int .i64 (E:Int))->Held w W (aB g8 23 (aA (List.replicate 32 0)) :: aB g9 23 (aA (List.replicate 32 0)) :: L)->rR m n pf.length=E->E ≠ 0->bodyPost prog f75 (fun e w'=>e=.returned (.tuple #[.agg (aA (tA m n first pf).1),.agg (aA (tA m n first pf).2),Nq (rR m n pf.length)]) ∧ Kp [] w w') .ret a W:=by
  intro a W g8 g9 E L hs hd o8 o9 o10 S hE h0;rw [aAh (by rw [hE];exact h0),hE];exact bodyPost_ret (sE (by rfl) (o10.eval (by rw [hs];decide)) (o8.eval (by rw [hs];decide)) (o9.eval (by rw [hs];decide)) (S.at_ (l1:=[])) (S.at_ (l1:=[_])) underlying23 rfl (by exact bBy) underlying23 rfl (by exact bBy)) hd ⟨rfl,S.k⟩
 refine wp_seq (aSv w m _ A pf.length c [] (Held.start w) hz0 o0 o2 o3 (fun a1 w1 hs1 o10 h1=>?_));obtain ⟨hz1,D,o1⟩:=eY hs1 hz0 D o1;obtain ⟨g4,g6,g7,g8,g9,o4,o6,o7,o8,o9,S⟩:=h1
 by_cases hm:m < 1
 . skip
   refine wp_seq (wp_seq (aNn m n hm g4 (S.at_ (l1:=[_,_,_,_])) hz1 o1 o4 (fun a2 w2 hs2 k2 o24=>?_)));obtain ⟨hz2,D,o1,o4,o6,o7,o8,o9⟩:=jF hs2 hz1 D o1 o4 o6 o7 o8 o9;refine cS o24 ?_;have S:=((((((S.kp k2).pull 4 rfl).pull 4 rfl).pull 4 rfl).pull 3 rfl).pull 4 rfl);refine wp_seq (aG7 w g8 g9 _ S hz2 o8 o9 (fun a3 w9 hs3 o10 S=>?_));obtain ⟨hz3,D,o1,o4,o6,o7,o8,o9,o24⟩:=vQ hs3 hz2 D o1 o4 o6 o7 o8 o9 o24;refine wp_ret ?_
   try simp only [Exit.then]
   exact hfail a3 w9 g8 g9 4 _ hz3 D o8 o9 o10 S (aBt (.inl hm)) (by decide)
 . skip
   refine wp_seq (wp_seq (aKj m n hm g4 (S.at_ (l1:=[_,_,_,_])) hz1 o1 o4 (fun a2 w2 hs2 k2 o24=>?_)));obtain ⟨hz2,D,o1,o4,o6,o7,o8,o9⟩:=jF hs2 hz1 D o1 o4 o6 o7 o8 o9;have S:=S.kp k2
   by_cases hmn:n < m
   . refine cS o24 ?_ (by rw [decide_eq_true hmn]);have S:=(((((S.pull 4 rfl).pull 4 rfl).pull 4 rfl).pull 3 rfl).pull 4 rfl);refine wp_seq (aG7 w g8 g9 _ S hz2 o8 o9 (fun a3 w9 hs3 o10 S=>?_));obtain ⟨hz3,D,o1,o4,o6,o7,o8,o9,o24⟩:=vQ hs3 hz2 D o1 o4 o6 o7 o8 o9 o24;refine wp_ret ?_
     try simp only [Exit.then]
     exact hfail a3 w9 g8 g9 4 _ hz3 D o8 o9 o10 S (aBt (.inr hmn)) (by decide)
   . refine dD o24 (wp_skip ?_) (by rw [decide_eq_false hmn]);simp only [Exit.then];have hno:¬ (m < 1 ∨ n < m):=by omega
     refine wp_seq (wp_seq (aPb g4 _ m n _ (S.at_ (l1:=[_,_,_,_])) (aDj m n hn w2) hz2 o1 o4 (fun a3 w3 hs3 o11 k3=>?_)));obtain ⟨hz3,D,o1,o4,o6,o7,o8,o9⟩:=jF hs3 hz2 D o1 o4 o6 o7 o8 o9;have S:=S.kp k3;refine wp_seq (aWq g7 _ pf.length c A (S.at_ (l1:=[_,_])) hz3 o7 o11 (fun a4 hs4 o36=>?_));obtain ⟨hz4,D,o1,o4,o6,o7,o8,o9⟩:=jF hs4 hz3 D o1 o4 o6 o7 o8 o9
     by_cases hq:(oB m n).length=pf.length
     . have hqb:((((oB m n).length:Nat):Int) != ((pf.length:Nat):Int))=false:=by rw [hq];simp
       refine dD o36 (wp_skip ?_) (by rw [hqb]);simp only [Exit.then];have hC:=aOg hno hq;obtain ⟨mN,rfl⟩:=Int.eq_ofNat_of_zero_le (show 0<=m by omega);obtain ⟨nN,rfl⟩:=Int.eq_ofNat_of_zero_le (show 0<=n by omega);rw [lE (by omega) (by omega)] at hq;have hpl:pf.length<=65:=by rw [<- hq];exact dL 65 mN 0 nN true
       have hcle:(cU (64+1) mN 0 nN true).length<=pf.length:=Nat.le_of_eq hq;have hbo:=iH 64 0 mN nN true first pf hf32 hok hq.symm (by omega) (by omega) (by omega);have hV:tA (mN:Int) (nN:Int) first pf=eS 65 mN nN true first pf:=by rw [mT hC];unfold nI;simp
       refine wp_seq (aUz w _ S hz4 (fun a5 w5 hs5 h5=>?_));obtain ⟨hz5,D,o1,o4,o6,o7,o8,o9,o36⟩:=vQ hs5 hz4 D o1 o4 o6 o7 o8 o9 o36;obtain ⟨g13,o13,S⟩:=h5;refine wp_seq (aVm w g13 g7 _ S hz5 o7 o13 (fun a6 w6 hs6 h6=>?_));obtain ⟨hz6,D,o1,o4,o6,o8,o9⟩:=jJ hs6 hz5 D o1 o4 o6 o8 o9;obtain ⟨g14,o14,S⟩:=h6;refine wp_seq (aSu w _ S hz6 (fun a7 w7 hs7 h7=>?_));obtain ⟨hz7,D,o1,o4,o6,o8,o9,o14⟩:=jF hs7 hz6 D o1 o4 o6 o8 o9 o14;obtain ⟨g15,o15,S⟩:=h7;refine wp_seq (aOr w g4 g6 g14 g15 _ S hz7 o4 o6 o14 o15 (fun a8 w8 hs8 S=>?_));obtain ⟨hz8,D,o1,o8,o9,o15⟩:=fH hs8 hz7 D o1 o8 o9 o15;have S:=((((((((S.pull 3 rfl).pull 4 rfl).pull 2 rfl).pull 3 rfl).pull 6 rfl).pull 7 rfl).pull 7 rfl).pull 7 rfl)
       have S:Held w w8 (aB g13 3 #[Nq 0] :: aB g7 29 #[.slice A pf.length c] :: aB g4 2 #[Nq (0+mN)] :: aB g6 23 (aA first) :: aB g14 131 #[.func (.func 108) #[] #[Pq g13 0,Pq g7 0]] :: aB g15 162 #[.func (.func 109) #[] #[Pq g4 0,Pq g6 0,Pq g14 0,Pq g15 0]] :: [aB g8 23 (aA (List.replicate 32 0)),aB g9 23 (aA (List.replicate 32 0))]):=by
        rw [Nat.zero_add];exact S
       have HB:=pI w g13 g7 g4 g6 g14 g15 first hf32 A c pf hok (by omega) (fun V kV=>aT hv kV) 64 0 mN nN true _ w8 (by omega) (by omega) (by omega) (by omega) hcle S;rw [List.take_of_length_le (l:=pf) (Nat.le_of_eq hq.symm),Nat.zero_add nN] at HB;refine wp_seq (aM7 w g4 g6 g14 g15 (nN:Int) (S.at_ (l1:=[_,_,_,_,_])) _ _ hbo.1 hbo.2 _ HB hz8 o1 o15 (fun a9 w9 hs9 h9=>?_));obtain ⟨hz9,D,o8,o9⟩:=dU hs9 hz8 D o8 o9;obtain ⟨ga,gb,o16,o17,S⟩:=h9;have S:=((((S.pull 0 rfl).pull 1 rfl).pull 9 rfl).pull 9 rfl);refine wp_seq (aLt w g8 g9 ga gb _ _ hbo.1 hbo.2 _ hz9 o8 o9 o16 o17 S (fun a10 w10 hs10 o10 S=>?_));obtain ⟨hz10,D,o8,o9⟩:=dU hs10 hz9 D o8 o9;refine wp_ret ?_
       try simp only [Exit.then]
       rw [hV,hC];exact bodyPost_ret (sE (by rfl) (o10.eval (by rw [hz10];decide)) (o8.eval (by rw [hz10];decide)) (o9.eval (by rw [hz10];decide)) (S.at_ (l1:=[])) (S.at_ (l1:=[_])) underlying23 rfl (by rw [aC,hbo.1];exact bBy) underlying23 rfl (by rw [aC,hbo.2];exact bBy)) D ⟨rfl,S.k⟩
     . have hqb:((((oB m n).length:Nat):Int) != ((pf.length:Nat):Int))=true:=by simp;omega
       refine cS o36 ?_ (by rw [hqb]);have S:=(((((S.pull 4 rfl).pull 4 rfl).pull 4 rfl).pull 3 rfl).pull 4 rfl);refine wp_seq (aWj w g8 g9 _ S hz4 o8 o9 (fun a5 w9 hs5 o10 S=>?_));obtain ⟨hz5,D,o8,o9⟩:=dU hs5 hz4 D o8 o9;refine wp_ret ?_
       try simp only [Exit.then]
       exact hfail a5 w9 g8 g9 220 _ hz5 D o8 o9 o10 S (aBx hno hq) (by decide)
theorem aBm(m n:Int)(hn:n < 9223372036854775808)(first:Bs)(hf32:first.length=32)(A:Option Addr)(c:Nat)(pf:List (List UInt8))(hok:dP pf)(w:World)(hv:Rd w 32 (.slice A pf.length c) pf.length (dA pf)):
 Calls prog 80 #[.int .i64 m,.int .i64 n,.agg (aA first),.slice A pf.length c] w fun e w'=>e=.returned (.tuple #[.agg (aA (tA m n first pf).1),.agg (aA (tA m n first pf).2),Nq (rR m n pf.length)]) ∧ Kp [] w w':=by
 refine aR func80 rfl 47 rfl (fun a0 hsz hdf hAr=>?_);have hz0:a0.tmps.size=47:=hsz;have D:=hdf;have o0:=hAr 0 _ rfl;have o1:=hAr 1 _ rfl;have o2:=hAr 2 _ rfl;have o3:=hAr 3 _ rfl
 have hfail:∀ (a:Act) (W:World) (g8 g9 E:Nat) (L:List Res),a.tmps.size=47->a.defers=[]->Sl a 8 (Pq g8 0)->Sl a 9 (Pq g9 0)->Sl a 10 (.int .i64 (E:Int))->Held w W (aB g8 23 (aA (List.replicate 32 0)) :: aB g9 23 (aA (List.replicate 32 0)) :: L)->rR m n pf.length=E->E ≠ 0->bodyPost prog f80 (fun e w'=>e=.returned (.tuple #[.agg (aA (tA m n first pf).1),.agg (aA (tA m n first pf).2),Nq (rR m n pf.length)]) ∧ Kp [] w w') .ret a W:=by
  intro a W g8 g9 E L hs hd o8 o9 o10 S hE h0;rw [aAh (by rw [hE];exact h0),hE];exact bodyPost_ret (sE (by rfl) (o10.eval (by rw [hs];decide)) (o8.eval (by rw [hs];decide)) (o9.eval (by rw [hs];decide)) (S.at_ (l1:=[])) (S.at_ (l1:=[_])) underlying23 rfl (by exact bBy) underlying23 rfl (by exact bBy)) hd ⟨rfl,S.k⟩
 refine wp_seq (aV6 w _ [] (Held.start w) hz0 o2 (fun a1 w1 hs1 o10 h1=>?_));obtain ⟨hz1,D,o0,o1,o3⟩:=dF hs1 hz0 D o0 o1 o3;obtain ⟨g6,g8,g9,o6,o8,o9,S⟩:=h1
 by_cases hm:m < 1
 . skip
   refine wp_seq (wp_seq (aIb m n hm hz1 o0 o1 (fun a2 w2 hs2 k2 o21=>?_)));obtain ⟨hz2,D,o0,o1,o3,o6,o8,o9⟩:=jF hs2 hz1 D o0 o1 o3 o6 o8 o9;refine cS o21 ?_;have S:=((((S.kp k2).pull 2 rfl).pull 1 rfl).pull 2 rfl);refine wp_seq (aEr w g8 g9 _ S hz2 o8 o9 (fun a3 w9 hs3 o10 S=>?_));obtain ⟨hz3,D,o0,o1,o3,o6,o8,o9,o21⟩:=vQ hs3 hz2 D o0 o1 o3 o6 o8 o9 o21;refine wp_ret ?_
   try simp only [Exit.then]
   exact hfail a3 w9 g8 g9 4 _ hz3 D o8 o9 o10 S (aBt (.inl hm)) (by decide)
 . skip
   refine wp_seq (wp_seq (aIc m n hm hz1 o0 o1 (fun a2 w2 hs2 k2 o21=>?_)));obtain ⟨hz2,D,o0,o1,o3,o6,o8,o9⟩:=jF hs2 hz1 D o0 o1 o3 o6 o8 o9;have S:=S.kp k2
   by_cases hmn:n < m
   . refine cS o21 ?_ (by rw [decide_eq_true hmn]);have S:=(((S.pull 2 rfl).pull 1 rfl).pull 2 rfl);refine wp_seq (aEr w g8 g9 _ S hz2 o8 o9 (fun a3 w9 hs3 o10 S=>?_));obtain ⟨hz3,D,o0,o1,o3,o6,o8,o9,o21⟩:=vQ hs3 hz2 D o0 o1 o3 o6 o8 o9 o21;refine wp_ret ?_
     try simp only [Exit.then]
     exact hfail a3 w9 g8 g9 4 _ hz3 D o8 o9 o10 S (aBt (.inr hmn)) (by decide)
   . refine dD o21 (wp_skip ?_) (by rw [decide_eq_false hmn]);simp only [Exit.then];have hno:¬ (m < 1 ∨ n < m):=by omega
     refine wp_seq (aQr m n _ _ (aAn m n hn w2) hz2 o0 o1 (fun a3 w3 hs3 h3=>?_));obtain ⟨hz3,D,o0,o1,o3,o6,o8,o9⟩:=jF hs3 hz2 D o0 o1 o3 o6 o8 o9;obtain ⟨v,o11,S3⟩:=h3;obtain ⟨B,d,rfl,-,-⟩:=aS (S3.at_ (l1:=[]));have S:=S.kp S3.k;refine wp_seq (wp_seq (aWb A B _ d pf.length c hz3 o3 o11 (fun a4 hs4 o34=>?_)));obtain ⟨hz4,D,o0,o1,o3,o6,o8,o9⟩:=jF hs4 hz3 D o0 o1 o3 o6 o8 o9
     by_cases hq:(oB m n).length=pf.length
     . have hqb:((((oB m n).length:Nat):Int) != ((pf.length:Nat):Int))=false:=by rw [hq];simp
       refine dD o34 (wp_skip ?_) (by rw [hqb]);simp only [Exit.then];have hC:=aOg hno hq;obtain ⟨mN,rfl⟩:=Int.eq_ofNat_of_zero_le (show 0<=m by omega);obtain ⟨nN,rfl⟩:=Int.eq_ofNat_of_zero_le (show 0<=n by omega);rw [lE (by omega) (by omega)] at hq;have hpl:pf.length<=65:=by rw [<- hq];exact dL 65 mN 0 nN true
       have hcle:(cU (64+1) mN 0 nN true).length<=pf.length:=Nat.le_of_eq hq;have hbo:=iH 64 0 mN nN true first pf hf32 hok hq.symm (by omega) (by omega) (by omega);have hV:tA (mN:Int) (nN:Int) first pf=eS 65 mN nN true first pf:=by rw [mT hC];unfold nI;simp
       have HB:=pW first hf32 64 mN nN true A c pf w3 hok (by omega) (by omega) (by omega) (by omega) (by omega) hq.symm (aT hv S.k);have HB':=HB.mono (fun e w' h=>(⟨h.1,S.kp h.2⟩:e=_ ∧ Held w w' _));refine wp_seq (aW6 w g6 (mN:Int) (nN:Int) first hf32 _ (S.at_ (l1:=[_,_])) _ _ hbo.1 hbo.2 _ HB' hz4 o0 o1 o3 o6 (fun a5 w9 hs5 h9=>?_));obtain ⟨hz5,D,o8,o9,o34⟩:=dF hs5 hz4 D o8 o9 o34;obtain ⟨ga,gb,o13,o14,S⟩:=h9;have S:=((((S.pull 0 rfl).pull 1 rfl).pull 2 rfl).pull 3 rfl);refine wp_seq (aZ1 w g8 g9 ga gb _ _ hbo.1 hbo.2 _ hz5 o8 o9 o13 o14 S (fun a6 w10 hs6 o10 S=>?_));obtain ⟨hz6,D,o8,o9⟩:=dU hs6 hz5 D o8 o9;refine wp_ret ?_
       try simp only [Exit.then]
       rw [hV,hC];exact bodyPost_ret (sE (by rfl) (o10.eval (by rw [hz6];decide)) (o8.eval (by rw [hz6];decide)) (o9.eval (by rw [hz6];decide)) (S.at_ (l1:=[])) (S.at_ (l1:=[_])) underlying23 rfl (by rw [aC,hbo.1];exact bBy) underlying23 rfl (by rw [aC,hbo.2];exact bBy)) D ⟨rfl,S.k⟩
     . have hqb:((((oB m n).length:Nat):Int) != ((pf.length:Nat):Int))=true:=by simp;omega
       refine cS o34 ?_ (by rw [hqb]);have S:=(((S.pull 2 rfl).pull 1 rfl).pull 2 rfl);refine wp_seq (aQ7 w g8 g9 _ S hz4 o8 o9 (fun a5 w9 hs5 o10 S=>?_));obtain ⟨hz5,D,o8,o9⟩:=dU hs5 hz4 D o8 o9;refine wp_ret ?_
       try simp only [Exit.then]
       exact hfail a5 w9 g8 g9 220 _ hz5 D o8 o9 o10 S (aBx hno hq) (by decide)
end
end Go.Proofs.YtmkfopmdingaoaaGreatDoor
