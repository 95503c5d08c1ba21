/- Several texts in one: MirL, MirM, MirN, MirO, MirP, MirQ, MirR, MirS, MirT, MirU, MirV, MirX, MirY, MirZ, MiZA, MiZB, MiZC, MSt, MirW. -/
import Derived.Test.YtmkfopmdingaoaaGreatDoorP8
set_option linter.unusedVariables false
set_option linter.unusedSimpArgs false
set_option maxRecDepth 100000
set_option maxHeartbeats 8000000
namespace Go.Proofs.YtmkfopmdingaoaaGreatDoor
section
variable {Q:Exit->Act->World->Prop} {a:Act} {w:World}
open Go.RowKit Go.Shelf
attribute [local go_sem] Oper.semAt_some
theorem mhe_r0(w0:World)(cn:Array Value)(hcn:cn.size=34)(h1:∀ u,u ∈ cn.toList->u.oneCell'=true)(L:List Res)(S:Held w0 w L)(hsz:a.tmps.size=39)(o1:Sl a 1 (.agg cn)):RG1 false 0 Tryz.f18 Q a w fun a' W q'=>Sl a' 6 (.int .i64 (0:Int))->(∃ g4,Sl a' 4 (Pq g4 0) ∧ Held w0 W (blkR g4 28 cn :: L))->q':=by
 intro hend
 refine wp_region_lit ?_
 (conv=>arg 4;whnf)
 unfold Sl at o1
 have S1:=LH (S.newBlk 28 cn)
 have hcn:=LH hcn
 have h1:=LH h1
 go_wp2
 try simp only [Act.put]
 exact hend _ _ tS sP (⟨w.heap.size,sP0,S1.out⟩)
theorem mhe_r1(p:Value)(g4:Nat)(cn:Array Value)(hcn:cn.size=34)(hb:Blk w g4 28 cn)(z:Int)(HC0:Calls Tryz.prog 44 #[p,.agg cn] w fun e w'=>e=.returned (.int .i64 z) ∧ Kp [] w w')(hsz:a.tmps.size=39)(o0:Sl a 0 (p))(o4:Sl a 4 (Pq g4 0)):RG1 false 1 Tryz.f18 Q a w fun a' W q'=>Sl a' 7 (.int .i64 z)->(Kp [] w W)->q':=by
 intro hend
 refine wp_region_lit ?_
 (conv=>arg 4;whnf)
 unfold Sl at o0 o4
 have HC:=LH HC0
 clear HC0
 have HB:=LH hb
 clear hb
 have hcn:=LH hcn
 go_wp2_with (refine wpList_load_blk rfl 28 (.tmp 4) rfl g4 (aO o4) 28 _ HB.out _ Tryz.underlying28 rfl (by rw [hcn.out];exact Tryz.infoNote) ?_)
 refine HC.out.mono ?_
 rintro e w1 ⟨rfl,k1⟩
 have k1:=LH k1
 go_wp2_with fail
 try simp only [Act.put]
 exact hend _ _ tS sP (k1.out)
theorem mhe_r2(z:Int)(hsz:a.tmps.size=39)(o7:Sl a 7 (.int .i64 z)):RG0 2 Tryz.f18 Q a w fun a' q'=>Sl a' 12 (.bool (z != 0))->q':=rO
theorem mhe_r3(z:Int)(hsz:a.tmps.size=39)(o7:Sl a 7 (.int .i64 z)):RG0 3 Tryz.f18 Q a w fun a' q'=>Sl a' 6 (.int .i64 z)->q':=rO
theorem mhe_r4(g g4 n:Nat)(cn:Array Value)(z:Int)(hb:Blk w g4 28 cn)(hk0:cn[0]?=some (.int .i64 z))(HC1:∀ V,Kp [] w V->Calls Tryz.prog 17 #[Pq g 0] V fun e w'=>e=.returned (Nq n) ∧ Kp [] V w')(hsz:a.tmps.size=39)(o0:Sl a 0 (Pq g 0))(o4:Sl a 4 (Pq g4 0)):RG1 true 4 Tryz.f18 Q a w fun a' W q'=>Kp [] w.drew W->Sl a' 19 (.bool (decide (z<=(n:Int))))->q':=by
 intro hend
 have hap:=pa 4 Tryz.f18
 refine wp_region_inv (l:=(opsOf 4 Tryz.f18)) (fun i v W=>match i with|0=>v=Pq g4 0|1=>v=Pq g4 0|2=>v=.int .i64 z|3=>v=Pq g 0|4=>v=Nq n|5=>v=.bool (decide (z<=(n:Int)))|_=>True) (by kernel_rfl) hap (by kernel_rfl) ?_ ?_ ?_
 . exact fun _ _ _ _ h _=>h
 . and_intros <;> try intro vs A' W hA hW hd K hK
   . exact qa1 (eO 4 o4)
   . exact qa1 (vD 14 0)
   . have c0:W.cell? ⟨g4,0,none⟩=some (.int .i64 z):=by rw [(hb.kp (((Kp.refl [] w).drew).trans hW (by simp)) (by simp)).cell];exact hk0
     exact qa1 (vD 15 1)
   . exact qa1 (eO 0 o0)
   . have e17:=vD 17 3;clear hA hd o0 o4;go_step
     refine (HC1 W (((Kp.refl [] w).drew).trans hW (by simp))).mono ?_
     rintro e w' ⟨rfl,k1⟩
     exact hK _ w' k1 rfl
   . exact qa2 (vD 16 2) (vD 18 4)
   . trivial
 . intro vs W hW hp
   rw [putAll_eq]
   exact hend _ W sQ hW (sW (hp 5 sB))
theorem mhe_r5(g g4:Nat)(cn:Array Value)(hcn:cn.size=34)(hb:Blk w g4 28 cn)(R:Int->World->Prop)(HC0:Calls Tryz.prog 45 #[Pq g 0,.agg cn] w fun e w'=>∃ cd,e=.returned (.int .i64 cd) ∧ R cd w')(hsz:a.tmps.size=39)(o0:Sl a 0 (Pq g 0))(o4:Sl a 4 (Pq g4 0)):RG1 false 5 Tryz.f18 Q a w fun a' W q'=>(∃ cd,Sl a' 6 (.int .i64 cd) ∧ R cd W)->q':=by
 intro hend
 refine wp_region_lit ?_
 (conv=>arg 4;whnf)
 unfold Sl at o0 o4
 have HC:=LH HC0
 clear HC0
 have HB:=LH hb
 clear hb
 have hcn:=LH hcn
 go_wp2_with (refine wpList_load_blk rfl 28 (.tmp 4) rfl g4 (aO o4) 28 _ HB.out _ Tryz.underlying28 rfl (by rw [hcn.out];exact Tryz.infoNote) ?_)
 refine HC.out.mono ?_
 rintro e w1 ⟨cd,rfl,k1⟩
 have k1:=LH k1
 go_wp2_with fail
 try simp only [Act.put]
 exact hend _ _ tS (⟨cd,sP0,k1.out⟩)
theorem mhe_r6(g g4 n:Nat)(z:Int)(h:Bs)(hh:h.length=32)(v:Value)(cs:Array Value)(Ah:Option Addr)(n2 ch:Nat)(x:Bs)(Ap:Option Addr)(np cp:Nat)(cd:Int)(hb:Blk w g4 28 (ntA z h v))(hk0:(ntA z h v)[0]?=some (.int .i64 z))(hbm:Blk w g 85 cs)(h3:cs[3]?=some (.slice Ah n2 ch))(HC1:∀ V,Kp [] w V->Calls Tryz.prog 17 #[Pq g 0] V fun e w'=>e=.returned (Nq n) ∧ Kp [] V w')(HC2:∀ V,Kp [] w V->Calls Tryz.prog 49 #[.slice Ah n2 ch] V fun e w'=>e=.returned (.agg (hashA x)) ∧ Kp [] V w')(HC3:∀ V,Kp [] w V->Calls Tryz.prog 33 #[Nq n,.int .i64 z,.agg (hashA x),.agg (hashA h),.slice Ap np cp] V fun e w'=>e=.returned (.int .i64 cd) ∧ Kp [] V w')(hsz:a.tmps.size=39)(o0:Sl a 0 (Pq g 0))(o2:Sl a 2 (.slice Ap np cp))(o4:Sl a 4 (Pq g4 0)):RG1 true 6 Tryz.f18 Q a w fun a' W q'=>Kp [] w.drew W->Sl a' 6 (.int .i64 cd)->q':=by
 intro hend
 have hap:=pa 6 Tryz.f18
 refine wp_region_inv (l:=(opsOf 6 Tryz.f18)) (fun i v W=>match i with|0=>v=Pq g 0|1=>v=Nq n|2=>v=Pq g4 0|3=>v=Pq g4 0|4=>v=.int .i64 z|5=>v=Pq g 0|6=>v=Pq g 0|7=>v=Pq g 0|8=>v=Pq g 3|9=>v=.slice Ah n2 ch|10=>v=.agg (hashA x)|11=>v=Pq g4 0|12=>v=Pq g4 1|13=>v=.agg (hashA h)|14=>v=.slice Ap np cp|15=>v=.int .i64 cd|16=>v=.int .i64 cd|_=>True) (by kernel_rfl) hap (by kernel_rfl) ?_ ?_ ?_
 . exact fun _ _ _ _ h _=>h
 . and_intros <;> try intro vs A' W hA hW hd K hK
   . exact qa1 (eO 0 o0)
   . have e23:=vD 23 0;clear hA hd o0 o2 o4;go_step
     refine (HC1 W (((Kp.refl [] w).drew).trans hW (by simp))).mono ?_
     rintro e w' ⟨rfl,k1⟩
     exact hK _ w' k1 rfl
   . exact qa1 (eO 4 o4)
   . exact qa1 (vD 25 2)
   . have c0:W.cell? ⟨g4,0,none⟩=some (.int .i64 z):=by rw [(hb.kp (((Kp.refl [] w).drew).trans hW (by simp)) (by simp)).cell];exact hk0
     exact qa1 (vD 26 3)
   . exact qa1 (eO 0 o0)
   . exact qa1 (vD 28 5)
   . exact qa1 (vD 29 6)
   . exact qa1 (vD 30 7)
   . have c0:W.cell? ⟨g,3,none⟩=some (.slice Ah n2 ch):=by rw [(hbm.kp (((Kp.refl [] w).drew).trans hW (by simp)) (by simp)).cell];exact h3
     exact qa1 (vD 31 8)
   . have e32:=vD 32 9;clear hA hd o0 o2 o4;go_step
     refine (HC2 W (((Kp.refl [] w).drew).trans hW (by simp))).mono ?_
     rintro e w' ⟨rfl,k1⟩
     exact hK _ w' k1 rfl
   . exact qa1 (eO 4 o4)
   . exact qa1 (vD 34 11)
   . exact ldA (hashA h) (vD 35 12) (nt_hashAt (hb.kp (((Kp.refl [] w).drew).trans hW (by simp)) (by simp))) Tryz.underlying23 (by rw [hashA_size,hh];exact Tryz.infoHashP)
   . exact qa1 (eO 2 o2)
   . have e24:=vD 24 1;have e27:=vD 27 4;have e33:=vD 33 10;have e36:=vD 36 13;have e37:=vD 37 14;clear hA hd o0 o2 o4;go_step
     refine (HC3 W (((Kp.refl [] w).drew).trans hW (by simp))).mono ?_
     rintro e w' ⟨rfl,k1⟩
     exact hK _ w' k1 rfl
   . exact qa1 (vD 38 15)
   . trivial
 . intro vs W hW hp
   rw [putAll_eq]
   exact hend _ W sQ hW (sW (hp 16 sB))
end
section
open Go.RowKit Go.Shelf
structure MirD where
 nm:List UInt8
 sec:List UInt8
 Ak:Option Addr
 ck:Nat
 e:Value
 hl:List (List UInt8)
 Ah:Option Addr
 ch:Nat
 la:List Value
 nd:Bool
 fk:List Value
 fd:Bool
def MirD.cells (M:MirD):Array Value:=mirC (strV M.nm) (.slice M.Ak M.sec.length M.ck) M.e (.slice M.Ah M.hl.length M.ch) M.la M.nd M.fk M.fd true
structure MirD.Ok (M:MirD):Prop where
 nm:M.nm.length<=1000000
 hs:HsOk M.hl
 hl:M.hl.length<=1000000
 la:M.la.length=34
 la1:∀ u ∈ M.la,u.oneCell'=true
 fk:M.fk.length=101
 e:∃ A c,M.e=.slice A M.hl.length c
def MirD.Rd (M:MirD) (V:World):Prop:=Go.Proofs.YtmkfopmdingaoaaGreatDoor.Rd V 1 (.slice M.Ak M.sec.length M.ck) M.sec.length (bv M.sec) ∧ Go.Proofs.YtmkfopmdingaoaaGreatDoor.Rd V 32 (.slice M.Ah M.hl.length M.ch) M.hl.length (hsC M.hl)
def WiP (w0:World) (L:List Res) (g:Nat) (M:MirD) (k:Nat) (h:Bs) (l:List SigD) (cd:Int) (w':World):Prop:=
 (rootF (M.hl.take k)=h ∧ cd=0 ∧ Held w0 w' (blkR g 85 M.cells :: L)) ∨
 (rootF (M.hl.take k) ≠ h ∧ M.nd=false ∧ cd=403 ∧ Held w0 w' (blkR g 85 M.cells :: L)) ∨
 (rootF (M.hl.take k) ≠ h ∧ M.nd=true ∧ cd=400 ∧ ∃ v p,Held w0 w' (blkR g 85 ({ M with fk:=fkL (ntL k h v) M.la (bv (rootF (M.hl.take k))) p,fd:=true }:MirD).cells :: rowR 89 33 v l.length (sgsC l) :: rowR 23 32 p (prvF (k:Int) M.hl).length (hsC (prvF (k:Int) M.hl)) :: L))
theorem within_any(w0:World)(L:List Res)(g:Nat)(M:MirD)(hM:M.Ok)(hfd:M.fd=false)(k:Nat)(hk:k<=M.hl.length)(h:Bs)(hh:h.length=32)(A:Option Addr)(c:Nat)(l:List SigD)(hok:SgOk l)(hll:l.length<=1000000)(w:World)(S:Held w0 w (blkR g 85 M.cells :: L))(HVn:∀ V,(∀ r ∈ L,r.ok V)->Go.Proofs.YtmkfopmdingaoaaGreatDoor.Rd V 33 (.slice A l.length c) l.length (sgsC l))(HVm:∀ V,(∀ r ∈ L,r.ok V)->M.Rd V):
 Calls Tryz.prog 45 #[Pq g 0,.agg (ntA (k:Int) h (.slice A l.length c))] w fun r w'=>∃ cd,r=.returned (.int .i64 cd) ∧ WiP w0 L g M k h l cd w':=by
 have e:M.cells=mirC (strV M.nm) (.slice M.Ak M.sec.length M.ck) M.e (.slice M.Ah M.hl.length M.ch) M.la M.nd M.fk false true:=by unfold MirD.cells;rw [hfd]
 rw [e] at S
 refine (mwithin_any w0 L g _ _ _ M.Ah M.ch M.hl hM.hs hM.hl M.la hM.la hM.la1 M.nd M.fk hM.fk k hk h hh A c l hok hll w S HVn (fun V hV=>(HVm V hV).2)).mono ?_
 rintro r w' (⟨h1,rfl,S⟩|⟨h1,h2,rfl,S⟩|⟨h1,h2,rfl,v,p,S⟩)
 . exact ⟨_,rfl,.inl ⟨h1,rfl,by rw [e];exact S⟩⟩
 . exact ⟨_,rfl,.inr (.inl ⟨h1,h2,rfl,by rw [e];exact S⟩)⟩
 . exact ⟨_,rfl,.inr (.inr ⟨h1,h2,rfl,v,p,S⟩)⟩
theorem mayM_zero{fd:Bool}{z:Int}{h:List UInt8}{l:List SigD}{nm sec:List UInt8}(hm:mayM fd z h l nm sec=0):fd=false ∧ 0<=z:=by
 unfold mayM at hm
 cases fd
 . refine ⟨rfl,?_⟩
   rw [if_neg (by decide)] at hm
   unfold signedN at hm
   split at hm
   . omega
   . rename_i hc
     unfold chkN at hc
     by_cases hn:mayN z l=true
     . unfold mayN at hn
       simp only [Bool.and_eq_true,decide_eq_true_eq] at hn
       exact hn.1.1
     . rw [if_neg hn] at hc
       omega
 . simp at hm
theorem mhear_any(w0:World)(L:List Res)(LD0:LD w0)(g:Nat)(M:MirD)(hM:M.Ok)(z:Int)(hz:-9223372036854775808<=z ∧ z<=9223372036854775807)(h:Bs)(hh:h.length=32)(A:Option Addr)(c:Nat)(l:List SigD)(hok:SgOk l)(hll:l.length<=1000000)(Ap:Option Addr)(cp:Nat)(pf:List (List UInt8))(hpf:HsOk pf)(w:World)(S:Held w0 w (blkR g 85 M.cells :: L))(HVn:∀ V,(∀ r ∈ L,r.ok V)->Go.Proofs.YtmkfopmdingaoaaGreatDoor.Rd V 33 (.slice A l.length c) l.length (sgsC l))(HVm:∀ V,(∀ r ∈ L,r.ok V)->M.Rd V)(HVp:∀ V,(∀ r ∈ L,r.ok V)->Go.Proofs.YtmkfopmdingaoaaGreatDoor.Rd V 32 (.slice Ap pf.length cp) pf.length (hsC pf)):
 Calls Tryz.prog 18 #[Pq g 0,.agg (ntA z h (.slice A l.length c)),.slice Ap pf.length cp] w fun r w'=>∃ cd,r=.returned (.int .i64 cd) ∧
  ((mayM M.fd z h l M.nm M.sec ≠ 0 ∧ cd=mayM M.fd z h l M.nm M.sec ∧ Held w0 w' (blkR g 85 M.cells :: L)) ∨
   (mayM M.fd z h l M.nm M.sec=0 ∧ ∃ k:Nat,z=k ∧ k<=M.hl.length ∧ WiP w0 L g M k h l cd w') ∨
   (mayM M.fd z h l M.nm M.sec=0 ∧ (M.hl.length:Int) < z ∧ cd=((consF (M.hl.length:Int) z (rootF M.hl) h pf:Nat):Int) ∧ Held w0 w' (blkR g 85 M.cells :: L))):=by
 obtain ⟨Ae,ce,hMe⟩:=hM.e
 have hcs:M.cells[141]?=some (.bool true):=mirC_md hM.la hM.fk
 refine calls_fr Tryz.func18 rfl 39 rfl (fun a0 hsz hdf hAr=>?_)
 have hz0:a0.tmps.size=39:=hsz
 have D:=hdf
 have o0:=hAr 0 _ rfl
 have o1:=hAr 1 _ rfl
 have o2:=hAr 2 _ rfl
 refine wp_seq (mhe_r0 w0 _ (ntA_size hh) (ntA_one rfl) _ S hz0 o1 (fun a1 w1 hs1 o6 h1=>?_))
 obtain ⟨hz1,D,o0,o1,o2⟩:=kq3 hs1 hz0 D o0 o1 o2
 obtain ⟨g4,o4,S1⟩:=h1
 have hokL:∀ V,Held w0 V (blkR g4 28 (ntA z h (.slice A l.length c)) :: blkR g 85 M.cells :: L)->∀ r ∈ L,r.ok V:=fun V SV r hr=>SV.ok r (List.mem_cons_of_mem _ (List.mem_cons_of_mem _ hr))
 refine wp_seq (wp_seq (mhe_r1 _ g4 _ (ntA_size hh) (S1.at_ (l1:=[])) _ (mmay_any z hz h hh A c l hok hll M.nm hM.nm M.Ak M.ck M.sec g M.cells M.fd w1 (LD0.kp S1.k) (S1.at_ (l1:=[_])) mirC_0 mirC_1 (mirC_fd hM.la hM.fk) hcs (HVn w1 (hokL w1 S1)) (HVm w1 (hokL w1 S1)).1) hz1 o0 o4 (fun a2 w2 hs2 o7 k2=>?_)))
 obtain ⟨hz2,D,o0,o2,o4⟩:=kq3 hs2 hz1 D o0 o2 o4
 have S2:=S1.kp k2
 refine wp_seq (mhe_r2 _ hz2 o7 (fun a3 hs3 o12=>?_))
 obtain ⟨hz3,D,o0,o2,o4,o7⟩:=kq4 hs3 hz2 D o0 o2 o4 o7
 by_cases hm:mayM M.fd z h l M.nm M.sec=0
 . rw [hm] at o12
   refine wcF o12 (wp_skip ?_)
   simp only [Exit.then]
   obtain ⟨hfd,hz0⟩:=mayM_zero hm
   obtain ⟨k,rfl⟩:∃ k:Nat,z=k:=⟨z.toNat,by omega⟩
   have HS:∀ V,Kp [] w2 V->Calls Tryz.prog 17 #[Pq g 0] V fun e w'=>e=.returned (Nq (M.hl.length)) ∧ Kp [] V w':=fun V kV=>msize_any g M.cells Ae M.hl.length ce V ((S2.kp kV).at_ (l1:=[_])) hcs (by rw [<- hMe];exact mirC_2)
   refine wp_seq (wp_seq (mhe_r4 g g4 M.hl.length _ (k:Int) (S2.at_ (l1:=[])) ntA_size0 HS hz3 o0 o4 (fun a4 w4 hs4 k4 o19=>?_)))
   obtain ⟨hz4,D,o0,o2,o4⟩:=kq3 hs4 hz3 D o0 o2 o4
   have S4:=(S2.kp ((Kp.refl [] _).drew)).kp k4
   by_cases hkn:k<=M.hl.length
   . refine wcT o19 ?_ (by rw [decide_eq_true (by omega)])
     refine wp_seq (mhe_r5 g g4 _ (ntA_size hh) (S4.at_ (l1:=[])) (fun cd W=>WiP w0 L g M k h l cd W) (within_any w0 L g M hM hfd k hkn h hh A c l hok hll w4 S4.drop HVn HVm) hz4 o0 o4 (fun a5 w5 hs5 h5=>?_))
     obtain ⟨hz5,D,o0,o4⟩:=kq2 hs5 hz4 D o0 o4
     obtain ⟨cd,o6,hW⟩:=h5
     refine wp_ret ?_
     simp only [Exit.then]
     exact bodyPost_ret (res_u1 (by rfl) (o6.eval (by rw [hz5];decide))) D ⟨cd,rfl,.inr (.inl ⟨hm,k,rfl,hkn,hW⟩)⟩
   . refine wcF o19 (wp_skip ?_) (by rw [decide_eq_false (by omega)])
     simp only [Exit.then]
     refine wp_seq (mhe_r6 g g4 M.hl.length (k:Int) h hh _ M.cells M.Ah M.hl.length M.ch (rootF M.hl) Ap pf.length cp _ (S4.at_ (l1:=[])) ntA_size0 (S4.at_ (l1:=[_])) mirC_3 (fun V kV=>msize_any g M.cells Ae M.hl.length ce V ((S4.kp kV).at_ (l1:=[_])) hcs (by rw [<- hMe];exact mirC_2)) (fun V kV=>tof_any M.Ah M.ch M.hl hM.hs V (HVm V (hokL V (S4.kp kV))).2) (fun V kV=>ccheck_any (M.hl.length:Int) (k:Int) (by omega) (rootF M.hl) h (rootF_length hM.hs) hh Ap cp pf hpf V (HVp V (hokL V (S4.kp kV)))) hz4 o0 o2 o4 (fun a5 w6 hs5 k6 o6=>?_))
     obtain ⟨hz5,D,o0,o2,o4⟩:=kq3 hs5 hz4 D o0 o2 o4
     have S6:=(S4.kp ((Kp.refl [] _).drew)).kp k6
     refine wp_ret ?_
     exact bodyPost_ret (res_u1 (by rfl) (o6.eval (by rw [hz5];decide))) D ⟨_,rfl,.inr (.inr ⟨hm,by omega,rfl,S6.drop⟩)⟩
 . have hq:(mayM M.fd z h l M.nm M.sec != 0)=true:=by rw [bne_iff_ne];exact hm
   refine wcT o12 ?_ (by rw [hq])
   refine wp_seq (mhe_r3 _ hz3 o7 (fun a4 hs4 o6=>?_))
   obtain ⟨hz4,D,o7⟩:=kq1 hs4 hz3 D o7
   refine wp_ret ?_
   simp only [Exit.then]
   exact bodyPost_ret (res_u1 (by rfl) (o6.eval (by rw [hz4];decide))) D ⟨_,rfl,.inl ⟨hm,rfl,S2.drop⟩⟩
end
section
open Go.RowKit Go.Shelf
attribute [local go_sem] Oper.semAt_some
structure FkD where
 z1:Int
 h1:List UInt8
 l1:List SigD
 z2:Int
 h2:List UInt8
 l2:List SigD
 r:List UInt8
 pf:List (List UInt8)
def FkD.cells (f:FkD) (s1 s2 p:Value):Array Value:=(fkL (ntA f.z1 f.h1 s1).toList (ntA f.z2 f.h2 s2).toList (hashA f.r).toList p).toArray
structure FkD.Ok (f:FkD):Prop where
 h1:f.h1.length=32
 h2:f.h2.length=32
 r:f.r.length=32
 l1:SgOk f.l1
 l2:SgOk f.l2
 n1:f.l1.length<=1000000
 n2:f.l2.length<=1000000
 pf:HsOk f.pf
 np:f.pf.length<=1000000
section
variable {f:FkD} {s1 s2 p:Value}
theorem FkD.size(h:f.Ok):(f.cells s1 s2 p).size=101:=by
 simp [FkD.cells,fkL,ntA_size h.h1,ntA_size h.h2,hashA_size,h.r]
theorem FkD.n1(h:f.Ok){j:Nat}{u:Value}(hj:(ntA f.z1 f.h1 s1).toList[j]?=some u):(f.cells s1 s2 p)[j]?=some u:=by
 have hl:=(List.getElem?_eq_some_iff.1 hj).1
 simp only [FkD.cells,fkL,List.getElem?_toArray]
 rw [List.getElem?_append_left hl]
 exact hj
theorem FkD.n2(h:f.Ok){j:Nat}{u:Value}(hj:(ntA f.z2 f.h2 s2).toList[j]?=some u):(f.cells s1 s2 p)[j+34]?=some u:=by
 have hl:=(List.getElem?_eq_some_iff.1 hj).1
 have l1:(ntA f.z1 f.h1 s1).toList.length=34:=by rw [Array.length_toList,ntA_size h.h1]
 simp only [FkD.cells,fkL,List.getElem?_toArray]
 rw [List.getElem?_append_right (by omega),l1,Nat.add_sub_cancel,List.getElem?_append_left hl]
 exact hj
theorem FkD.rt(h:f.Ok){j:Nat}{u:Value}(hj:(hashA f.r).toList[j]?=some u):(f.cells s1 s2 p)[j+68]?=some u:=by
 have hl:=(List.getElem?_eq_some_iff.1 hj).1
 have l1:(ntA f.z1 f.h1 s1).toList.length=34:=by rw [Array.length_toList,ntA_size h.h1]
 have l2:(ntA f.z2 f.h2 s2).toList.length=34:=by rw [Array.length_toList,ntA_size h.h2]
 simp only [FkD.cells,fkL,List.getElem?_toArray]
 rw [List.getElem?_append_right (by omega),List.getElem?_append_right (by omega),l1,l2,show j+68 - 34 - 34=j by omega,List.getElem?_append_left hl]
 exact hj
theorem FkD.pr(h:f.Ok):(f.cells s1 s2 p)[100]?=some p:=by
 have l1:(ntA f.z1 f.h1 s1).toList.length=34:=by rw [Array.length_toList,ntA_size h.h1]
 have l2:(ntA f.z2 f.h2 s2).toList.length=34:=by rw [Array.length_toList,ntA_size h.h2]
 have l3:(hashA f.r).toList.length=32:=by rw [Array.length_toList,hashA_size,h.r]
 simp only [FkD.cells,fkL,List.getElem?_toArray]
 rw [List.getElem?_append_right (by omega),List.getElem?_append_right (by omega),List.getElem?_append_right (by omega),l1,l2,l3]
 rfl
end
theorem FkD.one(f:FkD)(A1 A2 Ap:Option Addr)(n1 n2 np c1 c2 cp:Nat):∀ u,u ∈ (f.cells (.slice A1 n1 c1) (.slice A2 n2 c2) (.slice Ap np cp)).toList->u.oneCell'=true:=by
 intro u hu
 simp only [FkD.cells,fkL,List.toList_toArray,List.mem_append,List.mem_singleton] at hu
 rcases hu with hu|hu|hu|rfl
 . exact ntA_one rfl u hu
 . exact ntA_one rfl u hu
 . exact hashA_one _ u hu
 . rfl
theorem mfk_r0{Q:Exit->Act->World->Prop}{a:Act}{w:World}(w0:World)(cf:Array Value)(hcf:cf.size=101)(h1:∀ u,u ∈ cf.toList->u.oneCell'=true)(L:List Res)(S:Held w0 w L)(hsz:a.tmps.size=15)(o0:Sl a 0 (.agg cf)):RG1 false 0 Tryz.f51 Q a w fun a' W q'=>(∃ g1 g2,Sl a' 1 (Pq g1 0) ∧ Sl a' 2 (Pq g2 0) ∧ Held w0 W (blkR g2 31 zFork.toArray :: blkR g1 31 cf :: L))->q':=by
 intro hend
 refine wp_region_lit ?_
 (conv=>arg 4;whnf)
 unfold Sl at o0
 have S1:=LH ((S.newBlk 31 cf).newBlkN 31 zFork.toArray (g:=w.heap.size+1) (by simp))
 have hcf:=LH hcf
 have h1:=LH h1
 go_wp2
 try simp only [Act.put]
 exact hend _ _ tS (⟨w.heap.size,w.heap.size+1,sP0,sP0,S1.out⟩)
theorem mfk_r1{Q:Exit->Act->World->Prop}{a:Act}{w:World}(w0:World)(g1 g2:Nat)(f:FkD)(hf:f.Ok)(A1 A2 Ap:Option Addr)(c1 c2 cp:Nat)(zf:Array Value)(hzf:zf.size=101)(L:List Res)(HV1:∀ V,(∀ r ∈ L,r.ok V)->Rd V 33 (.slice A1 f.l1.length c1) f.l1.length (sgsC f.l1))(HV2:∀ V,(∀ r ∈ L,r.ok V)->Rd V 33 (.slice A2 f.l2.length c2) f.l2.length (sgsC f.l2))(HVp:∀ V,(∀ r ∈ L,r.ok V)->Rd V 32 (.slice Ap f.pf.length cp) f.pf.length (hsC f.pf))(hsz:a.tmps.size=15)(o1:Sl a 1 (Pq g1 0))(o2:Sl a 2 (Pq g2 0))
 (S0:Held w0 w (blkR g1 31 (f.cells (.slice A1 f.l1.length c1) (.slice A2 f.l2.length c2) (.slice Ap f.pf.length cp)) :: blkR g2 31 zf :: L))
 (hend:∀ (a':Act) (vs:Nat->Value) (gs:Nat->Value × Value) (W:World),Same a a' [3,4,5,6,7,8,9,10,11,12,13,14]->Held w0 W (rowR 89 33 (gs 2).1 f.l1.length (sgsC f.l1) :: rowR 89 33 (gs 5).1 f.l2.length (sgsC f.l2) :: rowR 23 32 (gs 10).1 f.pf.length (hsC f.pf) :: blkR g2 31 (f.cells (gs 2).1 (gs 5).1 (gs 10).1) :: blkR g1 31 (f.cells (.slice A1 f.l1.length c1) (.slice A2 f.l2.length c2) (.slice Ap f.pf.length cp)) :: L)->Q .normal a' W):(Code.region 1 (opsOf 1 Tryz.f51).toArray true).wp Tryz.prog Q a w:=by
 have hap:=pa 1 Tryz.f51
 refine wp_region_sep (Γ:=Value × Value) (l:=(opsOf 1 Tryz.f51)) 3 [0,1,2,3,4,5,6,7,8,9,10,11,12,13,15]
  (fun i vs gs=>match i with|0=>vs 0=Pq g1 0|1=>vs 1=.agg (ntA f.z1 f.h1 (.slice A1 f.l1.length c1))|2=>vs 2=.agg (ntA f.z1 f.h1 (gs 2).1)|3=>vs 3=Pq g1 34|4=>vs 4=.agg (ntA f.z2 f.h2 (.slice A2 f.l2.length c2))|5=>vs 5=.agg (ntA f.z2 f.h2 (gs 5).1)|6=>vs 6=Pq g1 68|7=>vs 7=.agg (hashA f.r)|8=>vs 8=Pq g1 100|9=>vs 9=.slice Ap f.pf.length cp|10=>vs 10=(gs 10).1|11=>vs 11=.agg (f.cells (gs 2).1 (gs 5).1 (gs 10).1)|_=>True)
  (fun i vs gs=>match i with|2=>[rowR 89 33 (gs 2).1 f.l1.length (sgsC f.l1)]|5=>[rowR 89 33 (gs 5).1 f.l2.length (sgsC f.l2)]|10=>[rowR 23 32 (gs 10).1 f.pf.length (hsC f.pf)]|12=>[blkR g2 31 (f.cells (gs 2).1 (gs 5).1 (gs 10).1)]|13=>[blkR g1 31 (f.cells (.slice A1 f.l1.length c1) (.slice A2 f.l2.length c2) (.slice Ap f.pf.length cp))]|14=>[blkR g2 31 zf]|15=>L|_=>[])
  (fun i=>match i with|12=>[14]|_=>[]) (fun i=>match i with|1=>[13]|2=>[15]|4=>[13]|5=>[15]|7=>[13]|9=>[13]|10=>[15]|11=>[2,5,10]|12=>[2,5,10]|_=>[]) S0 (by kernel_rfl) hap (by kernel_rfl) (by kernel_rfl) (fun i=>match i with|0=>[0]|1=>[1]|2=>[2]|3=>[3]|4=>[4]|5=>[5]|6=>[6]|7=>[7]|8=>[8]|9=>[9]|10=>[10]|11=>[2,5,10,11]|12=>[2,5,10]|_=>[]) (by kernel_rfl) ?_ (by kernel_rfl) ?_ ?_ ?_
 . exact lA
 . exact pA
 . clear S0 hend
   and_intros <;> try intro vs gs A' W LF hA S hR hd hu K hK
   . exact qa1 (eO 1 o1)
   . exact ldA (ntA f.z1 f.h1 (.slice A1 f.l1.length c1)) (vD 3 0) (Blk.sub (show Blk W g1 31 (f.cells (.slice A1 f.l1.length c1) (.slice A2 f.l2.length c2) (.slice Ap f.pf.length cp)) from S.ok (blkR g1 31 (f.cells (.slice A1 f.l1.length c1) (.slice A2 f.l2.length c2) (.slice Ap f.pf.length cp))) (hR 13 (by simp) _ (List.mem_singleton.2 rfl))) (fun _ _=>FkD.n1 hf)) Tryz.underlying28 (by rw [ntA_size hf.h1];exact Tryz.infoNote)
   . have e4:=vD 4 1;clear hA o1 o2;go_step
     refine (mnote_any w0 _ f.z1 f.h1 hf.h1 A1 c1 f.l1 hf.l1 hf.n1 W S (fun V SV=>HV1 V (fun r hr=>SV.ok r (hR 15 (by simp) r hr)))).mono ?_
     rintro e w' ⟨v,rfl,S2⟩
     exact hK (v,v) _ w' S2 rfl
   . exact qa1 (eO 1 o1)
   . exact ldA (ntA f.z2 f.h2 (.slice A2 f.l2.length c2)) (vD 6 3) (Blk.sub (show Blk W g1 31 (f.cells (.slice A1 f.l1.length c1) (.slice A2 f.l2.length c2) (.slice Ap f.pf.length cp)) from S.ok (blkR g1 31 (f.cells (.slice A1 f.l1.length c1) (.slice A2 f.l2.length c2) (.slice Ap f.pf.length cp))) (hR 13 (by simp) _ (List.mem_singleton.2 rfl))) (fun _ _=>FkD.n2 hf)) Tryz.underlying28 (by rw [ntA_size hf.h2];exact Tryz.infoNote)
   . have e7:=vD 7 4;clear hA o1 o2;go_step
     refine (mnote_any w0 _ f.z2 f.h2 hf.h2 A2 c2 f.l2 hf.l2 hf.n2 W S (fun V SV=>HV2 V (fun r hr=>SV.ok r (hR 15 (by simp) r hr)))).mono ?_
     rintro e w' ⟨v,rfl,S2⟩
     exact hK (v,v) _ w' S2 rfl
   . exact qa1 (eO 1 o1)
   . exact ldA (hashA f.r) (vD 9 6) (Blk.sub (show Blk W g1 31 (f.cells (.slice A1 f.l1.length c1) (.slice A2 f.l2.length c2) (.slice Ap f.pf.length cp)) from S.ok (blkR g1 31 (f.cells (.slice A1 f.l1.length c1) (.slice A2 f.l2.length c2) (.slice Ap f.pf.length cp))) (hR 13 (by simp) _ (List.mem_singleton.2 rfl))) (fun _ _=>FkD.rt hf)) Tryz.underlying23 (by rw [hashA_size,hf.r];exact Tryz.infoHashP)
   . exact qa1 (eO 1 o1)
   . have c0:W.cell? ⟨g1,100,none⟩=some (.slice Ap f.pf.length cp):=by rw [(show Blk W g1 31 (f.cells (.slice A1 f.l1.length c1) (.slice A2 f.l2.length c2) (.slice Ap f.pf.length cp)) from S.ok (blkR g1 31 (f.cells (.slice A1 f.l1.length c1) (.slice A2 f.l2.length c2) (.slice Ap f.pf.length cp))) (hR 13 (by simp) _ (List.mem_singleton.2 rfl))).cell];exact FkD.pr hf
     exact qa1 (vD 11 8)
   . have e12:=vD 12 9;clear hA o1 o2;go_step
     refine (hsclone_any w0 _ Ap cp f.pf hf.np W S (fun V SV=>HVp V (fun r hr=>SV.ok r (hR 15 (by simp) r hr)))).mono ?_
     rintro e w' ⟨v,rfl,S2⟩
     exact hK (v,v) _ w' S2 rfl
   . replace hK:=hK default;have e5:=vD 5 2;have e8:=vD 8 5;have e10:=vD 10 7;have e13:=vD 13 10;clear hA o1 o2
     obtain ⟨xA,xc,xv,-,-⟩:=ow_form (show Ow W 89 33 (gs 2).1 f.l1.length (sgsC f.l1) from S.ok (rowR 89 33 (gs 2).1 f.l1.length (sgsC f.l1)) (hR 2 (by simp) _ (List.mem_singleton.2 rfl)))
     obtain ⟨yA,yc,yv,-,-⟩:=ow_form (show Ow W 89 33 (gs 5).1 f.l2.length (sgsC f.l2) from S.ok (rowR 89 33 (gs 5).1 f.l2.length (sgsC f.l2)) (hR 5 (by simp) _ (List.mem_singleton.2 rfl)))
     obtain ⟨pA,pc,pv,-,-⟩:=ow_form (show Ow W 23 32 (gs 10).1 f.pf.length (hsC f.pf) from S.ok (rowR 23 32 (gs 10).1 f.pf.length (hsC f.pf)) (hR 10 (by simp) _ (List.mem_singleton.2 rfl)))
     rw [xv] at e5
     rw [yv] at e8
     rw [pv] at e13
     refine op_build 31 _ rfl [(0,.agg (ntA f.z1 f.h1 (.slice xA f.l1.length xc))),(1,.agg (ntA f.z2 f.h2 (.slice yA f.l2.length yc))),(2,.agg (hashA f.r)),(3,.slice pA f.pf.length pc)] (by simp [Act.eval,e5,e8,e10,e13]) _ (Tryz.built_fork _ _ _ (ntA_size hf.h1) (ntA_size hf.h2) (by rw [hashA_size,hf.r]) pA f.pf.length pc) ?_
     exact hK _ _ S (show Value.agg (f.cells (.slice xA f.l1.length xc) (.slice yA f.l2.length yc) (.slice pA f.pf.length pc))=.agg (f.cells (gs 2).1 (gs 5).1 (gs 10).1) by rw [xv,yv,pv])
   . replace hK:=hK default;have e2:=eO 2 o2;have e14:=vD 14 11;clear hA o1 o2
     obtain ⟨xA,xc,xv,-,-⟩:=ow_form (show Ow W 89 33 (gs 2).1 f.l1.length (sgsC f.l1) from S.ok (rowR 89 33 (gs 2).1 f.l1.length (sgsC f.l1)) (List.mem_cons_of_mem _ (hR 2 (by simp) _ (List.mem_singleton.2 rfl))))
     obtain ⟨yA,yc,yv,-,-⟩:=ow_form (show Ow W 89 33 (gs 5).1 f.l2.length (sgsC f.l2) from S.ok (rowR 89 33 (gs 5).1 f.l2.length (sgsC f.l2)) (List.mem_cons_of_mem _ (hR 5 (by simp) _ (List.mem_singleton.2 rfl))))
     obtain ⟨pA,pc,pv,-,-⟩:=ow_form (show Ow W 23 32 (gs 10).1 f.pf.length (hsC f.pf) from S.ok (rowR 23 32 (gs 10).1 f.pf.length (hsC f.pf)) (List.mem_cons_of_mem _ (hR 10 (by simp) _ (List.mem_singleton.2 rfl))))
     have S1:Held w0 W (blkR g2 31 zf :: LF):=S
     refine op_store_blkS (.tmp 2) (.tmp 14) 31 rfl g2 (by simpa [Act.eval] using e2) (f.cells (gs 2).1 (gs 5).1 (gs 10).1) (by simpa [Act.eval] using e14) 31 zf S1 (by rw [FkD.size hf];exact Tryz.infoFork) (by rw [FkD.size hf,hzf]) (by rw [xv,yv,pv];exact FkD.one f _ _ _ _ _ _ _ _ _) ?_
     intro w' S2
     exact hK _ _ S2 trivial
   . trivial
 . intro vs gs W S hp
   have S:Held w0 W (rowR 89 33 (gs 2).1 f.l1.length (sgsC f.l1) :: rowR 89 33 (gs 5).1 f.l2.length (sgsC f.l2) :: rowR 23 32 (gs 10).1 f.pf.length (hsC f.pf) :: blkR g2 31 (f.cells (gs 2).1 (gs 5).1 (gs 10).1) :: blkR g1 31 (f.cells (.slice A1 f.l1.length c1) (.slice A2 f.l2.length c2) (.slice Ap f.pf.length cp)) :: L):=by simpa only [List.flatMap_cons,List.flatMap_nil,List.append_nil,List.nil_append,List.cons_append,List.append_assoc] using S
   rw [putAll_eq]
   exact hend _ vs gs W sQ  S
theorem mfork_any(w0:World)(L:List Res)(f:FkD)(hf:f.Ok)(A1 A2 Ap:Option Addr)(c1 c2 cp:Nat)(w:World)(S:Held w0 w L)(HV1:∀ V,(∀ r ∈ L,r.ok V)->Rd V 33 (.slice A1 f.l1.length c1) f.l1.length (sgsC f.l1))(HV2:∀ V,(∀ r ∈ L,r.ok V)->Rd V 33 (.slice A2 f.l2.length c2) f.l2.length (sgsC f.l2))(HVp:∀ V,(∀ r ∈ L,r.ok V)->Rd V 32 (.slice Ap f.pf.length cp) f.pf.length (hsC f.pf)):
 Calls Tryz.prog 51 #[.agg (f.cells (.slice A1 f.l1.length c1) (.slice A2 f.l2.length c2) (.slice Ap f.pf.length cp))] w fun e w'=>∃ s1 s2 p,e=.returned (.agg (f.cells s1 s2 p)) ∧ Held w0 w' (rowR 89 33 s1 f.l1.length (sgsC f.l1) :: rowR 89 33 s2 f.l2.length (sgsC f.l2) :: rowR 23 32 p f.pf.length (hsC f.pf) :: L):=by
 refine calls_fr Tryz.func51 rfl 15 rfl (fun a0 hsz hdf hAr=>?_)
 have hz0:a0.tmps.size=15:=hsz
 have D:=hdf
 have o0:=hAr 0 _ rfl
 refine wp_seq (mfk_r0 w0 _ (FkD.size hf) (FkD.one f _ _ _ _ _ _ _ _ _) L S hz0 o0 (fun a1 w1 hs1 h1=>?_))
 obtain ⟨hz1,D,o0⟩:=kq1 hs1 hz0 D o0
 obtain ⟨g1,g2,o1,o2,S⟩:=h1
 refine wp_seq (mfk_r1 w0 g1 g2 f hf A1 A2 Ap c1 c2 cp _ rfl L HV1 HV2 HVp hz1 o1 o2 (S.pull 1 rfl) (fun a2 vs gs w2 hs2 S2=>?_))
 obtain ⟨hz2,D,o1,o2⟩:=kq2 hs2 hz1 D o1 o2
 refine wp_ret ?_
 exact bodyPost_ret (results_cell1 (by rfl) (o2.eval (by rw [hz2];decide)) (S2.at_ (l1:=[_,_,_])) Tryz.underlying31 rfl (by rw [FkD.size hf];exact Tryz.infoFork)) D ⟨_,_,_,rfl,S2.sub (.cons_cons _ (.cons_cons _ (.cons_cons _ (.cons _ (.cons _ (List.Sublist.refl _))))))⟩
end
section
variable {Q:Exit->Act->World->Prop} {a:Act} {w:World}
open Go.RowKit Go.Shelf
attribute [local go_sem] Oper.semAt_some
theorem Tryz.built_forkZ:Tryz.prog.built 31 []=some zFork.toArray:=by kernel_rfl
theorem zFork_one:∀ u,u ∈ zFork.toArray.toList->u.oneCell'=true:=by
 intro u hu
 simp only [zFork,zNote,ntL,List.toList_toArray,List.mem_append,List.mem_cons,List.not_mem_nil,or_false] at hu
 rcases hu with (rfl|hu|rfl)|(rfl|hu|rfl)|hu|rfl <;> first|rfl|exact bv_one _ _ hu
theorem mff_r0(w0:World)(L:List Res)(S:Held w0 w L)(hsz:a.tmps.size=21):RG1 false 0 Tryz.f21 Q a w fun a' W q'=>Sl a' 3 (.bool false)->(∃ g2,Sl a' 2 (Pq g2 0) ∧ Held w0 W (blkR g2 31 zFork.toArray :: L))->q':=by
 intro hend
 refine wp_region_lit ?_
 (conv=>arg 4;whnf)
 have S1:=LH (S.newBlk 31 zFork.toArray)
 go_wp2
 try simp only [Act.put]
 exact hend _ _ tS sP (⟨w.heap.size,sP0,S1.out⟩)
theorem mff_r1N(p:Value)(HC0:∀ V,Kp [] w V->Calls Tryz.prog 50 #[p] V fun e w'=>e=.returned (.bool true) ∧ Kp [] V w')(hsz:a.tmps.size=21)(o0:Sl a 0 (p)):RG1 false 1 Tryz.f21 Q a w fun a' W q'=>Kp [] w W->Sl a' 13 (.bool true)->q':=by
 intro hend
 have hap:=pa 1 Tryz.f21
 refine wp_region_invS (l:=(opsOf 1 Tryz.f21)) (fun i v W=>match i with|0=>v=p|1=>v=.bool true|2=>v=.bool true|9=>v=.bool true|_=>True) hap ?_ ?_ ?_
 . exact fun _ _ _ _ h _=>h
 . and_intros <;> try (intro vs A' W hA hW hd hu K hK;try (refine wpOp_free _ rfl rfl ?_;conv=>arg 2;whnf))
   . exact qa1 (eO 0 o0)
   . have e4:=vD 4 0;clear hA hd hu o0;go_step
     refine (HC0 W hW).mono ?_
     rintro e w' ⟨rfl,k1⟩
     exact hK _ w' k1 rfl
   . exact qa1 (vD 5 1)
   . exact qS 2 false (vD 6 2)
   . exact qS 2 false (vD 6 2)
   . exact qS 2 false (vD 6 2)
   . exact qS 2 false (vD 6 2)
   . exact qS 2 false (vD 6 2)
   . exact qS 2 false (vD 6 2)
   . exact qa2 (vD 6 2) (eU 12 8)
   . trivial
 . intro vs W hW hp
   rw [putAll_eq]
   exact hend _ W sQ hW (sW (hp 9 sB))
theorem mff_r1Y(g:Nat)(cs:Array Value)(fd:Bool)(hb:Blk w g 85 cs)(h9:cs[140]?=some (.bool fd))(HC0:∀ V,Kp [] w V->Calls Tryz.prog 50 #[Pq g 0] V fun e w'=>e=.returned (.bool false) ∧ Kp [] V w')(hsz:a.tmps.size=21)(o0:Sl a 0 (Pq g 0)):RG1 false 1 Tryz.f21 Q a w fun a' W q'=>Kp [] w W->Sl a' 13 (.bool (!fd))->q':=by
 intro hend
 have hap:=pa 1 Tryz.f21
 refine wp_region_invS (l:=(opsOf 1 Tryz.f21)) (fun i v W=>match i with|0=>v=Pq g 0|1=>v=.bool false|2=>v=.bool false|3=>v=Pq g 0|4=>v=Pq g 0|5=>v=Pq g 0|6=>v=Pq g 140|7=>v=.bool fd|8=>v=.bool (!fd)|9=>v=.bool (!fd)|_=>True) hap ?_ ?_ ?_
 . exact fun _ _ _ _ h _=>h
 . and_intros <;> try (intro vs A' W hA hW hd hu K hK;try (refine wpOp_free _ rfl rfl ?_;conv=>arg 2;whnf))
   . exact qa1 (eO 0 o0)
   . have e4:=vD 4 0;clear hA hd hu o0;go_step
     refine (HC0 W hW).mono ?_
     rintro e w' ⟨rfl,k1⟩
     exact hK _ w' k1 rfl
   . exact qa1 (vD 5 1)
   . exact gq1 2 (vD 6 2) (eO 0 o0)
   . exact gq1 2 (vD 6 2) (vD 7 3)
   . exact gq1 2 (vD 6 2) (vD 8 4)
   . exact gq1 2 (vD 6 2) (vD 9 5)
   . refine qG 2 (vD 6 2) ?_;(conv=>arg 2;whnf)
     have c0:W.cell? ⟨g,140,none⟩=some (.bool fd):=by rw [(hb.k0 hW).cell];exact h9
     exact qa1 (vD 10 6)
   . exact gq1 2 (vD 6 2) (vD 11 7)
   . exact qa2 (vD 6 2) (vD 12 8)
   . trivial
 . intro vs W hW hp
   rw [putAll_eq]
   exact hend _ W sQ hW (sW (hp 9 sB))
theorem mff_r2(w0:World)(g2:Nat)(L:List Res)(S:Held w0 w (blkR g2 31 zFork.toArray :: L))(hsz:a.tmps.size=21)(o2:Sl a 2 (Pq g2 0)):RG1 false 2 Tryz.f21 Q a w fun a' W q'=>Sl a' 3 (.bool false)->(Held w0 W (blkR g2 31 zFork.toArray :: L))->q':=by
 intro hend
 refine wp_region_lit ?_
 (conv=>arg 4;whnf)
 unfold Sl at o2
 have S:=LH S
 have HB:=LH Tryz.built_forkZ
 have hcz:Hid (zFork.toArray.size=101):=LH rfl
 have hc1:=LH zFork_one
 obtain ⟨cz,Ecz⟩:∃ cz,Hid (zFork.toArray=cz):=⟨_,LH rfl⟩
 rw [Ecz.out] at S HB hcz hc1
 have hzz:=hcz
 refine wpList_buildP rfl 31 _ rfl [] (by simp) _ HB.out ?_
 go_wp2_with (refine wpList_store_blk rfl 31 (.tmp 2) (.tmp 14) rfl g2 (aO o2) cz aE 31 _ (S.out.at_ (l1:=[])) (by rw [hcz.out];exact Tryz.infoFork) rfl hc1.out ?_;intro w7 b7 k7;have S7:=LH (Held.setBlk (l1:=[]) S.out b7 k7);clear b7 k7)
 rw [<- Ecz.out] at S7
 try simp only [Act.put]
 exact hend _ _ tS sP (S7.out)
theorem mff_r3(w0:World)(g g2:Nat)(cs cf:Array Value)(hcf:cf.size=101)(hcs:∀ j u,cf.toList[j]?=some u->cs[j+39]?=some u)(hb:Blk w g 85 cs)(R:Array Value->List Res->Prop)(hR:∀ c L',R c L'->c.size=101 ∧ ∀ u,u ∈ c.toList->u.oneCell'=true)(L:List Res)(HC0:Calls Tryz.prog 51 #[.agg cf] w fun e w'=>∃ c L',e=.returned (.agg c) ∧ R c L' ∧ Held w0 w' (blkR g2 31 zFork.toArray :: L'))(hsz:a.tmps.size=21)(o0:Sl a 0 (Pq g 0))(o2:Sl a 2 (Pq g2 0)):RG1 false 3 Tryz.f21 Q a w fun a' W q'=>Sl a' 3 (.bool true)->(∃ c L',R c L' ∧ Held w0 W (blkR g2 31 c :: L'))->q':=by
 intro hend
 refine wp_region_lit ?_
 (conv=>arg 4;whnf)
 unfold Sl at o0 o2
 have HC:=LH HC0
 clear HC0
 have hcf:=LH hcf
 have HL:Hid (∀ j u,cf.toList[j]?=some u->w.cell? ((⟨g,39,none⟩:Addr).add j)=some u):=LH (fun j u hj=>by rw [Addr.add_lit,Nat.add_comm 39 j,hb.cell];exact hcs j u hj)
 clear hb hcs
 have hzz:Hid (zFork.toArray.size=101):=LH rfl
 obtain ⟨cz,Ecz⟩:∃ cz,Hid (zFork.toArray=cz):=⟨_,LH rfl⟩
 rw [Ecz.out] at HC hzz
 go_wp2_with (refine wpList_load_agg rfl 31 (.tmp 18) rfl ⟨g,39,none⟩ aE cf.toList _ HL.out Tryz.underlying31 rfl (by rw [Array.length_toList,hcf.out];exact Tryz.infoFork) ?_)
 refine HC.out.mono ?_
 rintro e w1 ⟨c,L',rfl,hr,S1⟩
 have S1:=LH S1
 have hr:=LH hr
 have hcz:=LH (hR c L' hr.out).1
 have hc1:=LH (hR c L' hr.out).2
 go_wp2_with (refine wpList_store_blk rfl 31 (.tmp 2) (.tmp 20) rfl g2 (aO o2) c aE 31 _ (S1.out.at_ (l1:=[])) (by rw [hcz.out];exact Tryz.infoFork) (by rw [hcz.out,hzz.out]) hc1.out ?_;intro w7 b7 k7;have S7:=LH (Held.setBlk (l1:=[]) S1.out b7 k7);clear b7 k7)
 try simp only [Act.put]
 exact hend _ _ tS sP (⟨c,L',hr.out,S7.out⟩)
end
section
open Go.RowKit Go.Shelf
theorem mffork_none(p:Value)(w:World)(h:MirAt w p false):
 Calls Tryz.prog 21 #[p] w fun e w'=>e=.returned (.tuple #[.agg zFork.toArray,.bool false]) ∧ Kp [] w w':=by
 refine calls_fr Tryz.func21 rfl 21 rfl (fun a0 hsz hdf hAr=>?_)
 have hz0:a0.tmps.size=21:=hsz
 have D:=hdf
 have o0:=hAr 0 _ rfl
 refine wp_seq (mff_r0 w [] (Held.start w) hz0 (fun a1 w1 hs1 o3 h1=>?_))
 obtain ⟨hz1,D,o0⟩:=kq1 hs1 hz0 D o0
 obtain ⟨g2,o2,S⟩:=h1
 refine wp_seq (wp_seq (mff_r1N p (fun V kV=>mnone_any p false V (h.kp (S.k.trans kV (by simp)))) hz1 o0 (fun a2 w2 hs2 k2 o13=>?_)))
 obtain ⟨hz2,D,o0,o2⟩:=kq2 hs2 hz1 D o0 o2
 have S:=S.kp k2
 refine wcT o13 ?_
 refine wp_seq (mff_r2 w g2 [] S hz2 o2 (fun a3 w3 hs3 o3 S=>?_))
 obtain ⟨hz3,D,o2⟩:=kq1 hs3 hz2 D o2
 refine wp_ret ?_
 try simp only [Exit.then]
 exact bodyPost_ret (results_cell_tmp (by rfl) (o2.eval (by rw [hz3];decide)) (S.at_ (l1:=[])) Tryz.underlying31 rfl (by rw [show zFork.toArray.size=101 from rfl];exact Tryz.infoFork)) D ⟨congrArg (fun x=>Ending.returned (.tuple #[.agg zFork.toArray,x])) (o3.eval (by rw [hz3];decide)),S.k⟩
theorem mffork_yes(w0:World)(L:List Res)(g:Nat)(M:MirD)(hM:M.Ok)(hfd:M.fd=true)(f:FkD)(hf:f.Ok)(A1 A2 Ap:Option Addr)(c1 c2 cp:Nat)(hfk:M.fk=(f.cells (.slice A1 f.l1.length c1) (.slice A2 f.l2.length c2) (.slice Ap f.pf.length cp)).toList)(w:World)(S:Held w0 w (blkR g 85 M.cells :: L))(HV1:∀ V,(∀ r ∈ L,r.ok V)->Rd V 33 (.slice A1 f.l1.length c1) f.l1.length (sgsC f.l1))(HV2:∀ V,(∀ r ∈ L,r.ok V)->Rd V 33 (.slice A2 f.l2.length c2) f.l2.length (sgsC f.l2))(HVp:∀ V,(∀ r ∈ L,r.ok V)->Rd V 32 (.slice Ap f.pf.length cp) f.pf.length (hsC f.pf)):
 Calls Tryz.prog 21 #[Pq g 0] w fun e w'=>∃ s1 s2 p,e=.returned (.tuple #[.agg (f.cells s1 s2 p),.bool true]) ∧ Held w0 w' (rowR 89 33 s1 f.l1.length (sgsC f.l1) :: rowR 89 33 s2 f.l2.length (sgsC f.l2) :: rowR 23 32 p f.pf.length (hsC f.pf) :: blkR g 85 M.cells :: L):=by
 refine calls_fr Tryz.func21 rfl 21 rfl (fun a0 hsz hdf hAr=>?_)
 have hz0:a0.tmps.size=21:=hsz
 have D:=hdf
 have o0:=hAr 0 _ rfl
 refine wp_seq (mff_r0 w0 _ S hz0 (fun a1 w1 hs1 o3 h1=>?_))
 obtain ⟨hz1,D,o0⟩:=kq1 hs1 hz0 D o0
 obtain ⟨g2,o2,S1⟩:=h1
 refine wp_seq (wp_seq (mff_r1Y g M.cells true (S1.at_ (l1:=[_])) (by rw [<- hfd];exact mirC_fd hM.la hM.fk) (fun V kV=>mnone_any _ true V (.inr ⟨g,M.cells,rfl,(S1.kp kV).at_ (l1:=[_]),mirC_md hM.la hM.fk⟩)) hz1 o0 (fun a2 w2 hs2 k2 o13=>?_)))
 obtain ⟨hz2,D,o0,o2⟩:=kq2 hs2 hz1 D o0 o2
 have S2:=S1.kp k2
 refine wcF o13 (wp_skip ?_)
 simp only [Exit.then]
 have HC:=(mfork_any w0 _ f hf A1 A2 Ap c1 c2 cp w2 S2 (fun V hV=>HV1 V (fun r hr=>hV r (List.mem_cons_of_mem _ (List.mem_cons_of_mem _ hr)))) (fun V hV=>HV2 V (fun r hr=>hV r (List.mem_cons_of_mem _ (List.mem_cons_of_mem _ hr)))) (fun V hV=>HVp V (fun r hr=>hV r (List.mem_cons_of_mem _ (List.mem_cons_of_mem _ hr))))).mono (R':=fun e w'=>∃ c L',e=.returned (.agg c) ∧ (∃ s1 s2 p,c=f.cells s1 s2 p ∧ c.size=101 ∧ (∀ u,u ∈ c.toList->u.oneCell'=true) ∧ L'=(rowR 89 33 s1 f.l1.length (sgsC f.l1) :: rowR 89 33 s2 f.l2.length (sgsC f.l2) :: rowR 23 32 p f.pf.length (hsC f.pf) :: blkR g 85 M.cells :: L)) ∧ Held w0 w' (blkR g2 31 zFork.toArray :: L')) (fun e w' h=>by
  obtain ⟨s1,s2,p,rfl,T⟩:=h
  obtain ⟨a1,b1,rfl,-,-⟩:=ow_form (show Ow w' 89 33 s1 f.l1.length (sgsC f.l1) from T.at_ (l1:=[]))
  obtain ⟨a2,b2,rfl,-,-⟩:=ow_form (show Ow w' 89 33 s2 f.l2.length (sgsC f.l2) from T.at_ (l1:=[_]))
  obtain ⟨a3,b3,rfl,-,-⟩:=ow_form (show Ow w' 23 32 p f.pf.length (hsC f.pf) from T.at_ (l1:=[_,_]))
  exact ⟨_,_,rfl,⟨_,_,_,rfl,FkD.size hf,FkD.one f _ _ _ _ _ _ _ _ _,rfl⟩,T.pull 3 rfl⟩)
 refine wp_seq (mff_r3 w0 g g2 M.cells (f.cells (.slice A1 f.l1.length c1) (.slice A2 f.l2.length c2) (.slice Ap f.pf.length cp)) (FkD.size hf) (fun j u hj=>mirC_fk hM.la hM.fk (by rw [hfk];exact hj)) (S2.at_ (l1:=[_])) _ (fun c L' h=>by obtain ⟨s1,s2,p,-,h1,h2,-⟩:=h;exact ⟨h1,h2⟩) [] HC hz2 o0 o2 (fun a3 w3 hs3 o3 h3=>?_))
 obtain ⟨hz3,D,o0,o2⟩:=kq2 hs3 hz2 D o0 o2
 obtain ⟨c,L',⟨s1,s2,p,rfl,h1,-,rfl⟩,S3⟩:=h3
 refine wp_ret ?_
 exact bodyPost_ret (results_cell_tmp (by rfl) (o2.eval (by rw [hz3];decide)) (S3.at_ (l1:=[])) Tryz.underlying31 rfl (by rw [h1];exact Tryz.infoFork)) D ⟨s1,s2,p,congrArg (fun x=>Ending.returned (.tuple #[.agg (f.cells s1 s2 p),x])) (o3.eval (by rw [hz3];decide)),S3.drop⟩
end
section
variable {Q:Exit->Act->World->Prop} {a:Act} {w:World}
open Go.RowKit Go.Shelf
attribute [local go_sem] Oper.semAt_some
theorem mck_r0(w0:World)(cf:Array Value)(hcf:cf.size=101)(h1:∀ u,u ∈ cf.toList->u.oneCell'=true)(s:ByteArray)(A:Option Addr)(n c:Nat)(L:List Res)(S:Held w0 w L)(hsz:a.tmps.size=59)(o0:Sl a 0 (.agg cf))(o1:Sl a 1 (.agg #[.string s,.slice A n c])):RG1 false 0 Tryz.f9 Q a w fun a' W q'=>Sl a' 4 (.int .i64 (0:Int))->(∃ g2 g3,Sl a' 2 (Pq g2 0) ∧ Sl a' 3 (Pq g3 0) ∧ Held w0 W (blkR g3 34 #[.string s,.slice A n c] :: blkR g2 31 cf :: L))->q':=by
 intro hend
 refine wp_region_lit ?_
 (conv=>arg 4;whnf)
 unfold Sl at o0 o1
 have S1:=LH ((S.newBlk 31 cf).newBlkN 34 #[.string s,.slice A n c] (g:=w.heap.size+1) (by simp))
 have hcf:=LH hcf
 have h1:=LH h1
 go_wp2
 try simp only [Act.put]
 exact hend _ _ tS sP (⟨w.heap.size,w.heap.size+1,sP0,sP0,S1.out⟩)
theorem mck_r1N(f:FkD)(hf:f.Ok)(s1 s2 pv:Value)(g2:Nat)(hb:Blk w g2 31 (f.cells s1 s2 pv))(s:ByteArray)(A:Option Addr)(n c:Nat)(g3:Nat)(hb3:Blk w g3 34 #[.string s,.slice A n c])(HC0:∀ V,Kp [] w V->Calls Tryz.prog 30 #[.agg #[.string s,.slice A n c]] V fun e w'=>e=.returned (.bool false) ∧ Kp [] V w')(hsz:a.tmps.size=59)(o2:Sl a 2 (Pq g2 0))(o3:Sl a 3 (Pq g3 0)):RG1 false 1 Tryz.f9 Q a w fun a' W q'=>Kp [] w W->Sl a' 21 (.bool true)->q':=by
 intro hend
 have hap:=pa 1 Tryz.f9
 refine wp_region_invS (l:=(opsOf 1 Tryz.f9)) (fun i v W=>match i with|0=>v=.agg #[.string s,.slice A n c]|1=>v=.bool false|2=>v=.bool true|3=>v=.bool true|8=>v=.bool true|9=>v=.bool true|14=>v=.bool true|_=>True) hap ?_ ?_ ?_
 . exact fun _ _ _ _ h _=>h
 . and_intros <;> try (intro vs A' W hA hW hd hu K hK;try (refine wpOp_free _ rfl rfl ?_;conv=>arg 2;whnf))
   . obtain ⟨q1,q2,q3,q4⟩:=Blk.c2 (hb3.k0 hW)
     exact qa1 (eO 3 o3)
   . have e7:=vD 7 0;clear hA hd hu o2 o3;go_step
     refine (HC0 W hW).mono ?_
     rintro e w' ⟨rfl,k1⟩
     exact hK _ w' k1 rfl
   . exact qa1 (vD 8 1)
   . exact qa1 (vD 9 2)
   . exact qS 3 false (vD 10 3)
   . exact qS 3 false (vD 10 3)
   . exact qS 3 false (vD 10 3)
   . exact qS 3 false (vD 10 3)
   . exact qa2 (vD 10 3) (eU 14 7)
   . exact qa1 (vD 15 8)
   . exact qS 9 false (vD 16 9)
   . exact qS 9 false (vD 16 9)
   . exact qS 9 false (vD 16 9)
   . exact qS 9 false (vD 16 9)
   . exact qa2 (vD 16 9) (eU 20 13)
   . trivial
 . intro vs W hW hp
   rw [putAll_eq]
   exact hend _ W sQ hW (sW (hp 14 sB))
theorem mck_r1A(f:FkD)(hf:f.Ok)(s1 s2 pv:Value)(g2:Nat)(hb:Blk w g2 31 (f.cells s1 s2 pv))(s:ByteArray)(A:Option Addr)(n c:Nat)(g3:Nat)(hb3:Blk w g3 34 #[.string s,.slice A n c])(HC0:∀ V,Kp [] w V->Calls Tryz.prog 30 #[.agg #[.string s,.slice A n c]] V fun e w'=>e=.returned (.bool true) ∧ Kp [] V w')(c1:Int)(HC1:∀ V,Kp [] w V->Calls Tryz.prog 31 #[.agg (ntA f.z1 f.h1 s1)] V fun e w'=>e=.returned (.int .i64 c1) ∧ Kp [] V w')(hc1:(c1 != 0)=true)(hsz:a.tmps.size=59)(o2:Sl a 2 (Pq g2 0))(o3:Sl a 3 (Pq g3 0)):RG1 false 1 Tryz.f9 Q a w fun a' W q'=>Kp [] w W->Sl a' 21 (.bool true)->q':=by
 intro hend
 have hap:=pa 1 Tryz.f9
 refine wp_region_invS (l:=(opsOf 1 Tryz.f9)) (fun i v W=>match i with|0=>v=.agg #[.string s,.slice A n c]|1=>v=.bool true|2=>v=.bool false|3=>v=.bool false|4=>v=Pq g2 0|5=>v=.agg (ntA f.z1 f.h1 s1)|6=>v=.int .i64 c1|7=>v=.bool true|8=>v=.bool true|9=>v=.bool true|14=>v=.bool true|_=>True) hap ?_ ?_ ?_
 . exact fun _ _ _ _ h _=>h
 . and_intros <;> try (intro vs A' W hA hW hd hu K hK;try (refine wpOp_free _ rfl rfl ?_;conv=>arg 2;whnf))
   . obtain ⟨q1,q2,q3,q4⟩:=Blk.c2 (hb3.k0 hW)
     exact qa1 (eO 3 o3)
   . have e7:=vD 7 0;clear hA hd hu o2 o3;go_step
     refine (HC0 W hW).mono ?_
     rintro e w' ⟨rfl,k1⟩
     exact hK _ w' k1 rfl
   . exact qa1 (vD 8 1)
   . exact qa1 (vD 9 2)
   . exact gq1 3 (vD 10 3) (eO 2 o2)
   . refine qG 3 (vD 10 3) ?_;(conv=>arg 2;whnf);exact ldA (ntA f.z1 f.h1 s1) (vD 11 4) (Blk.sub (hb.k0 hW) (fun _ _=>FkD.n1 hf)) Tryz.underlying28 (by rw [ntA_size hf.h1];exact Tryz.infoNote)
   . refine qG 3 (vD 10 3) ?_;(conv=>arg 2;whnf);have e12:=vD 12 5;clear hA hd hu o2 o3;go_step
     refine (HC1 W hW).mono ?_
     rintro e w' ⟨rfl,k1⟩
     exact hK _ w' k1 rfl
   . exact gq1 3 (vD 10 3) (vD 13 6)
   . exact qa2 (vD 10 3) (vD 14 7)
   . exact qa1 (vD 15 8)
   . exact qS 9 false (vD 16 9)
   . exact qS 9 false (vD 16 9)
   . exact qS 9 false (vD 16 9)
   . exact qS 9 false (vD 16 9)
   . exact qa2 (vD 16 9) (eU 20 13)
   . trivial
 . intro vs W hW hp
   rw [putAll_eq]
   exact hend _ W sQ hW (sW (hp 14 sB))
theorem mck_r1Y(f:FkD)(hf:f.Ok)(s1 s2 pv:Value)(g2:Nat)(hb:Blk w g2 31 (f.cells s1 s2 pv))(s:ByteArray)(A:Option Addr)(n c:Nat)(g3:Nat)(hb3:Blk w g3 34 #[.string s,.slice A n c])(HC0:∀ V,Kp [] w V->Calls Tryz.prog 30 #[.agg #[.string s,.slice A n c]] V fun e w'=>e=.returned (.bool true) ∧ Kp [] V w')(c1:Int)(HC1:∀ V,Kp [] w V->Calls Tryz.prog 31 #[.agg (ntA f.z1 f.h1 s1)] V fun e w'=>e=.returned (.int .i64 c1) ∧ Kp [] V w')(hc1:(c1 != 0)=false)(c2:Int)(HC2:∀ V,Kp [] w V->Calls Tryz.prog 31 #[.agg (ntA f.z2 f.h2 s2)] V fun e w'=>e=.returned (.int .i64 c2) ∧ Kp [] V w')(hsz:a.tmps.size=59)(o2:Sl a 2 (Pq g2 0))(o3:Sl a 3 (Pq g3 0)):RG1 false 1 Tryz.f9 Q a w fun a' W q'=>Kp [] w W->Sl a' 21 (.bool (c2 != 0))->q':=by
 intro hend
 have hap:=pa 1 Tryz.f9
 refine wp_region_invS (l:=(opsOf 1 Tryz.f9)) (fun i v W=>match i with|0=>v=.agg #[.string s,.slice A n c]|1=>v=.bool true|2=>v=.bool false|3=>v=.bool false|4=>v=Pq g2 0|5=>v=.agg (ntA f.z1 f.h1 s1)|6=>v=.int .i64 c1|7=>v=.bool false|8=>v=.bool false|9=>v=.bool false|10=>v=Pq g2 34|11=>v=.agg (ntA f.z2 f.h2 s2)|12=>v=.int .i64 c2|13=>v=.bool (c2 != 0)|14=>v=.bool (c2 != 0)|_=>True) hap ?_ ?_ ?_
 . exact fun _ _ _ _ h _=>h
 . and_intros <;> try (intro vs A' W hA hW hd hu K hK;try (refine wpOp_free _ rfl rfl ?_;conv=>arg 2;whnf))
   . obtain ⟨q1,q2,q3,q4⟩:=Blk.c2 (hb3.k0 hW)
     exact qa1 (eO 3 o3)
   . have e7:=vD 7 0;clear hA hd hu o2 o3;go_step
     refine (HC0 W hW).mono ?_
     rintro e w' ⟨rfl,k1⟩
     exact hK _ w' k1 rfl
   . exact qa1 (vD 8 1)
   . exact qa1 (vD 9 2)
   . exact gq1 3 (vD 10 3) (eO 2 o2)
   . refine qG 3 (vD 10 3) ?_;(conv=>arg 2;whnf);exact ldA (ntA f.z1 f.h1 s1) (vD 11 4) (Blk.sub (hb.k0 hW) (fun _ _=>FkD.n1 hf)) Tryz.underlying28 (by rw [ntA_size hf.h1];exact Tryz.infoNote)
   . refine qG 3 (vD 10 3) ?_;(conv=>arg 2;whnf);have e12:=vD 12 5;clear hA hd hu o2 o3;go_step
     refine (HC1 W hW).mono ?_
     rintro e w' ⟨rfl,k1⟩
     exact hK _ w' k1 rfl
   . exact gq1 3 (vD 10 3) (vD 13 6)
   . exact qa2 (vD 10 3) (vD 14 7)
   . exact qa1 (vD 15 8)
   . exact gq1 9 (vD 16 9) (eO 2 o2)
   . refine qG 9 (vD 16 9) ?_;(conv=>arg 2;whnf);exact ldA (ntA f.z2 f.h2 s2) (vD 17 10) (Blk.sub (hb.k0 hW) (fun _ _=>FkD.n2 hf)) Tryz.underlying28 (by rw [ntA_size hf.h2];exact Tryz.infoNote)
   . refine qG 9 (vD 16 9) ?_;(conv=>arg 2;whnf);have e18:=vD 18 11;clear hA hd hu o2 o3;go_step
     refine (HC2 W hW).mono ?_
     rintro e w' ⟨rfl,k1⟩
     exact hK _ w' k1 rfl
   . exact gq1 9 (vD 16 9) (vD 19 12)
   . exact qa2 (vD 16 9) (vD 20 13)
   . trivial
 . intro vs W hW hp
   rw [putAll_eq]
   exact hend _ W sQ hW (sW (hp 14 sB))
theorem mck_r2(hsz:a.tmps.size=59):RG0 2 Tryz.f9 Q a w fun a' q'=>Sl a' 4 (.int .i64 (2:Int))->q':=rO
theorem mck_r4(hsz:a.tmps.size=59):RG0 4 Tryz.f9 Q a w fun a' q'=>Sl a' 4 (.int .i64 (401:Int))->q':=rO
theorem mck_r7(hsz:a.tmps.size=59):RG0 7 Tryz.f9 Q a w fun a' q'=>Sl a' 4 (.int .i64 (404:Int))->q':=rO
theorem mck_r8(hsz:a.tmps.size=59):RG0 8 Tryz.f9 Q a w fun a' q'=>Sl a' 4 (.int .i64 (0:Int))->q':=rO
theorem mck_r3A(f:FkD)(hf:f.Ok)(s1 s2 pv:Value)(g2:Nat)(hb:Blk w g2 31 (f.cells s1 s2 pv))(s:ByteArray)(A:Option Addr)(n c:Nat)(g3:Nat)(hb3:Blk w g3 34 #[.string s,.slice A n c])(c1:Int)(HC1:∀ V,Kp [] w V->Calls Tryz.prog 32 #[.agg (ntA f.z1 f.h1 s1),.agg #[.string s,.slice A n c]] V fun e w'=>e=.returned (.int .i64 c1) ∧ Kp [] V w')(hc1:(c1 != 0)=true)(hsz:a.tmps.size=59)(o2:Sl a 2 (Pq g2 0))(o3:Sl a 3 (Pq g3 0)):RG1 false 3 Tryz.f9 Q a w fun a' W q'=>Kp [] w W->Sl a' 33 (.bool true)->q':=by
 intro hend
 have hap:=pa 3 Tryz.f9
 refine wp_region_invS (l:=(opsOf 3 Tryz.f9)) (fun i v W=>match i with|0=>v=Pq g2 0|1=>v=.agg (ntA f.z1 f.h1 s1)|2=>v=.agg #[.string s,.slice A n c]|3=>v=.int .i64 c1|4=>v=.bool true|5=>v=.bool true|11=>v=.bool true|_=>True) hap ?_ ?_ ?_
 . exact fun _ _ _ _ h _=>h
 . and_intros <;> try (intro vs A' W hA hW hd hu K hK;try (refine wpOp_free _ rfl rfl ?_;conv=>arg 2;whnf))
   . exact qa1 (eO 2 o2)
   . exact ldA (ntA f.z1 f.h1 s1) (vD 22 0) (Blk.sub (hb.k0 hW) (fun _ _=>FkD.n1 hf)) Tryz.underlying28 (by rw [ntA_size hf.h1];exact Tryz.infoNote)
   . obtain ⟨q1,q2,q3,q4⟩:=Blk.c2 (hb3.k0 hW)
     exact qa1 (eO 3 o3)
   . have e23:=vD 23 1;have e24:=vD 24 2;clear hA hd hu o2 o3;go_step
     refine (HC1 W hW).mono ?_
     rintro e w' ⟨rfl,k1⟩
     exact hK _ w' k1 rfl
   . exact qa1 (vD 25 3)
   . exact qa1 (vD 26 4)
   . exact qS 5 false (vD 27 5)
   . exact qS 5 false (vD 27 5)
   . exact qS 5 false (vD 27 5)
   . exact qS 5 false (vD 27 5)
   . exact qS 5 false (vD 27 5)
   . exact qa2 (vD 27 5) (eU 32 10)
   . trivial
 . intro vs W hW hp
   rw [putAll_eq]
   exact hend _ W sQ hW (sW (hp 11 sB))
theorem mck_r3Y(f:FkD)(hf:f.Ok)(s1 s2 pv:Value)(g2:Nat)(hb:Blk w g2 31 (f.cells s1 s2 pv))(s:ByteArray)(A:Option Addr)(n c:Nat)(g3:Nat)(hb3:Blk w g3 34 #[.string s,.slice A n c])(c1:Int)(HC1:∀ V,Kp [] w V->Calls Tryz.prog 32 #[.agg (ntA f.z1 f.h1 s1),.agg #[.string s,.slice A n c]] V fun e w'=>e=.returned (.int .i64 c1) ∧ Kp [] V w')(hc1:(c1 != 0)=false)(c2:Int)(HC2:∀ V,Kp [] w V->Calls Tryz.prog 32 #[.agg (ntA f.z2 f.h2 s2),.agg #[.string s,.slice A n c]] V fun e w'=>e=.returned (.int .i64 c2) ∧ Kp [] V w')(hsz:a.tmps.size=59)(o2:Sl a 2 (Pq g2 0))(o3:Sl a 3 (Pq g3 0)):RG1 false 3 Tryz.f9 Q a w fun a' W q'=>Kp [] w W->Sl a' 33 (.bool (c2 != 0))->q':=by
 intro hend
 have hap:=pa 3 Tryz.f9
 refine wp_region_invS (l:=(opsOf 3 Tryz.f9)) (fun i v W=>match i with|0=>v=Pq g2 0|1=>v=.agg (ntA f.z1 f.h1 s1)|2=>v=.agg #[.string s,.slice A n c]|3=>v=.int .i64 c1|4=>v=.bool false|5=>v=.bool false|6=>v=Pq g2 34|7=>v=.agg (ntA f.z2 f.h2 s2)|8=>v=.agg #[.string s,.slice A n c]|9=>v=.int .i64 c2|10=>v=.bool (c2 != 0)|11=>v=.bool (c2 != 0)|_=>True) hap ?_ ?_ ?_
 . exact fun _ _ _ _ h _=>h
 . and_intros <;> try (intro vs A' W hA hW hd hu K hK;try (refine wpOp_free _ rfl rfl ?_;conv=>arg 2;whnf))
   . exact qa1 (eO 2 o2)
   . exact ldA (ntA f.z1 f.h1 s1) (vD 22 0) (Blk.sub (hb.k0 hW) (fun _ _=>FkD.n1 hf)) Tryz.underlying28 (by rw [ntA_size hf.h1];exact Tryz.infoNote)
   . obtain ⟨q1,q2,q3,q4⟩:=Blk.c2 (hb3.k0 hW)
     exact qa1 (eO 3 o3)
   . have e23:=vD 23 1;have e24:=vD 24 2;clear hA hd hu o2 o3;go_step
     refine (HC1 W hW).mono ?_
     rintro e w' ⟨rfl,k1⟩
     exact hK _ w' k1 rfl
   . exact qa1 (vD 25 3)
   . exact qa1 (vD 26 4)
   . exact gq1 5 (vD 27 5) (eO 2 o2)
   . refine qG 5 (vD 27 5) ?_;(conv=>arg 2;whnf);exact ldA (ntA f.z2 f.h2 s2) (vD 28 6) (Blk.sub (hb.k0 hW) (fun _ _=>FkD.n2 hf)) Tryz.underlying28 (by rw [ntA_size hf.h2];exact Tryz.infoNote)
   . refine qG 5 (vD 27 5) ?_;(conv=>arg 2;whnf)
     obtain ⟨q1,q2,q3,q4⟩:=Blk.c2 (hb3.k0 hW)
     exact qa1 (eO 3 o3)
   . refine qG 5 (vD 27 5) ?_;(conv=>arg 2;whnf);have e29:=vD 29 7;have e30:=vD 30 8;clear hA hd hu o2 o3;go_step
     refine (HC2 W hW).mono ?_
     rintro e w' ⟨rfl,k1⟩
     exact hK _ w' k1 rfl
   . exact gq1 5 (vD 27 5) (vD 31 9)
   . exact qa2 (vD 27 5) (vD 32 10)
   . trivial
 . intro vs W hW hp
   rw [putAll_eq]
   exact hend _ W sQ hW (sW (hp 11 sB))
theorem nt_pt{z:Int}{h:List UInt8}{v:Value}{j:Nat}{u:Value}(hj:(ptA z h).toList[j]?=some u):(ntA z h v).toList[j]?=some u:=by
 have e1:(ntA z h v).toList=(ptA z h).toList ++ [v]:=by simp [ntA,ntL,ptA]
 rw [e1,List.getElem?_append_left (List.getElem?_eq_some_iff.1 hj).1]
 exact hj
theorem ptA_oneC(z:Int)(h:Bs):∀ u,u ∈ (ptA z h).toList->u.oneCell'=true:=by
 intro u hu
 simp only [ptA,List.toList_toArray,List.mem_cons] at hu
 rcases hu with rfl|hu
 . rfl
 . exact bv_one h u hu
theorem pt_hashC{w:World}{g:Nat}{t:TypeId}{z:Int}{h:List UInt8}(b:Blk w g t (ptA z h)):∀ j u,(hashA h).toList[j]?=some u->w.cell? ((⟨g,1,none⟩:Addr).add j)=some u:=fun j u hu=>by
 rw [Addr.add_lit,Nat.add_comm 1 j,b.cell,<- Array.getElem?_toList]
 rw [show (ptA z h).toList=Value.int .i64 z :: bv h from rfl,List.getElem?_cons_succ]
 exact hu
theorem mck_r5(w0:World)(f:FkD)(hf:f.Ok)(s1 s2 pv:Value)(g2:Nat)(L:List Res)(hsz:a.tmps.size=59)(o2:Sl a 2 (Pq g2 0))
 (S0:Held w0 w (blkR g2 31 (f.cells s1 s2 pv) :: L))
 (hend:∀ (a':Act) (vs:Nat->Value) (gs:Nat->Nat) (W:World),Same a a' [34,35,36,37,38,39,5,6]->Sl a' 5 (Pq (gs 6) 0)->Sl a' 6 (Pq (gs 7) 0)->Held w0 W (blkR (gs 6) 25 (ptA f.z1 f.h1) :: blkR (gs 7) 25 (ptA f.z2 f.h2) :: blkR g2 31 (f.cells s1 s2 pv) :: L)->Q .normal a' W):(Code.region 5 (opsOf 5 Tryz.f9).toArray true).wp Tryz.prog Q a w:=by
 have hap:=pa 5 Tryz.f9
 refine wp_region_sep (Γ:=Nat) (l:=(opsOf 5 Tryz.f9)) 2 [0,1,2,3,4,5,8,9,10,11]
  (fun i vs gs=>match i with|0=>vs 0=Pq g2 0|1=>vs 1=Pq g2 0|2=>vs 2=.agg (ptA f.z1 f.h1)|3=>vs 3=Pq g2 34|4=>vs 4=Pq g2 34|5=>vs 5=.agg (ptA f.z2 f.h2)|6=>vs 6=Pq (gs 6) 0|7=>vs 7=Pq (gs 7) 0|_=>True)
  (fun i vs gs=>match i with|6=>[blkR (gs 6) 25 (ptA 0 (List.replicate 32 0))]|7=>[blkR (gs 7) 25 (ptA 0 (List.replicate 32 0))]|8=>[blkR (gs 6) 25 (ptA f.z1 f.h1)]|9=>[blkR (gs 7) 25 (ptA f.z2 f.h2)]|10=>[blkR g2 31 (f.cells s1 s2 pv)]|11=>L|_=>[])
  (fun i=>match i with|8=>[6]|9=>[7]|_=>[]) (fun i=>match i with|2=>[10]|5=>[10]|_=>[]) S0 (by kernel_rfl) hap (by kernel_rfl) (by kernel_rfl) (fun i=>match i with|0=>[0]|1=>[1]|2=>[2]|3=>[3]|4=>[4]|5=>[5]|6=>[6]|7=>[7]|8=>[6]|9=>[7]|_=>[]) (by kernel_rfl) ?_ (by kernel_rfl) ?_ ?_ ?_
 . exact lA
 . exact pA
 . clear S0 hend
   and_intros <;> try intro vs gs A' W LF hA S hR hd hu K hK
   . exact qa1 (eO 2 o2)
   . exact qa1 (vD 34 0)
   . exact ldA (ptA f.z1 f.h1) (vD 35 1) (fun j u hj=>by rw [Addr.add_lit,Nat.add_comm 0 j,(show Blk W g2 31 (f.cells s1 s2 pv) from S.ok (blkR g2 31 (f.cells s1 s2 pv)) (hR 10 (by simp) _ (List.mem_singleton.2 rfl))).cell];exact FkD.n1 hf (nt_pt hj)) Tryz.underlying25 (by rw [ptA_size hf.h1];exact Tryz.infoPointP)
   . exact qa1 (eO 2 o2)
   . exact qa1 (vD 37 3)
   . exact ldA (ptA f.z2 f.h2) (vD 38 4) (fun j u hj=>by rw [Addr.add_lit,Nat.add_comm 34 j,(show Blk W g2 31 (f.cells s1 s2 pv) from S.ok (blkR g2 31 (f.cells s1 s2 pv)) (hR 10 (by simp) _ (List.mem_singleton.2 rfl))).cell];exact FkD.n2 hf (nt_pt hj)) Tryz.underlying25 (by rw [ptA_size hf.h2];exact Tryz.infoPointP)
   . clear hA o2;go_step
     exact hK W.heap.size _ _ (S.newBlk 25 (ptA 0 (List.replicate 32 0))) rfl
   . clear hA o2;go_step
     exact hK W.heap.size _ _ (S.newBlk 25 (ptA 0 (List.replicate 32 0))) rfl
   . replace hK:=hK default;have e5:=vD 5 6;have e36:=vD 36 2;clear hA o2
     have S1:Held w0 W (blkR (gs 6) 25 (ptA 0 (List.replicate 32 0)) :: LF):=S
     refine op_store_blkS (.tmp 5) (.tmp 36) 25 rfl (gs 6) (by simpa [Act.eval] using e5) (ptA f.z1 f.h1) (by simpa [Act.eval] using e36) 25 (ptA 0 (List.replicate 32 0)) S1 (by rw [ptA_size hf.h1];exact Tryz.infoPointP) (by rw [ptA_size hf.h1,ptA_size (by simp)]) (ptA_oneC _ _) ?_
     intro w' S2
     exact hK _ _ S2 trivial
   . replace hK:=hK default;have e6:=vD 6 7;have e39:=vD 39 5;clear hA o2
     have S1:Held w0 W (blkR (gs 7) 25 (ptA 0 (List.replicate 32 0)) :: LF):=S
     refine op_store_blkS (.tmp 6) (.tmp 39) 25 rfl (gs 7) (by simpa [Act.eval] using e6) (ptA f.z2 f.h2) (by simpa [Act.eval] using e39) 25 (ptA 0 (List.replicate 32 0)) S1 (by rw [ptA_size hf.h2];exact Tryz.infoPointP) (by rw [ptA_size hf.h2,ptA_size (by simp)]) (ptA_oneC _ _) ?_
     intro w' S2
     exact hK _ _ S2 trivial
   . trivial
 . intro vs gs W S hp
   have S:Held w0 W (blkR (gs 6) 25 (ptA f.z1 f.h1) :: blkR (gs 7) 25 (ptA f.z2 f.h2) :: blkR g2 31 (f.cells s1 s2 pv) :: L):=by simpa only [List.flatMap_cons,List.flatMap_nil,List.append_nil,List.nil_append,List.cons_append,List.append_assoc] using S
   rw [putAll_eq]
   exact hend _ vs gs W sQ (sW (hp 6 sB)) (sW (hp 7 sB)) S
theorem mck_r6A(f:FkD)(hf:f.Ok)(s1 s2 pv:Value)(g2:Nat)(hb:Blk w g2 31 (f.cells s1 s2 pv))(hpv:∃ A n c,pv=.slice A n c)(g5 g6:Nat)(hb5:Blk w g5 25 (ptA f.z1 f.h1))(hb6:Blk w g6 25 (ptA f.z2 f.h2))(heq:(f.r == f.h1)=true)(hsz:a.tmps.size=59)(o2:Sl a 2 (Pq g2 0))(o5:Sl a 5 (Pq g5 0))(o6:Sl a 6 (Pq g6 0)):RG1 false 6 Tryz.f9 Q a w fun a' W q'=>Kp [] w W->Sl a' 58 (.bool true)->q':=by
 intro hend
 have hap:=pa 6 Tryz.f9
 refine wp_region_invS (l:=(opsOf 6 Tryz.f9)) (fun i v W=>match i with|0=>v=Pq g2 68|1=>v=.agg (hashA f.r)|2=>v=Pq g5 1|3=>v=.agg (hashA f.h1)|4=>v=.bool true|5=>v=.bool true|18=>v=.bool true|_=>True) hap ?_ ?_ ?_
 . exact fun _ _ _ _ h _=>h
 . and_intros <;> try (intro vs A' W hA hW hd hu K hK;try (refine wpOp_free _ rfl rfl ?_;conv=>arg 2;whnf))
   . exact qa1 (eO 2 o2)
   . exact ldA (hashA f.r) (vD 40 0) (Blk.sub (hb.k0 hW) (fun _ _=>FkD.rt hf)) Tryz.underlying23 (by rw [hashA_size,hf.r];exact Tryz.infoHashP)
   . exact qa1 (eO 5 o5)
   . exact ldA (hashA f.h1) (vD 42 2) (pt_hashC (hb5.k0 hW)) Tryz.underlying23 (by rw [hashA_size,hf.h1];exact Tryz.infoHashP)
   . have e41:=vD 41 1;have e43:=vD 43 3;clear hA hd hu o2 o5 o6;refine op_runs (v:=.bool (f.r == f.h1)) (w':=W) (exec_bin_agg rfl (by simpa [Act.eval] using e41) (by simpa [Act.eval] using e43) Tryz.eqGuardType23 (eql_hash W f.r f.h1 hf.r hf.h1)) ?_
     exact hK _ _ kR (congrArg Value.bool heq)
   . exact qa1 (vD 44 4)
   . exact qS 5 false (vD 45 5)
   . exact qS 5 false (vD 45 5)
   . exact qS 5 false (vD 45 5)
   . exact qS 5 false (vD 45 5)
   . exact qS 5 false (vD 45 5)
   . exact qS 5 false (vD 45 5)
   . exact qS 5 false (vD 45 5)
   . exact qS 5 false (vD 45 5)
   . exact qS 5 false (vD 45 5)
   . exact qS 5 false (vD 45 5)
   . exact qS 5 false (vD 45 5)
   . exact qS 5 false (vD 45 5)
   . exact qa2 (vD 45 5) (eU 57 17)
   . trivial
 . intro vs W hW hp
   rw [putAll_eq]
   exact hend _ W sQ hW (sW (hp 18 sB))
theorem mck_r6Y(f:FkD)(hf:f.Ok)(s1 s2 pv:Value)(g2:Nat)(hb:Blk w g2 31 (f.cells s1 s2 pv))(hpv:∃ A n c,pv=.slice A n c)(g5 g6:Nat)(hb5:Blk w g5 25 (ptA f.z1 f.h1))(hb6:Blk w g6 25 (ptA f.z2 f.h2))(heq:(f.r == f.h1)=false)(cd:Int)(HC1:∀ V,Kp [] w V->Calls Tryz.prog 33 #[.int .i64 f.z1,.int .i64 f.z2,.agg (hashA f.r),.agg (hashA f.h2),pv] V fun e w'=>e=.returned (.int .i64 cd) ∧ Kp [] V w')(hsz:a.tmps.size=59)(o2:Sl a 2 (Pq g2 0))(o5:Sl a 5 (Pq g5 0))(o6:Sl a 6 (Pq g6 0)):RG1 false 6 Tryz.f9 Q a w fun a' W q'=>Kp [] w W->Sl a' 58 (.bool (cd != 0))->q':=by
 intro hend
 have hap:=pa 6 Tryz.f9
 refine wp_region_invS (l:=(opsOf 6 Tryz.f9)) (fun i v W=>match i with|0=>v=Pq g2 68|1=>v=.agg (hashA f.r)|2=>v=Pq g5 1|3=>v=.agg (hashA f.h1)|4=>v=.bool false|5=>v=.bool false|6=>v=Pq g5 0|7=>v=.int .i64 f.z1|8=>v=Pq g6 0|9=>v=.int .i64 f.z2|10=>v=Pq g2 68|11=>v=.agg (hashA f.r)|12=>v=Pq g6 1|13=>v=.agg (hashA f.h2)|14=>v=Pq g2 100|15=>v=pv|16=>v=.int .i64 cd|17=>v=.bool (cd != 0)|18=>v=.bool (cd != 0)|_=>True) hap ?_ ?_ ?_
 . exact fun _ _ _ _ h _=>h
 . and_intros <;> try (intro vs A' W hA hW hd hu K hK;try (refine wpOp_free _ rfl rfl ?_;conv=>arg 2;whnf))
   . exact qa1 (eO 2 o2)
   . exact ldA (hashA f.r) (vD 40 0) (Blk.sub (hb.k0 hW) (fun _ _=>FkD.rt hf)) Tryz.underlying23 (by rw [hashA_size,hf.r];exact Tryz.infoHashP)
   . exact qa1 (eO 5 o5)
   . exact ldA (hashA f.h1) (vD 42 2) (pt_hashC (hb5.k0 hW)) Tryz.underlying23 (by rw [hashA_size,hf.h1];exact Tryz.infoHashP)
   . have e41:=vD 41 1;have e43:=vD 43 3;clear hA hd hu o2 o5 o6;refine op_runs (v:=.bool (f.r == f.h1)) (w':=W) (exec_bin_agg rfl (by simpa [Act.eval] using e41) (by simpa [Act.eval] using e43) Tryz.eqGuardType23 (eql_hash W f.r f.h1 hf.r hf.h1)) ?_
     exact hK _ _ kR (congrArg Value.bool heq)
   . exact qa1 (vD 44 4)
   . exact gq1 5 (vD 45 5) (eO 5 o5)
   . refine qG 5 (vD 45 5) ?_;(conv=>arg 2;whnf)
     have c0:W.cell? ⟨g5,0,none⟩=some (.int .i64 f.z1):=by rw [(hb5.k0 hW).cell];rfl
     exact qa1 (vD 46 6)
   . exact gq1 5 (vD 45 5) (eO 6 o6)
   . refine qG 5 (vD 45 5) ?_;(conv=>arg 2;whnf)
     have c0:W.cell? ⟨g6,0,none⟩=some (.int .i64 f.z2):=by rw [(hb6.k0 hW).cell];rfl
     exact qa1 (vD 48 8)
   . exact gq1 5 (vD 45 5) (eO 2 o2)
   . refine qG 5 (vD 45 5) ?_;(conv=>arg 2;whnf);exact ldA (hashA f.r) (vD 50 10) (Blk.sub (hb.k0 hW) (fun _ _=>FkD.rt hf)) Tryz.underlying23 (by rw [hashA_size,hf.r];exact Tryz.infoHashP)
   . exact gq1 5 (vD 45 5) (eO 6 o6)
   . refine qG 5 (vD 45 5) ?_;(conv=>arg 2;whnf);exact ldA (hashA f.h2) (vD 52 12) (pt_hashC (hb6.k0 hW)) Tryz.underlying23 (by rw [hashA_size,hf.h2];exact Tryz.infoHashP)
   . exact gq1 5 (vD 45 5) (eO 2 o2)
   . refine qG 5 (vD 45 5) ?_;(conv=>arg 2;whnf)
     obtain ⟨Ap,np,cp,rfl⟩:=hpv
     have c0:W.cell? ⟨g2,100,none⟩=some (.slice Ap np cp):=by rw [(hb.k0 hW).cell];exact FkD.pr hf
     exact qa1 (vD 54 14)
   . refine qG 5 (vD 45 5) ?_;(conv=>arg 2;whnf);have e47:=vD 47 7;have e49:=vD 49 9;have e51:=vD 51 11;have e53:=vD 53 13;have e55:=vD 55 15;clear hA hd hu o2 o5 o6;go_step
     refine (HC1 W hW).mono ?_
     rintro e w' ⟨rfl,k1⟩
     exact hK _ w' k1 rfl
   . exact gq1 5 (vD 45 5) (vD 56 16)
   . exact qa2 (vD 45 5) (vD 57 17)
   . trivial
 . intro vs W hW hp
   rw [putAll_eq]
   exact hend _ W sQ hW (sW (hp 18 sB))
end
section
open Go.RowKit Go.Shelf
theorem keyOk_le{nm sec:List UInt8}(h:keyOk nm sec=true):nm.length<=64 ∧ sec.length<=256:=by
 rw [keyOk_eq] at h
 simp only [Bool.and_eq_true,nmOk,decide_eq_true_eq] at h
 exact ⟨h.1.1.1.2,h.2⟩
def chkMF (f:FkD) (nm sec:Bs):Int:=
 if keyOk nm sec=false ∨ chkN f.z1 f.l1 ≠ 0 ∨ chkN f.z2 f.l2 ≠ 0 then 2 else
 if signedN f.z1 f.h1 f.l1 nm sec ≠ 0 ∨ signedN f.z2 f.h2 f.l2 nm sec ≠ 0 then 401 else
 if f.r=f.h1 ∨ consF f.z1 f.z2 f.r f.h2 f.pf ≠ 0 then 404 else 0
theorem mcheck_any(f:FkD)(hf:f.Ok)(hz1:-9223372036854775808<=f.z1 ∧ f.z1<=9223372036854775807)(hz2:-9223372036854775808<=f.z2 ∧ f.z2<=9223372036854775807)(A1 A2 Ap:Option Addr)(c1 c2 cp:Nat)(nm:Bs)(hnm:nm.length<=9223372036854775807)(Ak:Option Addr)(ck:Nat)(sec:Bs)(w:World)(LDw:LD w)(hk:Rd w 1 (.slice Ak sec.length ck) sec.length (bv sec))(hv1:Rd w 33 (.slice A1 f.l1.length c1) f.l1.length (sgsC f.l1))(hv2:Rd w 33 (.slice A2 f.l2.length c2) f.l2.length (sgsC f.l2))(hvp:Rd w 32 (.slice Ap f.pf.length cp) f.pf.length (hsC f.pf)):
 Calls Tryz.prog 9 #[.agg (f.cells (.slice A1 f.l1.length c1) (.slice A2 f.l2.length c2) (.slice Ap f.pf.length cp)),.agg #[strV nm,.slice Ak sec.length ck]] w fun e w'=>e=.returned (.int .i64 (chkMF f nm sec)) ∧ Kp [] w w':=by
 have HRt:∀ V,Kp [] w V->Calls Tryz.prog 30 #[.agg #[strV nm,.slice Ak sec.length ck]] V fun e w'=>e=.returned (.bool (keyOk nm sec)) ∧ Kp [] V w':=fun V kV=>mright_any nm (by omega) Ak ck sec V (LDw.kp kV) (rd_old hk kV)
 have HN1:∀ V,Kp [] w V->Calls Tryz.prog 31 #[.agg (ntA f.z1 f.h1 (.slice A1 f.l1.length c1))] V fun e w'=>e=.returned (.int .i64 (chkN f.z1 f.l1)) ∧ Kp [] V w':=fun V kV=>scheck_any f.z1 hz1 f.h1 hf.h1 f.l1 hf.l1 (by have:=hf.n1;omega) A1 c1 V (LDw.kp kV) (rd_old hv1 kV)
 have HN2:∀ V,Kp [] w V->Calls Tryz.prog 31 #[.agg (ntA f.z2 f.h2 (.slice A2 f.l2.length c2))] V fun e w'=>e=.returned (.int .i64 (chkN f.z2 f.l2)) ∧ Kp [] V w':=fun V kV=>scheck_any f.z2 hz2 f.h2 hf.h2 f.l2 hf.l2 (by have:=hf.n2;omega) A2 c2 V (LDw.kp kV) (rd_old hv2 kV)
 have HS1:keyOk nm sec=true->∀ V,Kp [] w V->Calls Tryz.prog 32 #[.agg (ntA f.z1 f.h1 (.slice A1 f.l1.length c1)),.agg #[strV nm,.slice Ak sec.length ck]] V fun e w'=>e=.returned (.int .i64 (signedN f.z1 f.h1 f.l1 nm sec)) ∧ Kp [] V w':=fun hky V kV=>signed_any f.z1 hz1 f.h1 hf.h1 A1 c1 f.l1 hf.l1 hf.n1 nm (by have:=(keyOk_le hky).1;omega) Ak ck sec V (LDw.kp kV) (rd_old hv1 kV) (rd_old hk kV)
 have HS2:keyOk nm sec=true->∀ V,Kp [] w V->Calls Tryz.prog 32 #[.agg (ntA f.z2 f.h2 (.slice A2 f.l2.length c2)),.agg #[strV nm,.slice Ak sec.length ck]] V fun e w'=>e=.returned (.int .i64 (signedN f.z2 f.h2 f.l2 nm sec)) ∧ Kp [] V w':=fun hky V kV=>signed_any f.z2 hz2 f.h2 hf.h2 A2 c2 f.l2 hf.l2 hf.n2 nm (by have:=(keyOk_le hky).1;omega) Ak ck sec V (LDw.kp kV) (rd_old hv2 kV) (rd_old hk kV)
 refine calls_fr Tryz.func9 rfl 59 rfl (fun a0 hsz hdf hAr=>?_)
 have hz0:a0.tmps.size=59:=hsz
 have D:=hdf
 have o0:=hAr 0 _ rfl
 have o1:=hAr 1 _ rfl
 refine wp_seq (mck_r0 w _ (FkD.size hf) (FkD.one f _ _ _ _ _ _ _ _ _) ⟨nm.toArray⟩ Ak sec.length ck [] (Held.start w) hz0 o0 o1 (fun a1 w1 hs1 o4 h1=>?_))
 obtain ⟨hz1,D,o0,o1⟩:=kq2 hs1 hz0 D o0 o1
 obtain ⟨g2,g3,o2,o3,S⟩:=h1
 cases hkey:keyOk nm sec
 . rw [hkey] at HRt
   refine wp_seq (wp_seq (mck_r1N f hf _ _ _ g2 (S.at_ (l1:=[_])) ⟨nm.toArray⟩ Ak sec.length ck g3 (S.at_ (l1:=[])) (fun V kV=>HRt V (S.k.trans kV (by simp))) hz1 o2 o3 (fun a2 w2 hs2 k2 o21=>?_)))
   obtain ⟨hz2,D,o2,o3⟩:=kq2 hs2 hz1 D o2 o3
   have S2:=S.kp k2
   refine wcT o21 ?_
   refine wp_seq (mck_r2 hz2 (fun a3 hs3 o4=>?_))
   obtain ⟨hz3,D⟩:=kq0 hs3 hz2 D
   refine wp_ret ?_
   try simp only [Exit.then,Exit.inBlock]
   refine bodyPost_ret (res_u1 (by rfl) (o4.eval (by rw [hz3];decide))) D ⟨?_,S2.k⟩
   unfold chkMF
   rw [if_pos (.inl hkey)]
 . rw [hkey] at HRt
   by_cases hn1:chkN f.z1 f.l1=0
   . have hq1:(chkN f.z1 f.l1 != 0)=false:=by rw [hn1];rfl
     refine wp_seq (wp_seq (mck_r1Y f hf _ _ _ g2 (S.at_ (l1:=[_])) ⟨nm.toArray⟩ Ak sec.length ck g3 (S.at_ (l1:=[])) (fun V kV=>HRt V (S.k.trans kV (by simp))) _ (fun V kV=>HN1 V (S.k.trans kV (by simp))) hq1 _ (fun V kV=>HN2 V (S.k.trans kV (by simp))) hz1 o2 o3 (fun a2 w2 hs2 k2 o21=>?_)))
     obtain ⟨hz2,D,o2,o3⟩:=kq2 hs2 hz1 D o2 o3
     have S2:=S.kp k2
     by_cases hn2:chkN f.z2 f.l2=0
     . refine wcF o21 (wp_skip ?_) (by rw [hn2];rfl)
       simp only [Exit.then]
       have hno1:¬ (keyOk nm sec=false ∨ chkN f.z1 f.l1 ≠ 0 ∨ chkN f.z2 f.l2 ≠ 0):=by rw [hkey];simp [hn1,hn2]
       by_cases hs1:signedN f.z1 f.h1 f.l1 nm sec=0
       . have hq2:(signedN f.z1 f.h1 f.l1 nm sec != 0)=false:=by rw [hs1];rfl
         refine wp_seq (wp_seq (mck_r3Y f hf _ _ _ g2 (S2.at_ (l1:=[_])) ⟨nm.toArray⟩ Ak sec.length ck g3 (S2.at_ (l1:=[])) _ (fun V kV=>HS1 hkey V (S2.k.trans kV (by simp))) hq2 _ (fun V kV=>HS2 hkey V (S2.k.trans kV (by simp))) hz2 o2 o3 (fun a3 w3 hs3 k3 o33=>?_)))
         obtain ⟨hz3,D,o2,o3⟩:=kq2 hs3 hz2 D o2 o3
         have S3:=S2.kp k3
         by_cases hs2:signedN f.z2 f.h2 f.l2 nm sec=0
         . refine wcF o33 (wp_skip ?_) (by rw [hs2];rfl)
           simp only [Exit.then]
           have hno2:¬ (signedN f.z1 f.h1 f.l1 nm sec ≠ 0 ∨ signedN f.z2 f.h2 f.l2 nm sec ≠ 0):=by simp [hs1,hs2]
           refine wp_seq (mck_r5 w f hf _ _ _ g2 _ hz3 o2 (S3.pull 1 rfl) (fun a4 vs gs w4 hs4 o5 o6 S4=>?_))
           obtain ⟨hz4,D,o2⟩:=kq1 hs4 hz3 D o2
           cases heq:(f.r == f.h1)
           . have hne:¬ f.r=f.h1:=fun e=>by rw [e] at heq;simp at heq
             refine wp_seq (wp_seq (mck_r6Y f hf _ _ _ g2 (S4.at_ (l1:=[_,_])) ⟨_,_,_,rfl⟩ _ _ (S4.at_ (l1:=[])) (S4.at_ (l1:=[_])) heq _ (fun V kV=>ccheck_any f.z1 f.z2 (by omega) f.r f.h2 hf.r hf.h2 Ap cp f.pf hf.pf V (rd_old hvp (S4.k.trans kV (by simp)))) hz4 o2 o5 o6 (fun a5 w5 hs5 k5 o58=>?_)))
             obtain ⟨hz5,D,o2,o5,o6⟩:=kq3 hs5 hz4 D o2 o5 o6
             have S5:=S4.kp k5
             by_cases hc:consF f.z1 f.z2 f.r f.h2 f.pf=0
             . refine wcF o58 (wp_skip ?_) (by rw [hc];rfl)
               simp only [Exit.then]
               refine wp_seq (mck_r8 hz5 (fun a6 hs6 o4=>?_))
               obtain ⟨hz6,D⟩:=kq0 hs6 hz5 D
               refine wp_ret ?_
               try simp only [Exit.then,Exit.inBlock]
               refine bodyPost_ret (res_u1 (by rfl) (o4.eval (by rw [hz6];decide))) D ⟨?_,S5.k⟩
               unfold chkMF
               rw [if_neg hno1,if_neg hno2,if_neg (by simp [hne,hc])]
             . have hq:((((consF f.z1 f.z2 f.r f.h2 f.pf:Nat):Int)) != 0)=true:=by rw [bne_iff_ne];omega
               refine wcT o58 ?_ (by rw [hq])
               refine wp_seq (mck_r7 hz5 (fun a6 hs6 o4=>?_))
               obtain ⟨hz6,D⟩:=kq0 hs6 hz5 D
               refine wp_ret ?_
               try simp only [Exit.then,Exit.inBlock]
               refine bodyPost_ret (res_u1 (by rfl) (o4.eval (by rw [hz6];decide))) D ⟨?_,S5.k⟩
               unfold chkMF
               rw [if_neg hno1,if_neg hno2,if_pos (.inr hc)]
           . have he:f.r=f.h1:=eq_of_beq heq
             refine wp_seq (wp_seq (mck_r6A f hf _ _ _ g2 (S4.at_ (l1:=[_,_])) ⟨_,_,_,rfl⟩ _ _ (S4.at_ (l1:=[])) (S4.at_ (l1:=[_])) heq hz4 o2 o5 o6 (fun a5 w5 hs5 k5 o58=>?_)))
             obtain ⟨hz5,D,o2,o5,o6⟩:=kq3 hs5 hz4 D o2 o5 o6
             have S5:=S4.kp k5
             refine wcT o58 ?_
             refine wp_seq (mck_r7 hz5 (fun a6 hs6 o4=>?_))
             obtain ⟨hz6,D⟩:=kq0 hs6 hz5 D
             refine wp_ret ?_
             try simp only [Exit.then,Exit.inBlock]
             refine bodyPost_ret (res_u1 (by rfl) (o4.eval (by rw [hz6];decide))) D ⟨?_,S5.k⟩
             unfold chkMF
             rw [if_neg hno1,if_neg hno2,if_pos (.inl he)]
         . have hq:(signedN f.z2 f.h2 f.l2 nm sec != 0)=true:=by rw [bne_iff_ne];exact hs2
           refine wcT o33 ?_ (by rw [hq])
           refine wp_seq (mck_r4 hz3 (fun a4 hs4 o4=>?_))
           obtain ⟨hz4,D⟩:=kq0 hs4 hz3 D
           refine wp_ret ?_
           try simp only [Exit.then,Exit.inBlock]
           refine bodyPost_ret (res_u1 (by rfl) (o4.eval (by rw [hz4];decide))) D ⟨?_,S3.k⟩
           unfold chkMF
           rw [if_neg hno1,if_pos (.inr hs2)]
       . have hq2:(signedN f.z1 f.h1 f.l1 nm sec != 0)=true:=by rw [bne_iff_ne];exact hs1
         refine wp_seq (wp_seq (mck_r3A f hf _ _ _ g2 (S2.at_ (l1:=[_])) ⟨nm.toArray⟩ Ak sec.length ck g3 (S2.at_ (l1:=[])) _ (fun V kV=>HS1 hkey V (S2.k.trans kV (by simp))) hq2 hz2 o2 o3 (fun a3 w3 hs3 k3 o33=>?_)))
         obtain ⟨hz3,D,o2,o3⟩:=kq2 hs3 hz2 D o2 o3
         have S3:=S2.kp k3
         refine wcT o33 ?_
         refine wp_seq (mck_r4 hz3 (fun a4 hs4 o4=>?_))
         obtain ⟨hz4,D⟩:=kq0 hs4 hz3 D
         refine wp_ret ?_
         try simp only [Exit.then,Exit.inBlock]
         refine bodyPost_ret (res_u1 (by rfl) (o4.eval (by rw [hz4];decide))) D ⟨?_,S3.k⟩
         unfold chkMF
         rw [if_neg hno1,if_pos (.inl hs1)]
     . have hq:(chkN f.z2 f.l2 != 0)=true:=by rw [bne_iff_ne];exact hn2
       refine wcT o21 ?_ (by rw [hq])
       refine wp_seq (mck_r2 hz2 (fun a3 hs3 o4=>?_))
       obtain ⟨hz3,D⟩:=kq0 hs3 hz2 D
       refine wp_ret ?_
       try simp only [Exit.then,Exit.inBlock]
       refine bodyPost_ret (res_u1 (by rfl) (o4.eval (by rw [hz3];decide))) D ⟨?_,S2.k⟩
       unfold chkMF
       rw [if_pos (.inr (.inr hn2))]
   . have hq1:(chkN f.z1 f.l1 != 0)=true:=by rw [bne_iff_ne];exact hn1
     refine wp_seq (wp_seq (mck_r1A f hf _ _ _ g2 (S.at_ (l1:=[_])) ⟨nm.toArray⟩ Ak sec.length ck g3 (S.at_ (l1:=[])) (fun V kV=>HRt V (S.k.trans kV (by simp))) _ (fun V kV=>HN1 V (S.k.trans kV (by simp))) hq1 hz1 o2 o3 (fun a2 w2 hs2 k2 o21=>?_)))
     obtain ⟨hz2,D,o2,o3⟩:=kq2 hs2 hz1 D o2 o3
     have S2:=S.kp k2
     refine wcT o21 ?_
     refine wp_seq (mck_r2 hz2 (fun a3 hs3 o4=>?_))
     obtain ⟨hz3,D⟩:=kq0 hs3 hz2 D
     refine wp_ret ?_
     try simp only [Exit.then,Exit.inBlock]
     refine bodyPost_ret (res_u1 (by rfl) (o4.eval (by rw [hz3];decide))) D ⟨?_,S2.k⟩
     unfold chkMF
     rw [if_pos (.inr (.inl hn1))]
end
section
variable {Q:Exit->Act->World->Prop} {a:Act} {w:World}
open Go.RowKit Go.Shelf
attribute [local go_sem] Oper.semAt_some
theorem mtk_r0(w0:World)(cn:Array Value)(hcn:cn.size=34)(h1:∀ u,u ∈ cn.toList->u.oneCell'=true)(L:List Res)(S:Held w0 w L)(hsz:a.tmps.size=130)(o1:Sl a 1 (.agg cn)):RG1 false 0 Tryz.f16 Q a w fun a' W q'=>Sl a' 6 (.int .i64 (0:Int))->(∃ g4,Sl a' 4 (Pq g4 0) ∧ Held w0 W (blkR g4 28 cn :: L))->q':=by
 intro hend
 refine wp_region_lit ?_
 (conv=>arg 4;whnf)
 unfold Sl at o1
 have S1:=LH (S.newBlk 28 cn)
 have hcn:=LH hcn
 have h1:=LH h1
 go_wp2
 try simp only [Act.put]
 exact hend _ _ tS sP (⟨w.heap.size,sP0,S1.out⟩)
theorem mtk_r1(p:Value)(g4:Nat)(cn:Array Value)(hcn:cn.size=34)(hb:Blk w g4 28 cn)(z:Int)(HC0:Calls Tryz.prog 44 #[p,.agg cn] w fun e w'=>e=.returned (.int .i64 z) ∧ Kp [] w w')(hsz:a.tmps.size=130)(o0:Sl a 0 (p))(o4:Sl a 4 (Pq g4 0)):RG1 false 1 Tryz.f16 Q a w fun a' W q'=>Sl a' 7 (.int .i64 z)->(Kp [] w W)->q':=by
 intro hend
 refine wp_region_lit ?_
 (conv=>arg 4;whnf)
 unfold Sl at o0 o4
 have HC:=LH HC0
 clear HC0
 have HB:=LH hb
 clear hb
 have hcn:=LH hcn
 go_wp2_with (refine wpList_load_blk rfl 28 (.tmp 4) rfl g4 (aO o4) 28 _ HB.out _ Tryz.underlying28 rfl (by rw [hcn.out];exact Tryz.infoNote) ?_)
 refine HC.out.mono ?_
 rintro e w1 ⟨rfl,k1⟩
 have k1:=LH k1
 go_wp2_with fail
 try simp only [Act.put]
 exact hend _ _ tS sP (k1.out)
theorem mtk_r2(z:Int)(hsz:a.tmps.size=130)(o7:Sl a 7 (.int .i64 z)):RG0 2 Tryz.f16 Q a w fun a' q'=>Sl a' 19 (.bool (z != 0))->q':=rO
theorem mtk_r3(z:Int)(hsz:a.tmps.size=130)(o7:Sl a 7 (.int .i64 z)):RG0 3 Tryz.f16 Q a w fun a' q'=>Sl a' 6 (.int .i64 z)->q':=rO
theorem mtk_r4(A:Option Addr)(n c:Nat)(hsz:a.tmps.size=130)(o2:Sl a 2 (.slice A n c)):RG0 4 Tryz.f16 Q a w fun a' q'=>Sl a' 21 (.slice A n c)->Sl a' 22 (Nq n)->Sl a' 23 (Nq 0)->q':=rO
theorem mtk_r5(k n:Nat)(hsz:a.tmps.size=130)(o22:Sl a 22 (Nq n))(o23:Sl a 23 (Nq k)):RG0 5 Tryz.f16 Q a w fun a' q'=>Sl a' 24 (.bool (decide (k < n)))->q':=rO
theorem mtk_r6(ad:Addr)(k n c:Nat)(hk:k < n)(u:Value)(hu:w.cell? (ad.add k)=some u)(hus:∃ Au nu cu,u=.slice Au nu cu)(hsz:a.tmps.size=130)(o21:Sl a 21 (.slice (some ad) n c))(o23:Sl a 23 (Nq k)):RG0 6 Tryz.f16 Q a w fun a' q'=>Sl a' 9 (u)->q':=by
 have h0:0<=(k:Int):=by omega
 have h1:(k:Int) < (n:Int):=by omega
 obtain ⟨Au,nu,cu,rfl⟩:=hus
 exact rO
theorem mtk_r9(k:Nat)(hk:k < 9223372036854775807)(hsz:a.tmps.size=130)(o23:Sl a 23 (Nq k)):RG0 9 Tryz.f16 Q a w fun a' q'=>Sl a' 23 (Nq (k+1))->q':=by
 have hw:wrap64 ((k:Int)+1)=(k:Int)+1:=by unfold wrap64;omega
 exact rO
theorem mtk_r7(A:Option Addr)(n c:Nat)(hsz:a.tmps.size=130)(o9:Sl a 9 (.slice A n c)):RG0 7 Tryz.f16 Q a w fun a' q'=>Sl a' 29 (.bool (decide (4096 < n)))->q':=rO
theorem mtk_r8(hsz:a.tmps.size=130):RG0 8 Tryz.f16 Q a w fun a' q'=>Sl a' 6 (.int .i64 (3:Int))->q':=rO
theorem mtk_r12(hsz:a.tmps.size=130):RG0 12 Tryz.f16 Q a w fun a' q'=>Sl a' 6 (.int .i64 (402:Int))->q':=rO
theorem mtk_r20(hsz:a.tmps.size=130):RG0 20 Tryz.f16 Q a w fun a' q'=>Sl a' 6 (.int .i64 (403:Int))->q':=rO
theorem mtk_r28(hsz:a.tmps.size=130):RG0 28 Tryz.f16 Q a w fun a' q'=>Sl a' 6 (.int .i64 (0:Int))->q':=rO
theorem mtk_r10(g4:Nat)(cn:Array Value)(z:Int)(hb:Blk w g4 28 cn)(hk0:cn[0]?=some (.int .i64 z))(hsz:a.tmps.size=130)(o4:Sl a 4 (Pq g4 0)):RG0 10 Tryz.f16 Q a w fun a' q'=>Sl a' 10 (.int .i64 z)->q':=by
 have c0:w.cell? ⟨g4,0,none⟩=some (.int .i64 z):=by rw [hb.cell];exact hk0
 clear hb hk0
 exact rO
theorem mtk_r13(g n:Nat)(z:Int)(HC0:Calls Tryz.prog 17 #[Pq g 0] w fun e w'=>e=.returned (Nq n) ∧ Kp [] w w')(hsz:a.tmps.size=130)(o0:Sl a 0 (Pq g 0))(o10:Sl a 10 (.int .i64 z)):RG1 false 13 Tryz.f16 Q a w fun a' W q'=>Sl a' 55 (.bool (decide (z<=(n:Int))))->(Kp [] w W)->q':=by
 intro hend
 refine wp_region_lit ?_
 (conv=>arg 4;whnf)
 unfold Sl at o0 o10
 have HC:=LH HC0
 clear HC0
 go_wp2_with fail
 refine HC.out.mono ?_
 rintro e w1 ⟨rfl,k1⟩
 have k1:=LH k1
 go_wp2_with fail
 try simp only [Act.put]
 exact hend _ _ tS sP (k1.out)
theorem mtk_r14(g g4:Nat)(cn:Array Value)(hcn:cn.size=34)(hb:Blk w g4 28 cn)(R:Int->World->Prop)(HC0:Calls Tryz.prog 45 #[Pq g 0,.agg cn] w fun e w'=>∃ cd,e=.returned (.int .i64 cd) ∧ R cd w')(hsz:a.tmps.size=130)(o0:Sl a 0 (Pq g 0))(o4:Sl a 4 (Pq g4 0)):RG1 false 14 Tryz.f16 Q a w fun a' W q'=>(∃ cd,Sl a' 11 (.int .i64 cd) ∧ R cd W)->q':=by
 intro hend
 refine wp_region_lit ?_
 (conv=>arg 4;whnf)
 unfold Sl at o0 o4
 have HC:=LH HC0
 clear HC0
 have HB:=LH hb
 clear hb
 have hcn:=LH hcn
 go_wp2_with (refine wpList_load_blk rfl 28 (.tmp 4) rfl g4 (aO o4) 28 _ HB.out _ Tryz.underlying28 rfl (by rw [hcn.out];exact Tryz.infoNote) ?_)
 refine HC.out.mono ?_
 rintro e w1 ⟨cd,rfl,k1⟩
 have k1:=LH k1
 go_wp2_with fail
 try simp only [Act.put]
 exact hend _ _ tS (⟨cd,sP0,k1.out⟩)
theorem mtk_r17(z:Int)(hsz:a.tmps.size=130)(o11:Sl a 11 (.int .i64 z)):RG0 17 Tryz.f16 Q a w fun a' q'=>Sl a' 6 (.int .i64 z)->q':=rO
theorem mtk_r15N(cd:Int)(hcd:Hid (cd ≠ 0))(hcd2:(cd == 0)=false)(hsz:a.tmps.size=130)(o11:Sl a 11 (.int .i64 cd)):RG1 false 15 Tryz.f16 Q a w fun a' W q'=>Kp [] w W->Sl a' 68 (.bool false)->q':=by
 intro hend
 have hap:=pa 15 Tryz.f16
 refine wp_region_invS (l:=(opsOf 15 Tryz.f16)) (fun i v W=>match i with|0=>v=.int .i64 cd|1=>v=.bool false|2=>v=.bool false|9=>v=.bool false|_=>True) hap ?_ ?_ ?_
 . exact fun _ _ _ _ h _=>h
 . and_intros <;> try (intro vs A' W hA hW hd hu K hK;try (refine wpOp_free _ rfl rfl ?_;conv=>arg 2;whnf))
   . exact qa1 (eO 11 o11)
   . have e59:=vD 59 0;clear hA hd hu o11;go_step
     exact hK _ _ kR (by first|rfl|(refine congrArg Value.bool ?_;simp [hcd];done))
   . exact qa1 (vD 60 1)
   . exact qS 2 true (vD 61 2)
   . exact qS 2 true (vD 61 2)
   . exact qS 2 true (vD 61 2)
   . exact qS 2 true (vD 61 2)
   . exact qS 2 true (vD 61 2)
   . exact qS 2 true (vD 61 2)
   . exact qa2 (vD 61 2) (eU 67 8)
   . trivial
 . intro vs W hW hp
   rw [putAll_eq]
   exact hend _ W sQ hW (sW (hp 9 sB))
theorem mtk_r15Y(g:Nat)(cs:Array Value)(nd:Bool)(hb:Blk w g 85 cs)(h9:cs[38]?=some (.bool nd))(hsz:a.tmps.size=130)(o0:Sl a 0 (Pq g 0))(o11:Sl a 11 (.int .i64 (0:Int))):RG1 false 15 Tryz.f16 Q a w fun a' W q'=>Kp [] w W->Sl a' 68 (.bool (!nd))->q':=by
 intro hend
 have hap:=pa 15 Tryz.f16
 refine wp_region_invS (l:=(opsOf 15 Tryz.f16)) (fun i v W=>match i with|0=>v=.int .i64 (0:Int)|1=>v=.bool true|2=>v=.bool true|3=>v=Pq g 0|4=>v=Pq g 0|5=>v=Pq g 0|6=>v=Pq g 38|7=>v=.bool nd|8=>v=.bool (!nd)|9=>v=.bool (!nd)|_=>True) hap ?_ ?_ ?_
 . exact fun _ _ _ _ h _=>h
 . and_intros <;> try (intro vs A' W hA hW hd hu K hK;try (refine wpOp_free _ rfl rfl ?_;conv=>arg 2;whnf))
   . exact qa1 (eO 11 o11)
   . exact qa1 (vD 59 0)
   . exact qa1 (vD 60 1)
   . exact gq1 2 (vD 61 2) (eO 0 o0)
   . exact gq1 2 (vD 61 2) (vD 62 3)
   . exact gq1 2 (vD 61 2) (vD 63 4)
   . exact gq1 2 (vD 61 2) (vD 64 5)
   . refine qG 2 (vD 61 2) ?_;(conv=>arg 2;whnf)
     have c0:W.cell? ⟨g,38,none⟩=some (.bool nd):=by rw [(hb.k0 hW).cell];exact h9
     exact qa1 (vD 65 6)
   . exact gq1 2 (vD 61 2) (vD 66 7)
   . exact qa2 (vD 61 2) (vD 67 8)
   . trivial
 . intro vs W hW hp
   rw [putAll_eq]
   exact hend _ W sQ hW (sW (hp 9 sB))
end
section
variable {Q:Exit->Act->World->Prop} {a:Act} {w:World}
open Go.RowKit Go.Shelf
attribute [local go_sem] Oper.semAt_some
theorem mtk_r16(w0:World)(g g4:Nat)(cn:Array Value)(hcn:cn.size=34)(hb4:Blk w g4 28 cn)(z:Int)(h:Bs)(hh:h.length=32)(m:Nat)(xs:List Value)(cs:Array Value)(hcs:cs.size=142)(c1:Value->Array Value)(nd:Bool)(hc1:∀ v,(cs.toList.take 4 ++ (ntA z h v).toList ++ cs.toList.drop (4+34)).toArray=c1 v)(h38:∀ v,(c1 v)[38]?=some (.bool nd))(L:List Res)(HC0:Calls Tryz.prog 46 #[.agg cn] w fun e w'=>∃ v,e=.returned (.agg (ntA z h v)) ∧ Held w0 w' (blkR g 85 cs :: rowR 89 33 v m xs :: L))(hsz:a.tmps.size=130)(o0:Sl a 0 (Pq g 0))(o4:Sl a 4 (Pq g4 0)):RG1 false 16 Tryz.f16 Q a w fun a' W q'=>(∃ v,Held w0 W (blkR g 85 ((c1 v).setIfInBounds 38 (.bool true)) :: rowR 89 33 v m xs :: L))->q':=by
 intro hend
 refine wp_region_lit ?_
 (conv=>arg 4;whnf)
 unfold Sl at o0 o4
 have HC:=LH HC0
 clear HC0
 have HB:=LH hb4
 clear hb4
 have hcn:=LH hcn
 have hcs:=LH hcs
 have hc1:=LH hc1
 have h38:=LH h38
 go_wp2_with (refine wpList_load_blk rfl 28 (.tmp 4) rfl g4 (aO o4) 28 _ HB.out _ Tryz.underlying28 rfl (by rw [hcn.out];exact Tryz.infoNote) ?_)
 refine HC.out.mono ?_
 rintro e w1 ⟨v,rfl,S1⟩
 obtain ⟨A2,c2,hv,-,-⟩:=ow_form (show Ow w1 89 33 v m xs from S1.at_ (l1:=[_]))
 have hcm1:Hid (∀ u,u ∈ (ntA z h v).toList->u.oneCell'=true):=LH (by rw [hv];exact ntA_one rfl)
 have hcm2:Hid ((ntA z h v).size=34):=LH (ntA_size hh)
 have hc2:=LH (hc1.out v)
 have h382:=LH (h38.out v)
 obtain ⟨cv,hcv⟩:∃ cv,Hid (c1 v=cv):=⟨_,LH rfl⟩
 rw [hcv.out] at hc2 h382
 obtain ⟨cm,hcm⟩:∃ cm,Hid (ntA z h v=cm):=⟨_,LH rfl⟩
 rw [hcm.out] at hcm1 hcm2 hc2 ⊢
 have S1:=LH S1
 go_wp2_with (refine wpList_store_agg rfl 28 (.tmp 75) (.tmp 72) rfl g 4 aE cm aE 85 cs (S1.out.at_ (l1:=[])) (by rw [hcm2.out];exact Tryz.infoNote) (by rw [hcm2.out,hcs.out];decide) hcm1.out ?_;intro w7 b7 k7;rw [hcm2.out,hc2.out] at b7;have S7:=LH (Held.setBlk (l1:=[]) S1.out b7 k7);clear b7 k7;have c33:w7.cell? ⟨g,38,none⟩=some (.bool nd):=(by rw [(show Blk w7 g 85 cv from S7.out.at_ (l1:=[])).cell];exact h382.out);have f33:=(show Blk w7 g 85 cv from S7.out.at_ (l1:=[])).frozen 38;have S8:=LH (S7.out.set (l1:=[]) 38 (.bool true)))
 rw [<- hcv.out] at S8
 try simp only [Act.put]
 exact hend _ _ tS (⟨v,S8.out⟩)
theorem mtk_r27(w0:World)(g g4:Nat)(cn:Array Value)(hcn:cn.size=34)(hb4:Blk w g4 28 cn)(z:Int)(h:Bs)(hh:h.length=32)(m:Nat)(xs:List Value)(cs:Array Value)(hcs:cs.size=142)(c1:Value->Array Value)(nd:Bool)(hc1:∀ v,(cs.toList.take 4 ++ (ntA z h v).toList ++ cs.toList.drop (4+34)).toArray=c1 v)(h38:∀ v,(c1 v)[38]?=some (.bool nd))(L:List Res)(HC0:Calls Tryz.prog 46 #[.agg cn] w fun e w'=>∃ v,e=.returned (.agg (ntA z h v)) ∧ Held w0 w' (blkR g 85 cs :: rowR 89 33 v m xs :: L))(hsz:a.tmps.size=130)(o0:Sl a 0 (Pq g 0))(o4:Sl a 4 (Pq g4 0)):RG1 false 27 Tryz.f16 Q a w fun a' W q'=>(∃ v,Held w0 W (blkR g 85 ((c1 v).setIfInBounds 38 (.bool true)) :: rowR 89 33 v m xs :: L))->q':=by
 intro hend
 refine wp_region_lit ?_
 (conv=>arg 4;whnf)
 unfold Sl at o0 o4
 have HC:=LH HC0
 clear HC0
 have HB:=LH hb4
 clear hb4
 have hcn:=LH hcn
 have hcs:=LH hcs
 have hc1:=LH hc1
 have h38:=LH h38
 go_wp2_with (refine wpList_load_blk rfl 28 (.tmp 4) rfl g4 (aO o4) 28 _ HB.out _ Tryz.underlying28 rfl (by rw [hcn.out];exact Tryz.infoNote) ?_)
 refine HC.out.mono ?_
 rintro e w1 ⟨v,rfl,S1⟩
 obtain ⟨A2,c2,hv,-,-⟩:=ow_form (show Ow w1 89 33 v m xs from S1.at_ (l1:=[_]))
 have hcm1:Hid (∀ u,u ∈ (ntA z h v).toList->u.oneCell'=true):=LH (by rw [hv];exact ntA_one rfl)
 have hcm2:Hid ((ntA z h v).size=34):=LH (ntA_size hh)
 have hc2:=LH (hc1.out v)
 have h382:=LH (h38.out v)
 obtain ⟨cv,hcv⟩:∃ cv,Hid (c1 v=cv):=⟨_,LH rfl⟩
 rw [hcv.out] at hc2 h382
 obtain ⟨cm,hcm⟩:∃ cm,Hid (ntA z h v=cm):=⟨_,LH rfl⟩
 rw [hcm.out] at hcm1 hcm2 hc2 ⊢
 have S1:=LH S1
 go_wp2_with (refine wpList_store_agg rfl 28 (.tmp 126) (.tmp 123) rfl g 4 aE cm aE 85 cs (S1.out.at_ (l1:=[])) (by rw [hcm2.out];exact Tryz.infoNote) (by rw [hcm2.out,hcs.out];decide) hcm1.out ?_;intro w7 b7 k7;rw [hcm2.out,hc2.out] at b7;have S7:=LH (Held.setBlk (l1:=[]) S1.out b7 k7);clear b7 k7;have c33:w7.cell? ⟨g,38,none⟩=some (.bool nd):=(by rw [(show Blk w7 g 85 cv from S7.out.at_ (l1:=[])).cell];exact h382.out);have f33:=(show Blk w7 g 85 cv from S7.out.at_ (l1:=[])).frozen 38;have S8:=LH (S7.out.set (l1:=[]) 38 (.bool true)))
 rw [<- hcv.out] at S8
 try simp only [Act.put]
 exact hend _ _ tS (⟨v,S8.out⟩)
theorem mtk_r21(w0:World)(g:Nat)(cs:Array Value)(u:Value)(hu:∃ A n c,u=.slice A n c)(v:Value)(hv:∃ A n c,v=.slice A n c)(h3:cs[3]?=some v)(L:List Res)(S:Held w0 w (blkR g 85 cs :: L))(hsz:a.tmps.size=130)(o0:Sl a 0 (Pq g 0))(o12:Sl a 12 (u)):RG1 false 21 Tryz.f16 Q a w fun a' W q'=>(Held w0 W (blkR g 85 (cs.setIfInBounds 3 u) :: L))->q':=by
 intro hend
 refine wp_region_lit ?_
 (conv=>arg 4;whnf)
 unfold Sl at o0 o12
 have c33:w.cell? ⟨g,3,none⟩=some v:=by rw [(show Blk w g 85 cs from S.at_ (l1:=[])).cell];exact h3
 have f33:=(show Blk w g 85 cs from S.at_ (l1:=[])).frozen 3
 have S8:=LH (S.set (l1:=[]) 3 u)
 obtain ⟨A,n,c,rfl⟩:=hu
 obtain ⟨A',n',c',rfl⟩:=hv
 clear S
 go_wp2_with fail
 try simp only [Act.put]
 exact hend _ _ tS (S8.out)
theorem mtk_r22(A:Option Addr)(n c:Nat)(hsz:a.tmps.size=130)(o2:Sl a 2 (.slice A n c)):RG0 22 Tryz.f16 Q a w fun a' q'=>Sl a' 100 (.slice A n c)->Sl a' 101 (Nq n)->Sl a' 102 (Nq 0)->q':=by
 intro hend
 refine wp_region_lit ?_
 (conv=>arg 4;whnf)
 unfold Sl at o2
 go_wp2_with fail
 try simp only [Act.put]
 exact hend _ tS sP sP sP
theorem mtk_r23(k n:Nat)(hsz:a.tmps.size=130)(o101:Sl a 101 (Nq n))(o102:Sl a 102 (Nq k)):RG0 23 Tryz.f16 Q a w fun a' q'=>Sl a' 103 (.bool (decide (k < n)))->q':=by
 intro hend
 refine wp_region_lit ?_
 (conv=>arg 4;whnf)
 unfold Sl at o101 o102
 go_wp2_with fail
 try simp only [Act.put]
 exact hend _ tS sP
theorem mtk_r24(ad:Addr)(k n c:Nat)(hk:k < n)(u:Value)(hu:w.cell? (ad.add k)=some u)(hus:∃ Au nu cu,u=.slice Au nu cu)(hsz:a.tmps.size=130)(o100:Sl a 100 (.slice (some ad) n c))(o102:Sl a 102 (Nq k)):RG0 24 Tryz.f16 Q a w fun a' q'=>Sl a' 14 (u)->q':=by
 intro hend
 refine wp_region_lit ?_
 (conv=>arg 4;whnf)
 unfold Sl at o100 o102
 have h0:0<=(k:Int):=by omega
 have h1:(k:Int) < (n:Int):=by omega
 obtain ⟨Au,nu,cu,rfl⟩:=hus
 go_wp2_with fail
 try simp only [Act.put]
 exact hend _ tS sP
theorem mtk_r26(k:Nat)(hk:k < 9223372036854775807)(hsz:a.tmps.size=130)(o102:Sl a 102 (Nq k)):RG0 26 Tryz.f16 Q a w fun a' q'=>Sl a' 102 (Nq (k+1))->q':=by
 intro hend
 refine wp_region_lit ?_
 (conv=>arg 4;whnf)
 unfold Sl at o102
 have hw:wrap64 ((k:Int)+1)=(k:Int)+1:=by unfold wrap64;omega
 go_wp2_with fail
 try simp only [Act.put]
 exact hend _ tS sP
end
section
variable {Q:Exit->Act->World->Prop} {a:Act} {w:World}
open Go.RowKit Go.Shelf
attribute [local go_sem] Oper.semAt_some
theorem mtk_r11N(g n m c:Nat)(A:Option Addr)(z:Int)(hnm:n+m < 9223372036854775808)(hz:Hid (z=(n:Int)+(m:Int)))(HC0:∀ V,Kp [] w V->Calls Tryz.prog 17 #[Pq g 0] V fun e w'=>e=.returned (Nq n) ∧ Kp [] V w')(hsz:a.tmps.size=130)(o0:Sl a 0 (Pq g 0))(o2:Sl a 2 (.slice A m c))(o10:Sl a 10 (.int .i64 z)):RG1 false 11 Tryz.f16 Q a w fun a' W q'=>Kp [] w W->Sl a' 51 (.bool false)->q':=by
 intro hend
 have hap:=pa 11 Tryz.f16
 refine wp_region_invS (l:=(opsOf 11 Tryz.f16)) (fun i v W=>match i with|0=>v=.int .i64 z|1=>v=Pq g 0|2=>v=Nq n|3=>v=.slice A m c|4=>v=Nq m|5=>v=.int .i64 ((n:Int)+(m:Int))|6=>v=.bool false|7=>v=.bool false|12=>v=undef|17=>v=.bool false|_=>True) hap ?_ ?_ ?_
 . exact fun _ _ _ _ h _=>h
 . and_intros <;> try (intro vs A' W hA hW hd hu K hK;try (refine wpOp_free _ rfl rfl ?_;conv=>arg 2;whnf))
   . exact qa1 (eO 10 o10)
   . exact qa1 (eO 0 o0)
   . have e35:=vD 35 1;clear hA hd hu o0 o2 o10;go_step
     refine (HC0 W hW).mono ?_
     rintro e w' ⟨rfl,k1⟩
     exact hK _ w' k1 rfl
   . exact qa1 (eO 2 o2)
   . exact qa1 (vD 37 3)
   . have hw:wrap64 ((n:Int)+(m:Int))=(n:Int)+(m:Int):=by unfold wrap64;omega
     exact qa2 (vD 36 2) (vD 38 4)
   . have e34:=vD 34 0;have e39:=vD 39 5;clear hA hd hu o0 o2 o10;go_step
     exact hK _ _ kR (by first|rfl|(refine congrArg Value.bool ?_;have:=hz.out;simp;done)|(refine congrArg Value.bool ?_;have:=hz.out;simp;omega))
   . exact qa1 (vD 40 6)
   . exact qS 7 true (vD 41 7)
   . exact qS 7 true (vD 41 7)
   . exact qS 7 true (vD 41 7)
   . exact qS 7 true (vD 41 7)
   . exact qS 7 true (vD 41 7)
   . exact qT 12 false (vD 46 12)
   . exact qT 12 false (vD 46 12)
   . exact qT 12 false (vD 46 12)
   . exact qS 7 true (vD 41 7)
   . exact qa2 (vD 41 7) (eU 50 16)
   . trivial
 . intro vs W hW hp
   rw [putAll_eq]
   exact hend _ W sQ hW (sW (hp 17 sB))
theorem mtk_r11A(g n m c:Nat)(A:Option Addr)(z:Int)(hnm:n+m < 9223372036854775808)(hz:Hid (z ≠ (n:Int)+(m:Int) ∧ (n:Int) < z))(HC0:∀ V,Kp [] w V->Calls Tryz.prog 17 #[Pq g 0] V fun e w'=>e=.returned (Nq n) ∧ Kp [] V w')(hsz:a.tmps.size=130)(o0:Sl a 0 (Pq g 0))(o2:Sl a 2 (.slice A m c))(o10:Sl a 10 (.int .i64 z)):RG1 false 11 Tryz.f16 Q a w fun a' W q'=>Kp [] w W->Sl a' 51 (.bool true)->q':=by
 intro hend
 have hap:=pa 11 Tryz.f16
 refine wp_region_invS (l:=(opsOf 11 Tryz.f16)) (fun i v W=>match i with|0=>v=.int .i64 z|1=>v=Pq g 0|2=>v=Nq n|3=>v=.slice A m c|4=>v=Nq m|5=>v=.int .i64 ((n:Int)+(m:Int))|6=>v=.bool true|7=>v=.bool true|8=>v=.int .i64 z|9=>v=Pq g 0|10=>v=Nq n|11=>v=.bool true|12=>v=.bool true|16=>v=.bool true|17=>v=.bool true|_=>True) hap ?_ ?_ ?_
 . exact fun _ _ _ _ h _=>h
 . and_intros <;> try (intro vs A' W hA hW hd hu K hK;try (refine wpOp_free _ rfl rfl ?_;conv=>arg 2;whnf))
   . exact qa1 (eO 10 o10)
   . exact qa1 (eO 0 o0)
   . have e35:=vD 35 1;clear hA hd hu o0 o2 o10;go_step
     refine (HC0 W hW).mono ?_
     rintro e w' ⟨rfl,k1⟩
     exact hK _ w' k1 rfl
   . exact qa1 (eO 2 o2)
   . exact qa1 (vD 37 3)
   . have hw:wrap64 ((n:Int)+(m:Int))=(n:Int)+(m:Int):=by unfold wrap64;omega
     exact qa2 (vD 36 2) (vD 38 4)
   . have e34:=vD 34 0;have e39:=vD 39 5;clear hA hd hu o0 o2 o10;go_step
     exact hK _ _ kR (by first|rfl|(refine congrArg Value.bool ?_;have:=hz.out;simp;done)|(refine congrArg Value.bool ?_;have:=hz.out;simp;omega))
   . exact qa1 (vD 40 6)
   . exact gq1 7 (vD 41 7) (eO 10 o10)
   . exact gq1 7 (vD 41 7) (eO 0 o0)
   . refine qG 7 (vD 41 7) ?_;(conv=>arg 2;whnf);have e43:=vD 43 9;clear hA hd hu o0 o2 o10;go_step
     refine (HC0 W hW).mono ?_
     rintro e w' ⟨rfl,k1⟩
     exact hK _ w' k1 rfl
   . refine qG 7 (vD 41 7) ?_;(conv=>arg 2;whnf);have e42:=vD 42 8;have e44:=vD 44 10;clear hA hd hu o0 o2 o10;go_step
     exact hK _ _ kR (by first|rfl|(refine congrArg Value.bool ?_;have:=hz.out;simp;done)|(refine congrArg Value.bool ?_;have:=hz.out;simp;omega))
   . exact gq1 7 (vD 41 7) (vD 45 11)
   . exact qS 12 false (vD 46 12)
   . exact qS 12 false (vD 46 12)
   . exact qS 12 false (vD 46 12)
   . exact gq2 7 (vD 41 7) (vD 46 12) (eU 49 15)
   . exact qa2 (vD 41 7) (vD 50 16)
   . trivial
 . intro vs W hW hp
   rw [putAll_eq]
   exact hend _ W sQ hW (sW (hp 17 sB))
theorem mtk_r11Y(g n m c:Nat)(A:Option Addr)(z:Int)(hnm:n+m < 9223372036854775808)(hz:Hid (z ≠ (n:Int)+(m:Int) ∧ z<=(n:Int)))(HC0:∀ V,Kp [] w V->Calls Tryz.prog 17 #[Pq g 0] V fun e w'=>e=.returned (Nq n) ∧ Kp [] V w')(hsz:a.tmps.size=130)(o0:Sl a 0 (Pq g 0))(o2:Sl a 2 (.slice A m c))(o10:Sl a 10 (.int .i64 z)):RG1 false 11 Tryz.f16 Q a w fun a' W q'=>Kp [] w W->Sl a' 51 (.bool (decide (0 < m)))->q':=by
 intro hend
 have hap:=pa 11 Tryz.f16
 refine wp_region_invS (l:=(opsOf 11 Tryz.f16)) (fun i v W=>match i with|0=>v=.int .i64 z|1=>v=Pq g 0|2=>v=Nq n|3=>v=.slice A m c|4=>v=Nq m|5=>v=.int .i64 ((n:Int)+(m:Int))|6=>v=.bool true|7=>v=.bool true|8=>v=.int .i64 z|9=>v=Pq g 0|10=>v=Nq n|11=>v=.bool false|12=>v=.bool false|13=>v=.slice A m c|14=>v=Nq m|15=>v=.bool (decide (0 < m))|16=>v=.bool (decide (0 < m))|17=>v=.bool (decide (0 < m))|_=>True) hap ?_ ?_ ?_
 . exact fun _ _ _ _ h _=>h
 . and_intros <;> try (intro vs A' W hA hW hd hu K hK;try (refine wpOp_free _ rfl rfl ?_;conv=>arg 2;whnf))
   . exact qa1 (eO 10 o10)
   . exact qa1 (eO 0 o0)
   . have e35:=vD 35 1;clear hA hd hu o0 o2 o10;go_step
     refine (HC0 W hW).mono ?_
     rintro e w' ⟨rfl,k1⟩
     exact hK _ w' k1 rfl
   . exact qa1 (eO 2 o2)
   . exact qa1 (vD 37 3)
   . have hw:wrap64 ((n:Int)+(m:Int))=(n:Int)+(m:Int):=by unfold wrap64;omega
     exact qa2 (vD 36 2) (vD 38 4)
   . have e34:=vD 34 0;have e39:=vD 39 5;clear hA hd hu o0 o2 o10;go_step
     exact hK _ _ kR (by first|rfl|(refine congrArg Value.bool ?_;have:=hz.out;simp;done)|(refine congrArg Value.bool ?_;have:=hz.out;simp;omega))
   . exact qa1 (vD 40 6)
   . exact gq1 7 (vD 41 7) (eO 10 o10)
   . exact gq1 7 (vD 41 7) (eO 0 o0)
   . refine qG 7 (vD 41 7) ?_;(conv=>arg 2;whnf);have e43:=vD 43 9;clear hA hd hu o0 o2 o10;go_step
     refine (HC0 W hW).mono ?_
     rintro e w' ⟨rfl,k1⟩
     exact hK _ w' k1 rfl
   . refine qG 7 (vD 41 7) ?_;(conv=>arg 2;whnf);have e42:=vD 42 8;have e44:=vD 44 10;clear hA hd hu o0 o2 o10;go_step
     exact hK _ _ kR (by first|rfl|(refine congrArg Value.bool ?_;have:=hz.out;simp;done)|(refine congrArg Value.bool ?_;have:=hz.out;simp;omega))
   . exact gq1 7 (vD 41 7) (vD 45 11)
   . exact gq1 12 (vD 46 12) (eO 2 o2)
   . exact gq1 12 (vD 46 12) (vD 47 13)
   . exact gq1 12 (vD 46 12) (vD 48 14)
   . exact gq2 7 (vD 41 7) (vD 46 12) (vD 49 15)
   . exact qa2 (vD 41 7) (vD 50 16)
   . trivial
 . intro vs W hW hp
   rw [putAll_eq]
   exact hend _ W sQ hW (sW (hp 17 sB))
theorem mtk_r18(w0:World)(g:Nat)(cs:Array Value)(Ah A:Option Addr)(n ch m0 c m q:Nat)(ys zs:List Value)(h3:cs[3]?=some (.slice Ah n ch))(L:List Res)(HC1:∀ V,Kp [] w0 V->(∀ r ∈ L,r.ok V)->Calls Tryz.prog 48 #[.slice A m0 c] V fun r w'=>∃ v,r=.returned v ∧ Held V w' [rowR 23 32 v m ys])(HC2:∀ V v2 v,Ow V 29 1 v2 2 [.slice Ah n ch,v]->Ow V 23 32 v m ys->(∀ r ∈ L,r.ok V)->Calls Tryz.prog 47 #[v2] V fun r w'=>∃ u,r=.returned u ∧ Held V w' [rowR 23 32 u q zs])(hsz:a.tmps.size=130)(o0:Sl a 0 (Pq g 0))(o2:Sl a 2 (.slice A m0 c))
 (S0:Held w0 w (blkR g 85 cs :: L)):RG2 18 Tryz.f16 Q a w fun a' vs gs W q'=>Sl a' 12 (vs 8)->Held w0 W (rowR 23 32 (vs 6) m ys :: rowR 29 1 (vs 7) 2 [.slice Ah n ch,vs 6] :: rowR 23 32 (vs 8) q zs :: blkR g 85 cs :: L)->q':=by
 intro hend
 have hap:=pa 18 Tryz.f16
 refine wp_region_sep (Γ:=Unit) (l:=(opsOf 18 Tryz.f16)) 3 [0,1,2,3,4,5,6,7,8,9,10,11,12]
  (fun i vs gs=>match i with|0=>vs 0=Pq g 0|1=>vs 1=Pq g 0|2=>vs 2=Pq g 0|3=>vs 3=Pq g 3|4=>vs 4=.slice Ah n ch|5=>vs 5=.slice A m0 c|9=>vs 9=vs 8|_=>True)
  (fun i vs gs=>match i with|6=>[rowR 23 32 (vs 6) m ys]|7=>[rowR 29 1 (vs 7) 2 [.slice Ah n ch,vs 6]]|8=>[rowR 23 32 (vs 8) q zs]|11=>[blkR g 85 cs]|12=>L|_=>[])
  (fun i=>match i with  | _=>[]) (fun i=>match i with|4=>[11]|6=>[12]|7=>[6]|8=>[7,6,12]|_=>[]) S0 (by kernel_rfl) hap (by kernel_rfl) (by kernel_rfl) (fun i=>match i with|0=>[0]|1=>[1]|2=>[2]|3=>[3]|4=>[4]|5=>[5]|6=>[6]|7=>[6,7]|8=>[8]|9=>[8,9]|_=>[]) (by kernel_rfl) ?_ (by kernel_rfl) ?_ ?_ ?_
 . exact lA
 . exact pA
 . clear S0 hend
   and_intros <;> try intro vs gs A' W LF hA S hR hd hu K hK
   . exact qa1 (eO 0 o0)
   . exact qa1 (vD 80 0)
   . exact qa1 (vD 81 1)
   . exact qa1 (vD 82 2)
   . have c0:W.cell? ⟨g,3,none⟩=some (.slice Ah n ch):=by rw [(show Blk W g 85 cs from S.ok (blkR g 85 cs) (hR 11 (by simp) _ (List.mem_singleton.2 rfl))).cell];exact h3
     exact qa1 (vD 83 3)
   . exact qa1 (eO 2 o2)
   . replace hK:=hK default;have e85:=vD 85 5;clear hA o0 o2;go_step
     refine (HC1 W S.k (fun r hr=>S.ok r (hR 12 (by simp) r hr))).mono ?_
     rintro e w' ⟨v,rfl,H⟩
     exact hK v w' ((S.join H).perm List.perm_append_comm) trivial
   . replace hK:=hK default;have e84:=vD 84 4;have e86:=eU 86 6;clear hA o0 o2
     obtain ⟨Av,cv,hv,-,-⟩:=ow_form (show Ow W 23 32 (vs 6) m ys from S.ok (rowR 23 32 (vs 6) m ys) (hR 6 (by simp) _ (List.mem_singleton.2 rfl)))
     rw [hv] at e86
     go_step;have o3:=ow_new W 29 1 2 #[.slice Ah n ch,.slice Av m cv] rfl (by decide)
     have o4:Ow (W.alloc (.cells #[.slice Ah n ch,.slice Av m cv] 29)) 29 1 (.slice (some ⟨W.heap.size,0,none⟩) 2 2) 2 [.slice Ah n ch,vs 6]:=by rw [hv];exact o3
     exact hK _ _ (S.rownew o4 ((Kp.refl [] W).alloc _) (fun g hg=>Nat.le_of_eq (Option.some.inj hg))) trivial
   . replace hK:=hK default;have e87:=eU 87 7;clear hA o0 o2;go_step
     refine (HC2 W (vs 7) (vs 6) (show Ow W 29 1 (vs 7) 2 [.slice Ah n ch,vs 6] from S.ok (rowR 29 1 (vs 7) 2 [.slice Ah n ch,vs 6]) (hR 7 (by simp) _ (List.mem_singleton.2 rfl))) (show Ow W 23 32 (vs 6) m ys from S.ok (rowR 23 32 (vs 6) m ys) (hR 6 (by simp) _ (List.mem_singleton.2 rfl))) (fun r hr=>S.ok r (hR 12 (by simp) r hr))).mono ?_
     rintro e w' ⟨v,rfl,H⟩
     exact hK v w' ((S.join H).perm List.perm_append_comm) trivial
   . exact qa1 (eU 88 8)
   . trivial
 . intro vs gs W S hp
   have S:Held w0 W (rowR 23 32 (vs 6) m ys :: rowR 29 1 (vs 7) 2 [.slice Ah n ch,vs 6] :: rowR 23 32 (vs 8) q zs :: blkR g 85 cs :: L):=by simpa only [List.flatMap_cons,List.flatMap_nil,List.append_nil,List.nil_append,List.cons_append,List.append_assoc] using S
   rw [putAll_eq]
   exact hend _ vs gs W sQ (sW (hp 9 sB)) S
end
section
open Go.RowKit Go.Shelf
attribute [local go_sem] Oper.semAt_some
theorem mtk_r19{Q:Exit->Act->World->Prop}{a:Act}{w:World}(g4:Nat)(z:Int)(h:Bs)(hh:h.length=32)(v:Value)(A:Option Addr)(n c:Nat)(x:Bs)(hx32:x.length=32)(hb:Blk w g4 28 (ntA z h v))(HC0:∀ V,Kp [] w V->Calls Tryz.prog 49 #[.slice A n c] V fun e w'=>e=.returned (.agg (hashA x)) ∧ Kp [] V w')(hsz:a.tmps.size=130)(o4:Sl a 4 (Pq g4 0))(o12:Sl a 12 (.slice A n c)):RG1 true 19 Tryz.f16 Q a w fun a' W q'=>Kp [] w.drew W->Sl a' 94 (.bool (!(x == h)))->q':=by
 intro hend
 have hap:=pa 19 Tryz.f16
 refine wp_region_inv (l:=(opsOf 19 Tryz.f16)) (fun i v W=>match i with|0=>v=.slice A n c|1=>v=.agg (hashA x)|2=>v=Pq g4 0|3=>v=Pq g4 1|4=>v=.agg (hashA h)|5=>v=.bool (!(x == h))|_=>True) (by kernel_rfl) hap (by kernel_rfl) ?_ ?_ ?_
 . exact fun _ _ _ _ h _=>h
 . and_intros <;> try intro vs A' W hA hW hd K hK
   . exact qa1 (eO 12 o12)
   . have e89:=vD 89 0;clear hA hd o4 o12;go_step
     refine (HC0 W (((Kp.refl [] w).drew).trans hW (by simp))).mono ?_
     rintro e w' ⟨rfl,k1⟩
     exact hK _ w' k1 rfl
   . exact qa1 (eO 4 o4)
   . exact qa1 (vD 91 2)
   . exact ldA (hashA h) (vD 92 3) (nt_hashAt (hb.kp (((Kp.refl [] w).drew).trans hW (by simp)) (by simp))) Tryz.underlying23 (by rw [hashA_size,hh];exact Tryz.infoHashP)
   . have e90:=vD 90 1;have e93:=vD 93 4;clear hA hd o4 o12;refine op_runs (v:=.bool (!(x == h))) (w':=W) (exec_bin_agg rfl (by simpa [Act.eval] using e90) (by simpa [Act.eval] using e93) Tryz.eqGuardType23 (neq_hash W x h hx32 hh)) ?_
     exact hK _ _ kR rfl
   . trivial
 . intro vs W hW hp
   rw [putAll_eq]
   exact hend _ W sQ hW (sW (hp 5 sB))
theorem mtk_r25{Q:Exit->Act->World->Prop}{a:Act}{w:World}(w0:World)(g q:Nat)(cs:Array Value)(Ae:Option Addr)(ce:Nat)(xs:List Value)(hq:q<=1000000)(A:Option Addr)(c:Nat)(t:Bs)(htl:t.length<=140737488355200)(h2:cs[2]?=some (.slice Ae q ce))(L:List Res)(HVt:∀ V,Kp [] w0 V->(∀ r ∈ L,r.ok V)->Rd V 1 (.slice A t.length c) t.length (bv t))(hsz:a.tmps.size=130)(o0:Sl a 0 (Pq g 0))(o14:Sl a 14 (.slice A t.length c))
 (S0:Held w0 w (rowR 32 1 (.slice Ae q ce) q xs :: blkR g 85 cs :: L)):RG2 25 Tryz.f16 Q a w fun a' vs gs W q'=>Held w0 W (rowR 5 1 (vs 7) t.length (bv t) :: rowR 32 1 (vs 8) 1 [vs 7] :: rowR 32 1 (vs 9) (q+1) (xs ++ [vs 7]) :: blkR g 85 (cs.setIfInBounds 2 (vs 9)) :: L)->q':=by
 intro hend
 have hap:=pa 25 Tryz.f16
 refine wp_region_sep (Γ:=Unit) (l:=(opsOf 25 Tryz.f16)) 5 [0,1,2,3,4,5,6,7,8,9,10,11,12,13,14,17,18]
  (fun i vs gs=>match i with|0=>vs 0=Pq g 0|1=>vs 1=Pq g 0|2=>vs 2=Pq g 0|3=>vs 3=Pq g 0|4=>vs 4=Pq g 2|5=>vs 5=.slice Ae q ce|6=>vs 6=.slice A t.length c|10=>vs 10=Pq g 0|11=>vs 11=Pq g 0|12=>vs 12=Pq g 2|_=>True)
  (fun i vs gs=>match i with|7=>[rowR 5 1 (vs 7) t.length (bv t)]|8=>[rowR 32 1 (vs 8) 1 [vs 7]]|9=>[rowR 32 1 (vs 9) (q+1) (xs ++ [vs 7])]|13=>[blkR g 85 (cs.setIfInBounds 2 (vs 9))]|15=>[rowR 32 1 (.slice Ae q ce) q xs]|16=>[blkR g 85 cs]|18=>L|_=>[])
  (fun i=>match i with|9=>[15]|13=>[16]|_=>[]) (fun i=>match i with|5=>[16]|7=>[18]|8=>[7]|9=>[8,7]|13=>[9]|_=>[]) S0 (by kernel_rfl) hap (by kernel_rfl) (by kernel_rfl) (fun i=>match i with|0=>[0]|1=>[1]|2=>[2]|3=>[3]|4=>[4]|5=>[5]|6=>[6]|7=>[7]|8=>[7,8]|9=>[7,9]|10=>[10]|11=>[11]|12=>[12]|13=>[9]|_=>[]) (by kernel_rfl) ?_ (by kernel_rfl) ?_ ?_ ?_
 . exact lA
 . exact pA
 . clear S0 hend
   and_intros <;> try intro vs gs A' W LF hA S hR hd hu K hK
   . exact qa1 (eO 0 o0)
   . exact qa1 (eO 0 o0)
   . exact qa1 (vD 107 1)
   . exact qa1 (vD 108 2)
   . exact qa1 (vD 109 3)
   . have c0:W.cell? ⟨g,2,none⟩=some (.slice Ae q ce):=by rw [(show Blk W g 85 cs from S.ok (blkR g 85 cs) (hR 16 (by simp) _ (List.mem_singleton.2 rfl))).cell];exact h2
     exact qa1 (vD 110 4)
   . exact qa1 (eO 14 o14)
   . replace hK:=hK default;have e112:=vD 112 6;clear hA o0 o14;go_step
     refine (clone15_any _ t W (HVt W S.k (fun r hr=>S.ok r (hR 18 (by simp) r hr))) htl).mono ?_
     rintro e w' ⟨v,rfl,N⟩
     exact hK v w' (S.rownew N.1 N.2.1 N.2.2) trivial
   . replace hK:=hK default;have e113:=eU 113 7;clear hA o0 o14
     obtain ⟨Av,cv,hv,-,-⟩:=ow_form (show Ow W 5 1 (vs 7) t.length (bv t) from S.ok (rowR 5 1 (vs 7) t.length (bv t)) (hR 7 (by simp) _ (List.mem_singleton.2 rfl)))
     rw [hv] at e113
     go_step;have o3:=ow_new W 32 1 1 #[.slice Av t.length cv] rfl (by decide)
     have o4:Ow (W.alloc (.cells #[.slice Av t.length cv] 32)) 32 1 (.slice (some ⟨W.heap.size,0,none⟩) 1 1) 1 [vs 7]:=by rw [hv];exact o3
     exact hK _ _ (S.rownew o4 ((Kp.refl [] W).alloc _) (fun g hg=>Nat.le_of_eq (Option.some.inj hg))) trivial
   . replace hK:=hK default;have e111:=vD 111 5;have e114:=eU 114 8;clear hA o0 o14
     obtain ⟨Av,cv,hv,-,-⟩:=ow_form (show Ow W 5 1 (vs 7) t.length (bv t) from S.ok (rowR 5 1 (vs 7) t.length (bv t)) (List.mem_cons_of_mem _ (hR 7 (by simp) _ (List.mem_singleton.2 rfl))))
     refine op_app (.tmp 111) (.tmp 114) 43 32 rfl Tryz.infoBytes Tryz.underlying43 rfl (by decide) (.slice Ae q ce) q xs (by simpa [Act.eval] using e111) S (vs 8) 1 [vs 7] (by simpa [Act.eval] using e114) (rd_of_row (e:=32) S (List.mem_cons_of_mem _ (hR 8 (by simp) _ (List.mem_singleton.2 rfl)))) (by intro x hx;simp at hx;subst hx;rw [hv];rfl) (by unfold maxLen;omega) (by omega) (fun v' w' S'=>hK v' w' S' trivial)
   . exact qa1 (vD 106 0)
   . exact qa1 (vD 116 10)
   . exact qa1 (vD 117 11)
   . replace hK:=hK default;have e118:=vD 118 12;have e115:=eU 115 9;clear hA o0 o14
     have S1:Held w0 W (blkR g 85 cs :: LF):=S
     obtain ⟨A1,c1,hq,-,-⟩:=ow_form (show Ow W 32 1 (vs 9) (q+1) (xs ++ [vs 7]) from S.ok (rowR 32 1 (vs 9) (q+1) (xs ++ [vs 7])) (List.mem_cons_of_mem _ (hR 9 (by simp) _ (List.mem_singleton.2 rfl))))
     rw [hq] at e115
     have S2:=S1.set (l1:=[]) 2 (vs 9)
     have c33:W.cell? ⟨g,2,none⟩=some (.slice Ae q ce):=by rw [(show Blk W g 85 cs from S1.at_ (l1:=[])).cell];exact h2
     have f33:=(show Blk W g 85 cs from S1.at_ (l1:=[])).frozen 2
     rw [hq] at S2
     have S3:Held w0 (W.setCell ⟨g,2,none⟩ (.slice A1 (q+1) c1)) (blkR g 85 (cs.setIfInBounds 2 (vs 9)) :: LF):=by rw [hq];exact S2
     go_step
     exact hK undef _ S3 trivial
   . trivial
 . intro vs gs W S hp
   have S:Held w0 W (rowR 5 1 (vs 7) t.length (bv t) :: rowR 32 1 (vs 8) 1 [vs 7] :: rowR 32 1 (vs 9) (q+1) (xs ++ [vs 7]) :: blkR g 85 (cs.setIfInBounds 2 (vs 9)) :: L):=by simpa only [List.flatMap_cons,List.flatMap_nil,List.append_nil,List.nil_append,List.cons_append,List.append_assoc] using S
   rw [putAll_eq]
   exact hend _ vs gs W sQ  S
end
section
variable {Q:Exit->Act->World->Prop} {a:Act} {w:World}
open Go.RowKit Go.Shelf
attribute [local go_sem] Oper.semAt_some
theorem mrd_r0(hsz:a.tmps.size=27):RG0 0 Tryz.f63 Q a w fun a' q'=>Sl a' 4 (.slice none 0 0)->Sl a' 5 (.int .i64 (0:Int))->q':=rO
theorem mrd_r2(hsz:a.tmps.size=27):RG0 2 Tryz.f63 Q a w fun a' q'=>Sl a' 4 (.slice none 0 0)->Sl a' 5 (.int .i64 (1:Int))->q':=rO
theorem mrd_r1(p:Value)(md:Bool)(HC0:Calls Tryz.prog 50 #[p] w fun e w'=>e=.returned (.bool (!md)) ∧ Kp [] w w')(hsz:a.tmps.size=27)(o0:Sl a 0 (p)):RG1 false 1 Tryz.f63 Q a w fun a' W q'=>Sl a' 6 (.bool (!md))->(Kp [] w W)->q':=by
 intro hend
 refine wp_region_lit ?_
 (conv=>arg 4;whnf)
 unfold Sl at o0
 have HC:=LH HC0
 clear HC0
 obtain ⟨b,hb⟩:∃ b,Hid ((!md)=b):=⟨_,LH rfl⟩
 rw [hb.out] at HC hend
 go_wp2_with fail
 refine HC.out.mono ?_
 rintro e w1 ⟨rfl,k1⟩
 have k1:=LH k1
 go_wp2_with fail
 try simp only [Act.put]
 exact hend _ _ tS sP (k1.out)
end
section
open Go.RowKit Go.Shelf
theorem mread_none(p:Value)(z:Int)(w:World)(h:MirAt w p false):Calls Tryz.prog 63 #[p,.int .i64 z] w fun e w'=>e=.returned (.tuple #[.slice none 0 0,.int .i64 1]) ∧ Kp [] w w':=by
 refine calls_fr Tryz.func63 rfl 27 rfl (fun a0 hsz hdf hAr=>?_)
 have hz0:a0.tmps.size=27:=hsz
 have D:=hdf
 have o0:=hAr 0 _ rfl
 have o1:=hAr 1 _ rfl
 refine wp_seq (mrd_r0 hz0 (fun a1 hs1 o4 o5=>?_))
 obtain ⟨hz1,D,o0,o1⟩:=kq2 hs1 hz0 D o0 o1
 refine wp_seq (wp_block ?_)
 (conv=>arg 2;whnf)
 refine wp_seq (mrd_r1 p false (mnone_any p false w h) hz1 o0 (fun a2 w2 hs2 o6 k2=>?_))
 obtain ⟨hz2,D,o0,o1⟩:=kq2 hs2 hz1 D o0 o1
 refine wcT o6 ?_
 refine wp_seq (mrd_r2 hz2 (fun a3 hs3 o4 o5=>?_))
 obtain ⟨hz3,D⟩:=kq0 hs3 hz2 D
 refine wp_ret ?_
 try simp only [Exit.then,Exit.inBlock]
 exact bodyPost_ret (res_u2 (by rfl) (o4.eval (by rw [hz3];decide)) (o5.eval (by rw [hz3];decide))) D ⟨rfl,k2⟩
end
section
variable {Q:Exit->Act->World->Prop} {a:Act} {w:World}
open Go.RowKit Go.Shelf
attribute [local go_sem] Oper.semAt_some
theorem mro_r0(w0:World)(L:List Res)(S:Held w0 w L)(hsz:a.tmps.size=28):RG1 false 0 Tryz.f19 Q a w fun a' W q'=>Sl a' 5 (.int .i64 (0:Int))->(∃ g4,Sl a' 4 (Pq g4 0) ∧ Held w0 W (blkR g4 23 (hashA (List.replicate 32 0)) :: L))->q':=by
 intro hend
 refine wp_region_lit ?_
 (conv=>arg 4;whnf)
 have S1:=LH (S.newBlk 23 (hashA (List.replicate 32 0)))
 go_wp2
 try simp only [Act.put]
 exact hend _ _ tS sP (⟨w.heap.size,sP0,S1.out⟩)
theorem mro_r1(p:Value)(md:Bool)(HC0:Calls Tryz.prog 50 #[p] w fun e w'=>e=.returned (.bool (!md)) ∧ Kp [] w w')(hsz:a.tmps.size=28)(o0:Sl a 0 (p)):RG1 false 1 Tryz.f19 Q a w fun a' W q'=>Sl a' 6 (.bool (!md))->(Kp [] w W)->q':=by
 intro hend
 refine wp_region_lit ?_
 (conv=>arg 4;whnf)
 unfold Sl at o0
 have HC:=LH HC0
 clear HC0
 obtain ⟨b,hb⟩:∃ b,Hid ((!md)=b):=⟨_,LH rfl⟩
 rw [hb.out] at HC hend
 go_wp2_with fail
 refine HC.out.mono ?_
 rintro e w1 ⟨rfl,k1⟩
 have k1:=LH k1
 go_wp2_with fail
 try simp only [Act.put]
 exact hend _ _ tS sP (k1.out)
theorem mro_r2(w0:World)(g4:Nat)(L:List Res)(S:Held w0 w (blkR g4 23 (hashA (List.replicate 32 0)) :: L))(hsz:a.tmps.size=28)(o4:Sl a 4 (Pq g4 0)):RG1 false 2 Tryz.f19 Q a w fun a' W q'=>Sl a' 5 (.int .i64 (1:Int))->(Held w0 W (blkR g4 23 (hashA (List.replicate 32 0)) :: L))->q':=by
 intro hend
 refine wp_region_lit ?_
 (conv=>arg 4;whnf)
 unfold Sl at o4
 have S:=LH S
 have HB:=LH Tryz.built_hashZ
 have hch:Hid ((hashA (List.replicate 32 0)).size=32):=LH rfl
 have Och:=LH (hashA_one (List.replicate 32 0))
 obtain ⟨ch,Ech⟩:∃ cz,Hid (hashA (List.replicate 32 0)=cz):=⟨_,LH rfl⟩
 rw [Ech.out] at S HB hch Och
 refine wpList_buildP rfl 23 _ rfl [] (by simp) _ HB.out ?_
 go_wp2_with (refine wpList_store_blk rfl 23 (.tmp 4) (.tmp 9) rfl g4 (aO o4) ch aE 23 _ (S.out.at_ (l1:=[])) (by rw [hch.out];exact Tryz.infoHashP) (rfl) Och.out ?_;intro w7 b7 k7;have S7:=LH (Held.setBlk (l1:=[]) S.out b7 k7);clear b7 k7)
 rw [<- Ech.out] at S7
 try simp only [Act.put]
 exact hend _ _ tS sP (S7.out)
end
section
open Go.RowKit Go.Shelf
theorem mroot_none(p:Value)(z:Int)(w:World)(h:MirAt w p false):Calls Tryz.prog 19 #[p,.int .i64 z] w fun e w'=>e=.returned (.tuple #[.agg (hashA (List.replicate 32 0)),.int .i64 1]) ∧ Kp [] w w':=by
 refine calls_fr Tryz.func19 rfl 28 rfl (fun a0 hsz hdf hAr=>?_)
 have hz0:a0.tmps.size=28:=hsz
 have D:=hdf
 have o0:=hAr 0 _ rfl
 have o1:=hAr 1 _ rfl
 refine wp_seq (mro_r0 w [] (Held.start w) hz0 (fun a1 w1 hs1 o5 h1=>?_))
 obtain ⟨hz1,D,o0,o1⟩:=kq2 hs1 hz0 D o0 o1
 obtain ⟨g4,o4,S1⟩:=h1
 refine wp_seq (wp_block ?_)
 (conv=>arg 2;whnf)
 refine wp_seq (mro_r1 _ false (mnone_any p false w1 (h.kp S1.k)) hz1 o0 (fun a2 w2 hs2 o6 k2=>?_))
 obtain ⟨hz2,D,o0,o1,o4⟩:=kq3 hs2 hz1 D o0 o1 o4
 have S2:=S1.kp k2
 refine wcT o6 ?_
 refine wp_seq (mro_r2 w g4 [] S2 hz2 o4 (fun a3 w3 hs3 o5 S3=>?_))
 obtain ⟨hz3,D,o4⟩:=kq1 hs3 hz2 D o4
 refine wp_ret ?_
 try simp only [Exit.then,Exit.inBlock]
 have HRes:=results_cell_tmp (P:=Tryz.prog) (fn:=Tryz.f19) (by rfl) (o4.eval (by rw [hz3];decide)) (S3.at_ (l1:=[])) Tryz.underlying23 rfl (by rw [hashA_size,List.length_replicate];exact Tryz.infoHashP)
 exact bodyPost_ret HRes D ⟨congrArg (fun x=>Ending.returned (.tuple #[.agg (hashA (List.replicate 32 0)),x])) (o5.eval (by rw [hz3];decide)),S3.k⟩
end
section
variable {Q:Exit->Act->World->Prop} {a:Act} {w:World}
open Go.RowKit Go.Shelf
attribute [local go_sem] Oper.semAt_some
theorem zeroN_one:∀ u,u ∈ zeroN.toList->u.oneCell'=true:=ntA_one rfl
theorem mla_r0(w0:World)(L:List Res)(S:Held w0 w L)(hsz:a.tmps.size=21):RG1 false 0 Tryz.f20 Q a w fun a' W q'=>Sl a' 3 (.bool false)->(∃ g2,Sl a' 2 (Pq g2 0) ∧ Held w0 W (blkR g2 28 zeroN :: L))->q':=by
 intro hend
 refine wp_region_lit ?_
 (conv=>arg 4;whnf)
 have S1:=LH (S.newBlk 28 zeroN)
 go_wp2
 try simp only [Act.put]
 exact hend _ _ tS sP (⟨w.heap.size,sP0,S1.out⟩)
theorem mla_r1N(p:Value)(HC0:∀ V,Kp [] w V->Calls Tryz.prog 50 #[p] V fun e w'=>e=.returned (.bool true) ∧ Kp [] V w')(hsz:a.tmps.size=21)(o0:Sl a 0 (p)):RG1 false 1 Tryz.f20 Q a w fun a' W q'=>Kp [] w W->Sl a' 13 (.bool true)->q':=by
 intro hend
 have hap:=pa 1 Tryz.f20
 refine wp_region_invS (l:=(opsOf 1 Tryz.f20)) (fun i v W=>match i with|0=>v=p|1=>v=.bool true|2=>v=.bool true|9=>v=.bool true|_=>True) hap ?_ ?_ ?_
 . exact fun _ _ _ _ h _=>h
 . and_intros <;> try (intro vs A' W hA hW hd hu K hK;try (refine wpOp_free _ rfl rfl ?_;conv=>arg 2;whnf))
   . exact qa1 (eO 0 o0)
   . have e4:=vD 4 0;clear hA hd hu o0;go_step
     refine (HC0 W hW).mono ?_
     rintro e w' ⟨rfl,k1⟩
     exact hK _ w' k1 rfl
   . exact qa1 (vD 5 1)
   . exact qS 2 false (vD 6 2)
   . exact qS 2 false (vD 6 2)
   . exact qS 2 false (vD 6 2)
   . exact qS 2 false (vD 6 2)
   . exact qS 2 false (vD 6 2)
   . exact qS 2 false (vD 6 2)
   . exact qa2 (vD 6 2) (eU 12 8)
   . trivial
 . intro vs W hW hp
   rw [putAll_eq]
   exact hend _ W sQ hW (sW (hp 9 sB))
theorem mla_r2(w0:World)(g2:Nat)(L:List Res)(S:Held w0 w (blkR g2 28 zeroN :: L))(hsz:a.tmps.size=21)(o2:Sl a 2 (Pq g2 0)):RG1 false 2 Tryz.f20 Q a w fun a' W q'=>Sl a' 3 (.bool false)->(Held w0 W (blkR g2 28 zeroN :: L))->q':=by
 intro hend
 refine wp_region_lit ?_
 (conv=>arg 4;whnf)
 unfold Sl at o2
 have S:=LH S
 have HB:=LH Tryz.built_noteZ
 have hcz:Hid (zeroN.size=34):=LH (by unfold zeroN;exact ntA_size (by simp))
 have hc1:=LH zeroN_one
 obtain ⟨cz,Ecz⟩:∃ cz,Hid (zeroN=cz):=⟨_,LH rfl⟩
 rw [Ecz.out] at S HB hcz hc1
 have hzz:=hcz
 refine wpList_buildP rfl 28 _ rfl [] (by simp) _ HB.out ?_
 go_wp2_with (refine wpList_store_blk rfl 28 (.tmp 2) (.tmp 14) rfl g2 (aO o2) cz aE 28 _ (S.out.at_ (l1:=[])) (by rw [hcz.out];exact Tryz.infoNote) rfl hc1.out ?_;intro w7 b7 k7;have S7:=LH (Held.setBlk (l1:=[]) S.out b7 k7);clear b7 k7)
 rw [<- Ecz.out] at S7
 try simp only [Act.put]
 exact hend _ _ tS sP (S7.out)
end
section
open Go.RowKit Go.Shelf
theorem mlast_none(p:Value)(w:World)(h:MirAt w p false):
 Calls Tryz.prog 20 #[p] w fun e w'=>e=.returned (.tuple #[.agg zeroN,.bool false]) ∧ Kp [] w w':=by
 refine calls_fr Tryz.func20 rfl 21 rfl (fun a0 hsz hdf hAr=>?_)
 have hz0:a0.tmps.size=21:=hsz
 have D:=hdf
 have o0:=hAr 0 _ rfl
 refine wp_seq (mla_r0 w [] (Held.start w) hz0 (fun a1 w1 hs1 o3 h1=>?_))
 obtain ⟨hz1,D,o0⟩:=kq1 hs1 hz0 D o0
 obtain ⟨g2,o2,S⟩:=h1
 refine wp_seq (wp_seq (mla_r1N p (fun V kV=>mnone_any p false V (h.kp (S.k.trans kV (by simp)))) hz1 o0 (fun a2 w2 hs2 k2 o13=>?_)))
 obtain ⟨hz2,D,o0,o2⟩:=kq2 hs2 hz1 D o0 o2
 have S:=S.kp k2
 refine wcT o13 ?_
 refine wp_seq (mla_r2 w g2 [] S hz2 o2 (fun a3 w3 hs3 o3 S=>?_))
 obtain ⟨hz3,D,o2⟩:=kq1 hs3 hz2 D o2
 refine wp_ret ?_
 try simp only [Exit.then]
 exact bodyPost_ret (results_cell_tmp (by rfl) (o2.eval (by rw [hz3];decide)) (S.at_ (l1:=[])) Tryz.underlying28 rfl (by rw [show zeroN.size=34 from (by unfold zeroN;exact ntA_size (by simp))];exact Tryz.infoNote)) D ⟨congrArg (fun x=>Ending.returned (.tuple #[.agg zeroN,x])) (o3.eval (by rw [hz3];decide)),S.k⟩
end
section
open Go.RowKit Go.Shelf
structure NtD where
 z:Int
 h:List UInt8
 l:List SigD
structure NtD.Ok (n:NtD):Prop where
 z:-9223372036854775808<=n.z ∧ n.z<=9223372036854775807
 h:n.h.length=32
 l:SgOk n.l
 m:n.l.length<=1000000
structure MS where
 nm:List UInt8
 sec:List UInt8
 es:List (List UInt8)
 la:NtD
 nd:Bool
 fk:FkD
 fd:Bool
def MS.hl (X:MS):List (List UInt8):=X.es.map leafF
theorem MS.hl_length(X:MS):X.hl.length=X.es.length:=by simp [MS.hl]
theorem MS.hs(X:MS):HsOk X.hl:=leaves_ok X.es
def zNt:NtD:=⟨0,List.replicate 32 0,[]⟩
def zFk:FkD:=⟨0,List.replicate 32 0,[],0,List.replicate 32 0,[],List.replicate 32 0,[]⟩
def MS.new (nm sec:Bs):MS:=⟨nm,sec,[],zNt,false,zFk,false⟩
def forkF (X:MS) (n:NtD):FkD:=⟨n.z,n.h,n.l,X.la.z,X.la.h,X.la.l,rootF (X.hl.take n.z.toNat),prvF n.z X.hl⟩
def MS.withinF (X:MS) (n:NtD):Int × MS:=
 if rootF (X.hl.take n.z.toNat)=n.h then (0,X) else if X.nd=false then (403,X) else (400,{ X with fk:=forkF X n,fd:=true })
def MS.mayF (X:MS) (n:NtD):Int:=mayM X.fd n.z n.h n.l X.nm X.sec
def MS.noteF (X:MS) (n:NtD):MS:={ X with la:=n,nd:=true }
def MS.takeF (X:MS) (n:NtD) (ls:List (List UInt8)):Int × MS:=
 if X.mayF n ≠ 0 then (X.mayF n,X) else
 if ∃ t ∈ ls,4096 < t.length then (3,X) else
 if n.z ≠ (X.es.length:Int)+(ls.length:Int) ∧ ((X.es.length:Int) < n.z ∨ 0 < ls.length) then (402,X) else
 if n.z<=(X.es.length:Int) then (if (X.withinF n).1=0 ∧ X.nd=false then (0,X.noteF n) else X.withinF n) else
 if rootF (X.hl ++ ls.map leafF)=n.h then (0,({ X with es:=X.es ++ ls }:MS).noteF n) else (403,X)
def MS.hearF (X:MS) (n:NtD) (pf:List (List UInt8)):Int × MS:=
 if X.mayF n ≠ 0 then (X.mayF n,X) else
 if n.z<=(X.es.length:Int) then X.withinF n else ((consF (X.es.length:Int) n.z (rootF X.hl) n.h pf:Nat),X)
def EnR (L:List Res) (vs:List Value) (es:List (List UInt8)):Prop:=
 vs.length=es.length ∧ ∀ (k:Nat) (t:Bs),es[k]?=some t->∃ A c,vs[k]?=some (Value.slice A t.length c) ∧ ∀ V,(∀ r ∈ L,r.ok V)->Rd V 1 (.slice A t.length c) t.length (bv t)
def SgR (L:List Res) (A:Option Addr) (c:Nat) (l:List SigD):Prop:=∀ V,(∀ r ∈ L,r.ok V)->Rd V 33 (.slice A l.length c) l.length (sgsC l)
def HsR (L:List Res) (A:Option Addr) (c:Nat) (l:List (List UInt8)):Prop:=∀ V,(∀ r ∈ L,r.ok V)->Rd V 32 (.slice A l.length c) l.length (hsC l)
theorem EnR.more{L L':List Res}{vs:List Value}{es:List (List UInt8)}(h:EnR L vs es)(hL:∀ r ∈ L,r ∈ L'):EnR L' vs es:=
 ⟨h.1,fun k t hk=>by
  obtain ⟨A,c,h1,h2⟩:=h.2 k t hk
  exact ⟨A,c,h1,fun V hV=>h2 V (fun r hr=>hV r (hL r hr))⟩⟩
theorem EnR.nil(L:List Res):EnR L [] []:=⟨rfl,fun k t hk=>by simp at hk⟩
theorem EnR.app{L:List Res}{vs us:List Value}{es fs:List (List UInt8)}(h:EnR L vs es)(k:EnR L us fs):EnR L (vs ++ us) (es ++ fs):=by
 refine ⟨by simp [h.1,k.1],fun i t hi=>?_⟩
 rcases Nat.lt_or_ge i es.length with hlt|hge
 . rw [List.getElem?_append_left hlt] at hi
   obtain ⟨A,c,h1,h2⟩:=h.2 i t hi
   exact ⟨A,c,by rw [List.getElem?_append_left (by rw [h.1];exact hlt)];exact h1,h2⟩
 . rw [List.getElem?_append_right hge] at hi
   obtain ⟨A,c,h1,h2⟩:=k.2 _ t hi
   exact ⟨A,c,by rw [List.getElem?_append_right (by rw [h.1];exact hge),h.1];exact h1,h2⟩
theorem EnR.one{L:List Res}{A:Option Addr}{c:Nat}{t:List UInt8}(h:∀ V,(∀ r ∈ L,r.ok V)->Rd V 1 (.slice A t.length c) t.length (bv t)):EnR L [.slice A t.length c] [t]:=
 ⟨rfl,fun k u hk=>by
  rcases k with _|k
  . simp at hk;subst hk
    exact ⟨A,c,rfl,h⟩
  . simp at hk⟩
structure MirR (M:MirD) (vs:List Value) (X:MS) (L:List Res):Prop where
 ok:M.Ok
 nm:M.nm=X.nm
 sec:M.sec=X.sec
 hl:M.hl=X.hl
 rd:∀ V,(∀ r ∈ L,r.ok V)->M.Rd V
 nd:M.nd=X.nd
 fd:M.fd=X.fd
 la:∃ A c,M.la=ntL X.la.z X.la.h (.slice A X.la.l.length c) ∧ SgR L A c X.la.l
 fk:∃ A1 A2 Ap c1 c2 cp,M.fk=(X.fk.cells (.slice A1 X.fk.l1.length c1) (.slice A2 X.fk.l2.length c2) (.slice Ap X.fk.pf.length cp)).toList ∧ SgR L A1 c1 X.fk.l1 ∧ SgR L A2 c2 X.fk.l2 ∧ HsR L Ap cp X.fk.pf
 en:EnR L vs X.es
theorem MirR.more{M:MirD}{vs:List Value}{X:MS}{L L':List Res}(h:MirR M vs X L)(hL:∀ r ∈ L,r ∈ L'):MirR M vs X L':=by
 have up:∀ {V:World},(∀ r ∈ L',r.ok V)->∀ r ∈ L,r.ok V:=fun hV r hr=>hV r (hL r hr)
 obtain ⟨A,c,h1,h2⟩:=h.la
 obtain ⟨A1,A2,Ap,c1,c2,cp,k1,k2,k3,k4⟩:=h.fk
 exact ⟨h.ok,h.nm,h.sec,h.hl,fun V hV=>h.rd V (up hV),h.nd,h.fd,⟨A,c,h1,fun V hV=>h2 V (up hV)⟩,⟨A1,A2,Ap,c1,c2,cp,k1,fun V hV=>k2 V (up hV),fun V hV=>k3 V (up hV),fun V hV=>k4 V (up hV)⟩,h.en.more hL⟩
def MirP (w0 w':World) (L:List Res) (g:Nat) (x:Int × MS) (r:Ending):Prop:=
 r=.returned (.int .i64 x.1) ∧ ∃ L' M vs,Held w0 w' (blkR g 85 M.cells :: rowR 32 1 M.e x.2.es.length vs :: (L' ++ L)) ∧ MirR M vs x.2 (L' ++ L)
theorem ow_rdE{L:List Res}{V:World}{e:TypeId}{s n:Nat}{v:Value}{xs:List Value}(hV:∀ r ∈ L,r.ok V)(hm:rowR e s v n xs ∈ L):Rd V s v n xs:=Rd.of_own (hV _ hm)
theorem ntA_list(z:Int)(h:Bs)(v:Value):(ntA z h v).toList=ntL z h v:=by simp [ntA]
theorem FkD.list(f:FkD)(s1 s2 p:Value):(f.cells s1 s2 p).toList=fkL (ntL f.z1 f.h1 s1) (ntL f.z2 f.h2 s2) (bv f.r) p:=by
 simp only [FkD.cells,List.toList_toArray,hashA_list,ntA_list]
theorem ntL_length{z:Int}{h:List UInt8}{v:Value}(hh:h.length=32):(ntL z h v).length=34:=by
 have:=ntA_size (z:=z) (v:=v) hh
 rw [<- Array.length_toList,ntA_list] at this
 exact this
theorem mirP_same{w0 w':World}{L:List Res}{g:Nat}{X:MS}{M:MirD}{vs:List Value}{z:Int}(R:MirR M vs X L)(S:Held w0 w' (blkR g 85 M.cells :: rowR 32 1 M.e X.es.length vs :: L)):MirP w0 w' L g (z,X) (.returned (.int .i64 z)):=
 ⟨rfl,[],M,vs,S,R⟩
theorem mir_noteR{M:MirD}{vs:List Value}{X:MS}{L L':List Res}(R:MirR M vs X L)(hL:∀ r ∈ L,r ∈ L')(n:NtD)(hn:n.Ok)(A:Option Addr)(c:Nat)(h:SgR L' A c n.l):MirR { M with la:=ntL n.z n.h (.slice A n.l.length c),nd:=true } vs (X.noteF n) L':=by
 have R:=R.more hL
 refine ⟨⟨R.ok.nm,R.ok.hs,R.ok.hl,ntL_length hn.h,?_,R.ok.fk,R.ok.e⟩,R.nm,R.sec,R.hl,R.rd,rfl,R.fd,⟨A,c,rfl,h⟩,R.fk,R.en⟩
 intro u hu
 have:=ntA_one (z:=n.z) (h:=n.h) (v:=.slice A n.l.length c) rfl u
 rw [ntA_list] at this
 exact this hu
theorem mir_forkR{M:MirD}{vs:List Value}{X:MS}{L L':List Res}(R:MirR M vs X L)(hL:∀ r ∈ L,r ∈ L')(n:NtD)(hn:n.Ok)(hk:0<=n.z)(v p:Value)(A Ap:Option Addr)(c cp:Nat)(hv:v=.slice A n.l.length c)(hp:p=.slice Ap (prvF n.z X.hl).length cp)(h1:SgR L' A c n.l)(h2:HsR L' Ap cp (prvF n.z X.hl)):
 MirR { M with fk:=fkL (ntL n.z n.h v) M.la (bv (rootF (M.hl.take n.z.toNat))) p,fd:=true } vs { X with fk:=forkF X n,fd:=true } L':=by
 have R:=R.more hL
 obtain ⟨A2,c2,e2,r2⟩:=R.la
 have hrl:(bv (rootF (M.hl.take n.z.toNat))).length=32:=by
  rw [bv_length]
  exact rootF_length (fun x hx=>R.ok.hs x (List.mem_of_mem_take hx))
 refine ⟨⟨R.ok.nm,R.ok.hs,R.ok.hl,R.ok.la,R.ok.la1,fkL_length (ntL_length hn.h) R.ok.la hrl,R.ok.e⟩,R.nm,R.sec,R.hl,R.rd,R.nd,rfl,R.la,⟨A,A2,Ap,c,c2,cp,?_,h1,r2,h2⟩,R.en⟩
 show fkL _ _ _ _=_
 rw [FkD.list,e2,R.hl,hv,hp]
 rfl
theorem mirP_within{w0 w':World}{L:List Res}{g:Nat}{X:MS}{M:MirD}{vs:List Value}{n:NtD}{k:Nat}{cd:Int}(hn:n.Ok)(hz:n.z=k)(R:MirR M vs X L)(H:WiP w0 (rowR 32 1 M.e X.es.length vs :: L) g M k n.h n.l cd w'):MirP w0 w' L g (X.withinF n) (.returned (.int .i64 cd)):=by
 have hk:n.z.toNat=k:=by omega
 unfold MS.withinF
 rw [hk]
 rcases H with ⟨h1,rfl,S⟩|⟨h1,h2,rfl,S⟩|⟨h1,h2,rfl,v,p,S⟩
 . rw [R.hl] at h1
   rw [if_pos h1]
   exact mirP_same R S
 . rw [R.hl] at h1
   rw [R.nd] at h2
   rw [if_neg h1,if_pos h2]
   exact mirP_same R S
 . rw [R.hl] at h1
   rw [R.nd] at h2
   rw [if_neg h1,if_neg (by rw [h2];decide)]
   obtain ⟨A,c,rfl,-⟩:=ow_form (S.at_ (l1:=[_]))
   obtain ⟨Ap,cp,rfl,-⟩:=ow_form (S.at_ (l1:=[_,_]))
   rw [R.hl] at S
   have hs3:∀ r ∈ L,r ∈ rowR 89 33 (.slice A n.l.length c) n.l.length (sgsC n.l) :: rowR 23 32 (.slice Ap (prvF (k:Int) X.hl).length cp) (prvF (k:Int) X.hl).length (hsC (prvF (k:Int) X.hl)) :: L:=fun r hr=>by simp [hr]
   have hR:=mir_forkR R hs3 n hn (by omega) (.slice A n.l.length c) (.slice Ap (prvF (k:Int) X.hl).length cp) A Ap c cp rfl (by rw [hz]) (fun V hV=>ow_rdE (e:=89) hV (by simp)) (fun V hV=>by rw [hz];exact ow_rdE (e:=23) hV (by simp))
   refine ⟨rfl,[rowR 89 33 (.slice A n.l.length c) n.l.length (sgsC n.l),rowR 23 32 (.slice Ap (prvF (k:Int) X.hl).length cp) (prvF (k:Int) X.hl).length (hsC (prvF (k:Int) X.hl))],_,vs,?_,hR⟩
   have S2:=((S.pull 3 rfl).pull 1 rfl)
   rw [hz,R.hl,show ((k:Int)).toNat=k by omega]
   exact S2
end
section
open Go.RowKit Go.Shelf
theorem mirP_sameL{w0 w':World}{L:List Res}{g:Nat}{X:MS}{M:MirD}{vs:List Value}{z:Int}(L':List Res)(R:MirR M vs X L)(S:Held w0 w' (blkR g 85 M.cells :: rowR 32 1 M.e X.es.length vs :: (L' ++ L))):MirP w0 w' L g (z,X) (.returned (.int .i64 z)):=
 ⟨rfl,L',M,vs,S,R.more (fun r hr=>by simp [hr])⟩
theorem MirP.weak{w0 w':World}{L1 L:List Res}{g:Nat}{x:Int × MS}{r:Ending}(h:MirP w0 w' (L1 ++ L) g x r):MirP w0 w' L g x r:=by
 obtain ⟨h1,L',M,vs,S,R⟩:=h
 exact ⟨h1,L' ++ L1,M,vs,by rw [List.append_assoc];exact S,by rw [List.append_assoc];exact R⟩
theorem txf_at{W:World}{A:Option Addr}{c k:Nat}{vs:List Value}{ls:List (List UInt8)}{t:List UInt8}(h:TxF W (.slice A ls.length c) vs ls)(hk:ls[k]?=some t):∃ ad At ct,A=some ad ∧ vs[k]?=some (.slice At t.length ct) ∧ W.cell? (ad.add k)=some (.slice At t.length ct) ∧ Rd W 1 (.slice At t.length ct) t.length (bv t):=by
 have hlt:=(List.getElem?_eq_some_iff.1 hk).1
 obtain ⟨u,hu,hr⟩:=h.2 k hlt
 rw [(List.getElem?_eq_some_iff.1 hk).2] at hr
 obtain ⟨ad,rfl⟩:=rd_addr h.1 (by omega)
 have hc:=h.at_ hu
 obtain ⟨-,At,ct,rfl,-⟩:=id hr
 exact ⟨ad,At,ct,rfl,hu,hc,hr⟩
theorem txf_rd{W:World}{A At:Option Addr}{c ct k:Nat}{vs:List Value}{ls:List (List UInt8)}{t:List UInt8}(h:TxF W (.slice A ls.length c) vs ls)(hk:ls[k]?=some t)(hu:vs[k]?=some (.slice At t.length ct)):Rd W 1 (.slice At t.length ct) t.length (bv t):=by
 obtain ⟨ad,A2,c2,-,h2,-,h4⟩:=txf_at h hk
 rw [hu] at h2
 cases h2
 exact h4
theorem mtk_r11{Q:Exit->Act->World->Prop}{a:Act}{w:World}(g n m c:Nat)(A:Option Addr)(z:Int)(hnm:n+m < 9223372036854775808)(HC0:∀ V,Kp [] w V->Calls Tryz.prog 17 #[Pq g 0] V fun e w'=>e=.returned (Nq n) ∧ Kp [] V w')(hsz:a.tmps.size=130)(o0:Sl a 0 (Pq g 0))(o2:Sl a 2 (.slice A m c))(o10:Sl a 10 (.int .i64 z))
 (hend:∀ (a':Act) (W:World) (b:Bool),Same a a' [34,35,36,37,38,39,40,41,42,43,44,45,46,47,48,49,50,51]->Kp [] w W->Sl a' 51 (.bool b)->(b=true ↔ (z ≠ (n:Int)+(m:Int) ∧ ((n:Int) < z ∨ 0 < m)))->Q .normal a' W):(Code.region 11 (opsOf 11 Tryz.f16).toArray false).wp Tryz.prog Q a w:=by
 have hGap:z=(n:Int)+(m:Int) ∨ (z ≠ (n:Int)+(m:Int) ∧ (n:Int) < z) ∨ (z ≠ (n:Int)+(m:Int) ∧ z<=(n:Int)):=by omega
 rcases hGap with hg|hg|hg
 . exact mtk_r11N g n m c A z hnm (LH hg) HC0 hsz o0 o2 o10 (fun a8 w8 hs8 k8 o51=>hend a8 w8 _ hs8 k8 o51 (by simp [hg]))
 . exact mtk_r11A g n m c A z hnm (LH hg) HC0 hsz o0 o2 o10 (fun a8 w8 hs8 k8 o51=>hend a8 w8 _ hs8 k8 o51 (by simp only [true_iff];exact ⟨hg.1,.inl hg.2⟩))
 . exact mtk_r11Y g n m c A z hnm (LH hg) HC0 hsz o0 o2 o10 (fun a8 w8 hs8 k8 o51=>hend a8 w8 _ hs8 k8 o51 (by
    rw [decide_eq_true_iff]
    exact ⟨fun h=>⟨hg.1,.inr h⟩,fun h=>by rcases h.2 with h2|h2 <;> omega⟩))
theorem mtk_r15{Q:Exit->Act->World->Prop}{a:Act}{w:World}(cd:Int)(g:Nat)(cs:Array Value)(nd:Bool)(hb:Blk w g 85 cs)(h9:cs[38]?=some (.bool nd))(hsz:a.tmps.size=130)(o0:Sl a 0 (Pq g 0))(o11:Sl a 11 (.int .i64 cd)):RG1 false 15 Tryz.f16 Q a w fun a' W q'=>Kp [] w W->Sl a' 68 (.bool (decide (cd=0) && !nd))->q':=by
 intro hend
 by_cases h:cd=0
 . subst h
   exact mtk_r15Y g cs nd hb h9 hsz o0 o11 (fun a8 w8 hs8 k8 o68=>hend a8 w8 hs8 k8 (by simpa using o68))
 . exact mtk_r15N cd (LH h) (by rw [beq_eq_false_iff_ne];exact h) hsz o11 (fun a8 w8 hs8 k8 o68=>hend a8 w8 hs8 k8 (by rw [decide_eq_false h,Bool.false_and];exact o68))
theorem mtake_any(w0:World)(L:List Res)(LD0:LD w0)(g:Nat)(X:MS)(M:MirD)(vs:List Value)(R:MirR M vs X L)(n:NtD)(hn:n.Ok)(A:Option Addr)(c:Nat)(ls:List (List UInt8))(hls:X.es.length+ls.length<=1000000)(hlb:∀ e ∈ ls,e.length<=140737488355200)(Ax:Option Addr)(cx:Nat)(tvs:List Value)(w:World)(S:Held w0 w (blkR g 85 M.cells :: rowR 32 1 M.e X.es.length vs :: L))(HVn:SgR L A c n.l)(HVx:∀ V,Kp [] w0 V->(∀ r ∈ L,r.ok V)->TxF V (.slice Ax ls.length cx) tvs ls):
 Calls Tryz.prog 16 #[Pq g 0,.agg (ntA n.z n.h (.slice A n.l.length c)),.slice Ax ls.length cx] w fun r w'=>MirP w0 w' L g (X.takeF n ls) r:=by
 have hM:=R.ok
 have hXl:M.hl.length=X.es.length:=by rw [R.hl,X.hl_length]
 obtain ⟨Ae,ce,hMe⟩:=hM.e
 rw [hXl] at hMe
 have hcs:M.cells[141]?=some (.bool true):=mirC_md hM.la hM.fk
 have hmay:mayM M.fd n.z n.h n.l M.nm M.sec=X.mayF n:=by unfold MS.mayF;rw [R.fd,R.nm,R.sec]
 refine calls_fr Tryz.func16 rfl 130 rfl (fun a0 hsz hdf hAr=>?_)
 have hz0:a0.tmps.size=130:=hsz
 have D:=hdf
 have o0:=hAr 0 _ rfl
 have o1:=hAr 1 _ rfl
 have o2:=hAr 2 _ rfl
 refine wp_seq (mtk_r0 w0 _ (ntA_size hn.h) (ntA_one rfl) _ S hz0 o1 (fun a1 w1 hs1 o6 h1=>?_))
 obtain ⟨hz1,D,o0,o1,o2⟩:=kq3 hs1 hz0 D o0 o1 o2
 obtain ⟨g4,o4,S1⟩:=h1
 have S1:=((S1.pull 2 rfl).pull 2 rfl)
 try simp only [List.eraseIdx] at S1
 have hG:∀ {w':World} {x:Int × MS} {r:Ending},MirP w0 w' (blkR g4 28 (ntA n.z n.h (.slice A n.l.length c)) :: L) g x r->MirP w0 w' L g x r:=fun h=>MirP.weak (L1:=[_]) h
 obtain ⟨L1,hL1⟩:∃ L1,blkR g4 28 (ntA n.z n.h (.slice A n.l.length c)) :: L=L1:=⟨_,rfl⟩
 have hsub:∀ r ∈ L,r ∈ L1:=fun r hr=>by rw [<- hL1];exact List.mem_cons_of_mem _ hr
 have hg4:blkR g4 28 (ntA n.z n.h (.slice A n.l.length c)) ∈ L1:=by rw [<- hL1];exact List.mem_cons_self ..
 rw [hL1] at S1 hG
 have HVn:SgR L1 A c n.l:=fun V hV=>HVn V (fun r hr=>hV r (hsub r hr))
 have HVx:∀ V,Kp [] w0 V->(∀ r ∈ L1,r.ok V)->TxF V (.slice Ax ls.length cx) tvs ls:=fun V kV hV=>HVx V kV (fun r hr=>hV r (hsub r hr))
 have R:=R.more hsub
 have okL:∀ {V:World} {r1 r2:Res},Held w0 V (r1 :: r2 :: L1)->∀ r ∈ L1,r.ok V:=fun SV r hr=>SV.ok r (List.mem_cons_of_mem _ (List.mem_cons_of_mem _ hr))
 have hb4:∀ {V:World},(∀ r ∈ L1,r.ok V)->Blk V g4 28 (ntA n.z n.h (.slice A n.l.length c)):=fun hV=>hV (blkR g4 28 (ntA n.z n.h (.slice A n.l.length c))) hg4
 clear hL1
 refine wp_seq (wp_seq (mtk_r1 _ g4 _ (ntA_size hn.h) (hb4 (okL S1)) _ (mmay_any n.z hn.z n.h hn.h A c n.l hn.l hn.m M.nm hM.nm M.Ak M.ck M.sec g M.cells M.fd w1 (LD0.kp S1.k) (S1.at_ (l1:=[])) mirC_0 mirC_1 (mirC_fd hM.la hM.fk) hcs (HVn w1 (okL S1)) (R.rd w1 (okL S1)).1) hz1 o0 o4 (fun a2 w2 hs2 o7 k2=>?_)))
 obtain ⟨hz2,D,o0,o2,o4⟩:=kq3 hs2 hz1 D o0 o2 o4
 have S2:=S1.kp k2
 rw [hmay] at o7
 refine wp_seq (mtk_r2 _ hz2 o7 (fun a3 hs3 o19=>?_))
 obtain ⟨hz3,D,o0,o2,o4,o7⟩:=kq4 hs3 hz2 D o0 o2 o4 o7
 by_cases hm:X.mayF n=0
 case neg=>
  have hq:(X.mayF n != 0)=true:=by rw [bne_iff_ne];exact hm
  refine wcT o19 ?_ (by rw [hq])
  refine wp_seq (mtk_r3 _ hz3 o7 (fun a4 hs4 o6=>?_))
  obtain ⟨hz4,D,o7⟩:=kq1 hs4 hz3 D o7
  refine wp_ret ?_
  try simp only [Exit.then,Exit.inBlock]
  have e:X.takeF n ls=(X.mayF n,X):=by unfold MS.takeF;rw [if_pos hm]
  rw [e]
  exact bodyPost_ret (res_u1 (by rfl) (o6.eval (by rw [hz4];decide))) D (hG (mirP_same R S2))
 rw [hm] at o19
 refine wcF o19 (wp_skip ?_)
 simp only [Exit.then]
 have hmay0:=mayM_zero (hmay.trans hm)
 obtain ⟨hfd,hz0n⟩:=hmay0
 obtain ⟨k,hk⟩:∃ k:Nat,n.z=k:=⟨n.z.toNat,by omega⟩
 refine wp_seq (wp_seq (mtk_r4 Ax ls.length cx hz3 o2 (fun a4 hs4 o21 o22 o23=>?_)))
 obtain ⟨hz4,D,o0,o2,o4⟩:=kq3 hs4 hz3 D o0 o2 o4
 refine wp_block ?_
 (conv=>arg 2;whnf)
 refine wp_loop (fun a' w'=>∃ i:Nat,i<=ls.length ∧ a'.tmps.size=130 ∧ a'.defers=[] ∧ Sl a' 0 (Pq g 0) ∧ Sl a' 2 (.slice Ax ls.length cx) ∧ Sl a' 4 (Pq g4 0) ∧ Sl a' 21 (.slice Ax ls.length cx) ∧ Sl a' 22 (Nq (ls.length)) ∧ Sl a' 23 (Nq i) ∧ (∀ t ∈ ls.take i,t.length<=4096) ∧ Held w0 w' (blkR g 85 M.cells :: rowR 32 1 M.e X.es.length vs :: L1)) (fun a' _=>ls.length - (intOf (a'.eval (.tmp 23))).toNat) ⟨0,Nat.zero_le _,hz4,D,o0,o2,o4,o21,o22,o23,by simp,S2⟩ ?_
 iterate 9 (try clear o0)
 iterate 9 (try clear o2)
 iterate 9 (try clear o4)
 iterate 9 (try clear o21)
 iterate 9 (try clear o22)
 iterate 9 (try clear o23)
 iterate 9 (try clear D)
 iterate 9 (try clear S2)
 iterate 9 (try clear S1)
 rintro a7 w7 ⟨i,hi,hz7,D,o0,o2,o4,o21,o22,o23,hsh,S⟩
 have e23:=o23.eval (by rw [hz7];decide)
 refine wp_seq (mtk_r5 i ls.length hz7 o22 o23 (fun a8 hs8 o24=>?_))
 obtain ⟨hz8,D,o0,o2,o4,o21,o22,o23⟩:=kq6 hs8 hz7 D o0 o2 o4 o21 o22 o23
 by_cases hlt:i < ls.length
 case pos=>
  refine wp_seq (wcT o24 (wp_skip ?_) (by rw [decide_eq_true hlt]))
  simp only [Exit.then]
  obtain ⟨t,ht⟩:∃ t,ls[i]?=some t:=⟨_,List.getElem?_eq_getElem hlt⟩
  obtain ⟨ad,At,ct,rfl,htv,hcell,hrd⟩:=txf_at (HVx w7 S.k (okL S)) ht
  refine wp_seq (wp_block ?_)
  refine wp_seq (mtk_r6 ad i ls.length cx hlt _ hcell ⟨_,_,_,rfl⟩ hz8 o21 o23 (fun a9 hs9 o9=>?_))
  obtain ⟨hz9,D,o0,o2,o4,o21,o22,o23⟩:=kq6 hs9 hz8 D o0 o2 o4 o21 o22 o23
  refine wp_seq (mtk_r7 At t.length ct hz9 o9 (fun a10 hs10 o29=>?_))
  obtain ⟨hz10,D,o0,o2,o4,o21,o22,o23,o9⟩:=kq7 hs10 hz9 D o0 o2 o4 o21 o22 o23 o9
  by_cases h4:4096 < t.length
  case pos=>
   refine wcT o29 ?_ (by rw [decide_eq_true h4])
   refine wp_seq (mtk_r8 hz10 (fun a11 hs11 o6=>?_))
   obtain ⟨hz11,D,o0,o2,o4,o21,o22,o23,o9,o29⟩:=kq8 hs11 hz10 D o0 o2 o4 o21 o22 o23 o9 o29
   refine wp_ret ?_
   try simp only [Exit.then,Exit.inBlock]
   have e:X.takeF n ls=(3,X):=by unfold MS.takeF;rw [if_neg (by rw [hm];decide),if_pos ⟨t,List.mem_of_getElem? ht,h4⟩]
   rw [e]
   exact bodyPost_ret (res_u1 (by rfl) (o6.eval (by rw [hz11];decide))) D (hG (mirP_same R S))
  refine wcF o29 (wp_skip ?_) (by rw [decide_eq_false h4])
  simp only [Exit.then,Exit.inBlock]
  refine mtk_r9 i (by omega) hz10 o23 (fun a11 hs11 o23=>?_)
  have hz11:=hs11.size.trans hz10
  refine ⟨⟨i+1,hlt,hz11,hs11.defers.trans D,hs11.q o0,hs11.q o2,hs11.q o4,hs11.q o21,hs11.q o22,o23,?_,S⟩,?_⟩
  . intro u hu
    rw [List.take_add_one,ht] at hu
    rcases List.mem_append.1 hu with hu|hu
    . exact hsh u hu
    . simp at hu;subst hu;omega
  . show ls.length - (intOf _).toNat < ls.length - (intOf _).toNat
    rw [e23,o23.eval (by rw [hz11];decide)]
    simp only [intOf];omega
 refine wp_seq (wcF o24 (wp_exit ?_) (by rw [decide_eq_false hlt]))
 simp only [Exit.then,Exit.inBlock]
 obtain rfl:i=ls.length:=by omega
 rw [List.take_length] at hsh
 have hsh2:¬ ∃ t ∈ ls,4096 < t.length:=fun ⟨t,h1,h2⟩=>by have:=hsh t h1;omega
 clear hlt hi e23 o21 o22 o23 o24
 refine wp_seq (mtk_r10 g4 _ (k:Int) (hb4 (okL S)) (by rw [<- hk];exact ntA_size0) hz8 o4 (fun a9 hs9 o10=>?_))
 obtain ⟨hz9,D,o0,o2,o4⟩:=kq3 hs9 hz8 D o0 o2 o4
 have HS:∀ V,Kp [] w7 V->Calls Tryz.prog 17 #[Pq g 0] V fun e w'=>e=.returned (Nq (X.es.length)) ∧ Kp [] V w':=fun V kV=>msize_any g M.cells Ae X.es.length ce V ((S.kp kV).at_ (l1:=[])) hcs (by rw [<- hMe];exact mirC_2)
 refine wp_seq (wp_seq (mtk_r11 g X.es.length ls.length cx Ax (k:Int) (by omega) HS hz9 o0 o2 o10 (fun a10 w8 b hs10 k8 o51 hb=>?_)))
 obtain ⟨hz10,D,o0,o2,o4,o10⟩:=kq4 hs10 hz9 D o0 o2 o4 o10
 rw [<- hk] at hb
 have S8:=S.kp k8
 cases b
 case true=>
  refine wcT o51 ?_
  refine wp_seq (mtk_r12 hz10 (fun a11 hs11 o6=>?_))
  obtain ⟨hz11,D,o0,o2,o4,o10⟩:=kq4 hs11 hz10 D o0 o2 o4 o10
  refine wp_ret ?_
  try simp only [Exit.then,Exit.inBlock]
  have e:X.takeF n ls=(402,X):=by unfold MS.takeF;rw [if_neg (by rw [hm];decide),if_neg hsh2,if_pos (hb.1 rfl)]
  rw [e]
  exact bodyPost_ret (res_u1 (by rfl) (o6.eval (by rw [hz11];decide))) D (hG (mirP_same R S8))
 have hng:¬ (n.z ≠ (X.es.length:Int)+(ls.length:Int) ∧ ((X.es.length:Int) < n.z ∨ 0 < ls.length)):=fun h=>by have:=hb.2 h;cases this
 have eT:X.takeF n ls=if n.z<=(X.es.length:Int) then (if (X.withinF n).1=0 ∧ X.nd=false then (0,X.noteF n) else X.withinF n) else if rootF (X.hl ++ ls.map leafF)=n.h then (0,({ X with es:=X.es ++ ls }:MS).noteF n) else (403,X):=by
  unfold MS.takeF
  rw [if_neg (by rw [hm];decide),if_neg hsh2,if_neg hng]
 rw [eT]
 clear eT hb
 refine wcF o51 (wp_skip ?_)
 simp only [Exit.then]
 refine wp_seq (wp_seq (mtk_r13 g X.es.length (k:Int) (msize_any g M.cells Ae X.es.length ce w8 (S8.at_ (l1:=[])) hcs (by rw [<- hMe];exact mirC_2)) hz10 o0 o10 (fun a11 w9 hs11 o55 k9=>?_)))
 obtain ⟨hz11,D,o0,o2,o4,o10⟩:=kq4 hs11 hz10 D o0 o2 o4 o10
 have S9:=S8.kp k9
 by_cases hkn:k<=X.es.length
 case pos=>
  rw [if_pos (by omega:n.z<=(X.es.length:Int))]
  refine wcT o55 ?_ (by rw [decide_eq_true (by omega)])
  have hb9:=hb4 (okL S9)
  rw [hk] at hb9
  have hWi:=within_any w0 (rowR 32 1 M.e X.es.length vs :: L1) g M hM hfd k (by omega) n.h hn.h A c n.l hn.l hn.m w9 S9 (fun V hV=>HVn V (fun r hr=>hV r (List.mem_cons_of_mem _ hr))) (fun V hV=>R.rd V (fun r hr=>hV r (List.mem_cons_of_mem _ hr)))
  refine wp_seq (mtk_r14 g g4 _ (ntA_size hn.h) hb9 _ hWi hz11 o0 o4 (fun a12 w10 hs12 h10=>?_))
  obtain ⟨hz12,D,o0,o4⟩:=kq2 hs12 hz11 D o0 o4
  obtain ⟨cd,o11,hW⟩:=h10
  have hP:=mirP_within hn hk R hW
  obtain ⟨hcd,L',M',vs',S10,R'⟩:=hP
  have hcd:cd=(X.withinF n).1:=by injection hcd with h;injection h with _ h
  by_cases hc:(X.withinF n).1=0 ∧ X.nd=false
  case pos=>
   rw [if_pos hc]
   rw [hcd,hc.1] at o11
   have hX:(X.withinF n).2=X:=by
    have h:=hc.1
    unfold MS.withinF at h ⊢
    split
    . rfl
    . rename_i h1
      rw [if_neg h1,if_pos hc.2] at h
      simp at h
   rw [hX] at S10 R'
   have S10:Held w0 w10 (blkR g 85 M'.cells :: rowR 32 1 M'.e X.es.length vs' :: (L' ++ L1)):=S10
   refine wp_seq (wp_seq (mtk_r15Y g _ false (S10.at_ (l1:=[])) (by have:=R'.nd;rw [hc.2] at this;rw [<- this];exact mirC_nd R'.ok.la) hz12 o0 o11 (fun a13 w11 hs13 k11 o68=>?_)))
   obtain ⟨hz13,D,o0,o4,o11⟩:=kq3 hs13 hz12 D o0 o4 o11
   have S11:=S10.kp k11
   refine wcT o68 ?_
   have hNote:=mnote_any w0 (blkR g 85 M'.cells :: rowR 32 1 M'.e X.es.length vs' :: (L' ++ L1)) n.z n.h hn.h A c n.l hn.l hn.m w11 S11 (fun V SV=>HVn V (fun r hr=>SV.ok r (by simp [hr])))
   refine mtk_r16 w0 g g4 _ (ntA_size hn.h) (hb4 (fun r hr=>S11.ok r (by simp [hr]))) n.z n.h hn.h n.l.length (sgsC n.l) _ (mirC_size R'.ok.la R'.ok.fk) _ M'.nd (fun v=>(by rw [ntA_list];exact mirC_setL R'.ok.la:(M'.cells.toList.take 4 ++ (ntA n.z n.h v).toList ++ M'.cells.toList.drop (4+34)).toArray=mirC (strV M'.nm) (.slice M'.Ak M'.sec.length M'.ck) M'.e (.slice M'.Ah M'.hl.length M'.ch) (ntL n.z n.h v) M'.nd M'.fk M'.fd true)) (fun v=>mirC_nd (ntL_length hn.h)) (rowR 32 1 M'.e X.es.length vs' :: (L' ++ L1)) (hNote.mono (fun r w' ⟨v,h1,h2⟩=>⟨v,h1,h2.pull 1 rfl⟩)) hz13 o0 o4 (fun a14 w12 hs14 h12=>?_)
   obtain ⟨hz14,D,o0,o4,o11⟩:=kq3 hs14 hz13 D o0 o4 o11
   obtain ⟨v,S12⟩:=h12
   rw [mirC_setNd (ntL_length hn.h)] at S12
   obtain ⟨Av,cv,rfl,-⟩:=ow_form (S12.at_ (l1:=[_]))
   simp only [Exit.then]
   refine wp_seq (mtk_r17 _ hz14 o11 (fun a15 hs15 o6=>?_))
   obtain ⟨hz15,D,o11⟩:=kq1 hs15 hz14 D o11
   refine wp_ret ?_
   try simp only [Exit.then,Exit.inBlock]
   refine bodyPost_ret (res_u1 (by rfl) (o6.eval (by rw [hz15];decide))) D (hG ⟨rfl,rowR 89 33 (.slice Av n.l.length cv) n.l.length (sgsC n.l) :: L',{ M' with la:=ntL n.z n.h (.slice Av n.l.length cv),nd:=true },vs',(S12.pull 2 rfl).pull 1 rfl,?_⟩)
   exact mir_noteR R' (fun r hr=>List.mem_cons_of_mem _ hr) n hn Av cv (fun V hV=>ow_rdE (e:=89) hV (by simp))
  rw [if_neg hc]
  refine wp_seq (wp_seq (mtk_r15 cd g _ M'.nd (S10.at_ (l1:=[])) (mirC_nd R'.ok.la) hz12 o0 o11 (fun a13 w11 hs13 k11 o68=>?_)))
  obtain ⟨hz13,D,o0,o4,o11⟩:=kq3 hs13 hz12 D o0 o4 o11
  have hcb:(decide (cd=0) && !M'.nd)=false:=by
   rw [hcd,R'.nd]
   unfold MS.withinF at hc ⊢
   split at hc
   . rename_i h1
     rw [if_pos h1]
     cases hh:X.nd with
     |true=>simp [hh]
     |false=>exact absurd ⟨rfl,hh⟩ hc
   . rename_i h1
     rw [if_neg h1]
     split <;> simp
  refine wcF o68 (wp_skip ?_) (by rw [hcb])
  simp only [Exit.then]
  refine wp_seq (mtk_r17 _ hz13 o11 (fun a14 hs14 o6=>?_))
  obtain ⟨hz14,D,o11⟩:=kq1 hs14 hz13 D o11
  refine wp_ret ?_
  try simp only [Exit.then,Exit.inBlock]
  rw [hcd] at o6
  exact bodyPost_ret (res_u1 (by rfl) (o6.eval (by rw [hz14];decide))) D (hG (⟨rfl,L',M',vs',S10.kp k11,R'⟩))
 rw [if_neg (by omega:¬ n.z<=(X.es.length:Int))]
 refine wcF o55 (wp_skip ?_) (by rw [decide_eq_false (by omega)])
 simp only [Exit.then]
 skip
 have HC1:∀ V,Kp [] w0 V->(∀ r ∈ (rowR 32 1 M.e X.es.length vs :: L1),r.ok V)->Calls Tryz.prog 48 #[.slice Ax ls.length cx] V fun r w'=>∃ v,r=.returned v ∧ Held V w' [rowR 23 32 v ls.length (hsC (ls.map leafF))]:=fun V kV hV=>hleaves_any _ ls (by omega) hlb V ⟨_,HVx V kV (fun r hr=>hV r (List.mem_cons_of_mem _ hr))⟩
 have HC2:∀ V v2 v,Ow V 29 1 v2 2 [.slice M.Ah M.hl.length M.ch,v]->Ow V 23 32 v ls.length (hsC (ls.map leafF))->(∀ r ∈ (rowR 32 1 M.e X.es.length vs :: L1),r.ok V)->Calls Tryz.prog 47 #[v2] V fun r w'=>∃ u,r=.returned u ∧ Held V w' [rowR 23 32 u (M.hl ++ ls.map leafF).length (hsC (M.hl ++ ls.map leafF))]:=by
  intro V v2 v h1 h2 hV
  obtain ⟨A2,c2,rfl,-⟩:=ow_form h1
  have hx:hvF [((.slice M.Ah M.hl.length M.ch:Value),M.hl),(v,ls.map leafF)]=M.hl ++ ls.map leafF:=by simp [hvF]
  have:=sconcat_any A2 c2 [((.slice M.Ah M.hl.length M.ch:Value),M.hl),(v,ls.map leafF)] (by rw [hx];simp;omega) V (Rd.of_own h1) (by
   intro x hm
   rcases List.mem_cons.1 hm with rfl|hm
   . exact (R.rd V (fun r hr=>hV r (List.mem_cons_of_mem _ hr))).2
   . simp only [List.mem_singleton] at hm
     subst hm
     have:=Rd.of_own h2
     rw [show (ls.map leafF).length=ls.length by simp]
     exact this)
  rw [hx] at this
  exact this
 refine wp_seq (mtk_r18 w0 g _ M.Ah Ax M.hl.length M.ch ls.length cx _ _ _ _ mirC_3 (rowR 32 1 M.e X.es.length vs :: L1) HC1 HC2 hz11 o0 o2 S9  (fun a12 vs18 gs18 w10 hs12 o12 S10=>?_))
 obtain ⟨hz12,D,o0,o2,o4⟩:=kq3 hs12 hz11 D o0 o2 o4
 generalize vs18 6=u6 at *
 generalize vs18 7=u7 at *
 generalize vs18 8=u8 at *
 obtain ⟨Au,cu,rfl,-⟩:=ow_form (S10.at_ (l1:=[_,_]))
 have hqL:(M.hl ++ ls.map leafF).length=X.es.length+ls.length:=by simp [hXl]
 have S10:=(S10.drop).drop
 have hHs:HsOk (M.hl ++ ls.map leafF):=fun x hx=>by
  rcases List.mem_append.1 hx with hx|hx
  . exact hM.hs x hx
  . exact leaves_ok ls x hx
 rw [<- R.hl]
 refine wp_seq (wp_seq (mtk_r19 g4 n.z n.h hn.h _ Au (M.hl ++ ls.map leafF).length cu (rootF (M.hl ++ ls.map leafF)) (rootF_length hHs) (hb4 (fun r hr=>S10.ok r (by simp [hr]))) (fun V kV=>tof_any Au cu (M.hl ++ ls.map leafF) hHs V (Rd.of_own ((S10.kp kV).at_ (l1:=[])))) hz12 o4 o12 (fun a13 w11 hs13 k11 o94=>?_)))
 obtain ⟨hz13,D,o0,o2,o4,o12⟩:=kq4 hs13 hz12 D o0 o2 o4 o12
 have S11:=S10.kp (((Kp.refl [] w10).drew).trans k11 (by simp))
 by_cases hr:rootF (M.hl ++ ls.map leafF)=n.h
 case neg=>
  rw [if_neg hr]
  refine wcT o94 ?_ (by rw [beq_eq_false_iff_ne.2 hr];rfl)
  refine wp_seq (mtk_r20 hz13 (fun a14 hs14 o6=>?_))
  obtain ⟨hz14,D,o0,o2,o4,o12,o94⟩:=kq5 hs14 hz13 D o0 o2 o4 o12 o94
  refine wp_ret ?_
  try simp only [Exit.then,Exit.inBlock]
  exact bodyPost_ret (res_u1 (by rfl) (o6.eval (by rw [hz14];decide))) D (hG (mirP_sameL [_] R ((S11.pull 2 rfl).pull 2 rfl)))
 rw [if_pos hr]
 refine wcF o94 (wp_skip ?_) (by rw [hr,beq_self_eq_true];rfl)
 simp only [Exit.then]
 refine wp_seq (mtk_r21 w0 g _ _ ⟨_,_,_,rfl⟩ _ ⟨_,_,_,rfl⟩ mirC_3 _ (S11.pull 1 rfl) hz13 o0 o12 (fun a14 w12 hs14 S12=>?_))
 obtain ⟨hz14,D,o0,o2,o4,o12⟩:=kq4 hs14 hz13 D o0 o2 o4 o12
 have S12:Held w0 w12 (blkR g 85 (mirC (strV M.nm) (.slice M.Ak M.sec.length M.ck) M.e (.slice Au (M.hl ++ ls.map leafF).length cu) M.la M.nd M.fk M.fd true) :: rowR 23 32 (.slice Au (M.hl ++ ls.map leafF).length cu) (M.hl ++ ls.map leafF).length (hsC (M.hl ++ ls.map leafF)) :: rowR 32 1 M.e X.es.length vs :: L1):=by
  have h:=S12
  rw [mirC_setH] at h
  exact h
 rw [hMe] at S12
 have S12:=(S12.pull 1 rfl).pull 2 rfl
 have S12:=S12.pull 2 rfl
 have S12:=S12.pull 1 rfl
 try simp only [List.eraseIdx] at S12
 refine wp_seq (wp_seq (mtk_r22 Ax ls.length cx hz14 o2 (fun a15 hs15 o100 o101 o102=>?_)))
 obtain ⟨hz15,D,o0,o2,o4⟩:=kq3 hs15 hz14 D o0 o2 o4
 obtain ⟨L2,hL2⟩:∃ L2,rowR 23 32 (.slice Au (M.hl ++ ls.map leafF).length cu) (M.hl ++ ls.map leafF).length (hsC (M.hl ++ ls.map leafF)) :: L1=L2:=⟨_,rfl⟩
 have hsub2:∀ r ∈ L1,r ∈ L2:=fun r hr=>by rw [<- hL2];exact List.mem_cons_of_mem _ hr
 rw [hL2] at S12
 refine wp_block ?_
 (conv=>arg 2;whnf)
 refine wp_loop (fun a' w'=>∃ (i:Nat) (Ae:Option Addr) (ce:Nat) (us:List Value) (L':List Res),i<=ls.length ∧ a'.tmps.size=130 ∧ a'.defers=[] ∧ Sl a' 0 (Pq g 0) ∧ Sl a' 4 (Pq g4 0) ∧ Sl a' 100 (.slice Ax ls.length cx) ∧ Sl a' 101 (Nq (ls.length)) ∧ Sl a' 102 (Nq i) ∧ EnR (L' ++ L2) us (ls.take i) ∧ Held w0 w' (rowR 32 1 (.slice Ae (X.es.length+i) ce) (X.es.length+i) (vs ++ us) :: blkR g 85 (mirC (strV M.nm) (.slice M.Ak M.sec.length M.ck) (.slice Ae (X.es.length+i) ce) (.slice Au (M.hl ++ ls.map leafF).length cu) M.la M.nd M.fk M.fd true) :: (L' ++ L2))) (fun a' _=>ls.length - (intOf (a'.eval (.tmp 102))).toNat) ⟨0,Ae,ce,[],[],Nat.zero_le _,hz15,D,o0,o4,o100,o101,o102,EnR.nil _,by simpa using S12⟩ ?_
 iterate 9 (try clear o2)
 iterate 9 (try clear o12)
 iterate 9 (try clear o0)
 iterate 9 (try clear o4)
 iterate 9 (try clear o100)
 iterate 9 (try clear o101)
 iterate 9 (try clear o102)
 iterate 9 (try clear D)
 iterate 9 (try clear S12)
 iterate 9 (try clear S11)
 iterate 9 (try clear S10)
 iterate 9 (try clear S9)
 iterate 9 (try clear S8)
 iterate 9 (try clear S)
 rintro a7 w7 ⟨i,Ae,ce,us,L',hi,hz7,D,o0,o4,o100,o101,o102,hen,S⟩
 have e102:=o102.eval (by rw [hz7];decide)
 have okL2:∀ {V:World} {r1 r2:Res},Held w0 V (r1 :: r2 :: (L' ++ L2))->∀ r ∈ L1,r.ok V:=fun SV r hr=>SV.ok r (List.mem_cons_of_mem _ (List.mem_cons_of_mem _ (List.mem_append_right _ (hsub2 r hr))))
 refine wp_seq (mtk_r23 i ls.length hz7 o101 o102 (fun a8 hs8 o103=>?_))
 obtain ⟨hz8,D,o0,o4,o100,o101,o102⟩:=kq5 hs8 hz7 D o0 o4 o100 o101 o102
 by_cases hlt:i < ls.length
 case pos=>
  refine wp_seq (wcT o103 (wp_skip ?_) (by rw [decide_eq_true hlt]))
  simp only [Exit.then]
  obtain ⟨t,ht⟩:∃ t,ls[i]?=some t:=⟨_,List.getElem?_eq_getElem hlt⟩
  obtain ⟨ad,At,ct,rfl,htv,hcell,hrd⟩:=txf_at (HVx w7 S.k (okL2 S)) ht
  have htm:=List.mem_of_getElem? ht
  refine wp_seq (wp_block ?_)
  refine wp_seq (mtk_r24 ad i ls.length cx hlt _ hcell ⟨_,_,_,rfl⟩ hz8 o100 o102 (fun a9 hs9 o14=>?_))
  obtain ⟨hz9,D,o0,o4,o100,o101,o102⟩:=kq5 hs9 hz8 D o0 o4 o100 o101 o102
  refine mtk_r25 w0 g (X.es.length+i) _ Ae ce (vs ++ us) (by omega) At ct t (hlb t htm) mirC_2 (L' ++ L2) (fun V kV hV=>txf_rd (HVx V kV (fun r hr=>hV r (List.mem_append_right _ (hsub2 r hr)))) ht htv) hz9 o0 o14 S  (fun a10 vs25 gs25 w10 hs10 S10=>?_)
  obtain ⟨hz10,D,o0,o4,o100,o101,o102,o14⟩:=kq6 hs10 hz9 D o0 o4 o100 o101 o102 o14
  generalize vs25 7=u7 at *
  generalize vs25 8=u8 at *
  generalize vs25 9=u9 at *
  simp only [Exit.then,Exit.inBlock]
  obtain ⟨A7,c7,rfl,-⟩:=ow_form (S10.at_ (l1:=[]))
  obtain ⟨A9,c9,rfl,-⟩:=ow_form (S10.at_ (l1:=[_,_]))
  rw [mirC_setE] at S10
  have S10:=(S10.pull 1 rfl).drop
  have S10:=(S10.pull 2 rfl).pull 2 rfl
  try simp only [List.eraseIdx] at S10
  refine mtk_r26 i (by omega) hz10 o102 (fun a11 hs11 o102=>?_)
  have hz11:=hs11.size.trans hz10
  refine ⟨⟨i+1,A9,c9,us ++ [.slice A7 t.length c7],rowR 5 1 (.slice A7 t.length c7) t.length (bv t) :: L',hlt,hz11,hs11.defers.trans D,hs11.q o0,hs11.q o4,hs11.q o100,hs11.q o101,o102,?_,?_⟩,?_⟩
  . rw [List.take_add_one,ht]
    exact (hen.more (fun r hr=>List.mem_cons_of_mem _ hr)).app (EnR.one (fun V hV=>ow_rdE (e:=5) hV (by simp)))
  . rw [<- Nat.add_assoc,<- List.append_assoc]
    exact S10
  . show ls.length - (intOf _).toNat < ls.length - (intOf _).toNat
    rw [e102,o102.eval (by rw [hz11];decide)]
    simp only [intOf];omega
 refine wp_seq (wcF o103 (wp_exit ?_) (by rw [decide_eq_false hlt]))
 simp only [Exit.then,Exit.inBlock]
 obtain rfl:i=ls.length:=by omega
 rw [List.take_length] at hen
 clear hlt hi e102 o100 o101 o102 o103
 have S:=S.pull 1 rfl
 try simp only [List.eraseIdx] at S
 have hNote:=mnote_any w0 _ n.z n.h hn.h A c n.l hn.l hn.m w7 S (fun V SV=>HVn V (fun r hr=>SV.ok r (List.mem_cons_of_mem _ (List.mem_cons_of_mem _ (List.mem_append_right _ (hsub2 r hr))))))
 refine wp_seq (mtk_r27 w0 g g4 _ (ntA_size hn.h) (hb4 (fun r hr=>S.ok r (List.mem_cons_of_mem _ (List.mem_cons_of_mem _ (List.mem_append_right _ (hsub2 r hr)))))) n.z n.h hn.h n.l.length (sgsC n.l) _ (mirC_size hM.la hM.fk) _ M.nd (fun v=>by rw [ntA_list];exact mirC_setL hM.la) (fun v=>mirC_nd (ntL_length hn.h)) _ (hNote.mono (fun r w' ⟨v,h1,h2⟩=>⟨v,h1,h2.pull 1 rfl⟩)) hz8 o0 o4 (fun a9 w12 hs9 h12=>?_))
 obtain ⟨hz9,D,o0,o4⟩:=kq2 hs9 hz8 D o0 o4
 obtain ⟨v,S12⟩:=h12
 rw [mirC_setNd (ntL_length hn.h)] at S12
 obtain ⟨Av,cv,rfl,-⟩:=ow_form (S12.at_ (l1:=[_]))
 try simp only [List.eraseIdx] at S12
 refine wp_seq (mtk_r28 hz9 (fun a10 hs10 o6=>?_))
 obtain ⟨hz10,D⟩:=kq0 hs10 hz9 D
 refine wp_ret ?_
 try simp only [Exit.then,Exit.inBlock]
 have hlen:(M.hl ++ ls.map leafF).length=(X.es ++ ls).length:=by rw [hqL];simp
 have S13:=(S12.pull 2 rfl).pull 1 rfl
 try simp only [List.eraseIdx] at S13
 refine bodyPost_ret (res_u1 (by rfl) (o6.eval (by rw [hz10];decide))) D (hG ⟨rfl,rowR 89 33 (.slice Av n.l.length cv) n.l.length (sgsC n.l) :: (L' ++ [rowR 23 32 (.slice Au (M.hl ++ ls.map leafF).length cu) (M.hl ++ ls.map leafF).length (hsC (M.hl ++ ls.map leafF))]),{ M with hl:=M.hl ++ ls.map leafF,Ah:=Au,ch:=cu,e:=.slice Ae (X.es.length+ls.length) ce,la:=ntL n.z n.h (.slice Av n.l.length cv),nd:=true },vs ++ us,?_,?_⟩)
 . have e1:(({ X with es:=X.es ++ ls }:MS).noteF n).es.length=X.es.length+ls.length:=by simp [MS.noteF]
   show Held w0 w12 (_ :: rowR _ _ _ (({ X with es:=X.es ++ ls }:MS).noteF n).es.length _ :: _)
   rw [e1,List.cons_append,List.append_assoc,List.singleton_append,hL2]
   exact S13
 . rw [List.cons_append,List.append_assoc,List.singleton_append,hL2]
   have R2:=R.more (L':=rowR 89 33 (.slice Av n.l.length cv) n.l.length (sgsC n.l) :: (L' ++ L2)) (fun r hr=>by have:=hsub2 r hr;simp [this])
   have R3:MirR { M with hl:=M.hl ++ ls.map leafF,Ah:=Au,ch:=cu,e:=.slice Ae (X.es.length+ls.length) ce } (vs ++ us) { X with es:=X.es ++ ls } (rowR 89 33 (.slice Av n.l.length cv) n.l.length (sgsC n.l) :: (L' ++ L2)):=by
    refine ⟨⟨hM.nm,hHs,by simp at hqL ⊢;omega,hM.la,hM.la1,hM.fk,⟨Ae,ce,?_⟩⟩,R2.nm,R2.sec,?_,?_,R2.nd,R2.fd,R2.la,R2.fk,?_⟩
    . show Value.slice Ae (X.es.length+ls.length) ce=.slice Ae (M.hl ++ ls.map leafF).length ce
      rw [hqL]
    . show M.hl ++ ls.map leafF=(X.es ++ ls).map leafF
      rw [R.hl,List.map_append];rfl
    . intro V hV
      exact ⟨(R2.rd V hV).1,ow_rdE (e:=23) hV (by rw [<- hL2];simp)⟩
    . exact R2.en.app (hen.more (fun r hr=>List.mem_cons_of_mem _ hr))
   exact mir_noteR R3 (fun r hr=>hr) n hn Av cv (fun V hV=>ow_rdE (e:=89) hV (by simp))
end
end Go.Proofs.YtmkfopmdingaoaaGreatDoor
