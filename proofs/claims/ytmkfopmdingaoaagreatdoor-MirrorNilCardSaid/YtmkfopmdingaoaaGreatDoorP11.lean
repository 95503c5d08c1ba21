/- Several texts in one: Nlb, Nlc, WireOpen, PtOpen, SgOpen, KyOpen, PtOpens, NtOpen, MrLaid, Post, PostKept. -/
import Derived.SizedLaws
import Derived.Test.YtmkfopmdingaoaaGreatDoorCards
import Derived.Test.YtmkfopmdingaoaaGreatDoorTie
import Derived.ProofKit
import Derived.OpenShut
import Derived.Deep.DeepHandedRow
import Derived.Deep.DeepWitnessRowRef
import Derived.Lib.LaidTab
import Derived.LaidMore
import Derived.Stop.LaidErr
import Derived.Test.YtmkfopmdingaoaaGreatDoorRows
import Derived.Carry
import Derived.JoinedCond
import Derived.Test.YtmkfopmdingaoaaGreatDoorP10
set_option linter.unusedVariables false
set_option linter.unusedSimpArgs false
set_option maxRecDepth 100000
set_option maxHeartbeats 8000000
namespace Go.Proofs.YtmkfopmdingaoaaGreatDoor
section
variable {Q:Exit->Act->World->Prop} {a:Act} {w:World}
open Go.RowKit Go.Shelf
attribute [local go_sem] Oper.semAt_some
theorem nth_r0(w0:World)(cn:Array Value)(L:List Res)(S:Held w0 w L)(hsz:a.tmps.size=110)(o1:Sl a 1 (.agg cn)):RG1 false 0 Tryz.f29 Q a w fun a' W q'=>(∃ g5 g8,Sl a' 5 (Pq g5 0) ∧ Sl a' 8 (Pq g8 0) ∧ Held w0 W (blkR g8 4 #[.bool false] :: blkR g5 28 cn :: L))->q':=by
 intro hend
 refine wp_region_lit ?_
 (conv=>arg 4;whnf)
 unfold Sl at o1
 have S1:=LH ((S.newBlk 28 cn).newBlkN 4 #[.bool false] (g:=w.heap.size+1) (by simp))
 go_wp2
 try simp only [Act.put]
 exact hend _ _ tS (⟨w.heap.size,w.heap.size+1,sP0,sP0,S1.out⟩)
theorem nth_r1(p:Value)(z:Int)(HC0:Calls Tryz.prog 63 #[p,.int .i64 z] w fun e w'=>e=.returned (.tuple #[.slice none 0 0,.int .i64 1]) ∧ Kp [] w w')(hsz:a.tmps.size=110)(o0:Sl a 0 (p))(o3:Sl a 3 (.int .i64 z)):RG1 false 1 Tryz.f29 Q a w fun a' W q'=>Sl a' 9 (.slice none 0 0)->Sl a' 10 (.int .i64 (1:Int))->(Kp [] w W)->q':=by
 intro hend
 refine wp_region_lit ?_
 (conv=>arg 4;whnf)
 unfold Sl at o0 o3
 have HC:=LH HC0
 clear HC0
 go_wp2_with fail
 refine HC.out.mono ?_
 rintro e w1 ⟨rfl,k1⟩
 have k1:=LH k1
 go_wp2_with fail
 try simp only [Act.put]
 exact hend _ _ tS sP sP (k1.out)
theorem nth_r2(w0:World)(p:Value)(z:Int)(ch:Array Value)(hch:ch.size=32)(h1:∀ u,u ∈ ch.toList->u.oneCell'=true)(L:List Res)(S:Held w0 w L)(HC0:Calls Tryz.prog 19 #[p,.int .i64 z] w fun e w'=>e=.returned (.tuple #[.agg ch,.int .i64 (1:Int)]) ∧ Kp [] w w')(hsz:a.tmps.size=110)(o0:Sl a 0 (p))(o3:Sl a 3 (.int .i64 z)):RG1 false 2 Tryz.f29 Q a w fun a' W q'=>Sl a' 12 (.int .i64 (1:Int))->(∃ g,Sl a' 11 (Pq g 0) ∧ Held w0 W (blkR g 23 ch :: L))->q':=by
 intro hend
 refine wp_region_lit ?_
 (conv=>arg 4;whnf)
 unfold Sl at o0 o3
 have HC:=LH HC0
 clear HC0
 have hch:=LH hch
 have HO:=LH h1
 have S:=LH S
 go_wp2_with fail
 refine HC.out.mono ?_
 rintro e w1 ⟨rfl,k1⟩
 have S1:=LH ((S.out.kp k1).newBlk 23 (hashA (List.replicate 32 0)))
 clear k1
 go_wp2_with (refine wpList_store_blk rfl 23 (.tmp 11) (.tmp 28) rfl w1.heap.size aE ch aE 23 _ (S1.out.at_ (l1:=[])) (by rw [hch.out];exact Tryz.infoHashP) (by rw [hch.out];rfl) HO.out ?_;intro w7 b7 k7;have S7:=LH (Held.setBlk (l1:=[]) S1.out b7 k7);clear b7 k7)
 try simp only [Act.put]
 exact hend _ _ tS sP (⟨w1.heap.size,sP0,S7.out⟩)
theorem nth_r3(w0:World)(p:Value)(ch:Array Value)(hch:ch.size=34)(h1:∀ u,u ∈ ch.toList->u.oneCell'=true)(L:List Res)(S:Held w0 w L)(HC0:Calls Tryz.prog 20 #[p] w fun e w'=>e=.returned (.tuple #[.agg ch,.bool false]) ∧ Kp [] w w')(hsz:a.tmps.size=110)(o0:Sl a 0 (p)):RG1 false 3 Tryz.f29 Q a w fun a' W q'=>Sl a' 14 (.bool false)->(∃ g,Sl a' 13 (Pq g 0) ∧ Held w0 W (blkR g 28 ch :: L))->q':=by
 intro hend
 refine wp_region_lit ?_
 (conv=>arg 4;whnf)
 unfold Sl at o0
 have HC:=LH HC0
 clear HC0
 have hch:=LH hch
 have HO:=LH h1
 have S:=LH S
 go_wp2_with fail
 refine HC.out.mono ?_
 rintro e w1 ⟨rfl,k1⟩
 have S1:=LH ((S.out.kp k1).newBlk 28 zeroN)
 clear k1
 go_wp2_with (refine wpList_store_blk rfl 28 (.tmp 13) (.tmp 33) rfl w1.heap.size aE ch aE 28 _ (S1.out.at_ (l1:=[])) (by rw [hch.out];exact Tryz.infoNote) (by rw [hch.out];rfl) HO.out ?_;intro w7 b7 k7;have S7:=LH (Held.setBlk (l1:=[]) S1.out b7 k7);clear b7 k7)
 try simp only [Act.put]
 exact hend _ _ tS sP (⟨w1.heap.size,sP0,S7.out⟩)
theorem nth_r4(w0:World)(p:Value)(ch:Array Value)(hch:ch.size=101)(h1:∀ u,u ∈ ch.toList->u.oneCell'=true)(L:List Res)(S:Held w0 w L)(HC0:Calls Tryz.prog 21 #[p] w fun e w'=>e=.returned (.tuple #[.agg ch,.bool false]) ∧ Kp [] w w')(hsz:a.tmps.size=110)(o0:Sl a 0 (p)):RG1 false 4 Tryz.f29 Q a w fun a' W q'=>Sl a' 16 (.bool false)->(∃ g,Sl a' 15 (Pq g 0) ∧ Held w0 W (blkR g 31 ch :: L))->q':=by
 intro hend
 refine wp_region_lit ?_
 (conv=>arg 4;whnf)
 unfold Sl at o0
 have HC:=LH HC0
 clear HC0
 have hch:=LH hch
 have HO:=LH h1
 have S:=LH S
 go_wp2_with fail
 refine HC.out.mono ?_
 rintro e w1 ⟨rfl,k1⟩
 have S1:=LH ((S.out.kp k1).newBlk 31 zFork.toArray)
 clear k1
 go_wp2_with (refine wpList_store_blk rfl 31 (.tmp 15) (.tmp 38) rfl w1.heap.size aE ch aE 31 _ (S1.out.at_ (l1:=[])) (by rw [hch.out];exact Tryz.infoFork) (by rw [hch.out];rfl) HO.out ?_;intro w7 b7 k7;have S7:=LH (Held.setBlk (l1:=[]) S1.out b7 k7);clear b7 k7)
 try simp only [Act.put]
 exact hend _ _ tS sP (⟨w1.heap.size,sP0,S7.out⟩)
theorem nth_r5(w0:World)(p:Value)(z:Int)(L:List Res)(S:Held w0 w L)(HC0:Calls Tryz.prog 23 #[p,.int .i64 z] w fun e w'=>∃ g1 g2 y,e=.returned (.func (.func 53) #[] #[Pq g1 0,Pq g2 0]) ∧ Held w w' [blkR g1 43 #[.slice none 0 0],blkR g2 2 #[.int .i64 y]])(hsz:a.tmps.size=110)(o0:Sl a 0 (p))(o3:Sl a 3 (.int .i64 z)):RG1 false 5 Tryz.f29 Q a w fun a' W q'=>(∃ g1 g2 y,Sl a' 17 (.func (.func 53) #[] #[Pq g1 0,Pq g2 0]) ∧ Held w0 W (blkR g1 43 #[.slice none 0 0] :: blkR g2 2 #[.int .i64 y] :: L))->q':=by
 intro hend
 refine wp_region_lit ?_
 (conv=>arg 4;whnf)
 unfold Sl at o0 o3
 have HC:=LH HC0
 clear HC0
 have S:=LH S
 go_wp2_with fail
 refine HC.out.mono ?_
 rintro e w1 ⟨g1,g2,y,rfl,H⟩
 have S1:=LH ((S.out.join H).perm List.perm_append_comm)
 clear H
 go_wp2_with fail
 try simp only [Act.put]
 exact hend _ _ tS (⟨g1,g2,y,sP0,S1.out⟩)
theorem nth_r6(g1 g2:Nat)(hsz:a.tmps.size=110)(o17:Sl a 17 (.func (.func 53) #[] #[Pq g1 0,Pq g2 0])):RG0 6 Tryz.f29 Q a w fun a' q'=>Sl a' 44 (.bool false)->q':=by
 have hq:=fun (W:World) (f:Fn) (a b:Array Value)=>run_eql_func_nil (P:=Tryz.prog) W 61 Tryz.underlying61 rfl f a b
 exact rO
theorem nth_r8(x:Value)(hsz:a.tmps.size=110)(o17:Sl a 17 (x)):RG0 8 Tryz.f29 Q a w fun a' q'=>Sl a' 45 (x)->q':=rO
theorem nth_r10(g11 g13 g15:Nat)(hz pz cn cf:Array Value)(hHZ:hashA (List.replicate 32 0)=hz)(hhz:hz.size=32)(hPZ:ptA 0 (List.replicate 32 0)=pz)(hpz:pz.size=33)(hb11:Blk w g11 23 hz)(hb13:Blk w g13 28 cn)(hb15:Blk w g15 31 cf)(hn33:cn[33]?=some (.slice none 0 0))(hf100:cf[100]?=some (.slice none 0 0))(hnp:∀ W,Blk W g13 28 cn->∀ j u,pz.toList[j]?=some u->W.cell? ((⟨g13,0,none⟩:Addr).add j)=some u)(hNH:∀ W,(binOp .neq 23 (.agg hz) (.agg hz)).run Tryz.prog W=.ok (.bool false) W)(hNP:∀ W,(binOp .neq 25 (.agg pz) (.agg pz)).run Tryz.prog W=.ok (.bool false) W)(hsz:a.tmps.size=110)(o9:Sl a 9 (.slice none 0 0))(o10:Sl a 10 (.int .i64 (1:Int)))(o11:Sl a 11 (Pq g11 0))(o12:Sl a 12 (.int .i64 (1:Int)))(o13:Sl a 13 (Pq g13 0))(o14:Sl a 14 (.bool false))(o15:Sl a 15 (Pq g15 0))(o16:Sl a 16 (.bool false)):RG1 false 10 Tryz.f29 Q a w fun a' W q'=>Kp [] w W->Sl a' 87 (.bool false)->q':=by
 intro hend
 have hap:=pa 10 Tryz.f29
 refine wp_region_invS (l:=(opsOf 10 Tryz.f29)) (fun i v W=>match i with|0=>v=.slice none 0 0|1=>v=Nq 0|2=>v=.bool false|3=>v=.bool false|4=>v=.int .i64 (1:Int)|5=>v=.bool false|6=>v=.bool false|7=>v=.bool false|8=>v=.agg hz|9=>v=.agg hz|10=>v=.bool false|11=>v=.bool false|12=>v=.bool false|13=>v=.int .i64 (1:Int)|14=>v=.bool false|15=>v=.bool false|16=>v=.bool false|17=>v=.bool false|18=>v=.bool false|19=>v=.bool false|20=>v=.bool false|21=>v=.bool false|22=>v=.bool false|23=>v=Pq g13 33|24=>v=.slice none 0 0|25=>v=Nq 0|26=>v=.bool false|27=>v=.bool false|28=>v=.bool false|29=>v=Pq g13 0|30=>v=.agg pz|31=>v=.agg pz|32=>v=.bool false|33=>v=.bool false|34=>v=.bool false|35=>v=Pq g15 100|36=>v=.slice none 0 0|37=>v=Nq 0|38=>v=.bool false|39=>v=.bool false|_=>True) hap ?_ ?_ ?_
 . exact fun _ _ _ _ h _=>h
 . and_intros <;> try (intro vs A' W hA hW hd hu K hK;try (refine wpOp_free _ rfl rfl ?_;conv=>arg 2;whnf))
   . exact qa1 (eO 9 o9)
   . exact qa1 (vD 48 0)
   . exact qa1 (vD 49 1)
   . exact qa1 (vD 50 2)
   . exact gq1 3 (vD 51 3) (eO 10 o10)
   . exact gq1 3 (vD 51 3) (vD 52 4)
   . exact qa2 (vD 51 3) (vD 53 5)
   . exact qa1 (vD 54 6)
   . refine qG 7 (vD 55 7) ?_;(conv=>arg 2;whnf);exact ldA hz (eO 11 o11) (Blk.agg (hb11.k0 hW)) Tryz.underlying23 (by rw [hhz];exact Tryz.infoHashP)
   . refine qG 7 (vD 55 7) ?_;(conv=>arg 2;whnf);clear hA hd hu o9 o10 o11 o12 o13 o14 o15 o16;refine op_build 23 _ rfl [] (by simp) _ (hHZ ▸ Tryz.built_hashZ) ?_
     exact hK _ _ kR rfl
   . refine qG 7 (vD 55 7) ?_;(conv=>arg 2;whnf);have e56:=vD 56 8;have e57:=vD 57 9;clear hA hd hu o9 o10 o11 o12 o13 o14 o15 o16;refine op_runs (v:=.bool false) (w':=W) (exec_bin_agg rfl (by simpa [Act.eval] using e56) (by simpa [Act.eval] using e57) Tryz.eqGuardType23 (hNH W)) ?_
     exact hK _ _ kR rfl
   . exact qa2 (vD 55 7) (vD 58 10)
   . exact qa1 (vD 59 11)
   . exact gq1 12 (vD 60 12) (eO 12 o12)
   . exact gq1 12 (vD 60 12) (vD 61 13)
   . exact qa2 (vD 60 12) (vD 62 14)
   . exact qa1 (vD 63 15)
   . exact gq1 16 (vD 64 16) (eO 14 o14)
   . exact qa2 (vD 64 16) (vD 65 17)
   . exact qa1 (vD 66 18)
   . exact gq1 19 (vD 67 19) (eO 16 o16)
   . exact qa2 (vD 67 19) (vD 68 20)
   . exact qa1 (vD 69 21)
   . exact gq1 22 (vD 70 22) (eO 13 o13)
   . refine qG 22 (vD 70 22) ?_;(conv=>arg 2;whnf)
     have c0:W.cell? ⟨g13,33,none⟩=some (.slice none 0 0):=by rw [(hb13.k0 hW).cell];exact hn33
     exact qa1 (vD 71 23)
   . exact gq1 22 (vD 70 22) (vD 72 24)
   . exact gq1 22 (vD 70 22) (vD 73 25)
   . exact qa2 (vD 70 22) (vD 74 26)
   . exact qa1 (vD 75 27)
   . exact gq1 28 (vD 76 28) (eO 13 o13)
   . refine qG 28 (vD 76 28) ?_;(conv=>arg 2;whnf);exact ldA pz (vD 77 29) (hnp W (hb13.k0 hW)) Tryz.underlying25 (by rw [hpz];exact Tryz.infoPointP)
   . refine qG 28 (vD 76 28) ?_;(conv=>arg 2;whnf);clear hA hd hu o9 o10 o11 o12 o13 o14 o15 o16;refine op_build 25 _ rfl [] (by simp) _ (hPZ ▸ Tryz.built_pointZ) ?_
     exact hK _ _ kR rfl
   . refine qG 28 (vD 76 28) ?_;(conv=>arg 2;whnf);have e78:=vD 78 30;have e79:=vD 79 31;clear hA hd hu o9 o10 o11 o12 o13 o14 o15 o16;refine op_runs (v:=.bool false) (w':=W) (exec_bin_agg rfl (by simpa [Act.eval] using e78) (by simpa [Act.eval] using e79) Tryz.eqGuardType25 (hNP W)) ?_
     exact hK _ _ kR rfl
   . exact qa2 (vD 76 28) (vD 80 32)
   . exact qa1 (vD 81 33)
   . exact gq1 34 (vD 82 34) (eO 15 o15)
   . refine qG 34 (vD 82 34) ?_;(conv=>arg 2;whnf)
     have c0:W.cell? ⟨g15,100,none⟩=some (.slice none 0 0):=by rw [(hb15.k0 hW).cell];exact hf100
     exact qa1 (vD 83 35)
   . exact gq1 34 (vD 82 34) (vD 84 36)
   . exact gq1 34 (vD 82 34) (vD 85 37)
   . exact qa2 (vD 82 34) (vD 86 38)
   . trivial
 . intro vs W hW hp
   rw [putAll_eq]
   exact hend _ W sQ hW (sW (hp 39 sB))
theorem nth_r12(w0:World)(p x:Value)(hx:∃ A n c,x=.slice A n c)(g5 g8:Nat)(cn:Array Value)(hcn:cn.size=34)(hb5:Blk w g5 28 cn)(L:List Res)(S:Held w0 w (blkR g8 4 #[.bool false] :: L))(HC1:∀ V u,Kp [] w V->Calls Tryz.prog 16 #[p,.agg cn,u] V fun e w'=>e=.returned (.int .i64 (1:Int)) ∧ Kp [] V w')(HC2:∀ V ,Kp [] w V->Calls Tryz.prog 18 #[p,.agg cn,.slice none 0 0] V fun e w'=>e=.returned (.int .i64 (1:Int)) ∧ Kp [] V w')(HC3:∀ V ,Kp [] w V->Calls Tryz.prog 17 #[p] V fun e w'=>e=.returned (.int .i64 (0:Int)) ∧ Kp [] V w')(HC4:∀ V ,Kp [] w V->Calls Tryz.prog 55 #[p] V fun e w'=>e=.returned (.pointer none) ∧ Kp [] V w')(hsz:a.tmps.size=110)(o0:Sl a 0 (p))(o2:Sl a 2 (x))(o5:Sl a 5 (Pq g5 0))(o8:Sl a 8 (Pq g8 0)):RG1 false 12 Tryz.f29 Q a w fun a' W q'=>(Held w0 W (blkR g8 4 #[.bool true] :: L))->q':=by
 intro hend
 have hap:apartB ((opsOf 12 Tryz.f29).take 22)=true:=by kernel_rfl
 refine wp_region_invSL (l:=(opsOf 12 Tryz.f29)) 22 (fun i v W=>match i with|0=>v=p|1=>v=.agg cn|2=>v=x|3=>∃ u,v=u|4=>v=.int .i64 (1:Int)|5=>v=.bool true|6=>v=.bool true|7=>v=p|8=>v=.agg cn|9=>v=.int .i64 (1:Int)|10=>v=.bool true|11=>v=.bool true|12=>v=.bool true|13=>v=p|14=>v=.int .i64 (0:Int)|15=>v=.bool true|16=>v=.bool true|17=>v=.bool true|18=>v=p|19=>v=.pointer none|20=>v=.bool true|21=>v=.bool true|_=>True) hap ?_ ?_ ?_
 . exact fun _ _ _ _ h _=>h
 . and_intros <;> try (intro vs A' W hA hW hd hu K hK;try (refine wpOp_free _ rfl rfl ?_;conv=>arg 2;whnf))
   . exact qa1 (eO 0 o0)
   . exact ldA cn (eO 5 o5) (Blk.agg (hb5.k0 hW)) Tryz.underlying28 (by rw [hcn];exact Tryz.infoNote)
   . exact qa1 (eO 2 o2)
   . have e90:=vD 90 2;clear hA hd hu o0 o2 o5 o8
     obtain ⟨A,n,c,rfl⟩:=hx
     go_step
     exact hK _ _ ((Kp.refl [] W).alloc _) ⟨_,rfl⟩
   . have e88:=vD 88 0;have e89:=vD 89 1
     have f3:∃ u,(vs 3)=u:=hd 3 (by kernel_rfl);have e91:=eU 91 3;clear hA hd hu o0 o2 o5 o8;go_step
     refine (HC1 W _ hW).mono ?_
     rintro e w' ⟨rfl,k1⟩
     exact hK _ w' k1 rfl
   . exact qa1 (vD 92 4)
   . exact qa1 (vD 93 5)
   . exact gq1 6 (vD 94 6) (eO 0 o0)
   . refine qG 6 (vD 94 6) ?_;(conv=>arg 2;whnf);exact ldA cn (eO 5 o5) (Blk.agg (hb5.k0 hW)) Tryz.underlying28 (by rw [hcn];exact Tryz.infoNote)
   . refine qG 6 (vD 94 6) ?_;(conv=>arg 2;whnf);have e95:=vD 95 7;have e96:=vD 96 8;clear hA hd hu o0 o2 o5 o8;go_step
     refine (HC2 W hW).mono ?_
     rintro e w' ⟨rfl,k1⟩
     exact hK _ w' k1 rfl
   . exact gq1 6 (vD 94 6) (vD 97 9)
   . exact qa2 (vD 94 6) (vD 98 10)
   . exact qa1 (vD 99 11)
   . exact gq1 12 (vD 100 12) (eO 0 o0)
   . refine qG 12 (vD 100 12) ?_;(conv=>arg 2;whnf);have e101:=vD 101 13;clear hA hd hu o0 o2 o5 o8;go_step
     refine (HC3 W hW).mono ?_
     rintro e w' ⟨rfl,k1⟩
     exact hK _ w' k1 rfl
   . exact gq1 12 (vD 100 12) (vD 102 14)
   . exact qa2 (vD 100 12) (vD 103 15)
   . exact qa1 (vD 104 16)
   . exact gq1 17 (vD 105 17) (eO 0 o0)
   . refine qG 17 (vD 105 17) ?_;(conv=>arg 2;whnf);have e106:=vD 106 18;clear hA hd hu o0 o2 o5 o8;go_step
     refine (HC4 W hW).mono ?_
     rintro e w' ⟨rfl,k1⟩
     exact hK _ w' k1 rfl
   . exact gq1 17 (vD 105 17) (vD 107 19)
   . exact qa2 (vD 105 17) (vD 108 20)
   . trivial
 . intro vs W hW hp
   rw [show putAll vs ((opsOf 12 Tryz.f29).take 22) 0 a=putD [(88,vs 0),(89,vs 1),(90,vs 2),(91,vs 3),(92,vs 4),(93,vs 5),(94,vs 6),(95,vs 7),(96,vs 8),(97,vs 9),(98,vs 10),(99,vs 11),(100,vs 12),(101,vs 13),(102,vs 14),(103,vs 15),(104,vs 16),(105,vs 17),(106,vs 18),(107,vs 19),(108,vs 20),(109,vs 21)] a from by kernel_rfl]
   have hS:Same a (putD [(88,vs 0),(89,vs 1),(90,vs 2),(91,vs 3),(92,vs 4),(93,vs 5),(94,vs 6),(95,vs 7),(96,vs 8),(97,vs 9),(98,vs 10),(99,vs 11),(100,vs 12),(101,vs 13),(102,vs 14),(103,vs 15),(104,vs 16),(105,vs 17),(106,vs 18),(107,vs 19),(108,vs 20),(109,vs 21)] a) [88,89,90,91,92,93,94,95,96,97,98,99,100,101,102,103,104,105,106,107,108,109]:=same_putD _ a
   have n109:Sl (putD [(88,vs 0),(89,vs 1),(90,vs 2),(91,vs 3),(92,vs 4),(93,vs 5),(94,vs 6),(95,vs 7),(96,vs 8),(97,vs 9),(98,vs 10),(99,vs 11),(100,vs 12),(101,vs 13),(102,vs 14),(103,vs 15),(104,vs 16),(105,vs 17),(106,vs 18),(107,vs 19),(108,vs 20),(109,vs 21)] a) 109 (.bool true):=sl_putD _ a 109 _ (by rw [show vs 21=_ from hp 21 (Nat.le_of_ble_eq_true (by kernel_rfl))];kernel_rfl)
   clear hp hap
   generalize putD [(88,vs 0),(89,vs 1),(90,vs 2),(91,vs 3),(92,vs 4),(93,vs 5),(94,vs 6),(95,vs 7),(96,vs 8),(97,vs 9),(98,vs 10),(99,vs 11),(100,vs 12),(101,vs 13),(102,vs 14),(103,vs 15),(104,vs 16),(105,vs 17),(106,vs 18),(107,vs 19),(108,vs 20),(109,vs 21)] a=a1 at *
   have hsz1:a1.tmps.size=110:=hS.size.trans hsz
   have n8:=hS.keep 8 _ (by decide) o8
   clear o0 o2 o5 o8;(conv=>arg 4;whnf)
   unfold Sl at n8 n109
   have S:=LH (S.kp hW)
   obtain ⟨c1,c2,c3⟩:=Blk.c1 (S.out.at_ (l1:=[]))
   have S1:=LH (S.out.set (l1:=[]) 0 (.bool true))
   go_wp2_with fail
   try simp only [Act.put]
   exact hend _ _ ((hS.trans (d2:=[]) tS).more (by decide +kernel)) (S1.out)
theorem mnl_r0(w0:World)(cn:Array Value)(L:List Res)(S:Held w0 w L)(hsz:a.tmps.size=59)(o0:Sl a 0 (.agg cn)):RG1 false 0 Tryz.f6 Q a w fun a' W q'=>Sl a' 6 (.bool false)->(∃ g3,Sl a' 3 (Pq g3 0) ∧ Held w0 W (blkR g3 28 cn :: L))->q':=by
 intro hend
 refine wp_region_lit ?_
 (conv=>arg 4;whnf)
 unfold Sl at o0
 have S1:=LH (S.newBlk 28 cn)
 go_wp2
 try simp only [Act.put]
 exact hend _ _ tS sP (⟨w.heap.size,sP0,S1.out⟩)
theorem mnl_r1(hsz:a.tmps.size=59):RG0 1 Tryz.f6 Q a w fun a' q'=>Sl a' 7 (.pointer none)->q':=rO
theorem mnl_r5(hsz:a.tmps.size=59):RG0 5 Tryz.f6 Q a w fun a' q'=>Sl a' 10 (.bool true)->q':=rO
theorem mnl_r2(w0:World)(L:List Res)(S:Held w0 w L)(HS:Calls Tryz.prog 14 #[] w fun e w'=>∃ A c,e=.returned (.agg #[strV [119],.slice A 2 c]) ∧ Held w w' [rowR 5 1 (.slice A 2 c) 2 (bv [1,2])])(HN:∀ V A c,Kp [] w0 V->Rd V 1 (.slice A 2 c) 2 (bv [1,2])->Calls Tryz.prog 13 #[.agg #[strV [119],.slice A 2 c]] V fun e w'=>∃ g u,e=.returned (.tuple #[Pq g 0,.int .i64 0]) ∧ Held V w' [blkR g 85 (mirN (strV [119]) u),rowR 5 1 u 2 (bv [1,2])])(hsz:a.tmps.size=59):RG1 false 2 Tryz.f6 Q a w fun a' W q'=>Sl a' 9 (.int .i64 (0:Int))->(∃ g u,Sl a' 8 (Pq g 0) ∧ Held w0 W (blkR g 85 (mirN (strV [119]) u) :: rowR 5 1 u 2 (bv [1,2]) :: L))->q':=by
 intro hend
 refine wp_region_lit ?_
 (conv=>arg 4;whnf)
 have HS:=LH HS
 have S:=LH S
 have hcv:=conv_txt
 go_wp2_with fail
 refine HS.out.mono ?_
 rintro e w1 ⟨A,c,rfl,H⟩
 have HR:=LH (Rd.of_own (H.at_ (l1:=[])))
 have S1:=LH ((S.out.join H).perm List.perm_append_comm)
 clear H
 have hSV:∃ x,Hid (strV [119]=x):=⟨_,LH rfl⟩
 obtain ⟨sv,hsv⟩:=hSV
 rw [hsv.out] at HN ⊢
 have HN:=LH HN
 go_wp2_with fail
 refine (HN.out w1 A c S1.out.k HR.out).mono ?_
 rintro e w2 ⟨g,u,rfl,H⟩
 have S2:=LH ((S1.out.join H).perm List.perm_append_comm)
 clear H
 rw [<- hsv.out] at S2
 go_wp2_with fail
 try simp only [Act.put]
 exact hend _ _ tS sP (⟨g,u,sP0,S2.out.some_of (List.Sublist.cons_cons _ (List.Sublist.cons_cons _ (List.Sublist.cons _ (List.Sublist.refl _))))⟩)
theorem mnl_r3(g:Nat)(mz:Array Value)(hmz:Tryz.prog.built 85 []=some mz)(HC1:∀ V ,Kp [] w V->Calls Tryz.prog 28 #[.pointer none,.pointer none] V fun e w'=>e=.returned (.bool true) ∧ Kp [] V w')(HC2:∀ V gz,Kp [] w V->Blk V gz 85 mz->Calls Tryz.prog 28 #[.pointer none,Pq gz 0] V fun e w'=>e=.returned (.bool true) ∧ Kp [] V w')(HC3:∀ V ,Kp [] w V->Calls Tryz.prog 28 #[.pointer none,Pq g 0] V fun e w'=>e=.returned (.bool false) ∧ Kp [] V w')(HC4:∀ V ,Kp [] w V->Calls Tryz.prog 28 #[Pq g 0,.pointer none] V fun e w'=>e=.returned (.bool false) ∧ Kp [] V w')(hsz:a.tmps.size=59)(o7:Sl a 7 (.pointer none))(o8:Sl a 8 (Pq g 0)):RG1 false 3 Tryz.f6 Q a w fun a' W q'=>Kp [] w W->Sl a' 39 (.bool false)->q':=by
 intro hend
 have hap:=pa 3 Tryz.f6
 refine wp_region_invS (l:=(opsOf 3 Tryz.f6)) (fun i v W=>match i with|0=>v=Pq g 0|1=>v=.bool false|2=>v=.bool false|3=>v=.pointer none|4=>v=.bool true|5=>v=.bool false|6=>v=.bool false|7=>v=.bool false|8=>v=.pointer none|9=>v=.agg mz|10=>∃ gz,v=Pq gz 0 ∧ Blk W gz 85 mz|11=>v=.bool true|12=>v=.bool false|13=>v=.bool false|14=>v=.bool false|15=>v=.pointer none|16=>v=Pq g 0|17=>v=.bool false|18=>v=.bool false|19=>v=.bool false|20=>v=Pq g 0|21=>v=.pointer none|22=>v=.bool false|23=>v=.bool false|_=>True) hap ?_ ?_ ?_
 . intro i v W W' h k
   rcases i with _|i
   . exact h
   rcases i with _|i
   . exact h
   rcases i with _|i
   . exact h
   rcases i with _|i
   . exact h
   rcases i with _|i
   . exact h
   rcases i with _|i
   . exact h
   rcases i with _|i
   . exact h
   rcases i with _|i
   . exact h
   rcases i with _|i
   . exact h
   rcases i with _|i
   . exact h
   rcases i with _|i
   . obtain ⟨gz,h1,h2⟩:=h;exact ⟨gz,h1,h2.kp k (by simp)⟩
   rcases i with _|i
   . exact h
   rcases i with _|i
   . exact h
   rcases i with _|i
   . exact h
   rcases i with _|i
   . exact h
   rcases i with _|i
   . exact h
   rcases i with _|i
   . exact h
   rcases i with _|i
   . exact h
   rcases i with _|i
   . exact h
   rcases i with _|i
   . exact h
   rcases i with _|i
   . exact h
   rcases i with _|i
   . exact h
   rcases i with _|i
   . exact h
   rcases i with _|i
   . exact h
   exact h
 . and_intros <;> try (intro vs A' W hA hW hd hu K hK;try (refine wpOp_free _ rfl rfl ?_;conv=>arg 2;whnf))
   . exact qa1 (eO 8 o8)
   . exact qa1 (vD 16 0)
   . exact qa1 (vD 17 1)
   . exact gq1 2 (vD 18 2) (eO 7 o7)
   . refine qG 2 (vD 18 2) ?_;(conv=>arg 2;whnf);have e19:=vD 19 3;clear hA hd hu o7 o8;go_step
     refine (HC1 W hW).mono ?_
     rintro e w' ⟨rfl,k1⟩
     exact hK _ w' k1 rfl
   . exact gq1 2 (vD 18 2) (vD 20 4)
   . exact qa2 (vD 18 2) (vD 21 5)
   . exact qa1 (vD 22 6)
   . exact gq1 7 (vD 23 7) (eO 7 o7)
   . refine qG 7 (vD 23 7) ?_;(conv=>arg 2;whnf);clear hA hd hu o7 o8;refine op_build 85 _ rfl [] (by simp) _ hmz ?_
     exact hK _ _ kR rfl
   . refine qG 7 (vD 23 7) ?_;(conv=>arg 2;whnf);have e25:=vD 25 9;clear hA hd hu o7 o8;go_step
     exact hK _ _ ((Kp.refl [] W).alloc _) ⟨W.heap.size,rfl,Blk.new W 85 mz⟩
   . refine qG 7 (vD 23 7) ?_;(conv=>arg 2;whnf);have e24:=vD 24 8
     have f10:∃ gz,(vs 10)=Pq gz 0 ∧ Blk W gz 85 mz:=hd 10 (by kernel_rfl);have e26:=eU 26 10;clear hA hd hu o7 o8
     obtain ⟨gz,hv,hbz⟩:=f10
     rw [hv] at e26
     go_step
     refine (HC2 W gz hW hbz).mono ?_
     rintro e w' ⟨rfl,k1⟩
     exact hK _ w' k1 rfl
   . exact gq1 7 (vD 23 7) (vD 27 11)
   . exact qa2 (vD 23 7) (vD 28 12)
   . exact qa1 (vD 29 13)
   . exact gq1 14 (vD 30 14) (eO 7 o7)
   . exact gq1 14 (vD 30 14) (eO 8 o8)
   . refine qG 14 (vD 30 14) ?_;(conv=>arg 2;whnf);have e31:=vD 31 15;have e32:=vD 32 16;clear hA hd hu o7 o8;go_step
     refine (HC3 W hW).mono ?_
     rintro e w' ⟨rfl,k1⟩
     exact hK _ w' k1 rfl
   . exact qa2 (vD 30 14) (vD 33 17)
   . exact qa1 (vD 34 18)
   . exact gq1 19 (vD 35 19) (eO 8 o8)
   . exact gq1 19 (vD 35 19) (eO 7 o7)
   . refine qG 19 (vD 35 19) ?_;(conv=>arg 2;whnf);have e36:=vD 36 20;have e37:=vD 37 21;clear hA hd hu o7 o8;go_step
     refine (HC4 W hW).mono ?_
     rintro e w' ⟨rfl,k1⟩
     exact hK _ w' k1 rfl
   . exact qa2 (vD 35 19) (vD 38 22)
   . trivial
 . intro vs W hW hp
   rw [putAll_eq]
   exact hend _ W sQ hW (sW (hp 23 sB))
theorem mnl_r6(g3:Nat)(x:Value)(z:Int)(cn:Array Value)(hcn:cn.size=34)(hb3:Blk w g3 28 cn)(mz:Array Value)(hmz:Tryz.prog.built 85 []=some mz)(hmm:mz[141]?=some (.bool false))(HC1:∀ V p,Kp [] w V->MirAt V p false->Calls Tryz.prog 29 #[p,.agg cn,x,.int .i64 z] V fun e w'=>e=.returned (.bool true) ∧ Kp [] V w')(HC2:∀ V,Kp [] w V->Calls Tryz.prog 7 #[] V fun e w'=>e=.returned (.bool true) ∧ Kp [] V w')(hsz:a.tmps.size=59)(o1:Sl a 1 (x))(o2:Sl a 2 (.int .i64 z))(o3:Sl a 3 (Pq g3 0))(o7:Sl a 7 (.pointer none))(o10:Sl a 10 (.bool true)):RG1 false 6 Tryz.f6 Q a w fun a' W q'=>Kp [] w W->Sl a' 6 (.bool true)->q':=by
 intro hend
 have hap:=pa 6 Tryz.f6
 refine wp_region_invS (l:=(opsOf 6 Tryz.f6)) (fun i v W=>match i with|0=>v=.bool true|1=>v=.bool true|2=>v=.pointer none|3=>v=.agg cn|4=>v=x|5=>v=.int .i64 z|6=>v=.bool true|7=>v=.bool true|8=>v=.bool true|9=>v=.agg mz|10=>∃ gz,v=Pq gz 0 ∧ Blk W gz 85 mz|11=>v=.agg cn|12=>v=x|13=>v=.int .i64 z|14=>v=.bool true|15=>v=.bool true|16=>v=.bool true|17=>v=.bool true|18=>v=.bool true|19=>v=.bool true|_=>True) hap ?_ ?_ ?_
 . intro i v W W' h k
   rcases i with _|i
   . exact h
   rcases i with _|i
   . exact h
   rcases i with _|i
   . exact h
   rcases i with _|i
   . exact h
   rcases i with _|i
   . exact h
   rcases i with _|i
   . exact h
   rcases i with _|i
   . exact h
   rcases i with _|i
   . exact h
   rcases i with _|i
   . exact h
   rcases i with _|i
   . exact h
   rcases i with _|i
   . obtain ⟨gz,h1,h2⟩:=h;exact ⟨gz,h1,h2.kp k (by simp)⟩
   rcases i with _|i
   . exact h
   rcases i with _|i
   . exact h
   rcases i with _|i
   . exact h
   rcases i with _|i
   . exact h
   rcases i with _|i
   . exact h
   rcases i with _|i
   . exact h
   rcases i with _|i
   . exact h
   rcases i with _|i
   . exact h
   rcases i with _|i
   . exact h
   exact h
 . and_intros <;> try (intro vs A' W hA hW hd hu K hK;try (refine wpOp_free _ rfl rfl ?_;conv=>arg 2;whnf))
   . exact qa1 (eO 10 o10)
   . exact qa1 (vD 40 0)
   . exact gq1 1 (vD 41 1) (eO 7 o7)
   . refine qG 1 (vD 41 1) ?_;(conv=>arg 2;whnf);exact ldA cn (eO 3 o3) (Blk.agg (hb3.k0 hW)) Tryz.underlying28 (by rw [hcn];exact Tryz.infoNote)
   . exact gq1 1 (vD 41 1) (eO 1 o1)
   . exact gq1 1 (vD 41 1) (eO 2 o2)
   . refine qG 1 (vD 41 1) ?_;(conv=>arg 2;whnf);have e42:=vD 42 2;have e43:=vD 43 3;have e44:=vD 44 4;have e45:=vD 45 5;clear hA hd hu o1 o2 o3 o7 o10;go_step
     refine (HC1 W _ hW (.inl ⟨rfl,rfl⟩)).mono ?_
     rintro e w' ⟨rfl,k1⟩
     exact hK _ w' k1 rfl
   . exact qa2 (vD 41 1) (vD 46 6)
   . exact qa1 (vD 47 7)
   . refine qG 8 (vD 48 8) ?_;(conv=>arg 2;whnf);clear hA hd hu o1 o2 o3 o7 o10;refine op_build 85 _ rfl [] (by simp) _ hmz ?_
     exact hK _ _ kR rfl
   . refine qG 8 (vD 48 8) ?_;(conv=>arg 2;whnf);have e49:=vD 49 9;clear hA hd hu o1 o2 o3 o7 o10;go_step
     exact hK _ _ ((Kp.refl [] W).alloc _) ⟨W.heap.size,rfl,Blk.new W 85 mz⟩
   . refine qG 8 (vD 48 8) ?_;(conv=>arg 2;whnf);exact ldA cn (eO 3 o3) (Blk.agg (hb3.k0 hW)) Tryz.underlying28 (by rw [hcn];exact Tryz.infoNote)
   . exact gq1 8 (vD 48 8) (eO 1 o1)
   . exact gq1 8 (vD 48 8) (eO 2 o2)
   . refine qG 8 (vD 48 8) ?_;(conv=>arg 2;whnf)
     have f10:∃ gz,(vs 10)=Pq gz 0 ∧ Blk W gz 85 mz:=hd 10 (by kernel_rfl);have e50:=eU 50 10;have e51:=vD 51 11;have e52:=vD 52 12;have e53:=vD 53 13;clear hA hd hu o1 o2 o3 o7 o10
     obtain ⟨gz,hv,hbz⟩:=f10
     rw [hv] at e50
     go_step
     refine (HC1 W _ hW (.inr ⟨gz,mz,rfl,hbz,hmm⟩)).mono ?_
     rintro e w' ⟨rfl,k1⟩
     exact hK _ w' k1 rfl
   . exact qa2 (vD 48 8) (vD 54 14)
   . exact qa1 (vD 55 15)
   . refine qG 16 (vD 56 16) ?_;(conv=>arg 2;whnf);clear hA hd hu o1 o2 o3 o7 o10;go_step
     refine (HC2 W hW).mono ?_
     rintro e w' ⟨rfl,k1⟩
     exact hK _ w' k1 rfl
   . exact qa2 (vD 56 16) (vD 57 17)
   . exact qa1 (vD 58 18)
   . trivial
 . intro vs W hW hp
   rw [putAll_eq]
   exact hend _ W sQ hW (sW (hp 19 sB))
end
section
open Go.RowKit Go.Shelf
theorem hashZ_one:∀ u,u ∈ (hashA (List.replicate 32 0)).toList->u.oneCell'=true:=hashA_one _
theorem sl_with{a aM:Act}{D:List Deferred}{d:Nat}{v:Value}(h:({ a with defers:=D }:Act)=aM)(o:Sl a d v):Sl aM d v:=by
 subst h
 exact o
theorem zeroN_is:zeroN=ntA 0 (List.replicate 32 0) (.slice none 0 0):=rfl
theorem nothing30_any(p:Value)(nz:Int)(h:Bs)(hh:h.length=32)(A:Option Addr)(n c:Nat)(x:Value)(hx:∃ A n c,x=.slice A n c)(z:Int)(w:World)(hp:MirAt w p false):
 Calls Tryz.prog 29 #[p,.agg (ntA nz h (.slice A n c)),x,.int .i64 z] w fun e w'=>e=.returned (.bool true) ∧ Kp [] w w':=by
 refine calls_mfr Tryz.func29 rfl 110 rfl (fun a0 hsz hdf hAr=>?_)
 have hz0:a0.tmps.size=110:=hsz
 have D:=hdf
 have o0:=hAr 0 _ rfl
 have o1:=hAr 1 _ rfl
 have o2:=hAr 2 _ rfl
 have o3:=hAr 3 _ rfl
 refine wp_seq (nth_r0 w _ [] (Held.start w) hz0 o1 (fun a1 w1 hs1 h1=>?_))
 obtain ⟨hz1,D,o0,o1,o2,o3⟩:=kq4 hs1 hz0 D o0 o1 o2 o3
 obtain ⟨g5,g8,o5,o8,S⟩:=h1
 refine wp_seq (nth_r1 p z (mread_none p z w1 (hp.kp S.k)) hz1 o0 o3 (fun a2 w2 hs2 o9 o10 k2=>?_))
 obtain ⟨hz2,D,o0,o2,o3,o5,o8⟩:=kq5 hs2 hz1 D o0 o2 o3 o5 o8
 have S:=S.kp k2
 refine wp_seq (nth_r2 w p z _ (by rw [hashA_size];rfl) hashZ_one _ S (mroot_none p z w2 (hp.kp S.k)) hz2 o0 o3 (fun a3 w3 hs3 o12 h3=>?_))
 obtain ⟨hz3,D,o0,o2,o3,o5,o8,o9,o10⟩:=kq7 hs3 hz2 D o0 o2 o3 o5 o8 o9 o10
 obtain ⟨g11,o11,S⟩:=h3
 refine wp_seq (nth_r3 w p zeroN rfl (by rw [zeroN_is];exact ntA_one rfl) _ S (mlast_none p w3 (hp.kp S.k)) hz3 o0 (fun a4 w4 hs4 o14 h4=>?_))
 obtain ⟨hz4,D,o0,o2,o3,o5,o8,o9,o10,o12,o11⟩:=kq9 hs4 hz3 D o0 o2 o3 o5 o8 o9 o10 o12 o11
 obtain ⟨g13,o13,S⟩:=h4
 refine wp_seq (nth_r4 w p zFork.toArray rfl (by simpa using zFork_one) _ S (mffork_none p w4 (hp.kp S.k)) hz4 o0 (fun a5 w5 hs5 o16 h5=>?_))
 obtain ⟨hz5,D,o0,o2,o3,o5,o8,o9,o10,o12,o11,o14,o13⟩:=kq11 hs5 hz4 D o0 o2 o3 o5 o8 o9 o10 o12 o11 o14 o13
 obtain ⟨g15,o15,S⟩:=h5
 refine wp_seq (nth_r5 w p z _ S (mall_none p z w5 (hp.kp S.k)) hz5 o0 o3 (fun a6 w6 hs6 h6=>?_))
 obtain ⟨hz6,D,o0,o2,o3,o5,o8,o9,o10,o12,o11,o14,o13,o16,o15⟩:=kq13 hs6 hz5 D o0 o2 o3 o5 o8 o9 o10 o12 o11 o14 o13 o16 o15
 obtain ⟨g1,g2,y,o17,S⟩:=h6
 refine wp_seq (wp_seq (nth_r6 g1 g2 hz6 o17 (fun a7 hs7 o44=>?_)))
 obtain ⟨hz7,D,o0,o2,o3,o5,o8,o9,o10,o12,o11,o14,o13,o16,o15,o17⟩:=kq14 hs7 hz6 D o0 o2 o3 o5 o8 o9 o10 o12 o11 o14 o13 o16 o15 o17
 refine wcF o44 (wp_skip ?_)
 simp only [Exit.then]
 refine wp_seq (wp_seq (nth_r8 _ hz7 o17 (fun a8 hs8 o45=>?_)))
 obtain ⟨hz8,D,o0,o2,o3,o5,o8,o9,o10,o12,o11,o14,o13,o16,o15,o17⟩:=kq14 hs8 hz7 D o0 o2 o3 o5 o8 o9 o10 o12 o11 o14 o13 o16 o15 o17
 have hwb:=S.k.size
 have HC:=LH (Cells.of S)
 refine wp_block ?_
 (conv=>arg 2;whnf)
 refine wp_range (n:=3) (ps:=#[46,47]) (gf:=53) (lb:=#[Pq g1 0,Pq g2 0]) (o45.eval (by rw [hz8];decide)) (enters_of Tryz.func53 (by kernel_rfl) rfl) (mall_seq0 g1 g2 w6 (S.at_ (l1:=[])) _) (fun _=>Stays.pure _ _) (fun _=>rfl)
  (fun _ W=>Held w W [blkR g1 43 #[.slice none 0 0],blkR g2 2 #[.int .i64 y],blkR g15 31 zFork.toArray,blkR g13 28 zeroN,blkR g11 23 (hashA (List.replicate 32 0)),blkR g8 4 #[.bool false],blkR g5 28 (ntA nz h (.slice A n c))]) (fun _ _ _=>False) ?hI ?hIx ?h0 (fun _ _ _=>False) ?hI' ?hprep (fun _ _ _ _ _=>False) ?hA ?assign ?body ?done ?stop
 case hI=>exact fun pre=>Held.stays hwb HC.out
 case hIx=>exact fun c pre=>Stays.pure _ _
 case h0=>exact S
 case hI'=>exact fun _ _=>Stays.pure _ _
 case hprep=>exact fun _ _ _ _ _ _ h _=>h
 case hA=>exact fun _ _ _=>Stays.pure _ _
 case assign=>exact fun _ _ _ h=>h.elim
 case body=>exact fun _ _ _ _ h=>h.elim
 case stop=>exact fun _ _ _ h=>h.elim
 case done=>
  intro xs W _ S hD
  have hz9:({ a8 with defers:=markOf w6.heap.size :: a8.defers }:Act).tmps.size=110:=hz8
  simp only [Exit.inBlock,Exit.then]
  have S:=S.withObj hwb hD (Cells.not HC.out S (Nat.le_refl _) hD rfl)
  obtain ⟨aM,haM⟩:∃ aM:Act,({ a8 with defers:=markOf w6.heap.size :: a8.defers }:Act)=aM:=⟨_,rfl⟩
  rw [haM] at hz9 ⊢
  have hda:aM.defers=[markOf w6.heap.size]:=by rw [<- haM];show markOf _ :: a8.defers=_;rw [D]
  have o0:=sl_with haM o0
  have o2:=sl_with haM o2
  have o5:=sl_with haM o5
  have o8:=sl_with haM o8
  have o9:=sl_with haM o9
  have o10:=sl_with haM o10
  have o11:=sl_with haM o11
  have o12:=sl_with haM o12
  have o13:=sl_with haM o13
  have o14:=sl_with haM o14
  have o15:=sl_with haM o15
  have o16:=sl_with haM o16
  clear haM
  have hz20:=hz9
  refine wp_seq (wp_seq (nth_r10 g11 g13 g15 _ _ _ _ rfl (by rw [hashA_size];rfl) rfl (ptA_size rfl) (S.at_ (l1:=[_,_,_,_,_])) (S.at_ (l1:=[_,_,_,_])) (S.at_ (l1:=[_,_,_])) rfl (FkD.pr (s1:=.slice none 0 0) (s2:=.slice none 0 0) (p:=.slice none 0 0) zFk_ok) (fun V hb=>nt_pointAt hb) (fun V=>by have:=neq_hash V (List.replicate 32 0) (List.replicate 32 0) rfl rfl;rw [beq_self_eq_true] at this;exact this) (fun V=>by have:=neq_pt V 0 0 (List.replicate 32 0) (List.replicate 32 0) rfl rfl;simpa using this) hz20 o9 o10 o11 o12 o13 o14 o15 o16 (fun a21 w8 hs21 k8 o87=>?_)))
  obtain ⟨hz21,-,o0,o2,o5,o8⟩:=kq4 hs21 hz20 rfl o0 o2 o5 o8
  have S:=S.kp k8
  have hda:=hs21.defers.trans hda
  refine wcF o87 (wp_skip ?_)
  simp only [Exit.then]
  have HM:∀ V,Kp [] w8 V->∀ V2,Kp [] V V2->Calls Tryz.prog 44 #[p,.agg (ntA nz h (.slice A n c))] V2 fun e w'=>e=.returned (.int .i64 1) ∧ Kp [] V2 w':=fun V kV V2 kV2=>mmay_none p nz h hh A n c V2 (hp.kp ((S.k.trans kV (by simp)).trans kV2 (by simp)))
  refine wp_seq (nth_r12 w p x hx g5 g8 _ (ntA_size hh) (S.at_ (l1:=[_,_,_,_,_,_,_])) _ (S.pull 6 rfl) (fun V u kV=>mtake_early p nz h hh A n c u 1 (by decide) V (HM V kV)) (fun V kV=>mhear_early p nz h hh A n c _ 1 (by decide) V (HM V kV)) (fun V kV=>msize_none p V (hp.kp (S.k.trans kV (by simp)))) (fun V kV=>mcopy_none p V (hp.kp (S.k.trans kV (by simp)))) hz21 o0 o2 o5 o8 (fun a22 w9 hs22 S=>?_))
  have hz22:=hs22.size.trans hz21;have o8:=hs22.q o8
  have hda:=hs22.defers.trans hda
  have hD9:w9.heap[w6.heap.size]?=some (.deferred (some [])):=S.ok (objR w6.heap.size (.deferred (some []))) (by simp)
  have hg8:g8 ≠ w6.heap.size:=fun e=>(List.pairwise_cons.1 S.apart).1 (objR w6.heap.size (.deferred (some []))) (by simp) g8 (by simp [blkR]) (by simp [objR,e])
  refine wp_ret ?_
  refine ret_marks [w6.heap.size] hda (by simp) (fun E hE=>by simp at hE;subst hE;exact hD9) (fun V hk=>?_)
  have hbk2:=Blk.kp (S.at_ (l1:=[])) hk (by simpa using hg8)
  have h8:a22.tmps[8]?.getD undef=Pq g8 0:=by rw [<- Array.getD_eq_getD_getElem?];exact o8.eval (by rw [hz22];decide)
  have hc5:V.cell? ⟨g8,0,none⟩=some (.bool true):=hbk2.cell 0
  refine ⟨.bool true,?_,rfl,S.k.trans hk (fun g hg=>.inr (by simp at hg;subst hg;exact hwb))⟩
  simp [results,Tryz.f29,go_sem,h8,hc5]
theorem mirrornil_any{w:World}(nz:Int)(_hz:-9223372036854775808<=nz ∧ nz<=9223372036854775807)(h:Bs)(hh:h.length=32)(A:Option Addr)(n c:Nat)(x:Value)(hx:∃ A n c,x=.slice A n c)(z:Int)(LDw:LD w):
 Calls Tryz.prog 6 #[.agg (ntA nz h (.slice A n c)),x,.int .i64 z] w fun e w'=>e=.returned (.bool true) ∧ Kp [] w w':=by
 refine calls_fr Tryz.func6 rfl 59 rfl (fun a0 hsz hdf hAr=>?_)
 have hz0:a0.tmps.size=59:=hsz
 have D:=hdf
 have o0:=hAr 0 _ rfl
 have o1:=hAr 1 _ rfl
 have o2:=hAr 2 _ rfl
 refine wp_seq (mnl_r0 w _ [] (Held.start w) hz0 o0 (fun a1 w1 hs1 o6 h1=>?_))
 obtain ⟨hz1,D,o0,o1,o2⟩:=kq3 hs1 hz0 D o0 o1 o2
 obtain ⟨g3,o3,S⟩:=h1
 refine wp_seq (mnl_r1 hz1 (fun a2 hs2 o7=>?_))
 obtain ⟨hz2,D,o1,o2,o3⟩:=kq3 hs2 hz1 D o1 o2 o3
 refine wp_seq (mnl_r2 w _ S (signer_law w1) (call_new w LDw) hz2 (fun a3 w2 hs3 o9 h2=>?_))
 obtain ⟨hz3,D,o1,o2,o3,o7⟩:=kq4 hs3 hz2 D o1 o2 o3 o7
 obtain ⟨g,u,o8,S⟩:=h2
 have hm:∀ V,Kp [] w2 V->MirAt V (Pq g 0) true:=fun V kV=>.inr ⟨g,_,rfl,(S.kp kV).at_ (l1:=[]),mirC_md zNote_length zFork_length⟩
 have hn:∀ V,MirAt V (.pointer none) false:=fun V=>.inl ⟨rfl,rfl⟩
 refine wp_seq (wp_seq (mnl_r3 g mirZ Tryz.built_mirZ (fun V _=>msame_none _ _ false false (.inl rfl) V (hn V) (hn V)) (fun V gz _ hb=>msame_none _ _ false false (.inl rfl) V (hn V) (.inr ⟨gz,mirZ,rfl,hb,mirZ_made⟩)) (fun V kV=>msame_none _ _ false true (.inl rfl) V (hn V) (hm V kV)) (fun V kV=>msame_none _ _ true false (.inr rfl) V (hm V kV) (hn V)) hz3 o7 o8 (fun a4 w3 hs4 k3 o39=>?_)))
 obtain ⟨hz4,D,o1,o2,o3,o7,o8⟩:=kq5 hs4 hz3 D o1 o2 o3 o7 o8
 have S:=S.kp k3
 refine wcF o39 (wp_skip ?_)
 simp only [Exit.then]
 refine wp_seq (mnl_r5 hz4 (fun a5 hs5 o10=>?_))
 obtain ⟨hz5,D,o1,o2,o3,o7⟩:=kq4 hs5 hz4 D o1 o2 o3 o7
 refine wp_seq (mnl_r6 g3 x z _ (ntA_size hh) (S.at_ (l1:=[_,_])) mirZ Tryz.built_mirZ mirZ_made (fun V p kV hp=>nothing30_any p nz h hh A n c x hx z V hp) (fun V kV=>known30_any V (LDw.kp (S.k.trans kV (by simp)))) hz5 o1 o2 o3 o7 o10 (fun a6 w4 hs6 k4 o6=>?_))
 obtain ⟨hz6,D,o1,o2,o3,o7,o10⟩:=kq5 hs6 hz5 D o1 o2 o3 o7 o10
 refine wp_ret ?_
 exact bodyPost_ret (res_u1 (by rfl) (o6.eval (by rw [hz6];decide))) D ⟨rfl,S.k.trans k4 (by simp)⟩
theorem mirrornil_card{w:World}(z:Int)(hz:-9223372036854775808<=z ∧ z<=9223372036854775807)(h:Bs)(hh:h.length=32)(A:Option Addr)(c:Nat)(l:List SigD)(_:SgOk l)(_:(l.length+1) * 48<=140737488355328)(_:Rd w 33 (.slice A l.length c) l.length (sgsC l))(x:Value)(bs:Bs)(rd:Rd w 1 x bs.length (bv bs))(_:bs.length<=140737488351232)(a:Int)(_:-9223372036854775808<=a ∧ a<=9223372036854775807)(LDw:LD w):
 Calls Tryz.prog 6 #[.agg (ntA z h (.slice A l.length c)),x,.int .i64 a] w fun e w'=>e=.returned (.bool true) ∧ Kp [] w w':=by
 obtain ⟨B,d,rfl⟩:=rd_form rd
 exact mirrornil_any z hz h hh A l.length c _ ⟨_,_,_,rfl⟩ a LDw
end
section
open Go.RowKit Go.WideShapes Go.ChangeShapes
section
variable {H:Type} {enc:TypeId × Value->H}
theorem open_hash{P:Program}{W:World}{n m:Nat}{t e:TypeId}{cs:List Value}{x:DataW H × List MemPlace}(ht:P.underlying t=some (.array m e))(he:P.underlying e=some (.int .u8))(hc:P.cellsOf e=1)(hct:P.cellsOf t=m)
 (h:DataW.trod enc P W 0 (fun _=>true) true n t cs=some x):∃ h:List UInt8,h.length=m ∧ cs=bv h ∧ m+1<=Rows.uptoBulk x.1:=by
 obtain ⟨xs,k,rfl,rfl,hl,hxl,hel⟩:=DataW.trod_array ht h
 rw [hct] at hl
 have one:∀ i,i < m->∃ z:Int,cs[i]?=some (.int .u8 z) ∧ 0<=z ∧ z<=255:=fun i hi=>by
  have h1:=hel i hi
  rw [hc,Nat.mul_one,cut_one] at h1
  have hx:xs[i]?=some xs[i]:=List.getElem?_eq_getElem (by omega)
  rw [hx] at h1
  obtain ⟨z,hz,_,hw⟩:=DataW.trod_int he h1
  have hw:=u8_lit hw
  cases hcs:cs[i]? with
  |none=>rw [hcs] at hz;cases hz
  |some v=>rw [hcs] at hz;cases hz;exact ⟨z,rfl,hw.1,hw.2⟩
 refine ⟨(List.range m).map fun i=>(match (cs[i]?:Option Value) with|some (Value.int _ z)=>UInt8.ofNat z.toNat|_=>0),by simp,?_,?_⟩
 . apply List.ext_getElem?
   intro i
   rw [bv_get,List.getElem?_map]
   by_cases hi:i < m
   . obtain ⟨z,hz,h1,h2⟩:=one i hi
     rw [hz,List.getElem?_range hi]
     simp only [Option.map_some]
     rw [hz]
     simp only [UInt8.toNat_ofNat',Nat.mod_eq_of_lt (show z.toNat < 2 ^ 8 by omega)]
     congr 2
     omega
   . rw [List.getElem?_eq_none (by omega),List.getElem?_eq_none (by simp;omega)]
     rfl
 . simp only [Rows.uptoBulk]
   have:=bulk_len (xs.map (·.1))
   rw [List.length_map,hxl] at this
   omega
theorem Tryz.cellsHash:Tryz.prog.cellsOf 23=32:=by kernel_rfl
end
end
section
open Go.RowKit Go.WideShapes Go.ChangeShapes
section
variable {H:Type} {enc:TypeId × Value->H}
theorem Tryz.cellsPoint:Tryz.prog.cellsOf 25=33:=by kernel_rfl
theorem Tryz.cellsI64:Tryz.prog.cellsOf 2=1:=by kernel_rfl
theorem open_pt{W:World}{n:Nat}{cs:List Value}{x:DataW H × List MemPlace}(h:DataW.trod enc Tryz.prog W 0 (fun _=>true) true n 25 cs=some x):
 ∃ (z:Int) (hh:Bs),cs=(ptA z hh).toList ∧ (-9223372036854775808<=z ∧ z<=9223372036854775807) ∧ hh.length=32:=by
 obtain ⟨xs,k,rfl,rfl,hl,hxl,hf⟩:=DataW.trod_struct Tryz.underlying25 h
 rw [Tryz.cellsPoint] at hl
 obtain ⟨x0,x1,rfl⟩:∃ x0 x1,xs=[x0,x1]:=by
  match xs,hxl with
  |[x0,x1],_=>exact ⟨x0,x1,rfl⟩
 have f0:DataW.trod enc Tryz.prog W 0 (fun _=>true) true k 2 ((cs.drop 0).take (Tryz.prog.cellsOf 2))=some x0:=hf 0 _ rfl
 have f1:DataW.trod enc Tryz.prog W 0 (fun _=>true) true k 23 ((cs.drop 1).take (Tryz.prog.cellsOf 23))=some x1:=hf 1 _ rfl
 rw [Tryz.cellsI64] at f0
 rw [Tryz.cellsHash] at f1
 clear hf hxl
 obtain ⟨z,e0,_,w0⟩:=DataW.trod_int Tryz.underlying2 f0
 obtain ⟨hh,hhl,e1,_⟩:=open_hash Tryz.underlying23 Tryz.underlying5 Tryz.cellsU8 Tryz.cellsHash f1
 have w0:=i64_lit w0
 have g0:=at_of_cut (i:=0) e0
 refine ⟨z,hh,?_,w0,hhl⟩
 obtain ⟨a,l,rfl⟩:=List.exists_cons_of_length_pos (l:=cs) (by omega)
 rw [List.length_cons] at hl
 have g0:=Option.some.inj g0
 subst g0
 have:l=bv hh:=by
  rw [<- e1,List.drop_succ_cons,List.drop_zero,List.take_of_length_le (by omega)]
 rw [this]
 rfl
end
end
section
open Go.RowKit Go.WideShapes Go.ChangeShapes
section
variable {H:Type} {enc:TypeId × Value->H}
theorem Tryz.cellsStr:Tryz.prog.cellsOf 9=1:=by kernel_rfl
theorem str_back(s:ByteArray):strV s.data.toList=.string s:=by
 unfold strV
 congr 1
end
end
section
open Go.RowKit Go.WideShapes Go.ChangeShapes
section
variable {H:Type} {enc:TypeId × Value->H}
theorem Tryz.cellsSig:Tryz.prog.cellsOf 89=33:=by kernel_rfl
theorem Tryz.cellsNote:Tryz.prog.cellsOf 28=34:=by kernel_rfl
theorem Tryz.cellsSigs:Tryz.prog.cellsOf 26=1:=by kernel_rfl
theorem open_sig{W:World}{n:Nat}{cs:List Value}{x:DataW H × List MemPlace}(h:DataW.trod enc Tryz.prog W 0 (fun _=>true) true n 89 cs=some x):
 ∃ s:SigD,cs=sgL s ∧ s.2.length=32 ∧ s.1.length<=9223372036854775807:=by
 obtain ⟨xs,k,rfl,rfl,hl,hxl,hf⟩:=DataW.trod_struct Tryz.underlying89 h
 rw [Tryz.cellsSig] at hl
 obtain ⟨x0,x1,rfl⟩:∃ x0 x1,xs=[x0,x1]:=by
  match xs,hxl with
  |[x0,x1],_=>exact ⟨x0,x1,rfl⟩
 have f0:DataW.trod enc Tryz.prog W 0 (fun _=>true) true k 9 ((cs.drop 0).take (Tryz.prog.cellsOf 9))=some x0:=hf 0 _ rfl
 have f1:DataW.trod enc Tryz.prog W 0 (fun _=>true) true k 23 ((cs.drop 1).take (Tryz.prog.cellsOf 23))=some x1:=hf 1 _ rfl
 rw [Tryz.cellsStr] at f0
 rw [Tryz.cellsHash] at f1
 clear hf hxl
 obtain ⟨s,e0,rfl,hs⟩:=DataW.trod_string Tryz.underlying9 f0
 obtain ⟨hh,hhl,e1,_⟩:=open_hash Tryz.underlying23 Tryz.underlying5 Tryz.cellsU8 Tryz.cellsHash f1
 have g0:=at_of_cut (i:=0) e0
 rw [Lib.size_eq] at hs
 refine ⟨(s.data.toList,hh),?_,hhl,Nat.le_trans hs (by unfold maxLen;omega)⟩
 obtain ⟨a,l,rfl⟩:=List.exists_cons_of_length_pos (l:=cs) (by omega)
 rw [List.length_cons] at hl
 have g0:=Option.some.inj g0
 subst g0
 have:l=bv hh:=by
  rw [<- e1,List.drop_succ_cons,List.drop_zero,List.take_of_length_le (by omega)]
 rw [this]
 unfold sgL
 rw [str_back]
theorem sgsC_inv{l:List SigD}(hok:SgOk l){j:Nat}{u:Value}(h:(sgsC l)[j]?=some u):∃ s,l[j / 33]?=some s ∧ (sgL s)[j % 33]?=some u:=by
 have hl:=sgsC_length hok
 have hj:=(List.getElem?_eq_some_iff.1 h).1
 obtain ⟨q,hq⟩:∃ q,l[j / 33]?=some q:=⟨_,List.getElem?_eq_getElem (by omega)⟩
 have hs:=sgL_length (s:=q) (hok q (List.mem_of_getElem? hq)).1
 obtain ⟨v,hv⟩:∃ v,(sgL q)[j % 33]?=some v:=⟨_,List.getElem?_eq_getElem (by rw [hs];omega)⟩
 have:=sgsC_at hok hq _ _ hv
 rw [show j / 33 * 33+j % 33=j from by omega,h] at this
 exact ⟨q,hq,by rw [hv,<- this]⟩
theorem open_sigs{W:World}{n:Nat}{v:Value}{x:DataW H × List MemPlace}(h:DataW.trod enc Tryz.prog W 0 (fun _=>true) true n 26 [v]=some x):
 ∃ l,Rd W 33 v l.length (sgsC l) ∧ SgOk l ∧ (l=[] ∨ ∃ elems spare,x.1=.slice elems spare ∧ elems.length=l.length):=by
 rcases Deep.open_slice Tryz.underlying26 h with ⟨hv,rfl⟩|⟨a,len,cap,m,k,D,Pl,hv,_,hl,hm,hmm,rfl,hel⟩
 . cases hv
   exact ⟨[],Rd.nil _ _,(fun _ h=>by cases h),.inl rfl⟩
 . cases hv
   simp only [if_true] at hmm
   obtain ⟨G,hG⟩:=Deep.choose_lt (α:=SigD) (n:=len) (p:=fun i q=>(∀ j u,(sgL q)[j]?=some u->W.cell? ((a.add (i * 33)).add j)=some u) ∧ q.2.length=32 ∧ q.1.length<=9223372036854775807) (fun i hi=>by
    obtain ⟨cs,h1,h2⟩:=hel i (by omega)
    rw [Tryz.cellsSig] at h1
    obtain ⟨s,rfl,hs1,hs2⟩:=open_sig h2
    obtain ⟨_,hlen,hcell⟩:=World.cells?_some h1
    exact ⟨s,(fun j u hu=>by rw [hcell j (by have:=(List.getElem?_eq_some_iff.1 hu).1;rw [sgL_length hs1] at this;omega)];exact hu),hs1,hs2⟩)
   have hget:∀ i q,((List.range len).map G)[i]?=some q->i < len ∧ q=G i:=fun i q h=>by
    rw [List.getElem?_map] at h
    by_cases hi:i < len
    . rw [List.getElem?_range hi] at h
      exact ⟨hi,(Option.some.inj h).symm⟩
    . rw [List.getElem?_eq_none (by simp;omega)] at h;cases h
   have hok:SgOk ((List.range len).map G):=fun q hq=>by
    obtain ⟨i,hi,rfl⟩:=List.mem_map.1 hq
    exact (hG i (List.mem_range.1 hi)).2
   refine ⟨(List.range len).map G,?_,hok,.inr ⟨_,_,rfl,by simp⟩⟩
   have hlen:((List.range len).map G).length=len:=by simp
   have hC:=sgsC_length hok
   rw [hlen] at hC ⊢
   refine rd_some hC hl hm (fun ad had j u hu=>?_)
   cases had
   obtain ⟨q,hq,hqu⟩:=sgsC_inv hok hu
   obtain ⟨hi,rfl⟩:=hget _ _ hq
   have:=(hG _ hi).1 _ _ hqu
   rw [add_of_add,show j / 33 * 33+j % 33=j from by omega] at this
   exact this
theorem open_nt{W:World}{n:Nat}{cs:List Value}{x:DataW H × List MemPlace}(h:DataW.trod enc Tryz.prog W 0 (fun _=>true) true n 28 cs=some x):
 ∃ (z:Int) (hh:Bs) (v:Value) (l:List SigD),cs=ntL z hh v ∧ (-9223372036854775808<=z ∧ z<=9223372036854775807) ∧ hh.length=32 ∧ Rd W 33 v l.length (sgsC l) ∧ SgOk l ∧ ∃ d0 d1,x.1=.agg [d0,d1] ∧ (l=[] ∨ ∃ elems spare,d1=.slice elems spare ∧ elems.length=l.length):=by
 obtain ⟨xs,k,rfl,rfl,hl,hxl,hf⟩:=DataW.trod_struct Tryz.underlying28 h
 rw [Tryz.cellsNote] at hl
 obtain ⟨x0,x1,rfl⟩:∃ x0 x1,xs=[x0,x1]:=by
  match xs,hxl with
  |[x0,x1],_=>exact ⟨x0,x1,rfl⟩
 have f0:DataW.trod enc Tryz.prog W 0 (fun _=>true) true k 25 ((cs.drop 0).take (Tryz.prog.cellsOf 25))=some x0:=hf 0 _ rfl
 have f1:DataW.trod enc Tryz.prog W 0 (fun _=>true) true k 26 ((cs.drop 33).take (Tryz.prog.cellsOf 26))=some x1:=hf 1 _ rfl
 rw [Tryz.cellsPoint] at f0
 rw [Tryz.cellsSigs] at f1
 clear hf hxl
 obtain ⟨z,hh,e0,hz,hhl⟩:=open_pt f0
 obtain ⟨v,hv⟩:∃ v,(cs.drop 33).take 1=[v]:=by
  obtain ⟨a,ha⟩:∃ a,cs.drop 33=[a]:=List.length_eq_one_iff.1 (by rw [List.length_drop,hl])
  exact ⟨a,by rw [ha];rfl⟩
 rw [hv] at f1
 obtain ⟨l,hr,hok,hb⟩:=open_sigs f1
 refine ⟨z,hh,v,l,?_,hz,hhl,hr,hok,_,_,rfl,hb⟩
 have h2:cs.drop 33=[v]:=by rw [<- hv,List.take_of_length_le (by rw [List.length_drop,hl];decide)]
 rw [<- List.take_append_drop 33 cs,h2]
 rw [List.drop_zero] at e0
 rw [e0]
 rfl
theorem open_nt_arg{W:World}{b0:Nat}{v:Value}{d:DataW H}{pl:List MemPlace}(hv:Value.okWide Tryz.prog W .any b0 28 v)(h:DataW.Trod enc Tryz.prog W 0 (fun _=>true) true 28 v d pl):
 ∃ (z:Int) (hh:Bs) (A:Option Addr) (c:Nat) (l:List SigD),v=.agg (ntA z hh (.slice A l.length c)) ∧ (-9223372036854775808<=z ∧ z<=9223372036854775807) ∧ hh.length=32 ∧ Rd W 33 (.slice A l.length c) l.length (sgsC l) ∧ SgOk l ∧ ∃ d0 d1,d=.agg [d0,d1] ∧ (l=[] ∨ ∃ elems spare,d1=.slice elems spare ∧ elems.length=l.length):=by
 obtain ⟨cs,rfl,hsz⟩:=okWide_struct Tryz.underlying28 hv
 obtain ⟨fuel,hf⟩:=h
 obtain ⟨z,hh,v,l,h1,h2,h3,h4,h5,h6⟩:=open_nt hf
 obtain ⟨A,c,rfl⟩:=rd_form h4
 refine ⟨z,hh,A,c,l,?_,h2,h3,h4,h5,h6⟩
 congr 1
 apply Array.ext'
 exact h1
theorem bytes_of_sg:Tryz.prog.bytesOf 89=48:=by kernel_rfl
theorem sized_nt{ts:List TypeId}{ds:List (DataW H)}(h:(DataW.weightsEach Tryz.prog ts ds).all (·<=reachBytes)=true)(j:Nat){d0 d1:DataW H}{l:List SigD}(ht:ts[j]?=some 28)(hd:ds[j]?=some (.agg [d0,d1]))
 (hb:l=[] ∨ ∃ elems spare,d1=.slice elems spare ∧ elems.length=l.length):(l.length+1) * 48<=140737488355328:=by
 rcases hb with rfl|⟨elems,spare,rfl,hl⟩
 . simp
 . have hm:(elems.length+spare.length) * Tryz.prog.bytesOf 89 ∈ (DataW.agg [d0,.slice elems spare]:DataW H).weights Tryz.prog 28:=by
    rw [DataW.weights,Tryz.underlying28]
    exact DataW.weights_mem_each (j:=1) (t:=26) rfl rfl _ (by simp [DataW.weights,Tryz.underlying26])
   have:=List.all_eq_true.1 h _ (DataW.weights_mem_each ht hd _ hm)
   rw [bytes_of_sg] at this
   simp only [decide_eq_true_eq] at this
   unfold reachBytes at this
   omega
end
end
section
open Go.ChangeShapes Go.WideShapes Go.ChangeAt Go.RowKit
theorem door_met(os:Os)(args:Array Value):laidMet Tryz.prog Rows.mirrorForksRow.laid ((World.doorLaid Tryz.prog 2000 os).forCall (fun _ _=>0) ⟨#[],args,[]⟩).memory:=
 laidMet_of_run' 8 (by kernel_rfl) (by kernel_rfl)
theorem LD_laid{W:World}(h:laidMet Tryz.prog Rows.mirrorForksRow.laid W):LD W:=by
 have h3:=h.tail.tail
 first
  |exact ⟨Lib.tabIs_of_head (g:=0) (by decide +kernel) (by decide +kernel) Tryz.underlying219 Tryz.underlying178 (by kernel_rfl) (by kernel_rfl) h3⟩
  |exact ⟨Lib.tabIs_of_head (g:=1) (by decide +kernel) (by decide +kernel) Tryz.underlying219 Tryz.underlying178 (by kernel_rfl) (by kernel_rfl) h3⟩
  |exact ⟨Lib.tabIs_of_head (g:=2) (by decide +kernel) (by decide +kernel) Tryz.underlying219 Tryz.underlying178 (by kernel_rfl) (by kernel_rfl) h3⟩
  |exact ⟨Lib.tabIs_of_head (g:=3) (by decide +kernel) (by decide +kernel) Tryz.underlying219 Tryz.underlying178 (by kernel_rfl) (by kernel_rfl) h3⟩
  |exact ⟨Lib.tabIs_of_head (g:=4) (by decide +kernel) (by decide +kernel) Tryz.underlying219 Tryz.underlying178 (by kernel_rfl) (by kernel_rfl) h3⟩
  |exact ⟨Lib.tabIs_of_head (g:=5) (by decide +kernel) (by decide +kernel) Tryz.underlying219 Tryz.underlying178 (by kernel_rfl) (by kernel_rfl) h3⟩
end
section
open Go.RowKit Go.WideShapes Go.ChangeShapes
theorem own_knob:ownKnob Tryz.prog.godebug=none:=by kernel_rfl
section
variable {H:Type} {enc:TypeId × Value->H} {P:Program}
theorem post_below{f:Func}{s:ChangeSpec}{apart fresh handsOn again:Bool}{W W':World}{args:Array Value}{v:Value}{ds gs:List (DataW H)}{before pa pv:List MemPlace}
 (hW:DataW.Whole enc P f.params.toList s.vars apart W args.toList ds gs before)
 (hres:∀ (b:Nat) (sp:Nat->Bool) (hd:Bool),DataW.TrodAll enc P W' b sp hd f.resultTypes.toList (v.resultList f.resultTypes.size) (s.fn H (ds ++ gs)).results [])
 (hargs:∀ sp:Nat->Bool,(∀ p ∈ before,sp p.block=true)->DataW.TrodAll enc P W' 0 sp true f.params.toList args.toList (s.fn H (ds ++ gs)).args pa)
 (hvars:∀ sp:Nat->Bool,(∀ p ∈ before,sp p.block=true)->DataW.TrodVars enc P W' sp s.vars (s.fn H (ds ++ gs)).vars pv)
 (hps:before=pa ++ pv) (hb:Below W.heap.size W W')
 (hok:∀ (j:Nat) (t:TypeId) (r:Value),f.resultTypes[j]?=some t->(v.resultList f.resultTypes.size)[j]?=some r->Value.okWide P W' .any 0 t r):
 s.post enc P f apart fresh handsOn again W args v W':=by
 have hlt:∀ p ∈ before,p.block < W.heap.size:=fun p hp=>hW.lt p hp
 have hold:∀ p ∈ before,(fun b=>decide (b < W.heap.size)) p.block=true:=fun p hp=>by simpa using hlt p hp
 refine ⟨ds,gs,before,[],pa,pv,hW,hres _ _ _,hargs _ hold,hvars _ hold,World.keptBut_mono (fun p hp=>⟨hp,?_⟩) (hb.frame (· ∈ before)),fun _=>?_⟩
 . rw [hps,List.mem_append] at hp
   exact Or.inr hp
 . obtain ⟨_,_,_,_,_,hz,hn⟩:=hW
   refine ⟨hok,_,_,([] ++ pa) ++ pv,⟨[] ++ pa,pv,trodAll_append (hargs _ (fun _ _=>rfl)) (hres _ _ _),hvars _ (fun _ _=>rfl),rfl,?_,?_⟩,?_⟩
   . intro b off hp
     have hin:MemPlace.cell b off ∈ before:=by rw [hps];simpa using hp
     rw [hb.frozen (hlt _ hin)]
     exact hz b off hin
   . intro ha
     have:=hn ha
     rw [hps] at this
     simpa using this
   . intro p hp _
     rw [hps]
     simpa using hp
end
theorem Kp.below0{w w':World}(h:Kp [] w w'):Below w.heap.size w w':=h.below (Nat.le_refl _) (by simp)
end
section
open Go.RowKit Go.WideShapes Go.ChangeShapes
section
variable {H:Type} {enc:TypeId × Value->H} {P:Program}
theorem trodAll_stays(hl:laidOutB P=true){W W':World}{sp':Nat->Bool}:∀ {ts:List TypeId} {vs:List Value} {ds:List (DataW H)} {ps:List MemPlace},ts.all (fun t=>P.readableRec t && decide (t < P.types.size))=true->
 DataW.TrodAll enc P W 0 (fun _=>true) true ts vs ds ps->(∀ p ∈ ps,W.sameAt W' p)->(∀ p ∈ ps,sp' p.block=true)->DataW.TrodAll enc P W' 0 sp' true ts vs ds ps
 |[],[],[],_,_,h,_,_=>h
 |t :: ts,v :: vs,d :: ds,_,hr,⟨p,q,h1,h2,e⟩,hm,hs=>by
  simp only [List.all_cons,Bool.and_eq_true,decide_eq_true_eq] at hr
  exact ⟨p,q,WideElems.Trod_stays hl hr.1.1 hr.1.2 h1 (fun x hx=>hm x (by rw [e];exact List.mem_append_left _ hx)) (fun x hx=>hs x (by rw [e];exact List.mem_append_left _ hx)),
   trodAll_stays hl hr.2 h2 (fun x hx=>hm x (by rw [e];exact List.mem_append_right _ hx)) (fun x hx=>hs x (by rw [e];exact List.mem_append_right _ hx)),e⟩
theorem post_kept{f:Func}{s:ChangeSpec}{apart fresh handsOn again:Bool}{W W':World}{args:Array Value}{v:Value}{ds gs:List (DataW H)}{before:List MemPlace}
 (hl:laidOutB P=true) (hr:f.params.toList.all (fun t=>P.readableRec t && decide (t < P.types.size))=true) (hsv:s.vars=[])
 (hW:DataW.Whole enc P f.params.toList s.vars apart W args.toList ds gs before)
 (hres:∀ (b:Nat) (sp:Nat->Bool) (hd:Bool),DataW.TrodAll enc P W' b sp hd f.resultTypes.toList (v.resultList f.resultTypes.size) (s.fn H (ds ++ gs)).results [])
 (hfa:(s.fn H (ds ++ gs)).args=ds) (hfv:(s.fn H (ds ++ gs)).vars=[]) (hb:Below W.heap.size W W')
 (hok:∀ (j:Nat) (t:TypeId) (r:Value),f.resultTypes[j]?=some t->(v.resultList f.resultTypes.size)[j]?=some r->Value.okWide P W' .any 0 t r):
 s.post enc P f apart fresh handsOn again W args v W':=by
 have hlt:∀ p ∈ before,p.block < W.heap.size:=fun p hp=>hW.lt p hp
 have hW2:=hW
 obtain ⟨p,q,hA,hV,rfl,hz,hn⟩:=hW2
 rw [hsv] at hV
 obtain ⟨rfl,rfl⟩:=trodVars_none hV
 refine post_below (pa:=p) (pv:=[]) hW hres (fun sp hs=>?_) (fun sp hs=>?_) rfl hb hok
 . rw [hfa]
   exact trodAll_stays hl hr hA (fun x hx=>hb.same (hlt x (List.mem_append_left _ hx))) (fun x hx=>hs x (List.mem_append_left _ hx))
 . rw [hsv,hfv];exact rfl
end
theorem laid_out:laidOutB Tryz.prog=true:=by kernel_rfl
end
end Go.Proofs.YtmkfopmdingaoaaGreatDoor
