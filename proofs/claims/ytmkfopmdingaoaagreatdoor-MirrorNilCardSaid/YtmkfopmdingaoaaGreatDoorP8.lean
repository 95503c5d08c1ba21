/- Several texts in one: ProC, EntF, EntG, EntH, EntI, EntJ, EntK, EntL, EntS, EntT, Open, TxOpen, EntOpen, EntU, EntV, EntW, ProD, ProE, ProF, ProG, ProH, MirA, MirB, MirC, MirD, MirE, MirF, MirG, MirH, MirI, MirJ, MirK. -/
import Derived.ScopeJumps
import Derived.WalkMore
import Derived.ProofKit
import Derived.OpenShut
import Derived.Deep.Slices
import Derived.JoinedCond
import Derived.Carry
import Derived.Lib.SmallJoins
import Derived.Test.YtmkfopmdingaoaaGreatDoorShelf2
import Derived.Lib.AppendZerosOnto
import Derived.Test.YtmkfopmdingaoaaGreatDoorP7
set_option linter.unusedVariables false
set_option linter.unusedSimpArgs false
set_option maxRecDepth 100000
set_option maxHeartbeats 8000000
namespace Go.Proofs.YtmkfopmdingaoaaGreatDoor
section
variable {Q:Exit->Act->World->Prop} {a:Act} {w:World}
open Go.RowKit Go.Shelf
attribute [local go_sem] Oper.semAt_some
theorem rd_lhH{w:World}{A:Option Addr}{n c lo m:Nat}{l:List (List UInt8)}(hok:HsOk l)(h:Rd w 32 (.slice A n c) n (hsC l))(hn:n=l.length)(hm:lo+m<=n):Rd w 32 (.slice (loH A lo c) m (c - lo)) m (hsC ((l.drop lo).take m)):=
 rd_hiH (hok.drop lo) (rd_loH hok h hn (by omega)) (by rw [List.length_drop];omega) (by omega)
theorem pst_r0(w0:World)(r1 r2:Nat)(L:List Res)(S:Held w0 w L)(hsz:a.tmps.size=31)(o1:Sl a 1 (.agg #[.int .i64 (r1:Int),.int .i64 (r2:Int)])):RG1 false 0 Tryz.f132 Q a w fun a' W q'=>Sl a' 5 (.int .i64 (0:Int))->(∃ g3 g4,Sl a' 3 (Pq g3 0) ∧ Sl a' 4 (Pq g4 0) ∧ Held w0 W (blkR g4 23 (hashA (List.replicate 32 0)) :: blkR g3 176 #[.int .i64 (r1:Int),.int .i64 (r2:Int)] :: L))->q':=by
 intro hend
 refine wp_region_lit ?_
 (conv=>arg 4;whnf)
 unfold Sl at o1
 have S1:=LH ((S.newBlk 176 #[.int .i64 (r1:Int),.int .i64 (r2:Int)]).newBlkN 23 (hashA (List.replicate 32 0)) (g:=w.heap.size+1) (by simp))
 go_wp2
 try simp only [Act.put]
 exact hend _ _ tS sP (⟨w.heap.size,w.heap.size+1,sP0,sP0,S1.out⟩)
theorem pst_r1(g3 r1 r2 n c:Nat)(A:Option Addr)(hr:Hid (r1 < r2 ∧ r2<=n))(hb:Blk w g3 176 #[.int .i64 (r1:Int),.int .i64 (r2:Int)])(hsz:a.tmps.size=31)(o0:Sl a 0 (.slice A n c))(o3:Sl a 3 (Pq g3 0)):RG1 false 1 Tryz.f132 Q a w fun a' W q'=>Kp [] w W->Sl a' 22 (.bool false)->q':=by
 intro hend
 have hap:=pa 1 Tryz.f132
 refine wp_region_invS (l:=(opsOf 1 Tryz.f132)) (fun i v W=>match i with|0=>v=Pq g3 0|1=>v=.int .i64 (r1:Int)|2=>v=.bool false|3=>v=.bool false|4=>v=Pq g3 0|5=>v=.int .i64 (r1:Int)|6=>v=Pq g3 1|7=>v=.int .i64 (r2:Int)|8=>v=.bool false|9=>v=.bool false|10=>v=.bool false|11=>v=Pq g3 1|12=>v=.int .i64 (r2:Int)|13=>v=.slice A n c|14=>v=Nq n|15=>v=.bool false|16=>v=.bool false|_=>True) hap ?_ ?_ ?_
 . exact fun _ _ _ _ h _=>h
 . and_intros <;> try (intro vs A' W hA hW hd hu K hK;try (refine wpOp_free _ rfl rfl ?_;conv=>arg 2;whnf))
   . exact qa1 (eO 3 o3)
   . have c0:W.cell? ⟨g3,0,none⟩=some (.int .i64 (r1:Int)):=(hb.k0 hW).cell 0
     exact qa1 (vD 6 0)
   . have e7:=vD 7 1;clear hA hd hu o0 o3;go_step
     exact hK _ _ kR (by first|rfl|(refine congrArg Value.bool ?_;simp;done)|(refine congrArg Value.bool ?_;simp;have:=hr.out;omega))
   . exact qa1 (vD 8 2)
   . exact gq1 3 (vD 9 3) (eO 3 o3)
   . refine qG 3 (vD 9 3) ?_;(conv=>arg 2;whnf)
     have c0:W.cell? ⟨g3,0,none⟩=some (.int .i64 (r1:Int)):=(hb.k0 hW).cell 0
     exact qa1 (vD 10 4)
   . exact gq1 3 (vD 9 3) (eO 3 o3)
   . refine qG 3 (vD 9 3) ?_;(conv=>arg 2;whnf)
     have c1:W.cell? ⟨g3,1,none⟩=some (.int .i64 (r2:Int)):=(hb.k0 hW).cell 1
     exact qa1 (vD 12 6)
   . refine qG 3 (vD 9 3) ?_;(conv=>arg 2;whnf);have e11:=vD 11 5;have e13:=vD 13 7;clear hA hd hu o0 o3;go_step
     exact hK _ _ kR (by first|rfl|(refine congrArg Value.bool ?_;simp;done)|(refine congrArg Value.bool ?_;simp;have:=hr.out;omega))
   . exact qa2 (vD 9 3) (vD 14 8)
   . exact qa1 (vD 15 9)
   . exact gq1 10 (vD 16 10) (eO 3 o3)
   . refine qG 10 (vD 16 10) ?_;(conv=>arg 2;whnf)
     have c1:W.cell? ⟨g3,1,none⟩=some (.int .i64 (r2:Int)):=(hb.k0 hW).cell 1
     exact qa1 (vD 17 11)
   . exact gq1 10 (vD 16 10) (eO 0 o0)
   . exact gq1 10 (vD 16 10) (vD 19 13)
   . refine qG 10 (vD 16 10) ?_;(conv=>arg 2;whnf);have e18:=vD 18 12;have e20:=vD 20 14;clear hA hd hu o0 o3;go_step
     exact hK _ _ kR (by first|rfl|(refine congrArg Value.bool ?_;simp;done)|(refine congrArg Value.bool ?_;simp;have:=hr.out;omega))
   . exact qa2 (vD 16 10) (vD 21 15)
   . trivial
 . intro vs W hW hp
   rw [putAll_eq]
   exact hend _ W sQ hW (sW (hp 16 sB))
theorem pst_r3(w0:World)(g3 g4 r1 r2 n c mm:Nat)(A:Option Addr)(hr:Hid (r1+mm=r2 ∧ r2<=n ∧ n<=c))(hb:Blk w g3 176 #[.int .i64 (r1:Int),.int .i64 (r2:Int)])(x:Bs)(hx32:x.length=32)(HC0:Calls Tryz.prog 49 #[.slice (loH A r1 c) mm (c - r1)] w fun e w'=>e=.returned (.agg (hashA x)) ∧ Kp [] w w')(L:List Res)(S:Held w0 w (blkR g4 23 (hashA (List.replicate 32 0)) :: L))(hsz:a.tmps.size=31)(o0:Sl a 0 (.slice A n c))(o3:Sl a 3 (Pq g3 0))(o4:Sl a 4 (Pq g4 0)):RG1 false 3 Tryz.f132 Q a w fun a' W q'=>Sl a' 5 (.int .i64 (0:Int))->(Held w0 W (blkR g4 23 (hashA x) :: L))->q':=by
 intro hend
 refine wp_region_lit ?_
 (conv=>arg 4;whnf)
 unfold Sl at o0 o3 o4
 have S:=LH S
 have hch:Hid ((hashA (x)).size=32):=LH (by rw [hashA_size,hx32])
 have Och:=LH (hashA_one (x))
 obtain ⟨ch,Ech⟩:∃ cs,Hid (hashA (x)=cs):=⟨_,LH rfl⟩
 rw [Ech.out] at hch Och
 rw [Ech.out] at HC0
 have HC:=LH HC0
 clear HC0
 obtain ⟨q1,q2,q3,q4⟩:=Blk.c2 hb
 clear hb
 have hcut:=cut_lhH A n c r1 mm (r1:Int) (r2:Int) rfl (by have:=hr.out;omega) (by have:=hr.out;omega) (by have:=hr.out;omega)
 go_wp2_with fail
 refine HC.out.mono ?_
 rintro e w1 ⟨rfl,k1⟩
 have S1:=LH (S.out.kp k1)
 clear k1
 go_wp2_with (refine wpList_store_blk rfl 23 (.tmp 4) (.tmp 30) rfl g4 (aO o4) ch aE 23 _ (S1.out.at_ (l1:=[])) (by rw [hch.out];exact Tryz.infoHashP) (by rw [hch.out];rfl) Och.out ?_;intro w7 b7 k7;have S7:=LH (Held.setBlk (l1:=[]) S1.out b7 k7);clear b7 k7)
 rw [<- Ech.out] at S7
 try simp only [Act.put]
 exact hend _ _ tS sP (S7.out)
theorem pst_any(A:Option Addr)(c:Nat)(l:List (List UInt8))(hok:HsOk l)(r1 r2:Nat)(h1:r1 < r2)(h2:r2<=l.length)(w:World)(hv:Rd w 32 (.slice A l.length c) l.length (hsC l)):
 Calls Tryz.prog 132 #[.slice A l.length c,.agg #[.int .i64 (r1:Int),.int .i64 (r2:Int)]] w fun e w'=>e=.returned (.tuple #[.agg (hashA (rootF ((l.drop r1).take (r2 - r1)))),.int .i64 0]) ∧ Kp [] w w':=by
 have hlc:l.length<=c:=by
  obtain ⟨-,A',c',e,h1,-,-,-⟩:=hv
  cases e
  exact h1
 refine calls_fr Tryz.func132 rfl 31 rfl (fun a0 hsz hdf hAr=>?_)
 have hz0:a0.tmps.size=31:=hsz
 have D:=hdf
 have o0:=hAr 0 _ rfl
 have o1:=hAr 1 _ rfl
 refine wp_seq (pst_r0 w r1 r2 [] (Held.start w) hz0 o1 (fun a1 w1 hs1 o5 h1=>?_))
 obtain ⟨hz1,D,o0,o1⟩:=kq2 hs1 hz0 D o0 o1
 obtain ⟨g3,g4,o3,o4,S⟩:=h1
 refine wp_seq (wp_seq (pst_r1 g3 r1 r2 l.length c A (LH ⟨h1,h2⟩) (S.at_ (l1:=[_])) hz1 o0 o3 (fun a2 w2 hs2 k2 o22=>?_)))
 obtain ⟨hz2,D,o0,o3,o4⟩:=kq3 hs2 hz1 D o0 o3 o4
 refine wcF o22 (wp_skip ?_)
 simp only [Exit.then]
 have S:=S.kp k2
 have hlen:((l.drop r1).take (r2 - r1)).length=r2 - r1:=by rw [List.length_take,List.length_drop];omega
 have HC:=tof_any (loH A r1 c) (c - r1) ((l.drop r1).take (r2 - r1)) ((hok.drop r1).take _) w2 (by rw [hlen];exact rd_lhH hok (rd_old hv S.k) rfl (by omega))
 rw [hlen] at HC
 refine wp_seq (pst_r3 w g3 g4 r1 r2 l.length c (r2 - r1) A (LH ⟨by omega,h2,hlc⟩) (S.at_ (l1:=[_])) _ (rootF_length ((hok.drop r1).take _)) HC _ S hz2 o0 o3 o4 (fun a3 w3 hs3 o5 S=>?_))
 obtain ⟨hz3,D,o0,o3,o4,o22⟩:=kq4 hs3 hz2 D o0 o3 o4 o22
 refine wp_ret ?_
 exact bodyPost_ret (results_cell_tmp (by rfl) (o4.eval (by rw [hz3];decide)) (S.at_ (l1:=[])) Tryz.underlying23 rfl (by rw [hashA_size,rootF_length ((hok.drop r1).take _)];exact Tryz.infoHashP)) D ⟨congrArg (fun x=>Ending.returned (.tuple #[.agg (hashA (rootF ((l.drop r1).take (r2 - r1)))),x])) (o5.eval (by rw [hz3];decide)),S.k⟩
theorem pea_r0(w0:World)(A B:Option Addr)(n c m d:Nat)(L:List Res)(S:Held w0 w L)(hsz:a.tmps.size=10)(o0:Sl a 0 (.slice A n c))(o1:Sl a 1 (.slice B m d)):RG1 false 0 Tryz.f117 Q a w fun a' W q'=>(∃ g2 g3,Sl a' 2 (Pq g2 0) ∧ Sl a' 3 (Pq g3 0) ∧ Held w0 W (blkR g3 164 #[.slice B m d] :: blkR g2 29 #[.slice A n c] :: L))->q':=by
 intro hend
 refine wp_region_lit ?_
 (conv=>arg 4;whnf)
 unfold Sl at o0 o1
 have S1:=LH ((S.newBlk 29 #[.slice A n c]).newBlkN 164 #[.slice B m d] (g:=w.heap.size+1) (by simp))
 go_wp2
 try simp only [Act.put]
 exact hend _ _ tS (⟨w.heap.size,w.heap.size+1,sP0,sP0,S1.out⟩)
theorem pea_r1(w0:World)(g2 g3:Nat)(A B:Option Addr)(c d:Nat)(l:List (List UInt8))(rs:List (Nat × Nat))(hll:l.length<=1000000)(hrl:rs.length<=1000000)(hva:∀ V,Kp [] w0 V->Rd V 32 (.slice A l.length c) l.length (hsC l))(hvb:∀ V,Kp [] w0 V->Rd V 2 (.slice B rs.length d) rs.length (rgC rs))(L:List Res)(hsz:a.tmps.size=10)(o2:Sl a 2 (Pq g2 0))(o3:Sl a 3 (Pq g3 0))
 (S0:Held w0 w (blkR g2 29 #[.slice A l.length c] :: blkR g3 164 #[.slice B rs.length d] :: L)):RG2 1 Tryz.f117 Q a w fun a' vs gs W q'=>Held w0 W (rowR 23 32 (vs 1) l.length (hsC l) :: rowR 176 2 (vs 3) rs.length (rgC rs) :: blkR g2 29 #[vs 1] :: blkR g3 164 #[vs 3] :: L)->q':=by
 intro hend
 have hap:=pa 1 Tryz.f117
 refine wp_region_sep (Γ:=Unit) (l:=(opsOf 1 Tryz.f117)) 3 [0,1,2,3,4,5,8]
  (fun i vs gs=>match i with|0=>vs 0=.slice A l.length c|2=>vs 2=.slice B rs.length d|_=>True)
  (fun i vs gs=>match i with|1=>[rowR 23 32 (vs 1) l.length (hsC l)]|3=>[rowR 176 2 (vs 3) rs.length (rgC rs)]|4=>[blkR g2 29 #[vs 1]]|5=>[blkR g3 164 #[vs 3]]|6=>[blkR g2 29 #[.slice A l.length c]]|7=>[blkR g3 164 #[.slice B rs.length d]]|8=>L|_=>[])
  (fun i=>match i with|4=>[6]|5=>[7]|_=>[]) (fun i=>match i with|0=>[6]|2=>[7]|4=>[1]|5=>[3]|_=>[]) S0 (by kernel_rfl) hap (by kernel_rfl) (by kernel_rfl) (fun i=>match i with|0=>[0]|1=>[1]|2=>[2]|3=>[3]|4=>[1]|5=>[3]|_=>[]) (by kernel_rfl) ?_ (by kernel_rfl) ?_ ?_ ?_
 . exact lA
 . exact pA
 . clear S0 hend
   and_intros <;> try intro vs gs A' W LF hA S hR hd hu K hK
   . have c0:W.cell? ⟨g2,0,none⟩=some (.slice A l.length c):=(show Blk W g2 29 #[.slice A l.length c] from S.ok (blkR g2 29 #[.slice A l.length c]) (hR 6 (by simp) _ (List.mem_singleton.2 rfl))).cell 0
     exact qa1 (eO 2 o2)
   . replace hK:=hK default;have e5:=vD 5 0;clear hA o2 o3;go_step
     refine (hsclone_any w0 _ A c l hll W S (fun V SV=>hva V SV.k)).mono ?_
     rintro e w' ⟨v,rfl,S2⟩
     exact hK v w' S2 trivial
   . have c0:W.cell? ⟨g3,0,none⟩=some (.slice B rs.length d):=(show Blk W g3 164 #[.slice B rs.length d] from S.ok (blkR g3 164 #[.slice B rs.length d]) (hR 7 (by simp) _ (List.mem_singleton.2 rfl))).cell 0
     exact qa1 (eO 3 o3)
   . replace hK:=hK default;have e7:=vD 7 2;clear hA o2 o3;go_step
     refine (rgclone_any w0 _ B d rs hrl W S (fun V SV=>hvb V SV.k)).mono ?_
     rintro e w' ⟨v,rfl,S2⟩
     exact hK v w' S2 trivial
   . replace hK:=hK default;have e2:=eO 2 o2;have e6:=eU 6 1;clear hA o2 o3
     have S1:Held w0 W (blkR g2 29 #[.slice A l.length c] :: LF):=S
     obtain ⟨A1,c1,hq,-,-⟩:=ow_form (show Ow W 23 32 (vs 1) l.length (hsC l) from S.ok (rowR 23 32 (vs 1) l.length (hsC l)) (List.mem_cons_of_mem _ (hR 1 (by simp) _ (List.mem_singleton.2 rfl))))
     rw [hq] at e6
     have S2:=S1.set (l1:=[]) 0 (vs 1)
     have c33:W.cell? ⟨g2,0,none⟩=some (.slice A l.length c):=(S1.at_ (l1:=[])).cell 0
     have f33:=(show Blk W g2 _ _ from S1.at_ (l1:=[])).frozen 0
     rw [hq] at S2
     have S3:Held w0 (W.setCell ⟨g2,0,none⟩ (.slice A1 l.length c1)) (blkR g2 29 #[vs 1] :: LF):=by rw [hq];exact S2
     go_step
     exact hK undef _ S3 trivial
   . replace hK:=hK default;have e3:=eO 3 o3;have e8:=eU 8 3;clear hA o2 o3
     have S1:Held w0 W (blkR g3 164 #[.slice B rs.length d] :: LF):=S
     obtain ⟨A1,c1,hq,-,-⟩:=ow_form (show Ow W 176 2 (vs 3) rs.length (rgC rs) from S.ok (rowR 176 2 (vs 3) rs.length (rgC rs)) (List.mem_cons_of_mem _ (hR 3 (by simp) _ (List.mem_singleton.2 rfl))))
     rw [hq] at e8
     have S2:=S1.set (l1:=[]) 0 (vs 3)
     have c33:W.cell? ⟨g3,0,none⟩=some (.slice B rs.length d):=(S1.at_ (l1:=[])).cell 0
     have f33:=(show Blk W g3 _ _ from S1.at_ (l1:=[])).frozen 0
     rw [hq] at S2
     have S3:Held w0 (W.setCell ⟨g3,0,none⟩ (.slice A1 rs.length c1)) (blkR g3 164 #[vs 3] :: LF):=by rw [hq];exact S2
     go_step
     exact hK undef _ S3 trivial
   . trivial
 . intro vs gs W S hp
   have S:Held w0 W (rowR 23 32 (vs 1) l.length (hsC l) :: rowR 176 2 (vs 3) rs.length (rgC rs) :: blkR g2 29 #[vs 1] :: blkR g3 164 #[vs 3] :: L):=by simpa only [List.flatMap_cons,List.flatMap_nil,List.append_nil,List.nil_append,List.cons_append,List.append_assoc] using S
   rw [putAll_eq]
   exact hend _ vs gs W sQ  S
theorem pea_r2(g2 g3:Nat)(hsz:a.tmps.size=10)(o2:Sl a 2 (Pq g2 0))(o3:Sl a 3 (Pq g3 0)):RG0 2 Tryz.f117 Q a w fun a' q'=>Sl a' 4 (.func (.func 130) #[] #[Pq g3 0,Pq g2 0])->q':=rO
theorem peach_any(A B:Option Addr)(c d:Nat)(l:List (List UInt8))(rs:List (Nat × Nat))(hll:l.length<=1000000)(hrl:rs.length<=1000000)(w:World)(hva:Rd w 32 (.slice A l.length c) l.length (hsC l))(hvb:Rd w 2 (.slice B rs.length d) rs.length (rgC rs)):
 Calls Tryz.prog 117 #[.slice A l.length c,.slice B rs.length d] w fun e w'=>∃ g2 g3 v u,e=.returned (.func (.func 130) #[] #[Pq g3 0,Pq g2 0]) ∧ Held w w' [blkR g3 164 #[u],blkR g2 29 #[v],rowR 176 2 u rs.length (rgC rs),rowR 23 32 v l.length (hsC l)]:=by
 refine calls_fr Tryz.func117 rfl 10 rfl (fun a0 hsz hdf hAr=>?_)
 have hz0:a0.tmps.size=10:=hsz
 have D:=hdf
 have o0:=hAr 0 _ rfl
 have o1:=hAr 1 _ rfl
 refine wp_seq (pea_r0 w A B l.length c rs.length d [] (Held.start w) hz0 o0 o1 (fun a1 w1 hs1 h1=>?_))
 obtain ⟨hz1,D,o0,o1⟩:=kq2 hs1 hz0 D o0 o1
 obtain ⟨g2,g3,o2,o3,S⟩:=h1
 have S:=S.pull 1 rfl
 refine wp_seq (pea_r1 w g2 g3 A B c d l rs hll hrl (fun V kV=>rd_old hva kV) (fun V kV=>rd_old hvb kV) _ hz1 o2 o3 S (fun a2 vs gs w2 hs2 S=>?_))
 obtain ⟨hz2,D,o2,o3⟩:=kq2 hs2 hz1 D o2 o3
 refine wp_seq (pea_r2 g2 g3 hz2 o2 o3 (fun a3 hs3 o4=>?_))
 obtain ⟨hz3,D,o2,o3⟩:=kq2 hs3 hz2 D o2 o3
 refine wp_ret ?_
 exact bodyPost_ret (res_u1 (by rfl) (o4.eval (by rw [hz3];decide))) D ⟨g2,g3,vs 1,vs 3,rfl,((((S.pull 0 rfl).pull 1 rfl).pull 2 rfl).pull 3 rfl)⟩
theorem pe1_r0(w0:World)(y:Nat)(L:List Res)(S:Held w0 w L)(hsz:a.tmps.size=25)(o0:Sl a 0 (.func (.yield y) #[] #[])):RG1 false 0 Tryz.f130 Q a w fun a' W q'=>(∃ g3,Sl a' 3 (Pq g3 0) ∧ Held w0 W (blkR g3 190 #[.func (.yield y) #[] #[]] :: L))->q':=by
 intro hend
 refine wp_region_lit ?_
 (conv=>arg 4;whnf)
 unfold Sl at o0
 have S1:=LH (S.newBlk 190 #[.func (.yield y) #[] #[]])
 go_wp2
 try simp only [Act.put]
 exact hend _ _ tS (⟨w.heap.size,sP0,S1.out⟩)
theorem pe1_r1(gr:Nat)(A:Option Addr)(n c:Nat)(hb:Blk w gr 164 #[.slice A n c])(hsz:a.tmps.size=25)(o1:Sl a 1 (Pq gr 0)):RG1 false 1 Tryz.f130 Q a w fun a' W q'=>(∃ g,Sl a' 8 (.func (.func 145) #[] #[Pq g 0]) ∧ Held w W [blkR g 164 #[.slice A n c]])->q':=by
 intro hend
 refine wp_region_lit ?_
 (conv=>arg 4;whnf)
 unfold Sl at o1
 have c0:w.cell? ⟨gr,0,none⟩=some (.slice A n c):=hb.cell 0
 clear hb
 have HC:=LH (pvals_any A n c w)
 go_wp2_with fail
 refine HC.out.mono ?_
 rintro e w1 ⟨g,rfl,S1⟩
 have S1:=LH S1
 go_wp2_with fail
 try simp only [Act.put]
 exact hend _ _ tS (⟨g,sP0,S1.out⟩)
theorem pe1_r2{rl nn:Nat}(w0:World)(r1 r2:Nat)(L:List Res)(S:Held w0 w L)(hsz:a.tmps.size=25)(o9:Sl a 9 (.agg #[.int .i64 (r1:Int),.int .i64 (r2:Int)]))
 (hend:∀ a' W,Same a a' [4]->(∃ g4,Sl a' 4 (Pq g4 0) ∧ Held w0 W (blkR g4 176 #[.int .i64 (r1:Int),.int .i64 (r2:Int)] :: L))->(Kp [] w W)->Q .normal a' W):(Code.region 2 (opsOf 2 Tryz.f130).toArray false).wpIn (Fence.wide.inRound rl) nn Tryz.prog Q a w:=by
 refine in_region (l:=(opsOf 2 Tryz.f130)) (by kernel_rfl) ?_
 (conv=>arg 4;whnf)
 unfold Sl at o9
 have S1:=LH (S.newBlk 176 #[.int .i64 (r1:Int),.int .i64 (r2:Int)])
 have K1:=LH ((Kp.refl [] w).alloc (.cells #[.int .i64 (r1:Int),.int .i64 (r2:Int)] 176))
 go_wp2_with fail
 try simp only [Act.put]
 exact ⟨rfl,hend _ _ sS (⟨_,sP0,S1.out⟩) (K1.out)⟩
theorem pe1_r3{rl nn:Nat}(w0:World)(g2 g4 r1 r2:Nat)(A:Option Addr)(n c:Nat)(hb2:Blk w g2 29 #[.slice A n c])(hb4:Blk w g4 176 #[.int .i64 (r1:Int),.int .i64 (r2:Int)])(x:Bs)(hx32:x.length=32)(HC0:Calls Tryz.prog 132 #[.slice A n c,.agg #[.int .i64 (r1:Int),.int .i64 (r2:Int)]] w fun e w'=>e=.returned (.tuple #[.agg (hashA x),.int .i64 0]) ∧ Kp [] w w')(L:List Res)(S:Held w0 w L)(hsz:a.tmps.size=25)(o2:Sl a 2 (Pq g2 0))(o4:Sl a 4 (Pq g4 0))
 (hend:∀ a' W,Same a a' [11,12,13,10,14,15,5,6]->Sl a' 6 (.int .i64 (0:Int))->(∃ g5,Sl a' 5 (Pq g5 0) ∧ Held w0 W (blkR g5 23 (hashA x) :: L))->(Kp [] w W)->Q .normal a' W):(Code.region 3 (opsOf 3 Tryz.f130).toArray false).wpIn (Fence.wide.inRound rl) nn Tryz.prog Q a w:=by
 refine in_region (l:=(opsOf 3 Tryz.f130)) (by kernel_rfl) ?_
 (conv=>arg 4;whnf)
 unfold Sl at o2 o4
 have hch:Hid ((hashA (x)).size=32):=LH (by rw [hashA_size,hx32])
 have Och:=LH (hashA_one (x))
 obtain ⟨ch,Ech⟩:∃ cs,Hid (hashA (x)=cs):=⟨_,LH rfl⟩
 rw [Ech.out] at hch Och
 rw [Ech.out] at HC0
 have HC:=LH HC0
 clear HC0
 have c2:w.cell? ⟨g2,0,none⟩=some (.slice A n c):=hb2.cell 0
 obtain ⟨q1,q2,q3,q4⟩:=Blk.c2 hb4
 clear hb2 hb4
 have S:=LH S
 go_wp2_with fail
 refine HC.out.mono ?_
 rintro e w1 ⟨rfl,k1⟩
 have K1:=LH k1
 have S1:=LH ((S.out.kp k1).newBlk 23 (hashA (List.replicate 32 0)))
 have T1:=LH ((Held.start w1).newBlk 23 (hashA (List.replicate 32 0)))
 clear k1
 go_wp2_with (refine wpList_store_blk rfl 23 (.tmp 5) (.tmp 14) rfl w1.heap.size aE ch aE 23 _ (S1.out.at_ (l1:=[])) (by rw [hch.out];exact Tryz.infoHashP) (by rw [hch.out];rfl) Och.out ?_;intro w7 b7 k7;have S7:=LH (Held.setBlk (l1:=[]) S1.out b7 k7);have T7:=LH (Held.setBlk (l1:=[]) T1.out b7 k7);clear b7 k7)
 rw [<- Ech.out] at S7
 try simp only [Act.put]
 exact ⟨rfl,hend _ _ sS sP (⟨_,sP0,S7.out⟩) (K1.out.trans T7.out.k (by simp))⟩
theorem pe1_r4{rl m:Nat}(y g3 g4 g5 r1 r2:Nat)(x:Bs)(hx32:x.length=32)(hb3:Blk w g3 190 #[.func (.yield y) #[] #[]])(hb4:Blk w g4 176 #[.int .i64 (r1:Int),.int .i64 (r2:Int)])(hb5:Blk w g5 23 (hashA x))(R:World->Prop)
 (HY:∃ fn tmps assign body,(Instr.yield y #[.agg #[.int .i64 (r1:Int),.int .i64 (r2:Int)],.agg (hashA x)]).run Tryz.prog w=.ok (.round y fn tmps assign body) w ∧ RoundIn Fence.wide m Tryz.prog y fn tmps assign body w fun e W=>e=.returned (.bool true) ∧ R W)
 (hsz:a.tmps.size=25) (o3:Sl a 3 (Pq g3 0)) (o4:Sl a 4 (Pq g4 0)) (o5:Sl a 5 (Pq g5 0)) (o6:Sl a 6 (.int .i64 (0:Int)))
 (hend:∀ a' W,Same a a' [16,17,18,19,20,21,22,23,24]->Sl a' 24 (.bool false)->R W->Q .normal a' W):(Code.region 4 (opsOf 4 Tryz.f130).toArray false).wpIn (Fence.wide.inRound rl) (m+1) Tryz.prog Q a w:=by
 obtain ⟨fn,tmps,assign,body,hy,hRd⟩:=HY
 have c3:w.cell? ⟨g3,0,none⟩=some (.func (.yield y) #[] #[]):=hb3.cell 0
 obtain ⟨q1,q2,q3,q4⟩:=Blk.c2 hb4
 have hcs:(hashA x).size=32:=by rw [hashA_size,hx32]
 generalize hashA x=ch at *
 have hj:((opsOf 4 Tryz.f130).toArray[2]?).bind (·.dst)=some 18:=by rfl
 refine wpIn_region_lit ?_
 (conv=>arg 6;whnf)
 generalize (opsOf 4 Tryz.f130).toArray=OPS at hj ⊢
 unfold Sl at o3 o4 o5 o6
 gi_wp2_with (first|(refine wpListIn_load_blkG 2 18 true rfl hj (by simp [Act.put,hsz]) 23 (.tmp 5) rfl g5 (aO o5) 23 _ hb5 _ Tryz.underlying23 rfl (by rw [hcs];exact Tryz.infoHashP) ?_)|(refine wpListIn_met 2 18 true rfl hj (by simp [Act.put,hsz]) (fun K hK=>?_)))
 refine hRd.mono ?_
 rintro e W ⟨rfl,h⟩
 gi_wp2
 try simp only [Act.put]
 exact hend _ _ sS sP h
end
section
open Go.RowKit Go.WideShapes Go.ChangeShapes
section
variable {H:Type} {enc:TypeId × Value->H} {P:Program}
theorem bulk_pos(d:DataW H):1<=Rows.uptoBulk d:=by
 cases d with
 |lit l=>cases l <;> simp [Rows.uptoBulk]
 |nil=>simp [Rows.uptoBulk]
 |ptr d=>simp [Rows.uptoBulk]
 |slice elems spare=>simp [Rows.uptoBulk]
 |agg parts=>simp [Rows.uptoBulk]
 |iface t d=>simp [Rows.uptoBulk]
 |map entries=>simp [Rows.uptoBulk]
 |held h=>simp [Rows.uptoBulk]
theorem bulk_len(l:List (DataW H)):l.length<=Rows.uptoBulkAll l:=by
 induction l with
 |nil=>simp [Rows.uptoBulkAll]
 |cons x r ih=>have:=bulk_pos x;simp only [Rows.uptoBulkAll,List.length_cons];omega
theorem bulk_slice(l r:List (DataW H)):Rows.uptoBulk (.slice l r)=Rows.uptoBulkAll l+Rows.uptoBulkAll r+1:=by simp [Rows.uptoBulk]
theorem u8_lit{z:Int}(h:(Lit.int .u8 z).wf=true):0<=z ∧ z<=255:=by simpa [Lit.wf,IntKind.min,IntKind.max,IntKind.signed,IntKind.bits] using h
theorem open_bytes{W:World}{n:Nat}{t e:TypeId}{cs:List Value}{x:DataW H × List MemPlace}(ht:P.underlying t=some (.slice e))(he:P.underlying e=some (.int .u8))(hc:P.cellsOf e=1)
 (h:DataW.trod enc P W 0 (fun _=>true) true n t cs=some x):∃ B bs,cs=[B] ∧ Rd W 1 B bs.length (bv bs) ∧ bs.length+1<=Rows.uptoBulk x.1:=by
 rcases open_ints ht he hc h with ⟨rfl,rfl⟩|⟨a,len,cap,zs,rfl,_,hl,hm,hz,rfl,hcell,hwf⟩
 . exact ⟨_,[],rfl,Rd.nil _ _,by simp [Rows.uptoBulk]⟩
 . simp only [if_true] at hz
   have hbl:((zs.take len).map fun z=>UInt8.ofNat z.toNat).length=len:=by rw [List.length_map,List.length_take];omega
   refine ⟨_,(zs.take len).map fun z=>UInt8.ofNat z.toNat,rfl,?_,?_⟩
   . rw [hbl]
     refine ⟨by rw [bv_length,hbl];omega,some a,cap,rfl,hl,hm,(fun h=>by cases h),fun ad had j u hu=>?_⟩
     cases had
     rw [bv_get,List.getElem?_map] at hu
     cases hj:(zs.take len)[j]? with
     |none=>rw [hj] at hu;simp at hu
     |some z=>
      rw [hj] at hu
      have hz':zs[j]?=some z:=by
       rw [List.getElem?_take] at hj
       split at hj
       . exact hj
       . cases hj
      have hlt:j < zs.length:=(List.getElem?_eq_some_iff.1 hz').1
      have hw:=u8_lit (hwf z (List.mem_of_getElem? hz'))
      have hg:=hcell j hlt
      rw [List.getD_eq_getElem?_getD,hz',Option.getD_some] at hg
      rw [hg]
      simp only [Option.map_some,Option.some.injEq] at hu
      rw [<- hu,UInt8.toNat_ofNat',Nat.mod_eq_of_lt (by omega)]
      congr 2
      omega
   . rw [bulk_slice]
     have:=bulk_len (lits (H:=H) .u8 (zs.take len))
     rw [hbl]
     have hll:(lits (H:=H) .u8 (zs.take len)).length=len:=by simp [lits];omega
     omega
theorem open_bytes_len{W:World}{n:Nat}{t e:TypeId}{cs:List Value}{x:DataW H × List MemPlace}(ht:P.underlying t=some (.slice e))(he:P.underlying e=some (.int .u8))(hc:P.cellsOf e=1)
 (h:DataW.trod enc P W 0 (fun _=>true) true n t cs=some x):∃ B bs,cs=[B] ∧ Rd W 1 B bs.length (bv bs) ∧ bs.length+1<=Rows.uptoBulk x.1 ∧ (bs=[] ∨ ∃ elems spare,x.1=.slice elems spare ∧ elems.length=bs.length):=by
 obtain ⟨B,bs,h1,h2,h3⟩:=open_bytes ht he hc h
 refine ⟨B,bs,h1,h2,h3,?_⟩
 rcases open_ints ht he hc h with ⟨hB,_⟩|⟨a,len,cap,zs,hB,_,_,_,hz,hx,_,_⟩
 . left
   obtain ⟨A,c,hv,_⟩:=h2.2
   rw [h1,hv] at hB
   simp only [List.cons.injEq,Value.slice.injEq,and_true] at hB
   exact List.eq_nil_of_length_eq_zero hB.2.1
 . right
   simp only [if_true] at hz
   refine ⟨_,_,by rw [hx],?_⟩
   obtain ⟨A,c,hv,_⟩:=h2.2
   rw [h1,hv] at hB
   simp only [List.cons.injEq,Value.slice.injEq,and_true] at hB
   simp [lits]
   omega
end
end
section
open Go.RowKit Go.Shelf
attribute [local go_sem] Oper.semAt_some
theorem clone15_any(x:Value)(l:Bs)(w:World)(hx:Rd w 1 x l.length (bv l))(hn:l.length<=140737488355200):
 Calls Tryz.prog 39 #[x] w fun r w'=>∃ u,r=.returned u ∧ NewB l w u w':=by
 obtain ⟨A,c,rfl,-,-,hA,-⟩:=rd_get2 hx
 have Hx:=LH hx
 cases A with
 |none=>
  have hl:=hA rfl
  obtain rfl:l=[]:=List.eq_nil_of_length_eq_zero hl
  clear hx hA hl
  go_enter Tryz.func39,Tryz.ntmps39
  go_wp2
  go_ret
  exact ⟨_,rfl,NewB.nil _ _ kR⟩
 |some ad=>
  clear hx hA
  have N0:Hid (NewB [] w (.slice (some ⟨w.heap.size,0,none⟩) 0 0) (w.alloc (.cells #[] 5))):=LH ⟨ow_new w 5 1 0 #[] rfl (by decide),(Kp.refl [] w).alloc _,fun g hg=>by simp [Value.ownBlock] at hg;omega⟩
  go_enter Tryz.func39,Tryz.ntmps39
  go_wp2_with (at_builtin;refine app_newB rfl (.tmp 5) (.tmp 6) rfl (.slice (some ⟨w.heap.size,0,none⟩) 0 0) [] rfl N0.out (.slice (some ad) l.length c) l rfl (Hx.out.alloc _) (by simp only [List.length_nil];omega) ?_;intro v3 w3 o3;rw [List.nil_append] at o3;have O3:=LH o3;clear o3)
  go_ret
  exact ⟨_,rfl,O3.out⟩
end
section
open Go.RowKit Go.Shelf
theorem ret_mark1{P:Program}{fn:Func}{R:Ending->World->Prop}{a:Act}{w:World}(D:Nat)(ha:a.defers=[markOf D])(hd:w.heap[D]?=some (.deferred (some [])))
 (h:∃ v,(results fn a.tmps).run P (w.putObj D (.deferred none))=.ok v (w.putObj D (.deferred none)) ∧ R (.returned v) (w.putObj D (.deferred none))):bodyPostM Fence.wide 3 P fn R .normal a w:=by
 show LeavesInM Fence.wide 3 P fn a.tmps R a.defers .returning w
 rw [ha]
 exact ⟨by simp,.inl ⟨D,_,rfl,run_takeDeferred hd,h⟩⟩
theorem ret_mark1R{P:Program}{fn:Func}{R:Ending->World->Prop}{a:Act}{w:World}(D:Nat)(ha:a.defers=[markOf D])(hd:w.heap[D]?=some (.deferred (some [])))
 (h:∃ v,(results fn a.tmps).run P (w.putObj D (.deferred none))=.ok v (w.putObj D (.deferred none)) ∧ R (.returned v) (w.putObj D (.deferred none))):bodyPostM Fence.wide 3 P fn R .ret a w:=ret_mark1 D ha hd h
theorem Held.staysL{w0:World}{L:List Res}{l:Nat}(h0:w0.heap.size<=l)(hn:∀ W (o:Obj),Held w0 W L->W.heap[l]?=some o->o.isCells=false->∀ r ∈ L,l ∉ r.fp):StaysL l (fun W=>Held w0 W L):=by
 intro W W' S h
 rcases h with hk|⟨o,o',hlo,ho,rfl⟩
 . exact S.kp hk
 . have hn:=hn W o S hlo ho
   exact ⟨S.k.trans (Kp.putObj l o') (fun g hg=>by simp at hg;right;omega),fun r hr=>r.keep W _ [l] (S.ok r hr) (Kp.putObj l o') (fun b hb hm=>by simp at hm;subst hm;exact hn r hr hb),S.base,S.apart⟩
structure DX where
 r:Nat × Nat
 h:List UInt8
 y:Nat
 g3:Nat
 lo:Nat
 o:Obj
 D:Nat
 d:Obj
def DX.encs (x:DX):Array Value:=#[.agg #[.int .i64 (x.r.1:Int),.int .i64 (x.r.2:Int)],.agg (hashA x.h)]
abbrev peL (gr gh:Nat) (u v:Value) (l:List (List UInt8)) (rs:List (Nat × Nat)):List Res:=[blkR gr 164 #[u],blkR gh 29 #[v],rowR 176 2 u rs.length (rgC rs),rowR 23 32 v l.length (hsC l)]
def DX.lst (x:DX) (L:List Res):List Res:=objR x.lo x.o :: objR x.D x.d :: blkR x.g3 190 #[.func (.yield x.y) #[] #[]] :: L
def DX.Z (w0:World) (L:List Res) (l:Nat) (x:DX) (W:World):Prop:=(l < x.lo ∧ l < x.D) ∧ Held w0 W (x.lst L)
def DX.X (w0:World) (hs:List (List UInt8)) (rs:List (Nat × Nat)) (L:List Res) (l:Nat) (pre:List DX) (x:DX) (W0 W1:World):Prop:=
 rs[pre.length]?=some x.r ∧ x.h=rootF ((hs.drop x.r.1).take (x.r.2 - x.r.1)) ∧ (x.o.isCells=false ∧ x.d.isCells=false) ∧ DX.Z w0 L l x W0
theorem pe_seq(w0:World)(gr gh:Nat)(A B:Option Addr)(c d:Nat)(l:List (List UInt8))(rs:List (Nat × Nat))(hok:HsOk l)(hrl:rs.length<=1000000)(hrs:∀ r ∈ rs,r.1 < r.2 ∧ r.2<=l.length)(w:World)(hw:Held w0 w (peL gr gh (.slice A rs.length c) (.slice B l.length d) l rs))(n:Nat):
 SeqN Tryz.prog n 130 #[Pq gr 0,Pq gh 0] DX.encs (DX.Z w0 (peL gr gh (.slice A rs.length c) (.slice B l.length d) l rs)) (DX.X w0 l rs (peL gr gh (.slice A rs.length c) (.slice B l.length d) l rs)) (fun xs=>xs.length=rs.length) rs.length w:=by
 obtain ⟨L,hL⟩:∃ L,peL gr gh (.slice A rs.length c) (.slice B l.length d) l rs=L:=⟨_,rfl⟩
 intro y J W hyW hyw hk hJ hY h0
 have HP:=hw.kp hk
 refine callsIn_wide.2 ?_
 refine calls_mfr Tryz.func130 rfl 25 rfl (fun a0 hsz hdf hAr=>?_)
 have hz0:a0.tmps.size=25:=hsz
 have D:=hdf
 have o0:=hAr 0 _ rfl
 have o1:=hAr 1 _ rfl
 have o2:=hAr 2 _ rfl
 clear hsz hdf hAr
 refine wp_seq (pe1_r0 W y [] (Held.start W) hz0 o0 (fun a1 w1 hs1 h1=>?_))
 obtain ⟨g3,o3,T⟩:=h1
 obtain ⟨hz1,D,o1,o2⟩:=kq2 hs1 hz0 D o1 o2
 have S:Held w0 w1 (blkR g3 190 #[.func (.yield y) #[] #[]] :: peL gr gh (.slice A rs.length c) (.slice B l.length d) l rs):=(HP.join T).perm List.perm_append_comm
 have hg3:W.heap.size<=g3:=T.base _ (List.mem_cons_self ..) g3 (by simp [blkR])
 have hJ1:=(hJ _).kp h0 T.k
 have hB1:=T.k.size
 refine wp_seq (pe1_r1 gr A rs.length c (S.at_ (l1:=[_])) hz1 o1 (fun a2 w2 hs2 h2=>?_))
 obtain ⟨g,o8,T2⟩:=h2
 obtain ⟨hz2,D,o2,o3⟩:=kq2 hs2 hz1 D o2 o3
 have S:=S.kp T2.k
 have hJ2:=(hJ _).kp hJ1 T2.k
 have hB2:=Nat.le_trans hB1 T2.k.size
 have hwk:=hk.size
 have hwb:=S.k.size
 have HC:=LH (Cells.of S)
 have hrd:∀ V L',Held w0 V (L' ++ peL gr gh (.slice A rs.length c) (.slice B l.length d) l rs)->Rd V 2 (.slice A rs.length c) rs.length (rgC rs):=fun V L' SV=>Rd.of_own (show Ow V 176 2 (.slice A rs.length c) rs.length (rgC rs) from SV.ok (rowR 176 2 (.slice A rs.length c) rs.length (rgC rs)) (by simp))
 have hhd:∀ V L',Held w0 V (L' ++ peL gr gh (.slice A rs.length c) (.slice B l.length d) l rs)->Rd V 32 (.slice B l.length d) l.length (hsC l):=fun V L' SV=>Rd.of_own (show Ow V 23 32 (.slice B l.length d) l.length (hsC l) from SV.ok (rowR 23 32 (.slice B l.length d) l.length (hsC l)) (by simp))
 refine wp_block ?_
 (conv=>arg 2;whnf)
 refine wp_rangeS (n:=(n - 1)+3) (ps:=#[9]) (gf:=145) (lb:=#[Pq g 0]) (o8.eval (by rw [hz2];decide)) (enters_of Tryz.func145 (by kernel_rfl) rfl) (encs:=VR.encs) (Z:=fun _ W=>Rd W 2 (.slice A rs.length c) rs.length (rgC rs)) (X:=fun pre x _ _=>rs[pre.length]?=some x) (S:=fun xs=>xs.length=rs.length) (Sp:=fun _=>True) (N:=rs.length) (SeqW.s (pvs_seq g A c rs hrl w2 (T2.at_ (l1:=[])) (hrd w2 [_] S) _)) (fun _=>stays_rd _ 2 _ _ _) (fun _=>rfl)
  (fun pre W'=>∃ xs:List DX,xs.length=pre.length ∧ J xs W' ∧ Held w0 W' (blkR g3 190 #[.func (.yield y) #[] #[]] :: peL gr gh (.slice A rs.length c) (.slice B l.length d) l rs))
  (fun _ _ _=>False) ?hI ?hIx ?h0
  (fun pre x W'=>∃ xs:List DX,xs.length=pre.length ∧ rs[pre.length]?=some x ∧ J xs W' ∧ Held w0 W' (blkR g3 190 #[.func (.yield y) #[] #[]] :: peL gr gh (.slice A rs.length c) (.slice B l.length d) l rs)) ?hI' ?hprep
  (fun T pre x a' W'=>∃ (xs:List DX) (g4:Nat),xs.length=pre.length ∧ rs[pre.length]?=some x ∧ a'.tmps.size=25 ∧ a'.defers=[] ∧ Sl a' 2 (Pq gh 0) ∧ Sl a' 3 (Pq g3 0) ∧ Sl a' 4 (Pq g4 0) ∧ J xs W' ∧ Held w0 W' (blkR g4 176 #[.int .i64 (x.1:Int),.int .i64 (x.2:Int)] :: blkR g3 190 #[.func (.yield y) #[] #[]] :: peL gr gh (.slice A rs.length c) (.slice B l.length d) l rs)) ?hA ?assign ?body ?done ?stop
 case hI=>exact fun pre=>Stays.ex fun xs=>(Stays.pure _ _).and (((hJ xs).up hB2).and (Held.stays hwb HC.out))
 case hIx=>exact fun c pre=>Stays.pure _ _
 case h0=>exact ⟨[],rfl,hJ2,S⟩
 case hI'=>exact fun pre x=>Stays.ex fun xs=>(Stays.pure _ _).and ((Stays.pure _ _).and (((hJ xs).up hB2).and (Held.stays hwb HC.out)))
 case hprep=>
  rintro pre x W0 W1 ⟨xs,e,hj,S⟩ k hx _
  exact ⟨xs,e,hx,(hJ xs).kp hj k,S.kp k⟩
 case hA=>exact fun pre x a'=>Stays.ex fun xs=>Stays.ex fun g4=>(Stays.pure _ _).and ((Stays.pure _ _).and ((Stays.pure _ _).and ((Stays.pure _ _).and ((Stays.pure _ _).and ((Stays.pure _ _).and ((Stays.pure _ _).and (((hJ xs).up hB2).and (Held.stays hwb HC.out.blk))))))))
 case assign=>
  rintro pre x W' ⟨xs,e,hx,hj,S⟩ K hK
  have hfr:((#[9]:Array Nat).zip (VR.encs x)).foldl (fun t (p,v)=>t.setIfInBounds p v) a2.tmps=a2.tmps.setIfInBounds 9 (.agg #[.int .i64 (x.1:Int),.int .i64 (x.2:Int)]):=by
   rw [<- Array.foldl_toList,Array.toList_zip]
   rfl
  rw [hfr]
  clear hfr
  obtain ⟨a5,ha5⟩:∃ a5:Act,({ tmps:=a2.tmps.setIfInBounds 9 (.agg #[.int .i64 (x.1:Int),.int .i64 (x.2:Int)]),defers:=[] }:Act)=a5:=⟨_,rfl⟩
  rw [ha5]
  obtain ⟨hz5,D5,hkeep,o9⟩:=same_range1 a5 ha5.symm
  clear ha5
  have hz5:=hz5.trans hz2
  refine pe1_r2 w0 x.1 x.2 _ S hz5 o9 (fun a6 w6 hs6 h6 k6=>?_)
  obtain ⟨g4,o4,S6⟩:=h6
  exact hK _ _ k6 ⟨xs,g4,e,hx,hs6.size.trans hz5,hs6.defers.trans D5,hs6.q (hkeep 2 _ (by decide) o2),hs6.q (hkeep 3 _ (by decide) o3),o4,(hJ xs).kp hj k6,S6⟩
 case body=>
  rintro pre x a5 W5 - ⟨xs,g4,e,hx,hz5,D5,o2,o3,o4,hj,S⟩ hlen ⟨o,ho,hoc⟩ ⟨d0,hd,hdc⟩
  have hrx:=hrs x (List.mem_of_getElem? hx)
  have hx32:=rootF_length ((hok.drop x.1).take (x.2 - x.1))
  have HCs:=pst_any B d l hok x.1 x.2 hrx.1 hrx.2 W5 (hhd W5 [_,_] S)
  generalize hxh:rootF ((l.drop x.1).take (x.2 - x.1))=xh at *
  refine wpIn_block ?_
  (conv=>arg 4;whnf)
  refine wpIn_seq (pe1_r3 w0 gh g4 x.1 x.2 B l.length d (S.at_ (l1:=[_,_,_])) (S.at_ (l1:=[])) xh hx32 HCs _ S hz5 o2 o4 (fun a6 w6 hs6 o6 h6 k6=>?_))
  obtain ⟨g5,o5,S6⟩:=h6
  obtain ⟨hz6,-,o3,o4⟩:=kq2 hs6 hz5 rfl o3 o4
  have hj6:=(hJ xs).kp hj k6
  have ho6:w6.heap[w2.heap.size+1]?=some o:=(k6.block _ (Array.getElem?_eq_some_iff.1 ho).1 (by simp)).trans ho
  have hd6:w6.heap[w2.heap.size]?=some d0:=(k6.block _ (Array.getElem?_eq_some_iff.1 hd).1 (by simp)).trans hd
  have SZ:Held w0 w6 (DX.lst ⟨x,xh,y,g3,w2.heap.size+1,o,w2.heap.size,d0⟩ (peL gr gh (.slice A rs.length c) (.slice B l.length d) l rs)):=by
   have h:=S6.drop.drop.withTwo HC.out hwb (Nat.le_succ _) (Nat.le_refl _) (show w2.heap.size+1 ≠ w2.heap.size by omega) ho6 hoc hd6 hdc
   exact h
  have hne:y < w2.heap.size+1 ∧ y < w2.heap.size:=⟨by omega,by omega⟩
  refine wpIn_seq (pe1_r4 y g3 g4 g5 x.1 x.2 xh hx32 (S6.at_ (l1:=[_,_])) (S6.at_ (l1:=[_])) (S6.at_ (l1:=[])) _ (hY xs ⟨x,xh,y,g3,w2.heap.size+1,o,w2.heap.size,d0⟩ w6 w6 hj6 kR ⟨by rw [e];exact hx,hxh.symm,⟨hoc,hdc⟩,hne,SZ⟩ (by omega)) hz6 o3 o4 o5 o6 (fun a7 w7 hs7 o24 h7=>?_))
  obtain ⟨hj7,-,hZ7⟩:=h7
  have hz7:=hs7.size.trans hz6
  refine wpIn_cond_false (o24.eval (by rw [hz7];decide)) (wpIn_skip ?_)
  simp only [Exit.inBlock,Exit.then]
  exact ⟨Held.same2 hZ7 ho hd,hrd w7 [_,_,_] hZ7,_,by rw [List.length_append,List.length_append,e];rfl,hj7,Held.drop (Held.drop hZ7)⟩
 case done=>
  rintro xs0 W' hS ⟨xs,e,hj,S'⟩ hD
  simp only [Exit.inBlock,Exit.then]
  exact ret_mark1 w2.heap.size (by show markOf _ :: a2.defers=_;rw [D]) hD ⟨_,res_u0 (by rfl),⟨_,rfl⟩,xs,by omega,(hJ xs).put hj _ hB2 hD rfl⟩
 case stop=>
  rintro c pre W' _ h
  exact h.elim
end
section
variable {Q:Exit->Act->World->Prop} {a:Act} {w:World}
open Go.RowKit Go.Shelf
attribute [local go_sem] Oper.semAt_some
theorem pv_r0(hsz:a.tmps.size=31):RG0 0 Tryz.f88 Q a w fun a' q'=>Sl a' 4 (.slice none 0 0)->Sl a' 5 (.int .i64 (0:Int))->q':=rO
theorem pv_r1(A:Option Addr)(n c:Nat)(hn:n < 9223372036854775808)(z:Int)(hsz:a.tmps.size=31)(o0:Sl a 0 (.slice A n c))(o1:Sl a 1 (.int .i64 z)):RG1 false 1 Tryz.f88 Q a w fun a' W q'=>(∃ v,Sl a' 6 v ∧ Sl a' 7 (.int .i64 (if z < 0 ∨ (n:Int) < z then 4 else 0)) ∧ Held w W [rowR 176 2 v (stF z (n:Int)).length (rgC (stF z (n:Int)))])->q':=by
 intro hend
 refine wp_region_lit ?_
 (conv=>arg 4;whnf)
 unfold Sl at o0 o1
 have HC:=LH (csteps_any z (n:Int) (by omega) w)
 clear hn
 obtain ⟨cd,hcd⟩:∃ cd:Int,Hid ((if z < 0 ∨ (n:Int) < z then 4 else 0)=cd):=⟨_,LH rfl⟩
 obtain ⟨st,hst⟩:∃ st,Hid (stF z (n:Int)=st):=⟨_,LH rfl⟩
 rw [hcd.out,hst.out] at HC
 go_wp2_with fail
 refine HC.out.mono ?_
 rintro e w1 ⟨v,rfl,S1⟩
 have S1:=LH S1
 go_wp2_with fail
 rw [<- hst.out] at S1
 try simp only [Act.put]
 exact hend _ _ tS (⟨v,sP0,(by unfold Sl;rw [hcd.out];simp [hsz]),S1.out⟩)
theorem pv_r2(z:Int)(hsz:a.tmps.size=31)(o7:Sl a 7 (.int .i64 z)):RG0 2 Tryz.f88 Q a w fun a' q'=>Sl a' 19 (.bool (z != 0))->q':=rO
theorem pv_r3(z:Int)(hsz:a.tmps.size=31)(o7:Sl a 7 (.int .i64 z)):RG0 3 Tryz.f88 Q a w fun a' q'=>Sl a' 4 (.slice none 0 0)->Sl a' 5 (.int .i64 z)->q':=rO
theorem pv_r4(w0:World)(L:List Res)(S:Held w0 w L)(hsz:a.tmps.size=31):RG1 false 4 Tryz.f88 Q a w fun a' W q'=>(∃ g,Sl a' 8 (Pq g 0) ∧ Held w0 W (blkR g 29 #[.slice none 0 0] :: L))->q':=by
 intro hend
 refine wp_region_lit ?_
 (conv=>arg 4;whnf)
 have S1:=LH (S.newBlk 29 #[.slice none 0 0])
 go_wp2
 try simp only [Act.put]
 exact hend _ _ tS (⟨w.heap.size,sP0,S1.out⟩)
theorem pv_r5(A B:Option Addr)(c d:Nat)(l:List (List UInt8))(rs:List (Nat × Nat))(hll:l.length<=1000000)(hrl:rs.length<=1000000)(hva:Rd w 32 (.slice A l.length c) l.length (hsC l))(hvb:Rd w 2 (.slice B rs.length d) rs.length (rgC rs))(hsz:a.tmps.size=31)(o0:Sl a 0 (.slice A l.length c))(o6:Sl a 6 (.slice B rs.length d)):RG1 false 5 Tryz.f88 Q a w fun a' W q'=>(∃ g2 g3 v u,Sl a' 23 (.func (.func 130) #[] #[Pq g3 0,Pq g2 0]) ∧ Held w W (peL g3 g2 u v l rs))->q':=by
 intro hend
 refine wp_region_lit ?_
 (conv=>arg 4;whnf)
 unfold Sl at o0 o6
 have HC:=LH (peach_any A B c d l rs hll hrl w hva hvb)
 clear hva hvb hll hrl
 obtain ⟨n,hn⟩:∃ n,Hid (l.length=n):=⟨_,LH rfl⟩
 obtain ⟨m,hm⟩:∃ n,Hid (rs.length=n):=⟨_,LH rfl⟩
 rw [hn.out] at o0 HC
 rw [hm.out] at o6 HC
 go_wp2_with fail
 refine HC.out.mono ?_
 rintro e w1 ⟨g2,g3,v,u,rfl,S1⟩
 have S1:=LH S1
 go_wp2_with fail
 rw [<- hn.out,<- hm.out] at S1
 try simp only [Act.put]
 exact hend _ _ tS (⟨g2,g3,v,u,sP0,S1.out⟩)
theorem pv_r6{rl nn:Nat}(w0:World)(x:Bs)(hx32:x.length=32)(L:List Res)(S:Held w0 w L)(hsz:a.tmps.size=31)(o25:Sl a 25 (.agg (hashA x)))
 (hend:∀ a' W,Same a a' [10]->(∃ g,Sl a' 10 (Pq g 0) ∧ Held w0 W (blkR g 23 (hashA x) :: L))->(Kp [] w W)->Q .normal a' W):(Code.region 6 (opsOf 6 Tryz.f88).toArray false).wpIn (Fence.wide.inRound rl) nn Tryz.prog Q a w:=by
 refine in_region (l:=(opsOf 6 Tryz.f88)) (by kernel_rfl) ?_
 (conv=>arg 4;whnf)
 unfold Sl at o25
 have hch:Hid ((hashA (x)).size=32):=LH (by rw [hashA_size,hx32])
 have Och:=LH (hashA_one (x))
 obtain ⟨ch,Ech⟩:∃ cs,Hid (hashA (x)=cs):=⟨_,LH rfl⟩
 rw [Ech.out] at hch Och
 rw [Ech.out] at o25
 have S1:=LH (S.newBlk 23 (hashA (List.replicate 32 0)))
 have T1:=LH ((Held.start w).newBlk 23 (hashA (List.replicate 32 0)))
 clear S
 go_wp2_with (refine wpList_store_blk rfl 23 (.tmp 10) (.tmp 25) rfl w.heap.size aE ch (aO o25) 23 _ (S1.out.at_ (l1:=[])) (by rw [hch.out];exact Tryz.infoHashP) (by rw [hch.out];rfl) Och.out ?_;intro w7 b7 k7;have S7:=LH (Held.setBlk (l1:=[]) S1.out b7 k7);have T7:=LH (Held.setBlk (l1:=[]) T1.out b7 k7);clear b7 k7)
 rw [<- Ech.out] at S7
 try simp only [Act.put]
 exact ⟨rfl,hend _ _ sS (⟨_,sP0,S7.out⟩) (T7.out.k)⟩
theorem pv_r7{rl nn:Nat}(w0:World)(g8 g10 q:Nat)(hq:q<=1000000)(u:Value)(xs:List Value)(x:Bs)(hx32:x.length=32)(L:List Res)(S:Held w0 w (rowR 23 32 u q xs :: blkR g8 29 #[u] :: blkR g10 23 (hashA x) :: L))(hsz:a.tmps.size=31)(o8:Sl a 8 (Pq g8 0))(o10:Sl a 10 (Pq g10 0))
 (hend:∀ a' W,Same a a' [26,27,28,29]->(∃ v,Held w0 W (rowR 23 32 v (q+1) (xs ++ bv x) :: blkR g8 29 #[v] :: blkR g10 23 (hashA x) :: L))->Q .normal a' W):(Code.region 7 (opsOf 7 Tryz.f88).toArray false).wpIn (Fence.wide.inRound rl) nn Tryz.prog Q a w:=by
 refine in_region (l:=(opsOf 7 Tryz.f88)) (by kernel_rfl) ?_
 (conv=>arg 4;whnf)
 unfold Sl at o8 o10
 have hch9:Hid ((hashA x).toList=bv x):=LH rfl
 have hch:Hid ((hashA (x)).size=32):=LH (by rw [hashA_size,hx32])
 have Och:=LH (hashA_one (x))
 obtain ⟨ch,Ech⟩:∃ cs,Hid (hashA (x)=cs):=⟨_,LH rfl⟩
 rw [Ech.out] at hch Och
 rw [Ech.out] at hch9 S
 obtain ⟨Au,cu,rfl,-,-⟩:=ow_form (show Ow w 23 32 u q xs from S.at_ (l1:=[]))
 have c0:w.cell? ⟨g8,0,none⟩=some (.slice Au q cu):=(show Blk w g8 29 _ from S.at_ (l1:=[_])).cell 0
 have HB:=LH (show Blk w g10 23 ch from S.at_ (l1:=[_,_]))
 have S1:=LH (S.alloc (.cells ch 23))
 have HN:=LH (Rd.of_own (ow_new w 23 32 1 ch (by rw [hch.out]) (by decide)))
 have hb1:Hid (q+1<=maxLen ∧ (q+1) * 32<=140737488355328):=LH (by unfold maxLen;omega)
 clear S hq
 go_wp2_with (first
  |(refine wpList_load_blk rfl 23 (.tmp 10) rfl g10 (aO o10) 23 _ HB.out _ Tryz.underlying23 rfl (by rw [hch.out];exact Tryz.infoHashP) ?_)
  |(refine wpList_hash1 rfl (.tmp 27) rfl ch hch.out aE ?_)
  |(at_builtin;refine wpList_appH rfl (.tmp 26) (.tmp 28) 29 23 rfl Tryz.infoHashZ Tryz.underlying29 rfl (by decide) (.slice Au q cu) q xs aE S1.out (.slice (some ⟨w.heap.size,0,none⟩) 1 1) 1 ch.toList aE HN.out Och.out hb1.out.1 hb1.out.2 ?_;intro v2 w2 S3;obtain ⟨A2,c2,hv2,-,-⟩:=ow_form (show Ow w2 23 32 v2 (q+1) _ from S3.at_ (l1:=[]));subst hv2;have c33:w2.cell? ⟨g8,0,none⟩=some (.slice Au q cu):=(show Blk w2 g8 29 _ from S3.at_ (l1:=[_])).cell 0;have f33:=(show Blk w2 g8 29 _ from S3.at_ (l1:=[_])).frozen 0;have S4:=LH (S3.set (l1:=[_]) 0 (.slice A2 (q+1) c2));clear S3))
 rw [hch9.out] at S4
 rw [<- Ech.out] at S4
 try simp only [Act.put]
 exact ⟨rfl,hend _ _ sS (⟨_,S4.out⟩)⟩
theorem pv_r8(g8:Nat)(u:Value)(hu:∃ A n c,u=.slice A n c)(hb:Blk w g8 29 #[u])(hsz:a.tmps.size=31)(o8:Sl a 8 (Pq g8 0)):RG0 8 Tryz.f88 Q a w fun a' q'=>Sl a' 4 (u)->Sl a' 5 (.int .i64 (0:Int))->q':=by
 obtain ⟨A,n,c,rfl⟩:=hu
 have c0:w.cell? ⟨g8,0,none⟩=some (.slice A n c):=hb.cell 0
 clear hb
 exact rO
end
section
open Go.RowKit Go.Shelf
theorem Held.meet{w0 W:World}{R L L':List Res}(S:Held w0 W L)(T:Held w0 W (R ++ L'))(h:∀ r ∈ R,∀ s ∈ L,∀ b,b ∈ r.fp->b ∉ s.fp):Held w0 W (R ++ L):=
 ⟨S.k,fun r hr=>(List.mem_append.1 hr).elim (fun h=>T.ok r (List.mem_append_left _ h)) (S.ok r),fun r hr=>(List.mem_append.1 hr).elim (fun h=>T.base r (List.mem_append_left _ h)) (S.base r),
  List.pairwise_append.2 ⟨(List.pairwise_append.1 T.apart).1,S.apart,fun r hr s hs b hb hb'=>h r hr s hs b hb hb'⟩⟩
theorem obj_cell{W:World}{l:Nat}{o:Obj}(hl:W.heap[l]?=some o)(ho:o.isCells=false){s:Res}(hc:Cellular s)(hs:s.ok W):l ∉ s.fp:=fun hm=>by
 obtain ⟨o',h1,h2⟩:=hc W hs l hm
 rw [hl] at h1
 cases h1
 rw [ho] at h2
 cases h2
theorem blk_row{W:World}{g:Nat}{t e:TypeId}{cs:Array Value}{s n:Nat}{v:Value}{xs:List Value}(hb:(blkR g t cs).ok W)(hr:(rowR e s v n xs).ok W)(hne:e ≠ t):∀ b,b ∈ (blkR g t cs).fp->b ∉ (rowR e s v n xs).fp:=fun b hb1 hb2=>by
 have e1:b=g:=by simpa [blkR] using hb1
 subst e1
 have e2:v.ownBlock=some b:=by simpa [rowR] using hb2
 rcases (show Ow W e s v n xs from hr).2 with ⟨rfl,_⟩|⟨g2,cap,cur,rfl,_,hg,_⟩
 . simp [Value.ownBlock] at e2
 . have e3:g2=b:=by simpa [Value.ownBlock] using e2
   subst e3
   have h1:=(show W.heap[g2]?=some (.cells cs t) from hb).symm.trans hg
   injection h1 with h1
   injection h1 with h1 h2
   exact hne h2.symm
theorem blk_blk{W:World}{g g':Nat}{t t':TypeId}{cs cs':Array Value}(hb:(blkR g t cs).ok W)(hr:(blkR g' t' cs').ok W)(hne:t' ≠ t):∀ b,b ∈ (blkR g t cs).fp->b ∉ (blkR g' t' cs').fp:=fun b hb1 hb2=>by
 have e1:b=g:=by simpa [blkR] using hb1
 have e2:b=g':=by simpa [blkR] using hb2
 subst e1
 subst e2
 have h1:=(show W.heap[b]?=some (.cells cs t) from hb).symm.trans (show W.heap[b]?=some (.cells cs' t') from hr)
 injection h1 with h1
 injection h1 with h1 h2
 exact hne h2.symm
def AC (R:List Res):Prop:=∀ r ∈ R,Cellular r
theorem AC.nil:AC []:=fun r h=>by cases h
theorem AC.row{R:List Res}{e:TypeId}{s:Nat}{v:Value}{n:Nat}{xs:List Value}(h:AC R):AC (rowR e s v n xs :: R):=fun r hr=>by
 rcases List.mem_cons.1 hr with rfl|hr
 . exact cellular_row _ _ _ _ _
 . exact h r hr
theorem AC.blk{R:List Res}{g:Nat}{t:TypeId}{cs:Array Value}(h:AC R):AC (blkR g t cs :: R):=fun r hr=>by
 rcases List.mem_cons.1 hr with rfl|hr
 . exact cellular_blk _ _ _
 . exact h r hr
def prvF (m:Int) (l:List (List UInt8)):List (List UInt8):=(stF m l.length).map fun r=>rootF ((l.drop r.1).take (r.2 - r.1))
theorem stF_in{m:Int}{n:Nat}:∀ r ∈ stF m n,r.1 < r.2 ∧ r.2<=n:=by
 intro r hr
 by_cases h:m<=0 ∨ (n:Int) < m
 . rw [stF_no h] at hr
   cases hr
 . obtain ⟨k,rfl⟩:∃ k:Nat,m=k:=⟨m.toNat,by omega⟩
   rw [stF_yes (by omega) (by omega)] at hr
   have:=stepsN_in 65 k 0 n true (by omega) (by omega) r hr
   omega
theorem prvF_length(m:Int)(l:List (List UInt8)):(prvF m l).length=(stF m l.length).length:=by simp [prvF]
theorem prvF_ok{m:Int}{l:List (List UInt8)}(hok:HsOk l):HsOk (prvF m l):=by
 intro h hh
 obtain ⟨r,-,rfl⟩:=List.mem_map.1 hh
 exact rootF_length ((hok.drop r.1).take (r.2 - r.1))
abbrev pvL (g8:Nat) (u:Value) (hs:List (List UInt8)) (v:Value) (rs:List (Nat × Nat)) (R:List Res):List Res:=rowR 23 32 u hs.length (hsC hs) :: blkR g8 29 #[u] :: rowR 176 2 v rs.length (rgC rs) :: R
theorem hsC_snoc(hs:List (List UInt8))(x:Bs):hsC (hs ++ [x])=hsC hs ++ bv x:=by simp [hsC]
theorem cprove_any(A:Option Addr)(c:Nat)(l:List (List UInt8))(hok:HsOk l)(hl:l.length<=1000000)(m:Int)(w:World)(hv:Rd w 32 (.slice A l.length c) l.length (hsC l)):
 Calls Tryz.prog 88 #[.slice A l.length c,.int .i64 m] w fun e w'=>∃ v,e=.returned (.tuple #[v,.int .i64 (if m < 0 ∨ (l.length:Int) < m then 4 else 0)]) ∧ Held w w' [rowR 23 32 v (prvF m l).length (hsC (prvF m l))]:=by
 refine calls_mfr Tryz.func88 rfl 31 rfl (fun a0 hsz hdf hAr=>?_)
 have hz0:a0.tmps.size=31:=hsz
 have D:=hdf
 have o0:=hAr 0 _ rfl
 have o1:=hAr 1 _ rfl
 refine wp_seq (pv_r0 hz0 (fun a1 hs1 o4 o5=>?_))
 obtain ⟨hz1,D,o0,o1⟩:=kq2 hs1 hz0 D o0 o1
 refine wp_seq (pv_r1 A l.length c (by omega) m hz1 o0 o1 (fun a2 w2 hs2 h2=>?_))
 obtain ⟨hz2,D,o0,o1,o4,o5⟩:=kq4 hs2 hz1 D o0 o1 o4 o5
 obtain ⟨vs,o6,o7,S⟩:=h2
 refine wp_seq (wp_seq (pv_r2 _ hz2 o7 (fun a3 hs3 o19=>?_)))
 obtain ⟨hz3,D,o0,o6,o7⟩:=kq3 hs3 hz2 D o0 o6 o7
 by_cases hbad:m < 0 ∨ (l.length:Int) < m
 . rw [if_pos hbad] at o7 o19 ⊢
   refine wcT o19 ?_
   refine wp_seq (pv_r3 _ hz3 o7 (fun a4 hs4 o4 o5=>?_))
   obtain ⟨hz4,D,o7⟩:=kq1 hs4 hz3 D o7
   refine wp_ret ?_
   simp only [Exit.then]
   have hno:prvF m l=[]:=by unfold prvF;rw [stF_no (by omega)];rfl
   refine ret_marks [] D List.nodup_nil (fun D hD=>by cases hD) (fun V kV=>?_)
   refine ⟨_,res_u2 (by rfl) (o4.eval (by rw [hz4];decide)) (o5.eval (by rw [hz4];decide)),_,rfl,?_⟩
   rw [hno]
   exact (Held.start w).rownew (World.ownsRow_nil _ _ _ _:Ow V 23 32 (.slice none 0 0) 0 []) (S.k.trans kV (by simp)) (fun g hg=>by cases hg)
 . rw [if_neg hbad] at o7 o19 ⊢
   refine wcF o19 (wp_skip ?_)
   simp only [Exit.then]
   refine wp_seq (pv_r4 w _ S hz3 (fun a4 w4 hs4 h4=>?_))
   obtain ⟨hz4,D,o0,o6⟩:=kq2 hs4 hz3 D o0 o6
   obtain ⟨g8,o8,S⟩:=h4
   obtain ⟨st,hst⟩:∃ st,stF m (l.length:Int)=st:=⟨_,rfl⟩
   have hstl:st.length<=65:=by rw [<- hst];exact stF_length m l.length
   have hsti:∀ r ∈ st,r.1 < r.2 ∧ r.2<=l.length:=by rw [<- hst];exact stF_in
   have hprv:prvF m l=st.map fun r=>rootF ((l.drop r.1).take (r.2 - r.1)):=by unfold prvF;rw [hst]
   rw [hst] at S
   obtain ⟨B,d,rfl,-,-⟩:=ow_form (show Ow w4 176 2 vs st.length (rgC st) from S.at_ (l1:=[_]))
   refine wp_seq (wp_seq (pv_r5 A B c d l st hl (by omega) (rd_old hv S.k) (Rd.of_own (S.at_ (l1:=[_]))) hz4 o0 o6 (fun a5 w5 hs5 h5=>?_)))
   obtain ⟨hz5,D,o0,o6,o8⟩:=kq3 hs5 hz4 D o0 o6 o8
   obtain ⟨gh,gr,v,u,o23,T⟩:=h5
   obtain ⟨A1,c1,rfl,-,-⟩:=ow_form (show Ow w5 176 2 u st.length (rgC st) from T.at_ (l1:=[_,_]))
   obtain ⟨B1,d1,rfl,-,-⟩:=ow_form (show Ow w5 23 32 v l.length (hsC l) from T.at_ (l1:=[_,_,_]))
   have S:=S.join T
   have S:=S.rownew (World.ownsRow_nil _ _ _ _:Ow w5 23 32 (.slice none 0 0) 0 []) kR (fun g hg=>by cases hg)
   have HP:Held w w5 (peL gr gh (.slice A1 st.length c1) (.slice B1 l.length d1) l st):=S.drop.drop.drop
   have S:Held w w5 (pvL g8 (.slice none 0 0) [] (.slice B st.length d) st (peL gr gh (.slice A1 st.length c1) (.slice B1 l.length d1) l st)):=S
   clear T
   have hwb:=S.k.size
   have HC:=LH (Cells.of S)
   have hcell:∀ (g8:Nat) (u:Value) (hs:List (List UInt8)),Cells w5.heap.size (pvL g8 u hs (.slice B st.length d) st (peL gr gh (.slice A1 st.length c1) (.slice B1 l.length d1) l st)):=fun g8 u hs=>Cells.nil.row.row.blk.blk.row.blk.row
   have hobj:∀ (x:DX) (R:List Res),w5.heap.size+1 < x.lo ∧ w5.heap.size+1 < x.D->AC R->StaysL (w5.heap.size+1) (fun W=>Held w W (x.lst R)):=fun x R hne hR=>Held.staysL (by omega) (fun W o SW ho hoc r hr=>by
    rcases List.mem_cons.1 hr with rfl|hr
    . have:=hne.1
      simp [objR]
      omega
    rcases List.mem_cons.1 hr with rfl|hr
    . have:=hne.2
      simp [objR]
      omega
    . exact obj_cell ho hoc (by rcases List.mem_cons.1 hr with rfl|hr;exact cellular_blk _ _ _;exact hR r hr) (SW.ok r (by simp [DX.lst,hr])))
   refine wp_block ?_
   (conv=>arg 2;whnf)
   refine wp_rangeN (n:=3) (ps:=#[24,25]) (gf:=130) (lb:=#[Pq gr 0,Pq gh 0]) (o23.eval (by rw [hz5];decide)) (enters_of Tryz.func130 (by kernel_rfl) rfl) (encs:=DX.encs) (Z:=DX.Z w (peL gr gh (.slice A1 st.length c1) (.slice B1 l.length d1) l st)) (X:=DX.X w l st (peL gr gh (.slice A1 st.length c1) (.slice B1 l.length d1) l st)) (S:=fun xs=>xs.length=st.length) (N:=st.length) (pe_seq w gr gh A1 B1 c1 d1 l st hok (by omega) hsti w5 HP _) ?hZ (fun _=>rfl)
    (fun pre W=>∃ u,Held w W (pvL g8 u ((prvF m l).take pre.length) (.slice B st.length d) st (peL gr gh (.slice A1 st.length c1) (.slice B1 l.length d1) l st))) ?hI ?h0
    (fun pre x W=>(prvF m l)[pre.length]?=some x.h ∧ (w5.heap.size+1 < x.lo ∧ w5.heap.size+1 < x.D) ∧ ∃ u,Held w W (x.lst (pvL g8 u ((prvF m l).take pre.length) (.slice B st.length d) st (peL gr gh (.slice A1 st.length c1) (.slice B1 l.length d1) l st)))) ?hI' ?hprep
    (fun T pre x a' W=>(prvF m l)[pre.length]?=some x.h ∧ (w5.heap.size+1 < x.lo ∧ w5.heap.size+1 < x.D) ∧ ∃ u g10,a'.tmps.size=31 ∧ a'.defers=[] ∧ Sl a' 8 (Pq g8 0) ∧ Sl a' 10 (Pq g10 0) ∧ Held w W (x.lst (blkR g10 23 (hashA x.h) :: pvL g8 u ((prvF m l).take pre.length) (.slice B st.length d) st (peL gr gh (.slice A1 st.length c1) (.slice B1 l.length d1) l st)))) ?hA ?assign ?body ?done
   case hZ=>
    rintro x W W' ⟨hne,SW⟩ hk
    exact ⟨hne,hobj x _ hne AC.nil.row.row.blk.blk W W' SW hk⟩
   case hI=>exact fun pre=>Stays.ex fun u=>Held.stays hwb (hcell _ _ _)
   case h0=>exact ⟨_,S⟩
   case hI'=>
    rintro pre x W W' ⟨e,hne,u,SW⟩ hk
    exact ⟨e,hne,u,hobj x _ hne AC.nil.row.row.blk.blk.row.blk.row W W' SW hk⟩
   case hprep=>
    rintro pre x W0 W1 ⟨u,S⟩ k ⟨hx,hxh,⟨hoc,hdc⟩,hne,T⟩ hlen
    have hx':(prvF m l)[pre.length]?=some x.h:=by rw [hprv,List.getElem?_map,hx,hxh];rfl
    refine ⟨hx',hne,u,?_⟩
    refine Held.kp ?_ k
    have hAC:AC (pvL g8 u ((prvF m l).take pre.length) (.slice B st.length d) st (peL gr gh (.slice A1 st.length c1) (.slice B1 l.length d1) l st)):=AC.nil.row.row.blk.blk.row.blk.row
    refine Held.meet (R:=[objR x.lo x.o,objR x.D x.d,blkR x.g3 190 #[.func (.yield x.y) #[] #[]]]) S T (fun r hr s hs b hb=>?_)
    rcases List.mem_cons.1 hr with rfl|hr
    . obtain rfl:b=x.lo:=by simpa [objR] using hb
      exact obj_cell (T.ok (objR x.lo x.o) (by simp [DX.lst])) hoc (hAC s hs) (S.ok s hs)
    rcases List.mem_cons.1 hr with rfl|hr
    . obtain rfl:b=x.D:=by simpa [objR] using hb
      exact obj_cell (T.ok (objR x.D x.d) (by simp [DX.lst])) hdc (hAC s hs) (S.ok s hs)
    obtain rfl:=List.mem_singleton.1 hr
    have hg:=T.ok (blkR x.g3 190 #[.func (.yield x.y) #[] #[]]) (by simp [DX.lst])
    have hs0:=S.ok s hs
    rcases List.mem_cons.1 hs with rfl|hs
    . exact blk_row hg hs0 (by decide) b hb
    rcases List.mem_cons.1 hs with rfl|hs
    . exact blk_blk hg hs0 (by decide) b hb
    rcases List.mem_cons.1 hs with rfl|hs
    . exact blk_row hg hs0 (by decide) b hb
    have T2:Held w W0 ([objR x.lo x.o,objR x.D x.d,blkR x.g3 190 #[.func (.yield x.y) #[] #[]]] ++ peL gr gh (.slice A1 st.length c1) (.slice B1 l.length d1) l st):=T
    exact (List.pairwise_append.1 T2.apart).2.2 _ (by simp) s hs b hb
   case hA=>
    rintro pre x a' W W' ⟨e,hne,u,g10,h1,h2,h3,h4,SW⟩ hk
    exact ⟨e,hne,u,g10,h1,h2,h3,h4,hobj x _ hne AC.nil.row.row.blk.blk.row.blk.row.blk W W' SW hk⟩
   case assign=>
    rintro pre x W ⟨hx,hne,u,S⟩ K hK
    have hfr:((#[24,25]:Array Nat).zip (DX.encs x)).foldl (fun t (p,v)=>t.setIfInBounds p v) a5.tmps=(a5.tmps.setIfInBounds 24 (.agg #[.int .i64 (x.r.1:Int),.int .i64 (x.r.2:Int)])).setIfInBounds 25 (.agg (hashA x.h)):=by
     rw [<- Array.foldl_toList,Array.toList_zip]
     rfl
    rw [hfr]
    clear hfr
    obtain ⟨a6,ha6⟩:∃ a6:Act,({ tmps:=(a5.tmps.setIfInBounds 24 (.agg #[.int .i64 (x.r.1:Int),.int .i64 (x.r.2:Int)])).setIfInBounds 25 (.agg (hashA x.h)),defers:=[] }:Act)=a6:=⟨_,rfl⟩
    rw [ha6]
    obtain ⟨hz6,D6,hkeep,o24,o25⟩:=same_range2 (by decide) a6 ha6.symm
    clear ha6
    have hz6:=hz6.trans hz5
    refine pv_r6 w x.h (prvF_ok hok _ (List.mem_of_getElem? hx)) _ S hz6 o25 (fun a7 w7 hs7 h7 k7=>?_)
    obtain ⟨g10,o10,S7⟩:=h7
    unfold DX.lst at S7
    exact hK _ _ k7 ⟨hx,hne,u,g10,hs7.size.trans hz6,hs7.defers.trans D6,hs7.q (hkeep 8 _ (by decide) o8),o10,((S7.pull 3 rfl).pull 3 rfl).pull 3 rfl⟩
   case body=>
    rintro pre x a6 W6 - ⟨hx,hne,u,g10,hz6,D6,o8,o10,S⟩ hlen ⟨o,ho,hoc⟩ ⟨d0,hd,hdc⟩
    have hAC:AC (blkR x.g3 190 #[.func (.yield x.y) #[] #[]] :: blkR g10 23 (hashA x.h) :: pvL g8 u ((prvF m l).take pre.length) (.slice B st.length d) st (peL gr gh (.slice A1 st.length c1) (.slice B1 l.length d1) l st)):=AC.nil.row.row.blk.blk.row.blk.row.blk.blk
    have hno:∀ (k:Nat) (o:Obj),k < x.lo->k < x.D->W6.heap[k]?=some o->o.isCells=false->∀ r ∈ x.lst (blkR g10 23 (hashA x.h) :: pvL g8 u ((prvF m l).take pre.length) (.slice B st.length d) st (peL gr gh (.slice A1 st.length c1) (.slice B1 l.length d1) l st)),k ∉ r.fp:=fun k o h1 h2 ho hoc r hr=>by
     have hr0:=hr
     rcases List.mem_cons.1 hr with rfl|hr
     . exact fun hm=>by
        have:=List.mem_singleton.1 hm
        omega
     rcases List.mem_cons.1 hr with rfl|hr
     . exact fun hm=>by
        have:=List.mem_singleton.1 hm
        omega
     exact obj_cell ho hoc (hAC r hr) (S.ok r hr0)
    have S1:=S.withObj (l:=w5.heap.size) (by omega) hd (hno _ _ (by omega) (by omega) hd hdc)
    have S2:=S1.withObj (l:=w5.heap.size+1) (by omega) ho (fun r hr=>by
     rcases List.mem_cons.1 hr with rfl|hr
     . exact fun hm=>by
        have:=List.mem_singleton.1 hm
        omega
     . exact hno _ _ (by omega) (by omega) ho hoc r hr)
    unfold DX.lst at S2
    have S3:=((((((((S2.pull 4 rfl).pull 4 rfl).pull 4 rfl).pull 4 rfl).pull 4 rfl).pull 5 rfl).pull 7 rfl).pull 7 rfl)
    have hql:((prvF m l).take pre.length).length<=1000000:=by rw [List.length_take];omega
    have hlen2:((prvF m l).take pre.length) ++ [x.h]=(prvF m l).take (pre ++ [x]).length:=by
     rw [List.length_append,List.length_singleton,List.take_add_one,hx]
     rfl
    refine wpIn_block ?_
    (conv=>arg 4;whnf)
    refine pv_r7 w g8 g10 _ hql u _ x.h (prvF_ok hok _ (List.mem_of_getElem? hx)) _ S3 hz6 o8 o10 (fun a7 w7 hs7 h7=>?_)
    obtain ⟨v2,S7⟩:=h7
    simp only [Exit.inBlock,Exit.then]
    have S8:=S7.drop.drop.drop
    rw [<- hsC_snoc,show ((prvF m l).take pre.length).length+1=((prvF m l).take pre.length ++ [x.h]).length by simp,hlen2] at S7
    refine ⟨S8.same2 ho hd,⟨hne,S8.drop.drop.sub ?_⟩,v2,S7.sub ?_⟩
    . exact .cons_cons _ (.cons_cons _ (.cons_cons _ (.cons _ (List.Sublist.refl _))))
    . exact .cons_cons _ (.cons_cons _ (.cons _ (.cons _ (.cons _ (.cons _ (.cons _ (.cons _ (List.Sublist.refl _))))))))
   case done=>
    rintro xs W hS ⟨u,S⟩ hD
    simp only [Exit.inBlock,Exit.then]
    have hfull:(prvF m l).take xs.length=prvF m l:=List.take_of_length_le (by rw [hS,hprv,List.length_map];exact Nat.le_refl _)
    rw [hfull] at S
    obtain ⟨Au,cu,rfl,-,-⟩:=ow_form (show Ow W 23 32 u (prvF m l).length (hsC (prvF m l)) from S.at_ (l1:=[]))
    obtain ⟨a6,ha6⟩:∃ a6:Act,({ a5 with defers:=markOf w5.heap.size :: a5.defers }:Act)=a6:=⟨_,rfl⟩
    have hz6:a6.tmps.size=31:=by rw [<- ha6];exact hz5
    have D6:a6.defers=[markOf w5.heap.size]:=by rw [<- ha6];show markOf _ :: a5.defers=_;rw [D]
    have o86:Sl a6 8 (Pq g8 0):=by rw [<- ha6];exact o8
    rw [ha6]
    refine wp_seq (pv_r8 g8 _ ⟨_,_,_,rfl⟩ (S.at_ (l1:=[_])) hz6 o86 (fun a7 hs7 o4 o5=>?_))
    have hz7:=hs7.size.trans hz6
    refine wp_ret ?_
    exact ret_mark1R w5.heap.size (hs7.defers.trans D6) hD ⟨_,res_u2 (by rfl) (o4.eval (by rw [hz7];decide)) (o5.eval (by rw [hz7];decide)),_,rfl,(Held.stays hwb (Cells.nil.row)).put (S.sub (.cons_cons _ (List.nil_sublist _))) _ (Nat.le_refl _) hD rfl⟩
end
section
open Go.RowKit Go.Shelf
attribute [local go_sem] Oper.semAt_some
end
section
variable {Q:Exit->Act->World->Prop} {a:Act} {w:World}
open Go.RowKit Go.Shelf
attribute [local go_sem] Oper.semAt_some
def mirC (k0 k1 e h:Value) (la:List Value) (nd:Bool) (fk:List Value) (fd md:Bool):Array Value:=(k0 :: k1 :: e :: h :: (la ++ .bool nd :: (fk ++ [.bool fd,.bool md]))).toArray
section
variable {k0 k1 e h:Value} {la:List Value} {nd:Bool} {fk:List Value} {fd md:Bool}
theorem mirC_size(h1:la.length=34)(h2:fk.length=101):(mirC k0 k1 e h la nd fk fd md).size=142:=by simp [mirC,h1,h2]
theorem mirC_2:(mirC k0 k1 e h la nd fk fd md)[2]?=some e:=by simp [mirC]
theorem mirC_3:(mirC k0 k1 e h la nd fk fd md)[3]?=some h:=by simp [mirC]
theorem mirC_0:(mirC k0 k1 e h la nd fk fd md)[0]?=some k0:=by simp [mirC]
theorem mirC_1:(mirC k0 k1 e h la nd fk fd md)[1]?=some k1:=by simp [mirC]
theorem mirC_la(h1:la.length=34){j:Nat}{u:Value}(hj:la[j]?=some u):(mirC k0 k1 e h la nd fk fd md)[j+4]?=some u:=by
 have:=(List.getElem?_eq_some_iff.1 hj).1
 simp only [mirC,List.getElem?_toArray,List.getElem?_cons_succ]
 rw [List.getElem?_append_left (by omega)]
 exact hj
theorem mirC_nd(h1:la.length=34):(mirC k0 k1 e h la nd fk fd md)[38]?=some (.bool nd):=by
 simp only [mirC,List.getElem?_toArray,List.getElem?_cons_succ]
 rw [List.getElem?_append_right (by omega),h1]
 rfl
theorem mirC_fk(h1:la.length=34)(h2:fk.length=101){j:Nat}{u:Value}(hj:fk[j]?=some u):(mirC k0 k1 e h la nd fk fd md)[j+39]?=some u:=by
 have:=(List.getElem?_eq_some_iff.1 hj).1
 simp only [mirC,List.getElem?_toArray,List.getElem?_cons_succ]
 rw [List.getElem?_append_right (by omega),h1,show j+35 - 34=j+1 by omega,List.getElem?_cons_succ,List.getElem?_append_left (by omega)]
 exact hj
theorem mirC_fd(h1:la.length=34)(h2:fk.length=101):(mirC k0 k1 e h la nd fk fd md)[140]?=some (.bool fd):=by
 simp only [mirC,List.getElem?_toArray,List.getElem?_cons_succ]
 rw [List.getElem?_append_right (by omega),h1,List.getElem?_cons_succ,List.getElem?_append_right (by omega),h2]
 rfl
theorem mirC_md(h1:la.length=34)(h2:fk.length=101):(mirC k0 k1 e h la nd fk fd md)[141]?=some (.bool md):=by
 simp only [mirC,List.getElem?_toArray,List.getElem?_cons_succ]
 rw [List.getElem?_append_right (by omega),h1,List.getElem?_cons_succ,List.getElem?_append_right (by omega),h2]
 rfl
end
theorem Tryz.built_pointZ:Tryz.prog.built 25 []=some (ptA 0 (List.replicate 32 0)):=by kernel_rfl
theorem mrt_r0(w0:World)(sv:Value)(A:Option Addr)(n c:Nat)(L:List Res)(S:Held w0 w L)(hsz:a.tmps.size=13)(o0:Sl a 0 (.agg #[sv,.slice A n c])):RG1 false 0 Tryz.f30 Q a w fun a' W q'=>(∃ g,Sl a' 1 (Pq g 0) ∧ Held w0 W (blkR g 34 #[sv,.slice A n c] :: L))->q':=by
 intro hend
 refine wp_region_lit ?_
 (conv=>arg 4;whnf)
 unfold Sl at o0
 have S1:=LH (S.newBlk 34 #[sv,.slice A n c])
 go_wp2
 try simp only [Act.put]
 exact hend _ _ tS (⟨w.heap.size,sP0,S1.out⟩)
theorem mrt_r1(w0:World)(g1:Nat)(sv:Value)(hsv:∃ s,sv=.string s)(A:Option Addr)(n c:Nat)(x:Bs)(hx32:x.length=32)(cd:Int)(hb:Blk w g1 34 #[sv,.slice A n c])(HC0:Calls Tryz.prog 69 #[.agg (ptA 0 (List.replicate 32 0)),.agg #[sv,.slice A n c]] w fun e w'=>e=.returned (.tuple #[.agg (hashA x),.int .i64 cd]) ∧ Kp [] w w')(L:List Res)(S:Held w0 w L)(hsz:a.tmps.size=13)(o1:Sl a 1 (Pq g1 0)):RG1 false 1 Tryz.f30 Q a w fun a' W q'=>Sl a' 4 (.int .i64 cd)->(Held w0 W L)->q':=by
 intro hend
 refine wp_region_lit ?_
 (conv=>arg 4;whnf)
 unfold Sl at o1
 have hch:Hid ((hashA (x)).size=32):=LH (by rw [hashA_size,hx32])
 have Och:=LH (hashA_one (x))
 obtain ⟨ch,Ech⟩:∃ cs,Hid (hashA (x)=cs):=⟨_,LH rfl⟩
 rw [Ech.out] at hch Och
 rw [Ech.out] at HC0
 have HB:=LH Tryz.built_pointZ
 obtain ⟨cp,hcp⟩:∃ cp,Hid (ptA 0 (List.replicate 32 0)=cp):=⟨_,LH rfl⟩
 rw [hcp.out] at HC0 HB
 have HC:=LH HC0
 clear HC0
 obtain ⟨s,rfl⟩:=hsv
 obtain ⟨q1,q2,q3,q4⟩:=Blk.c2 hb
 clear hb
 have S:=LH S
 refine wpList_buildP rfl 25 _ rfl [] (by simp) _ HB.out ?_
 go_wp2_with fail
 refine HC.out.mono ?_
 rintro e w1 ⟨rfl,k1⟩
 have S1:=LH ((S.out.kp k1).newBlk 23 (hashA (List.replicate 32 0)))
 clear k1
 go_wp2_with (refine wpList_store_blk rfl 23 (.tmp 3) (.tmp 9) rfl w1.heap.size aE ch aE 23 _ (S1.out.at_ (l1:=[])) (by rw [hch.out];exact Tryz.infoHashP) (by rw [hch.out];rfl) Och.out ?_;intro w7 b7 k7;have S7:=LH (Held.setBlk (l1:=[]) S1.out b7 k7);clear b7 k7)
 try simp only [Act.put]
 exact hend _ _ tS sP (S7.out.drop)
theorem mrt_r2(cd:Int)(hsz:a.tmps.size=13)(o4:Sl a 4 (.int .i64 cd)):RG0 2 Tryz.f30 Q a w fun a' q'=>Sl a' 2 (.bool (cd == 0))->q':=rO
theorem mright_any(nm:Bs)(hnm:nm.length<=9223372036854775807)(A:Option Addr)(c:Nat)(sec:Bs)(w:World)(LDw:LD w)(hv:Rd w 1 (.slice A sec.length c) sec.length (bv sec)):
 Calls Tryz.prog 30 #[.agg #[strV nm,.slice A sec.length c]] w fun e w'=>e=.returned (.bool (keyOk nm sec)) ∧ Kp [] w w':=by
 refine calls_fr Tryz.func30 rfl 13 rfl (fun a0 hsz hdf hAr=>?_)
 have hz0:a0.tmps.size=13:=hsz
 have D:=hdf
 have o0:=hAr 0 _ rfl
 refine wp_seq (mrt_r0 w _ A sec.length c [] (Held.start w) hz0 o0 (fun a1 w1 hs1 h1=>?_))
 obtain ⟨hz1,D,o0⟩:=kq1 hs1 hz0 D o0
 obtain ⟨g1,o1,S⟩:=h1
 have HC:=ssm_any 0 (by omega) (List.replicate 32 0) (by simp) ⟨nm.toArray⟩ (by rw [str_size];exact hnm) A c sec w1 (LDw.kp S.k) (rd_old hv S.k)
 refine wp_seq (mrt_r1 w g1 (strV nm) ⟨_,rfl⟩ A sec.length c _ (by unfold sumV;split;exact macF_length _ _;simp) _ (S.at_ (l1:=[])) HC _ S hz1 o1 (fun a2 w2 hs2 o4 S=>?_))
 obtain ⟨hz2,D,o1⟩:=kq1 hs2 hz1 D o1
 refine wp_seq (mrt_r2 _ hz2 o4 (fun a3 hs3 o2=>?_))
 obtain ⟨hz3,D,o1,o4⟩:=kq2 hs3 hz2 D o1 o4
 refine wp_ret ?_
 refine bodyPost_ret (res_u1 (by rfl) (o2.eval (by rw [hz3];decide))) D ⟨?_,S.k⟩
 have e:sumOk 0 nm sec=keyOk nm sec:=by simp [sumOk]
 show Ending.returned (.bool ((if sumOk 0 (nm.toArray).toList sec then (0:Int) else 2) == 0))=_
 rw [List.toList_toArray,e]
 cases keyOk nm sec <;> rfl
end
section
variable {Q:Exit->Act->World->Prop} {a:Act} {w:World}
open Go.RowKit Go.Shelf
attribute [local go_sem] Oper.semAt_some
def MirAt (W:World) (p:Value) (md:Bool):Prop:=(p=.pointer none ∧ md=false) ∨ ∃ g cs,p=Pq g 0 ∧ Blk W g 85 cs ∧ cs[141]?=some (.bool md)
theorem MirAt.kp{W W':World}{p:Value}{md:Bool}(h:MirAt W p md)(k:Kp [] W W'):MirAt W' p md:=by
 rcases h with h|⟨g,cs,h1,h2,h3⟩
 . exact .inl h
 . exact .inr ⟨g,cs,h1,h2.kp k (by simp),h3⟩
theorem mno_r0(hsz:a.tmps.size=12):RG0 0 Tryz.f50 Q a w fun a' q'=>Sl a' 2 (.bool false)->q':=rO
theorem mno_r1N(hsz:a.tmps.size=12)(o0:Sl a 0 (.pointer none)):RG1 false 1 Tryz.f50 Q a w fun a' W q'=>Kp [] w W->Sl a' 2 (.bool true)->q':=by
 intro hend
 have hap:=pa 1 Tryz.f50
 refine wp_region_invS (l:=(opsOf 1 Tryz.f50)) (fun i v W=>match i with|0=>v=.pointer none|1=>v=.bool true|2=>v=.bool true|8=>v=.bool true|9=>v=.bool true|_=>True) hap ?_ ?_ ?_
 . exact fun _ _ _ _ h _=>h
 . and_intros <;> try (intro vs A' W hA hW hd hu K hK;try (refine wpOp_free _ rfl rfl ?_;conv=>arg 2;whnf))
   . exact qa1 (eO 0 o0)
   . exact qa1 (vD 3 0)
   . exact qa1 (vD 4 1)
   . exact qS 2 false (vD 5 2)
   . exact qS 2 false (vD 5 2)
   . exact qS 2 false (vD 5 2)
   . exact qS 2 false (vD 5 2)
   . exact qS 2 false (vD 5 2)
   . exact qa2 (vD 5 2) (eU 10 7)
   . exact qa1 (vD 11 8)
   . trivial
 . intro vs W hW hp
   rw [putAll_eq]
   exact hend _ W sQ hW (sW (hp 9 sB))
theorem mno_r1Y(g:Nat)(cs:Array Value)(md:Bool)(hb:Blk w g 85 cs)(h9:cs[141]?=some (.bool md))(hsz:a.tmps.size=12)(o0:Sl a 0 (Pq g 0)):RG1 false 1 Tryz.f50 Q a w fun a' W q'=>Kp [] w W->Sl a' 2 (.bool (!md))->q':=by
 intro hend
 have hap:=pa 1 Tryz.f50
 refine wp_region_invS (l:=(opsOf 1 Tryz.f50)) (fun i v W=>match i with|0=>v=Pq g 0|1=>v=.bool false|2=>v=.bool false|3=>v=Pq g 0|4=>v=Pq g 0|5=>v=Pq g 141|6=>v=.bool md|7=>v=.bool (!md)|8=>v=.bool (!md)|9=>v=.bool (!md)|_=>True) hap ?_ ?_ ?_
 . exact fun _ _ _ _ h _=>h
 . and_intros <;> try (intro vs A' W hA hW hd hu K hK;try (refine wpOp_free _ rfl rfl ?_;conv=>arg 2;whnf))
   . exact qa1 (eO 0 o0)
   . exact qa1 (vD 3 0)
   . exact qa1 (vD 4 1)
   . exact gq1 2 (vD 5 2) (eO 0 o0)
   . exact gq1 2 (vD 5 2) (vD 6 3)
   . exact gq1 2 (vD 5 2) (vD 7 4)
   . refine qG 2 (vD 5 2) ?_;(conv=>arg 2;whnf)
     have c0:W.cell? ⟨g,141,none⟩=some (.bool md):=by rw [(hb.k0 hW).cell];exact h9
     exact qa1 (vD 8 5)
   . exact gq1 2 (vD 5 2) (vD 9 6)
   . exact qa2 (vD 5 2) (vD 10 7)
   . exact qa1 (vD 11 8)
   . trivial
 . intro vs W hW hp
   rw [putAll_eq]
   exact hend _ W sQ hW (sW (hp 9 sB))
theorem mnone_any(p:Value)(md:Bool)(w:World)(h:MirAt w p md):Calls Tryz.prog 50 #[p] w fun e w'=>e=.returned (.bool (!md)) ∧ Kp [] w w':=by
 rcases h with ⟨rfl,rfl⟩|⟨g,cs,rfl,hb,h9⟩
 . refine calls_fr Tryz.func50 rfl 12 rfl (fun a0 hsz hdf hAr=>?_)
   have hz0:a0.tmps.size=12:=hsz
   have D:=hdf
   have o0:=hAr 0 _ rfl
   refine wp_seq (mno_r0 hz0 (fun a1 hs1 o2=>?_))
   obtain ⟨hz1,D,o0⟩:=kq1 hs1 hz0 D o0
   refine wp_seq (mno_r1N hz1 o0 (fun a2 w2 hs2 k2 o2=>?_))
   obtain ⟨hz2,D,o0⟩:=kq1 hs2 hz1 D o0
   refine wp_ret ?_
   exact bodyPost_ret (res_u1 (by rfl) (o2.eval (by rw [hz2];decide))) D ⟨rfl,k2⟩
 . refine calls_fr Tryz.func50 rfl 12 rfl (fun a0 hsz hdf hAr=>?_)
   have hz0:a0.tmps.size=12:=hsz
   have D:=hdf
   have o0:=hAr 0 _ rfl
   refine wp_seq (mno_r0 hz0 (fun a1 hs1 o2=>?_))
   obtain ⟨hz1,D,o0⟩:=kq1 hs1 hz0 D o0
   refine wp_seq (mno_r1Y g cs md hb h9 hz1 o0 (fun a2 w2 hs2 k2 o2=>?_))
   obtain ⟨hz2,D,o0⟩:=kq1 hs2 hz1 D o0
   refine wp_ret ?_
   exact bodyPost_ret (res_u1 (by rfl) (o2.eval (by rw [hz2];decide))) D ⟨rfl,k2⟩
theorem msz_r0(hsz:a.tmps.size=11):RG0 0 Tryz.f17 Q a w fun a' q'=>Sl a' 2 (.int .i64 (0:Int))->q':=rO
theorem msz_r2(hsz:a.tmps.size=11):RG0 2 Tryz.f17 Q a w fun a' q'=>Sl a' 2 (.int .i64 (0:Int))->q':=rO
theorem msz_r1(p:Value)(md:Bool)(HC0:Calls Tryz.prog 50 #[p] w fun e w'=>e=.returned (.bool (!md)) ∧ Kp [] w w')(hsz:a.tmps.size=11)(o0:Sl a 0 (p)):RG1 false 1 Tryz.f17 Q a w fun a' W q'=>Sl a' 4 (.bool (!md))->(Kp [] w W)->q':=by
 intro hend
 refine wp_region_lit ?_
 (conv=>arg 4;whnf)
 unfold Sl at o0
 have HC:=LH HC0
 clear HC0
 obtain ⟨b,hb⟩:∃ b,Hid ((!md)=b):=⟨_,LH rfl⟩
 rw [hb.out] at HC hend
 go_wp2_with fail
 refine HC.out.mono ?_
 rintro e w1 ⟨rfl,k1⟩
 have k1:=LH k1
 go_wp2_with fail
 try simp only [Act.put]
 exact hend _ _ tS sP (k1.out)
theorem msz_r3(g:Nat)(cs:Array Value)(A:Option Addr)(n c:Nat)(hb:Blk w g 85 cs)(h2:cs[2]?=some (.slice A n c))(hsz:a.tmps.size=11)(o0:Sl a 0 (Pq g 0)):RG0 3 Tryz.f17 Q a w fun a' q'=>Sl a' 2 (Nq n)->q':=by
 have c0:w.cell? ⟨g,2,none⟩=some (.slice A n c):=by rw [hb.cell];exact h2
 clear hb h2
 exact rO
theorem msize_none(p:Value)(w:World)(h:MirAt w p false):Calls Tryz.prog 17 #[p] w fun e w'=>e=.returned (.int .i64 0) ∧ Kp [] w w':=by
 refine calls_fr Tryz.func17 rfl 11 rfl (fun a0 hsz hdf hAr=>?_)
 have hz0:a0.tmps.size=11:=hsz
 have D:=hdf
 have o0:=hAr 0 _ rfl
 refine wp_seq (msz_r0 hz0 (fun a1 hs1 o2=>?_))
 obtain ⟨hz1,D,o0⟩:=kq1 hs1 hz0 D o0
 refine wp_seq (wp_seq (msz_r1 p false (mnone_any p false w h) hz1 o0 (fun a2 w2 hs2 o4 k2=>?_)))
 obtain ⟨hz2,D,o0⟩:=kq1 hs2 hz1 D o0
 refine wcT o4 ?_
 refine wp_seq (msz_r2 hz2 (fun a3 hs3 o2=>?_))
 obtain ⟨hz3,D,o0,o4⟩:=kq2 hs3 hz2 D o0 o4
 refine wp_ret ?_
 try simp only [Exit.then]
 exact bodyPost_ret (res_u1 (by rfl) (o2.eval (by rw [hz3];decide))) D ⟨rfl,k2⟩
theorem msize_any(g:Nat)(cs:Array Value)(A:Option Addr)(n c:Nat)(w:World)(hb:Blk w g 85 cs)(h9:cs[141]?=some (.bool true))(h2:cs[2]?=some (.slice A n c)):Calls Tryz.prog 17 #[Pq g 0] w fun e w'=>e=.returned (Nq n) ∧ Kp [] w w':=by
 refine calls_fr Tryz.func17 rfl 11 rfl (fun a0 hsz hdf hAr=>?_)
 have hz0:a0.tmps.size=11:=hsz
 have D:=hdf
 have o0:=hAr 0 _ rfl
 refine wp_seq (msz_r0 hz0 (fun a1 hs1 o2=>?_))
 obtain ⟨hz1,D,o0⟩:=kq1 hs1 hz0 D o0
 refine wp_seq (wp_seq (msz_r1 _ true (mnone_any _ true w (.inr ⟨g,cs,rfl,hb,h9⟩)) hz1 o0 (fun a2 w2 hs2 o4 k2=>?_)))
 obtain ⟨hz2,D,o0⟩:=kq1 hs2 hz1 D o0
 refine wcF o4 (wp_skip ?_)
 simp only [Exit.then]
 refine wp_seq (msz_r3 g cs A n c (hb.kp k2 (by simp)) h2 hz2 o0 (fun a3 hs3 o2=>?_))
 obtain ⟨hz3,D,o0⟩:=kq1 hs3 hz2 D o0
 refine wp_ret ?_
 exact bodyPost_ret (res_u1 (by rfl) (o2.eval (by rw [hz3];decide))) D ⟨rfl,k2⟩
end
section
variable {Q:Exit->Act->World->Prop} {a:Act} {w:World}
open Go.RowKit Go.Shelf
attribute [local go_sem] Oper.semAt_some
theorem mnt_r0(w0:World)(cn:Array Value)(hcn:cn.size=34)(h1:∀ u,u ∈ cn.toList->u.oneCell'=true)(L:List Res)(S:Held w0 w L)(hsz:a.tmps.size=8)(o0:Sl a 0 (.agg cn)):RG1 false 0 Tryz.f46 Q a w fun a' W q'=>(∃ g1 g2,Sl a' 1 (Pq g1 0) ∧ Sl a' 2 (Pq g2 0) ∧ Held w0 W (blkR g2 28 zeroN :: blkR g1 28 cn :: L))->q':=by
 intro hend
 refine wp_region_lit ?_
 (conv=>arg 4;whnf)
 unfold Sl at o0
 have S1:=LH ((S.newBlk 28 cn).newBlkN 28 zeroN (g:=w.heap.size+1) (by simp))
 have hcn:=LH hcn
 have h1:=LH h1
 go_wp2
 try simp only [Act.put]
 exact hend _ _ tS (⟨w.heap.size,w.heap.size+1,sP0,sP0,S1.out⟩)
theorem mnt_r1(w0:World)(g1:Nat)(cn:Array Value)(A:Option Addr)(n c m:Nat)(xs:List Value)(hb:Blk w g1 28 cn)(h33:cn[33]?=some (.slice A n c))(L:List Res)(HC0:Calls Tryz.prog 89 #[.slice A n c] w fun e w'=>∃ v,e=.returned v ∧ Held w0 w' (rowR 89 33 v m xs :: blkR g1 28 cn :: L))(hsz:a.tmps.size=8)(o1:Sl a 1 (Pq g1 0)):RG1 false 1 Tryz.f46 Q a w fun a' W q'=>(∃ v,Held w0 W (rowR 89 33 v m xs :: blkR g1 28 (cn.setIfInBounds 33 v) :: L))->q':=by
 intro hend
 refine wp_region_lit ?_
 (conv=>arg 4;whnf)
 unfold Sl at o1
 have HC:=LH HC0
 clear HC0
 have c33:w.cell? ⟨g1,33,none⟩=some (.slice A n c):=by rw [hb.cell];exact h33
 have h33:=LH h33
 clear hb
 go_wp2_with fail
 refine HC.out.mono ?_
 rintro e w1 ⟨v,rfl,S1⟩
 obtain ⟨A2,c2,hv,-,-⟩:=ow_form (show Ow w1 89 33 v m xs from S1.at_ (l1:=[]))
 subst hv
 have d33:w1.cell? ⟨g1,33,none⟩=some (.slice A n c):=by rw [(show Blk w1 g1 28 cn from S1.at_ (l1:=[_])).cell];exact h33.out
 have f33:=(show Blk w1 g1 28 cn from S1.at_ (l1:=[_])).frozen 33
 have S2:=LH (S1.set (l1:=[_]) 33 (.slice A2 m c2))
 clear S1
 go_wp2_with fail
 try simp only [Act.put]
 exact hend _ _ tS (⟨_,S2.out⟩)
theorem mnt_r2(w0:World)(g1 g2:Nat)(cn:Array Value)(hcn:cn.size=34)(h1:∀ u,u ∈ cn.toList->u.oneCell'=true)(L:List Res)(S:Held w0 w (blkR g2 28 zeroN :: blkR g1 28 cn :: L))(hsz:a.tmps.size=8)(o1:Sl a 1 (Pq g1 0))(o2:Sl a 2 (Pq g2 0)):RG1 false 2 Tryz.f46 Q a w fun a' W q'=>(Held w0 W (blkR g2 28 cn :: blkR g1 28 cn :: L))->q':=by
 intro hend
 refine wp_region_lit ?_
 (conv=>arg 4;whnf)
 unfold Sl at o1 o2
 have S:=LH S
 have hcn:=LH hcn
 have h1:=LH h1
 have hz:Hid (zeroN.size=34):=LH (by unfold zeroN;exact ntA_size (by simp))
 obtain ⟨zn,hzn⟩:∃ zn,Hid (zeroN=zn):=⟨_,LH rfl⟩
 rw [hzn.out] at S hz
 go_wp2_with (first|(refine wpList_load_blk rfl 28 (.tmp 1) rfl g1 (aO o1) 28 _ (S.out.at_ (l1:=[_])) _ Tryz.underlying28 rfl (by rw [hcn.out];exact Tryz.infoNote) ?_)|(refine wpList_store_blk rfl 28 (.tmp 2) (.tmp 7) rfl g2 (aO o2) cn aE 28 _ (S.out.at_ (l1:=[])) (by rw [hcn.out];exact Tryz.infoNote) (by rw [hz.out,hcn.out]) h1.out ?_;intro w7 b7 k7;have S7:=LH (Held.setBlk (l1:=[]) S.out b7 k7);clear b7 k7))
 try simp only [Act.put]
 exact hend _ _ tS (S7.out)
theorem mnote_any(w0:World)(L:List Res)(z:Int)(h:Bs)(hh:h.length=32)(A:Option Addr)(c:Nat)(l:List SigD)(hok:SgOk l)(hll:l.length<=1000000)(w:World)(S:Held w0 w L)(HV:∀ V,Held w0 V L->Rd V 33 (.slice A l.length c) l.length (sgsC l)):
 Calls Tryz.prog 46 #[.agg (ntA z h (.slice A l.length c))] w fun e w'=>∃ v,e=.returned (.agg (ntA z h v)) ∧ Held w0 w' (rowR 89 33 v l.length (sgsC l) :: L):=by
 refine calls_fr Tryz.func46 rfl 8 rfl (fun a0 hsz hdf hAr=>?_)
 have hz0:a0.tmps.size=8:=hsz
 have D:=hdf
 have o0:=hAr 0 _ rfl
 refine wp_seq (mnt_r0 w0 _ (ntA_size hh) (ntA_one rfl) L S hz0 o0 (fun a1 w1 hs1 h1=>?_))
 obtain ⟨hz1,D,o0⟩:=kq1 hs1 hz0 D o0
 obtain ⟨g1,g2,o1,o2,S⟩:=h1
 have HC:=sclone_any w0 (blkR g1 28 (ntA z h (.slice A l.length c)) :: blkR g2 28 zeroN :: L) A c l hok hll w1 (S.pull 1 rfl) (fun V SV=>HV V SV.drop.drop)
 refine wp_seq (mnt_r1 w0 g1 _ A l.length c _ _ (S.at_ (l1:=[_])) (ntA_sigs hh) _ HC hz1 o1 (fun a2 w2 hs2 h2=>?_))
 obtain ⟨hz2,D,o1,o2⟩:=kq2 hs2 hz1 D o1 o2
 obtain ⟨v,S⟩:=h2
 obtain ⟨A2,c2,rfl,-,-⟩:=ow_form (show Ow w2 89 33 v l.length (sgsC l) from S.at_ (l1:=[]))
 rw [ntA_setSigs hh] at S
 refine wp_seq (mnt_r2 w0 g1 g2 _ (ntA_size hh) (ntA_one rfl) _ ((((S.pull 0 rfl).pull 1 rfl).pull 2 rfl)) hz2 o1 o2 (fun a3 w3 hs3 S=>?_))
 obtain ⟨hz3,D,o1,o2⟩:=kq2 hs3 hz2 D o1 o2
 refine wp_ret ?_
 exact bodyPost_ret (results_cell1 (by rfl) (o2.eval (by rw [hz3];decide)) (S.at_ (l1:=[])) Tryz.underlying28 rfl (by rw [ntA_size hh];exact Tryz.infoNote)) D ⟨_,rfl,S.drop.drop⟩
end
section
variable {Q:Exit->Act->World->Prop} {a:Act} {w:World}
open Go.RowKit Go.Shelf
attribute [local go_sem] Oper.semAt_some
def zNote:List Value:=ntL 0 (List.replicate 32 0) (.slice none 0 0)
def zFork:List Value:=zNote ++ (zNote ++ (bv (List.replicate 32 0) ++ [.slice none 0 0]))
theorem zNote_length:zNote.length=34:=rfl
theorem zFork_length:zFork.length=101:=rfl
def mirN (k0 k1:Value):Array Value:=mirC k0 k1 (.slice none 0 0) (.slice none 0 0) zNote false zFork false true
def mhasN (k0 k1:Value):Array Value:=(k0 :: k1 :: .slice none 0 0 :: .slice none 0 0 :: (zNote ++ .bool false :: (zFork ++ [.bool false]))).toArray
theorem Tryz.built_keyV(s:ByteArray)(A:Option Addr)(n c:Nat):Tryz.prog.built 34 [(0,.string s),(1,.slice A n c)]=some #[.string s,.slice A n c]:=by kernel_rfl
theorem Tryz.built_hasV(s:ByteArray)(A:Option Addr)(n c:Nat):Tryz.prog.built 83 [(0,.agg #[.string s,.slice A n c])]=some (mhasN (.string s) (.slice A n c)):=by kernel_rfl
theorem Tryz.built_mirV(s:ByteArray)(A:Option Addr)(n c:Nat):Tryz.prog.built 85 [(0,.agg (mhasN (.string s) (.slice A n c))),(1,.bool true)]=some (mirN (.string s) (.slice A n c)):=by kernel_rfl
theorem mirN_one(s:ByteArray)(A:Option Addr)(n c:Nat):∀ u ∈ (mirN (.string s) (.slice A n c)).toList,u.oneCell'=true:=by
 intro u hu
 simp only [mirN,mirC,List.toList_toArray,List.mem_cons,List.mem_append,zNote,zFork,ntL,List.mem_singleton,List.not_mem_nil,or_false] at hu
 rcases hu with rfl|rfl|rfl|rfl|(rfl|hu|rfl)|rfl|((rfl|hu|rfl)|(rfl|hu|rfl)|hu|rfl)|rfl|rfl <;> first|rfl|exact bv_one _ _ hu
theorem mnw_r0(w0:World)(sv:Value)(A:Option Addr)(n c:Nat)(L:List Res)(S:Held w0 w L)(hsz:a.tmps.size=16)(o0:Sl a 0 (.agg #[sv,.slice A n c])):RG1 false 0 Tryz.f13 Q a w fun a' W q'=>Sl a' 2 (.pointer none)->Sl a' 3 (.int .i64 (0:Int))->(∃ g,Sl a' 1 (Pq g 0) ∧ Held w0 W (blkR g 34 #[sv,.slice A n c] :: L))->q':=by
 intro hend
 refine wp_region_lit ?_
 (conv=>arg 4;whnf)
 unfold Sl at o0
 have S1:=LH (S.newBlk 34 #[sv,.slice A n c])
 go_wp2
 try simp only [Act.put]
 exact hend _ _ tS sP sP (⟨w.heap.size,sP0,S1.out⟩)
theorem mnw_r1(g1:Nat)(s:ByteArray)(A:Option Addr)(n c:Nat)(b:Bool)(hb:Blk w g1 34 #[.string s,.slice A n c])(HC0:Calls Tryz.prog 30 #[.agg #[.string s,.slice A n c]] w fun e w'=>e=.returned (.bool b) ∧ Kp [] w w')(hsz:a.tmps.size=16)(o1:Sl a 1 (Pq g1 0)):RG1 false 1 Tryz.f13 Q a w fun a' W q'=>Sl a' 6 (.bool (!b))->(Kp [] w W)->q':=by
 intro hend
 refine wp_region_lit ?_
 (conv=>arg 4;whnf)
 unfold Sl at o1
 have HC:=LH HC0
 clear HC0
 obtain ⟨q1,q2,q3,q4⟩:=Blk.c2 hb
 clear hb
 go_wp2_with fail
 refine HC.out.mono ?_
 rintro e w1 ⟨rfl,k1⟩
 have k1:=LH k1
 go_wp2_with fail
 try simp only [Act.put]
 exact hend _ _ tS sP (k1.out)
theorem mnw_r2(hsz:a.tmps.size=16):RG0 2 Tryz.f13 Q a w fun a' q'=>Sl a' 2 (.pointer none)->Sl a' 3 (.int .i64 (2:Int))->q':=rO
theorem mnw_r3(w0:World)(g1:Nat)(s:ByteArray)(A:Option Addr)(c:Nat)(sec:Bs)(HC0:∀ V,Kp [] w0 V->Calls Tryz.prog 39 #[.slice A sec.length c] V fun r w'=>∃ u,r=.returned u ∧ NewB sec V u w')(L:List Res)(hsz:a.tmps.size=16)(o1:Sl a 1 (Pq g1 0))
 (S0:Held w0 w (blkR g1 34 #[.string s,.slice A sec.length c] :: L))
 (hend:∀ (a':Act) (vs:Nat->Value) (gs:Nat->Nat) (W:World),Same a a' [7,8,9,10,11,12,13,14,15,2,3]->Sl a' 2 (Pq (gs 8) 0)->Sl a' 3 (.int .i64 (0:Int))->Held w0 W (rowR 5 1 (vs 4) sec.length (bv sec) :: blkR (gs 8) 85 (mirN (.string s) (vs 4)) :: blkR g1 34 #[.string s,.slice A sec.length c] :: L)->Q .normal a' W):(Code.region 3 (opsOf 3 Tryz.f13).toArray true).wp Tryz.prog Q a w:=by
 have hap:=pa 3 Tryz.f13
 refine wp_region_sep (Γ:=Nat) (l:=(opsOf 3 Tryz.f13)) 3 [0,1,2,3,4,5,6,7,8,9,10,11,12,13]
  (fun i vs gs=>match i with|0=>vs 0=Pq g1 0|1=>vs 1=.string s|2=>vs 2=Pq g1 1|3=>vs 3=.slice A sec.length c|5=>vs 5=.agg #[.string s,vs 4]|6=>vs 6=.agg (mhasN (.string s) (vs 4))|7=>vs 7=.agg (mirN (.string s) (vs 4))|8=>vs 8=Pq (gs 8) 0|9=>vs 9=Pq (gs 8) 0|10=>vs 10=.int .i64 (0:Int)|_=>True)
  (fun i vs gs=>match i with|4=>[rowR 5 1 (vs 4) sec.length (bv sec)]|8=>[blkR (gs 8) 85 (mirN (.string s) (vs 4))]|12=>[blkR g1 34 #[.string s,.slice A sec.length c]]|13=>L|_=>[])
  (fun i=>match i with  | _=>[]) (fun i=>match i with|1=>[12]|3=>[12]|5=>[4]|6=>[4]|7=>[4]|_=>[]) S0 (by kernel_rfl) hap (by kernel_rfl) (by kernel_rfl) (fun i=>match i with|0=>[0]|1=>[1]|2=>[2]|3=>[3]|4=>[4]|5=>[4,5]|6=>[4,6]|7=>[4,7]|8=>[4,8]|9=>[8,9]|10=>[10]|_=>[]) (by kernel_rfl) ?_ (by kernel_rfl) ?_ ?_ ?_
 . exact lA
 . exact pA
 . clear S0 hend
   and_intros <;> try intro vs gs A' W LF hA S hR hd hu K hK
   . exact qa1 (eO 1 o1)
   . have c0:W.cell? ⟨g1,0,none⟩=some (.string s):=(show Blk W g1 34 #[.string s,.slice A sec.length c] from S.ok (blkR g1 34 #[.string s,.slice A sec.length c]) (hR 12 (List.mem_singleton.2 rfl) _ (List.mem_singleton.2 rfl))).cell 0
     exact qa1 (vD 7 0)
   . exact qa1 (eO 1 o1)
   . have c0:W.cell? ⟨g1,1,none⟩=some (.slice A sec.length c):=(show Blk W g1 34 #[.string s,.slice A sec.length c] from S.ok (blkR g1 34 #[.string s,.slice A sec.length c]) (hR 12 (List.mem_singleton.2 rfl) _ (List.mem_singleton.2 rfl))).cell 1
     exact qa1 (vD 9 2)
   . replace hK:=hK default;have e10:=vD 10 3;clear hA o1;go_step
     refine (HC0 W S.k).mono ?_
     rintro e w' ⟨v,rfl,N⟩
     exact hK v w' (S.rownew N.1 N.2.1 N.2.2) trivial
   . replace hK:=hK default;have e8:=vD 8 1;have e11:=eU 11 4;clear hA o1
     obtain ⟨Av,cv,hv,-,-⟩:=ow_form (show Ow W 5 1 (vs 4) sec.length (bv sec) from S.ok (rowR 5 1 (vs 4) sec.length (bv sec)) (hR 4 (List.mem_singleton.2 rfl) _ (List.mem_singleton.2 rfl)))
     rw [hv] at e11
     refine op_build 34 _ rfl [(0,.string s),(1,.slice Av sec.length cv)] (by simp [Act.eval,e8,e11]) _ (Tryz.built_keyV s Av sec.length cv) ?_
     exact hK _ _ S (show Value.agg #[.string s,.slice Av sec.length cv]=.agg #[.string s,vs 4] by rw [hv])
   . replace hK:=hK default;have e12:=vD 12 5;clear hA o1
     obtain ⟨Av,cv,hv,-,-⟩:=ow_form (show Ow W 5 1 (vs 4) sec.length (bv sec) from S.ok (rowR 5 1 (vs 4) sec.length (bv sec)) (hR 4 (List.mem_singleton.2 rfl) _ (List.mem_singleton.2 rfl)))
     rw [hv] at e12
     refine op_build 83 _ rfl [(0,.agg #[.string s,.slice Av sec.length cv])] (by simp [Act.eval,e12]) _ (Tryz.built_hasV s Av sec.length cv) ?_
     exact hK _ _ S (show Value.agg (mhasN (.string s) (.slice Av sec.length cv))=.agg (mhasN (.string s) (vs 4)) by rw [hv])
   . replace hK:=hK default;have e13:=vD 13 6;clear hA o1
     obtain ⟨Av,cv,hv,-,-⟩:=ow_form (show Ow W 5 1 (vs 4) sec.length (bv sec) from S.ok (rowR 5 1 (vs 4) sec.length (bv sec)) (hR 4 (List.mem_singleton.2 rfl) _ (List.mem_singleton.2 rfl)))
     rw [hv] at e13
     refine op_build 85 _ rfl [(0,.agg (mhasN (.string s) (.slice Av sec.length cv))),(1,.bool true)] (by simp [Act.eval,e13]) _ (Tryz.built_mirV s Av sec.length cv) ?_
     exact hK _ _ S (show Value.agg (mirN (.string s) (.slice Av sec.length cv))=.agg (mirN (.string s) (vs 4)) by rw [hv])
   . have e14:=vD 14 7;clear hA o1
     obtain ⟨cm,hcm⟩:∃ cm,mirN (.string s) (vs 4)=cm:=⟨_,rfl⟩
     rw [hcm] at e14
     go_step;have S2:=S.newBlk 85 cm
     rw [<- hcm] at S2 ⊢
     exact hK W.heap.size _ _ S2 rfl
   . exact qa1 (vD 15 8)
   . exact qa0
   . trivial
 . intro vs gs W S hp
   have S:Held w0 W (rowR 5 1 (vs 4) sec.length (bv sec) :: blkR (gs 8) 85 (mirN (.string s) (vs 4)) :: blkR g1 34 #[.string s,.slice A sec.length c] :: L):=by simpa only [List.flatMap_cons,List.flatMap_nil,List.append_nil,List.nil_append,List.cons_append,List.append_assoc] using S
   rw [putAll_eq]
   exact hend _ vs gs W sQ (sW (hp 9 sB)) (sW (hp 10 sB)) S
theorem mnew_any(nm:Bs)(hnm:nm.length<=9223372036854775807)(A:Option Addr)(c:Nat)(sec:Bs)(hsl:sec.length<=140737488355200)(w:World)(LDw:LD w)(hv:Rd w 1 (.slice A sec.length c) sec.length (bv sec)):
 Calls Tryz.prog 13 #[.agg #[strV nm,.slice A sec.length c]] w fun e w'=>(keyOk nm sec=true ∧ ∃ g u,e=.returned (.tuple #[Pq g 0,.int .i64 0]) ∧ Held w w' [blkR g 85 (mirN (strV nm) u),rowR 5 1 u sec.length (bv sec)]) ∨ (keyOk nm sec=false ∧ e=.returned (.tuple #[.pointer none,.int .i64 2]) ∧ Kp [] w w'):=by
 refine calls_fr Tryz.func13 rfl 16 rfl (fun a0 hsz hdf hAr=>?_)
 have hz0:a0.tmps.size=16:=hsz
 have D:=hdf
 have o0:=hAr 0 _ rfl
 refine wp_seq (mnw_r0 w _ A sec.length c [] (Held.start w) hz0 o0 (fun a1 w1 hs1 o2 o3 h1=>?_))
 obtain ⟨hz1,D,o0⟩:=kq1 hs1 hz0 D o0
 obtain ⟨g1,o1,S⟩:=h1
 refine wp_seq (wp_seq (mnw_r1 g1 ⟨nm.toArray⟩ A sec.length c _ (S.at_ (l1:=[])) (mright_any nm hnm A c sec w1 (LDw.kp S.k) (rd_old hv S.k)) hz1 o1 (fun a2 w2 hs2 o6 k2=>?_)))
 obtain ⟨hz2,D,o1,o2,o3⟩:=kq3 hs2 hz1 D o1 o2 o3
 have S:=S.kp k2
 cases hk:keyOk nm sec
 . rw [hk] at o6
   refine wcT o6 ?_
   refine wp_seq (mnw_r2 hz2 (fun a3 hs3 o2 o3=>?_))
   obtain ⟨hz3,D⟩:=kq0 hs3 hz2 D
   refine wp_ret ?_
   try simp only [Exit.then]
   exact bodyPost_ret (res_u2 (by rfl) (o2.eval (by rw [hz3];decide)) (o3.eval (by rw [hz3];decide))) D (.inr ⟨by simp,rfl,S.k⟩)
 . rw [hk] at o6
   refine wcF o6 (wp_skip ?_)
   simp only [Exit.then]
   refine wp_seq (mnw_r3 w g1 ⟨nm.toArray⟩ A c sec (fun V kV=>clone15_any _ sec V (rd_old hv kV) hsl) [] hz2 o1 S (fun a3 vs gs w3 hs3 o2 o3 S=>?_))
   obtain ⟨hz3,D,o1⟩:=kq1 hs3 hz2 D o1
   refine wp_ret ?_
   exact bodyPost_ret (res_u2 (by rfl) (o2.eval (by rw [hz3];decide)) (o3.eval (by rw [hz3];decide))) D (.inl ⟨by simp,_,_,rfl,(S.pull 1 rfl).sub (.cons_cons _ (.cons_cons _ (List.nil_sublist _)))⟩)
end
section
variable {Q:Exit->Act->World->Prop} {a:Act} {w:World}
open Go.RowKit Go.Shelf
attribute [local go_sem] Oper.semAt_some
theorem msg_r0(w0:World)(cn:Array Value)(hcn:cn.size=34)(h1:∀ u,u ∈ cn.toList->u.oneCell'=true)(s:ByteArray)(A:Option Addr)(n c:Nat)(L:List Res)(S:Held w0 w L)(hsz:a.tmps.size=18)(o0:Sl a 0 (.agg cn))(o1:Sl a 1 (.agg #[.string s,.slice A n c])):RG1 false 0 Tryz.f32 Q a w fun a' W q'=>Sl a' 4 (.int .i64 (0:Int))->(∃ g2 g3,Sl a' 2 (Pq g2 0) ∧ Sl a' 3 (Pq g3 0) ∧ Held w0 W (blkR g3 34 #[.string s,.slice A n c] :: blkR g2 28 cn :: L))->q':=by
 intro hend
 refine wp_region_lit ?_
 (conv=>arg 4;whnf)
 unfold Sl at o0 o1
 have S1:=LH ((S.newBlk 28 cn).newBlkN 34 #[.string s,.slice A n c] (g:=w.heap.size+1) (by simp))
 have hcn:=LH hcn
 have h1:=LH h1
 go_wp2
 try simp only [Act.put]
 exact hend _ _ tS sP (⟨w.heap.size,w.heap.size+1,sP0,sP0,S1.out⟩)
theorem msg_r1(g2:Nat)(cn:Array Value)(hcn:cn.size=34)(hb:Blk w g2 28 cn)(z:Int)(HC0:Calls Tryz.prog 31 #[.agg cn] w fun e w'=>e=.returned (.int .i64 z) ∧ Kp [] w w')(hsz:a.tmps.size=18)(o2:Sl a 2 (Pq g2 0)):RG1 false 1 Tryz.f32 Q a w fun a' W q'=>Sl a' 5 (.bool (z != 0))->(Kp [] w W)->q':=by
 intro hend
 refine wp_region_lit ?_
 (conv=>arg 4;whnf)
 unfold Sl at o2
 have HC:=LH HC0
 clear HC0
 have HB:=LH hb
 clear hb
 have hcn:=LH hcn
 go_wp2_with (refine wpList_load_blk rfl 28 (.tmp 2) rfl g2 (aO o2) 28 _ HB.out _ Tryz.underlying28 rfl (by rw [hcn.out];exact Tryz.infoNote) ?_)
 refine HC.out.mono ?_
 rintro e w1 ⟨rfl,k1⟩
 have k1:=LH k1
 go_wp2_with fail
 try simp only [Act.put]
 exact hend _ _ tS sP (k1.out)
theorem msg_r2(hsz:a.tmps.size=18):RG0 2 Tryz.f32 Q a w fun a' q'=>Sl a' 4 (.int .i64 (2:Int))->q':=rO
theorem msg_r4(hsz:a.tmps.size=18):RG0 4 Tryz.f32 Q a w fun a' q'=>Sl a' 4 (.int .i64 (401:Int))->q':=rO
theorem msg_r5(hsz:a.tmps.size=18):RG0 5 Tryz.f32 Q a w fun a' q'=>Sl a' 4 (.int .i64 (0:Int))->q':=rO
theorem msg_r3(w0:World)(g2 g3:Nat)(cn:Array Value)(hcn:cn.size=34)(s:ByteArray)(A:Option Addr)(n c m:Nat)(names:List Value)(b:Bool)(HC0:∀ V Ak ck,Kp [] w0 V->Rd V 2 (.slice Ak 1 ck) 1 [.string s,.slice A n c]->Calls Tryz.prog 73 #[.agg cn,.slice Ak 1 ck] V fun e w'=>∃ v,e=.returned v ∧ Held V w' [rowR 9 1 v m names])(HC1:∀ V v,Ow V 9 1 v m names->Calls Tryz.prog 72 #[v,.string s] V fun e w'=>e=.returned (.bool b) ∧ Kp [] V w')(L:List Res)(hsz:a.tmps.size=18)(o2:Sl a 2 (Pq g2 0))(o3:Sl a 3 (Pq g3 0))
 (S0:Held w0 w (blkR g2 28 cn :: blkR g3 34 #[.string s,.slice A n c] :: L)):RG2 3 Tryz.f32 Q a w fun a' vs gs W q'=>Sl a' 9 (.bool (!b))->Held w0 W (rowR 34 2 (vs 2) 1 [.string s,.slice A n c] :: rowR 9 1 (vs 3) m names :: blkR g2 28 cn :: blkR g3 34 #[.string s,.slice A n c] :: L)->q':=by
 intro hend
 have hap:=pa 3 Tryz.f32
 refine wp_region_sep (Γ:=Unit) (l:=(opsOf 3 Tryz.f32)) 5 [0,1,2,3,4,5,6,7,8,9,10,11,12,13]
  (fun i vs gs=>match i with|0=>vs 0=.agg cn|1=>vs 1=.agg #[.string s,.slice A n c]|4=>vs 4=Pq g3 0|5=>vs 5=.string s|6=>vs 6=.bool b|7=>vs 7=.bool (!b)|8=>vs 8=.bool (!b)|_=>True)
  (fun i vs gs=>match i with|2=>[rowR 34 2 (vs 2) 1 [.string s,.slice A n c]]|3=>[rowR 9 1 (vs 3) m names]|11=>[blkR g2 28 cn]|12=>[blkR g3 34 #[.string s,.slice A n c]]|13=>L|_=>[])
  (fun i=>match i with  | _=>[]) (fun i=>match i with|0=>[11]|1=>[12]|3=>[2]|5=>[12]|6=>[3]|_=>[]) S0 (by kernel_rfl) hap (by kernel_rfl) (by kernel_rfl) (fun i=>match i with|0=>[0]|1=>[1]|2=>[2]|3=>[3]|4=>[4]|5=>[5]|6=>[6]|7=>[7]|8=>[8]|_=>[]) (by kernel_rfl) ?_ (by kernel_rfl) ?_ ?_ ?_
 . exact lA
 . exact pA
 . clear S0 hend
   and_intros <;> try intro vs gs A' W LF hA S hR hd hu K hK
   . exact ldA cn (eO 2 o2) (Blk.agg (show Blk W g2 28 cn from S.ok (blkR g2 28 cn) (hR 11 (by simp) _ (List.mem_singleton.2 rfl)))) Tryz.underlying28 (by rw [hcn];exact Tryz.infoNote)
   . obtain ⟨q1,q2,q3,q4⟩:=Blk.c2 (show Blk W g3 34 #[.string s,.slice A n c] from S.ok (blkR g3 34 #[.string s,.slice A n c]) (hR 12 (by simp) _ (List.mem_singleton.2 rfl)))
     exact qa1 (eO 3 o3)
   . replace hK:=hK default;have e11:=vD 11 1;clear hA o2 o3;go_step;have o3:=ow_new W 34 2 1 #[.string s,.slice A n c] rfl (by decide)
     exact hK _ _ (S.rownew o3 ((Kp.refl [] W).alloc _) (fun g hg=>Nat.le_of_eq (Option.some.inj hg))) trivial
   . replace hK:=hK default;have e10:=vD 10 0;have e12:=eU 12 2;clear hA o2 o3
     obtain ⟨Ak,ck,hk,-,-⟩:=ow_form (show Ow W 34 2 (vs 2) 1 [.string s,.slice A n c] from S.ok (rowR 34 2 (vs 2) 1 [.string s,.slice A n c]) (hR 2 (by simp) _ (List.mem_singleton.2 rfl)))
     have hr2:=Rd.of_own (show Ow W 34 2 (vs 2) 1 [.string s,.slice A n c] from S.ok (rowR 34 2 (vs 2) 1 [.string s,.slice A n c]) (hR 2 (by simp) _ (List.mem_singleton.2 rfl)))
     rw [hk] at e12 hr2
     go_step
     refine (HC0 W Ak ck S.k hr2).mono ?_
     rintro e w' ⟨v,rfl,H⟩
     exact hK v w' ((S.join H).perm List.perm_append_comm) trivial
   . exact qa1 (eO 3 o3)
   . obtain ⟨q1,q2,q3,q4⟩:=Blk.c2 (show Blk W g3 34 #[.string s,.slice A n c] from S.ok (blkR g3 34 #[.string s,.slice A n c]) (hR 12 (by simp) _ (List.mem_singleton.2 rfl)))
     exact qa1 (vD 14 4)
   . replace hK:=hK default;have e13:=eU 13 3;have e15:=vD 15 5;clear hA o2 o3;go_step
     refine (HC1 W (vs 3) (show Ow W 9 1 (vs 3) m names from S.ok (rowR 9 1 (vs 3) m names) (hR 3 (by simp) _ (List.mem_singleton.2 rfl)))).mono ?_
     rintro e w' ⟨rfl,k1⟩
     exact hK _ w' (S.kp k1) rfl
   . exact qa1 (vD 16 6)
   . exact qa1 (vD 17 7)
   . trivial
 . intro vs gs W S hp
   have S:Held w0 W (rowR 34 2 (vs 2) 1 [.string s,.slice A n c] :: rowR 9 1 (vs 3) m names :: blkR g2 28 cn :: blkR g3 34 #[.string s,.slice A n c] :: L):=by simpa only [List.flatMap_cons,List.flatMap_nil,List.append_nil,List.nil_append,List.cons_append,List.append_assoc] using S
   rw [putAll_eq]
   exact hend _ vs gs W sQ (sW (hp 8 sB)) S
theorem contains_any(names:List (List UInt8))(nm:Bs)(v:Value)(V:World)(ho:Ow V 9 1 v names.length (names.map strV)):
 Calls Tryz.prog 72 #[v,.string ⟨nm.toArray⟩] V fun e w'=>e=.returned (.bool (names.contains nm)) ∧ Kp [] V w':=by
 by_cases h0:names.length=0
 . obtain rfl:names=[]:=List.eq_nil_of_length_eq_zero h0
   obtain ⟨A,c,rfl,-,-⟩:=ow_form ho
   exact (Tryz.slices_Contains_string_empty A c _ V).mono fun e w' h=>⟨h.1,by rw [h.2];exact Kp.refl _ _⟩
 . obtain ⟨g,c,rfl,-,-⟩:=ow_some ho (by omega)
   obtain ⟨-,A',c',he,h1,h2,-,h5⟩:=Rd.of_own ho
   cases he
   have hlm:names.length<=9223372036854775807:=by unfold maxLen at h2;omega
   refine (Tryz.slices_Contains_string g 0 names.length c (names.map fun s=>⟨s.toArray⟩) ⟨nm.toArray⟩ V (by simp) hlm (fun j hj=>?_)).mono fun e w' h=>⟨?_,by rw [h.2];exact Kp.refl _ _⟩
   . rw [List.length_map] at hj
     have h6:=h5 _ rfl j (strV names[j]) (by rw [List.getElem?_map,List.getElem?_eq_getElem hj];rfl)
     rw [show (⟨g,0+j,none⟩:Addr)=(⟨g,0,none⟩:Addr).add j by simp [Addr.add],h6]
     simp [strV,List.getD_eq_getElem?_getD,hj]
   . rw [h.1]
     congr 2
     rw [List.take_of_length_le (by simp),Bool.eq_iff_iff,Lib.containsS_iff]
     simp only [List.mem_map,List.contains_iff_mem]
     constructor
     . rintro ⟨s,hs,e⟩
       have e2:=congrArg (fun b:ByteArray=>b.data.toList) e
       simp only [List.toList_toArray] at e2
       exact e2 ▸ hs
     . exact fun h=>⟨nm,h,rfl⟩
def signedN (z:Int) (h:Bs) (l:List SigD) (nm sec:Bs):Int:=if chkN z l ≠ 0 then 2 else if (rightA z h l [(nm,sec)]).contains nm=false then 401 else 0
theorem signed_any(z:Int)(hz:-9223372036854775808<=z ∧ z<=9223372036854775807)(h:Bs)(hh:h.length=32)(A:Option Addr)(c:Nat)(l:List SigD)(hok:SgOk l)(hll:l.length<=1000000)(nm:Bs)(hnm:nm.length<=1000000)(Ak:Option Addr)(ck:Nat)(sec:Bs)(w:World)(LDw:LD w)(hv:Rd w 33 (.slice A l.length c) l.length (sgsC l))(hk:Rd w 1 (.slice Ak sec.length ck) sec.length (bv sec)):
 Calls Tryz.prog 32 #[.agg (ntA z h (.slice A l.length c)),.agg #[strV nm,.slice Ak sec.length ck]] w fun e w'=>e=.returned (.int .i64 (signedN z h l nm sec)) ∧ Kp [] w w':=by
 refine calls_fr Tryz.func32 rfl 18 rfl (fun a0 hsz hdf hAr=>?_)
 have hz0:a0.tmps.size=18:=hsz
 have D:=hdf
 have o0:=hAr 0 _ rfl
 have o1:=hAr 1 _ rfl
 refine wp_seq (msg_r0 w _ (ntA_size hh) (ntA_one rfl) ⟨nm.toArray⟩ Ak sec.length ck [] (Held.start w) hz0 o0 o1 (fun a1 w1 hs1 o4 h1=>?_))
 obtain ⟨hz1,D,o0,o1⟩:=kq2 hs1 hz0 D o0 o1
 obtain ⟨g2,g3,o2,o3,S⟩:=h1
 refine wp_seq (wp_block ?_)
 (conv=>arg 2;whnf)
 refine wp_seq (msg_r1 g2 _ (ntA_size hh) (S.at_ (l1:=[_])) _ (scheck_any z hz h hh l hok (by omega) A c w1 (LDw.kp S.k) (rd_old hv S.k)) hz1 o2 (fun a2 w2 hs2 o5 k2=>?_))
 obtain ⟨hz2,D,o2,o3,o4⟩:=kq3 hs2 hz1 D o2 o3 o4
 have S:=S.kp k2
 by_cases hc:chkN z l=0
 . rw [hc] at o5
   refine wcF o5 ?_
   have S2:Held w w2 (blkR g2 28 (ntA z h (.slice A l.length c)) :: blkR g3 34 #[.string ⟨nm.toArray⟩,.slice Ak sec.length ck] :: []):=S.pull 1 rfl
   refine wp_seq (msg_r3 w g2 g3 _ (ntA_size hh) ⟨nm.toArray⟩ Ak sec.length ck _ ((rightA z h l [(nm,sec)]).map strV) ((rightA z h l [(nm,sec)]).contains nm) (fun V Ar cr kV hr=>sright_any z hz h hh A c l hok (by omega) Ar cr [(nm,sec)] (by simp) (fun k hk=>by obtain rfl:=List.mem_singleton.1 hk;unfold maxLen;show nm.length<=_;omega) [strV nm,.slice Ak sec.length ck] V (LDw.kp kV) (rd_old hv kV) ⟨hr,fun i hi=>by obtain rfl:i=0:=(by simpa using hi);exact ⟨Ak,ck,rfl,rfl,rd_old hk kV⟩⟩) (fun V v ho=>contains_any _ nm v V ho) [] hz2 o2 o3 S2 (fun a3 vs gs w3 hs3 o9 S=>?_))
   obtain ⟨hz3,D,o2,o3,o4⟩:=kq3 hs3 hz2 D o2 o3 o4
   cases hct:(rightA z h l [(nm,sec)]).contains nm
   . rw [hct] at o9
     refine wcT o9 ?_
     refine wp_seq (msg_r4 hz3 (fun a4 hs4 o4=>?_))
     obtain ⟨hz4,D⟩:=kq0 hs4 hz3 D
     refine wp_ret ?_
     simp only [Exit.then,Exit.inBlock]
     refine bodyPost_ret (res_u1 (by rfl) (o4.eval (by rw [hz4];decide))) D ⟨?_,S.k⟩
     unfold signedN
     rw [if_neg (by omega),if_pos hct]
   . rw [hct] at o9
     refine wcF o9 (wp_skip ?_)
     simp only [Exit.then,Exit.inBlock]
     refine wp_seq (msg_r5 hz3 (fun a4 hs4 o4=>?_))
     obtain ⟨hz4,D⟩:=kq0 hs4 hz3 D
     refine wp_ret ?_
     refine bodyPost_ret (res_u1 (by rfl) (o4.eval (by rw [hz4];decide))) D ⟨?_,S.k⟩
     unfold signedN
     rw [if_neg (by omega),if_neg (by rw [hct];decide)]
 . have hq:(chkN z l != 0)=true:=by rw [bne_iff_ne];exact hc
   refine wcT o5 ?_ (by rw [hq])
   refine wp_seq (msg_r2 hz2 (fun a3 hs3 o4=>?_))
   obtain ⟨hz3,D⟩:=kq0 hs3 hz2 D
   refine wp_ret ?_
   simp only [Exit.then,Exit.inBlock]
   refine bodyPost_ret (res_u1 (by rfl) (o4.eval (by rw [hz3];decide))) D ⟨?_,S.k⟩
   unfold signedN
   rw [if_pos hc]
end
section
variable {Q:Exit->Act->World->Prop} {a:Act} {w:World}
open Go.RowKit Go.Shelf
attribute [local go_sem] Oper.semAt_some
theorem mmy_r0(w0:World)(cn:Array Value)(hcn:cn.size=34)(h1:∀ u,u ∈ cn.toList->u.oneCell'=true)(L:List Res)(S:Held w0 w L)(hsz:a.tmps.size=21)(o1:Sl a 1 (.agg cn)):RG1 false 0 Tryz.f44 Q a w fun a' W q'=>Sl a' 4 (.int .i64 (0:Int))->(∃ g3,Sl a' 3 (Pq g3 0) ∧ Held w0 W (blkR g3 28 cn :: L))->q':=by
 intro hend
 refine wp_region_lit ?_
 (conv=>arg 4;whnf)
 unfold Sl at o1
 have S1:=LH (S.newBlk 28 cn)
 have hcn:=LH hcn
 have h1:=LH h1
 go_wp2
 try simp only [Act.put]
 exact hend _ _ tS sP (⟨w.heap.size,sP0,S1.out⟩)
theorem mmy_r1(p:Value)(md:Bool)(HC0:Calls Tryz.prog 50 #[p] w fun e w'=>e=.returned (.bool (!md)) ∧ Kp [] w w')(hsz:a.tmps.size=21)(o0:Sl a 0 (p)):RG1 false 1 Tryz.f44 Q a w fun a' W q'=>Sl a' 5 (.bool (!md))->(Kp [] w W)->q':=by
 intro hend
 refine wp_region_lit ?_
 (conv=>arg 4;whnf)
 unfold Sl at o0
 have HC:=LH HC0
 clear HC0
 obtain ⟨b,hb⟩:∃ b,Hid ((!md)=b):=⟨_,LH rfl⟩
 rw [hb.out] at HC hend
 go_wp2_with fail
 refine HC.out.mono ?_
 rintro e w1 ⟨rfl,k1⟩
 have k1:=LH k1
 go_wp2_with fail
 try simp only [Act.put]
 exact hend _ _ tS sP (k1.out)
theorem mmy_r2(hsz:a.tmps.size=21):RG0 2 Tryz.f44 Q a w fun a' q'=>Sl a' 4 (.int .i64 (1:Int))->q':=rO
theorem mmy_r4(hsz:a.tmps.size=21):RG0 4 Tryz.f44 Q a w fun a' q'=>Sl a' 4 (.int .i64 (400:Int))->q':=rO
theorem mmy_r3(g:Nat)(cs:Array Value)(fd:Bool)(hb:Blk w g 85 cs)(h9:cs[140]?=some (.bool fd))(hsz:a.tmps.size=21)(o0:Sl a 0 (Pq g 0)):RG0 3 Tryz.f44 Q a w fun a' q'=>Sl a' 8 (.bool fd)->q':=by
 have c0:w.cell? ⟨g,140,none⟩=some (.bool fd):=by rw [hb.cell];exact h9
 clear hb h9
 exact rO
theorem mmy_r5(g g3:Nat)(cn cs:Array Value)(hcn:cn.size=34)(s:ByteArray)(A:Option Addr)(n c:Nat)(z:Int)(hb3:Blk w g3 28 cn)(hb:Blk w g 85 cs)(h0:cs[0]?=some (.string s))(h1:cs[1]?=some (.slice A n c))(HC0:∀ V,Kp [] w V->Calls Tryz.prog 32 #[.agg cn,.agg #[.string s,.slice A n c]] V fun e w'=>e=.returned (.int .i64 z) ∧ Kp [] V w')(hsz:a.tmps.size=21)(o0:Sl a 0 (Pq g 0))(o3:Sl a 3 (Pq g3 0)):RG1 true 5 Tryz.f44 Q a w fun a' W q'=>Kp [] w.drew W->Sl a' 4 (.int .i64 z)->q':=by
 intro hend
 have hap:=pa 5 Tryz.f44
 refine wp_region_inv (l:=(opsOf 5 Tryz.f44)) (fun i v W=>match i with|0=>v=.agg cn|1=>v=Pq g 0|2=>v=Pq g 0|3=>v=Pq g 0|4=>v=Pq g 0|5=>v=.agg #[.string s,.slice A n c]|6=>v=.int .i64 z|7=>v=.int .i64 z|_=>True) (by kernel_rfl) hap (by kernel_rfl) ?_ ?_ ?_
 . exact fun _ _ _ _ h _=>h
 . and_intros <;> try intro vs A' W hA hW hd K hK
   . exact ldA cn (eO 3 o3) (Blk.agg (hb3.kp (((Kp.refl [] w).drew).trans hW (by simp)) (by simp))) Tryz.underlying28 (by rw [hcn];exact Tryz.infoNote)
   . exact qa1 (eO 0 o0)
   . exact qa1 (vD 15 1)
   . exact qa1 (vD 16 2)
   . exact qa1 (vD 17 3)
   . have hbw:=hb.kp (((Kp.refl [] w).drew).trans hW (by simp)) (by simp)
     have c0:W.cell? ⟨g,0,none⟩=some (.string s):=by rw [hbw.cell];exact h0
     have c1:W.cell? ⟨g,1,none⟩=some (.slice A n c):=by rw [hbw.cell];exact h1
     exact qa1 (vD 18 4)
   . have e14:=vD 14 0;have e19:=vD 19 5;clear hA hd o0 o3;go_step
     refine (HC0 W (((Kp.refl [] w).drew).trans hW (by simp))).mono ?_
     rintro e w' ⟨rfl,k1⟩
     exact hK _ w' k1 rfl
   . exact qa1 (vD 20 6)
   . trivial
 . intro vs W hW hp
   rw [putAll_eq]
   exact hend _ W sQ hW (sW (hp 7 sB))
theorem mmay_none(p:Value)(z:Int)(h:Bs)(hh:h.length=32)(A:Option Addr)(n c:Nat)(w:World)(hp:MirAt w p false):Calls Tryz.prog 44 #[p,.agg (ntA z h (.slice A n c))] w fun e w'=>e=.returned (.int .i64 1) ∧ Kp [] w w':=by
 refine calls_fr Tryz.func44 rfl 21 rfl (fun a0 hsz hdf hAr=>?_)
 have hz0:a0.tmps.size=21:=hsz
 have D:=hdf
 have o0:=hAr 0 _ rfl
 have o1:=hAr 1 _ rfl
 refine wp_seq (mmy_r0 w _ (ntA_size hh) (ntA_one rfl) [] (Held.start w) hz0 o1 (fun a1 w1 hs1 o4 h1=>?_))
 obtain ⟨hz1,D,o0,o1⟩:=kq2 hs1 hz0 D o0 o1
 obtain ⟨g3,o3,S⟩:=h1
 refine wp_seq (wp_block ?_)
 (conv=>arg 2;whnf)
 refine wp_seq (mmy_r1 p false (mnone_any p false w1 (hp.kp S.k)) hz1 o0 (fun a2 w2 hs2 o5 k2=>?_))
 obtain ⟨hz2,D,o0,o3⟩:=kq2 hs2 hz1 D o0 o3
 refine wcT o5 ?_
 refine wp_seq (mmy_r2 hz2 (fun a3 hs3 o4=>?_))
 obtain ⟨hz3,D⟩:=kq0 hs3 hz2 D
 refine wp_ret ?_
 simp only [Exit.then,Exit.inBlock]
 exact bodyPost_ret (res_u1 (by rfl) (o4.eval (by rw [hz3];decide))) D ⟨rfl,(S.kp k2).k⟩
def mayM (fd:Bool) (z:Int) (h:Bs) (l:List SigD) (nm sec:Bs):Int:=if fd then 400 else signedN z h l nm sec
theorem mmay_any(z:Int)(hz:-9223372036854775808<=z ∧ z<=9223372036854775807)(h:Bs)(hh:h.length=32)(A:Option Addr)(c:Nat)(l:List SigD)(hok:SgOk l)(hll:l.length<=1000000)(nm:Bs)(hnm:nm.length<=1000000)(Ak:Option Addr)(ck:Nat)(sec:Bs)(g:Nat)(cs:Array Value)(fd:Bool)(w:World)(LDw:LD w)(hb:Blk w g 85 cs)(h0:cs[0]?=some (strV nm))(h1:cs[1]?=some (.slice Ak sec.length ck))(h8:cs[140]?=some (.bool fd))(h9:cs[141]?=some (.bool true))(hv:Rd w 33 (.slice A l.length c) l.length (sgsC l))(hk:Rd w 1 (.slice Ak sec.length ck) sec.length (bv sec)):Calls Tryz.prog 44 #[Pq g 0,.agg (ntA z h (.slice A l.length c))] w fun e w'=>e=.returned (.int .i64 (mayM fd z h l nm sec)) ∧ Kp [] w w':=by
 refine calls_fr Tryz.func44 rfl 21 rfl (fun a0 hsz hdf hAr=>?_)
 have hz0:a0.tmps.size=21:=hsz
 have D:=hdf
 have o0:=hAr 0 _ rfl
 have o1:=hAr 1 _ rfl
 refine wp_seq (mmy_r0 w _ (ntA_size hh) (ntA_one rfl) [] (Held.start w) hz0 o1 (fun a1 w1 hs1 o4 h1=>?_))
 obtain ⟨hz1,D,o0,o1⟩:=kq2 hs1 hz0 D o0 o1
 obtain ⟨g3,o3,S⟩:=h1
 refine wp_seq (wp_block ?_)
 (conv=>arg 2;whnf)
 refine wp_seq (mmy_r1 _ true (mnone_any _ true w1 (.inr ⟨g,cs,rfl,hb.kp S.k (by simp),h9⟩)) hz1 o0 (fun a2 w2 hs2 o5 k2=>?_))
 obtain ⟨hz2,D,o0,o3⟩:=kq2 hs2 hz1 D o0 o3
 refine wcF o5 ?_
 have S:=S.kp k2
 refine wp_seq (mmy_r3 g cs fd (hb.kp S.k (by simp)) h8 hz2 o0 (fun a3 hs3 o8=>?_))
 obtain ⟨hz3,D,o0,o3⟩:=kq2 hs3 hz2 D o0 o3
 cases fd
 . refine wcF o8 (wp_skip ?_)
   simp only [Exit.then,Exit.inBlock]
   refine wp_seq (mmy_r5 g g3 _ cs (ntA_size hh) ⟨nm.toArray⟩ Ak sec.length ck _ (S.at_ (l1:=[])) (hb.kp S.k (by simp)) h0 h1 (fun V kV=>signed_any z hz h hh A c l hok hll nm hnm Ak ck sec V (LDw.kp (S.k.trans kV (by simp))) (rd_old hv (S.k.trans kV (by simp))) (rd_old hk (S.k.trans kV (by simp)))) hz3 o0 o3 (fun a4 w4 hs4 k4 o4=>?_))
   obtain ⟨hz4,D,o0,o3⟩:=kq2 hs4 hz3 D o0 o3
   refine wp_ret ?_
   exact bodyPost_ret (res_u1 (by rfl) (o4.eval (by rw [hz4];decide))) D ⟨rfl,(S.k.trans ((Kp.refl [] w2).drew) (by simp)).trans k4 (by simp)⟩
 . refine wcT o8 ?_
   refine wp_seq (mmy_r4 hz3 (fun a4 hs4 o4=>?_))
   obtain ⟨hz4,D⟩:=kq0 hs4 hz3 D
   refine wp_ret ?_
   simp only [Exit.then,Exit.inBlock]
   exact bodyPost_ret (res_u1 (by rfl) (o4.eval (by rw [hz4];decide))) D ⟨rfl,S.k⟩
end
section
open Go.RowKit Go.Shelf
theorem fill_one(f:Nat->Option (Nat × Nat))(j o s:Nat)(hf:f j=some (o,s))(v:Value)(cs:Array Value)(hv:v.cells=cs)(hcs:cs.size=s)(z:Array Value)(hfit:o+s<=z.size)(rest:List (Nat × Value)):
 Instr.fill f z ((j,v) :: rest)=Instr.fill f (z.toList.take o ++ cs.toList ++ z.toList.drop (o+s)).toArray rest:=by
 conv=>lhs;unfold Instr.fill
 have h:cs.zipIdx.foldl (fun r (x:Value × Nat)=>r.setIfInBounds (o+x.2) x.1) z=(z.toList.take o ++ cs.toList ++ z.toList.drop (o+s)).toArray:=by
  have h1:=foldl_place o cs.toList 0 z
  rw [show cs.zipIdx.foldl (fun r (x:Value × Nat)=>r.setIfInBounds (o+x.2) x.1) z=(cs.toList.zipIdx 0).foldl (fun r (x:Value × Nat)=>r.setIfInBounds (o+x.2) x.1) z from by rw [<- Array.foldl_toList,Array.toList_zipIdx],h1]
  rw [List.take_of_length_le (l:=cs.toList) (by rw [Array.length_toList,hcs];omega),Array.length_toList,hcs,Nat.add_zero]
 simp only [hf,hv]
 rw [if_neg (by simp [hcs];omega),h]
def fkL (n1 n2 r:List Value) (p:Value):List Value:=n1 ++ (n2 ++ (r ++ [p]))
theorem fkL_length{n1 n2 r:List Value}{p:Value}(h1:n1.length=34)(h2:n2.length=34)(h3:r.length=32):(fkL n1 n2 r p).length=101:=by simp [fkL,h1,h2,h3]
theorem Tryz.builtF_is(ps:List (Nat × Value)):Tryz.prog.built 31 ps=Instr.fill (#[(0,34),(34,34),(68,32),(100,1)][·]?) zFork.toArray ps:=by
 unfold Program.built
 kernel_rfl
theorem Tryz.built_fork(n1 n2 r:Array Value)(h1:n1.size=34)(h2:n2.size=34)(h3:r.size=32)(A:Option Addr)(n c:Nat):Tryz.prog.built 31 [(0,.agg n1),(1,.agg n2),(2,.agg r),(3,.slice A n c)]=some (fkL n1.toList n2.toList r.toList (.slice A n c)).toArray:=by
 rw [Tryz.builtF_is]
 have hz:zFork.toArray.size=101:=rfl
 generalize zFork.toArray=z at *
 have l1:n1.toList.length=34:=by simp [h1]
 have l2:n2.toList.length=34:=by simp [h2]
 have l3:r.toList.length=32:=by simp [h3]
 have lz:z.toList.length=101:=by simp [hz]
 rw [fill_one _ 0 0 34 rfl _ n1 rfl h1 z (by omega)]
 rw [fill_one _ 1 34 34 rfl _ n2 rfl h2 _ (by simp [h1,hz])]
 rw [fill_one _ 2 68 32 rfl _ r rfl h3 _ (by simp [h1,h2,hz])]
 rw [fill_one _ 3 100 1 rfl _ #[.slice A n c] rfl rfl _ (by simp [h1,h2,h3,hz])]
 show some _=some _
 generalize n1.toList=n1 at *
 generalize n2.toList=n2 at *
 generalize r.toList=r at *
 generalize z.toList=z at *
 congr 2
 simp [fkL,List.take_append,List.drop_append,l1,l2,l3,lz,List.take_of_length_le,List.drop_of_length_le]
end
section
variable {Q:Exit->Act->World->Prop} {a:Act} {w:World}
open Go.RowKit Go.Shelf
attribute [local go_sem] Oper.semAt_some
theorem Tryz.infoFork:(Tryz.prog.info? 31).map (·.size)=some 101:=by kernel_rfl
theorem nt_hashAt{w:World}{g:Nat}{t:TypeId}{z:Int}{h:List UInt8}{v:Value}(b:Blk w g t (ntA z h v)):∀ j u,(hashA h).toList[j]?=some u->w.cell? ((⟨g,1,none⟩:Addr).add j)=some u:=fun j u hu=>by
 have:=nt_pointAt b (j+1) u (by rw [show (ptA z h).toList=Value.int .i64 z :: bv h from rfl,List.getElem?_cons_succ];exact hu)
 rw [show (⟨g,1,none⟩:Addr).add j=(⟨g,0,none⟩:Addr).add (j+1) by simp [Addr.add,Nat.add_comm]]
 exact this
theorem mwi_r0(w0:World)(cn:Array Value)(hcn:cn.size=34)(h1:∀ u,u ∈ cn.toList->u.oneCell'=true)(L:List Res)(S:Held w0 w L)(hsz:a.tmps.size=61)(o1:Sl a 1 (.agg cn)):RG1 false 0 Tryz.f45 Q a w fun a' W q'=>Sl a' 4 (.int .i64 (0:Int))->(∃ g3,Sl a' 3 (Pq g3 0) ∧ Held w0 W (blkR g3 28 cn :: L))->q':=by
 intro hend
 refine wp_region_lit ?_
 (conv=>arg 4;whnf)
 unfold Sl at o1
 have S1:=LH (S.newBlk 28 cn)
 have hcn:=LH hcn
 have h1:=LH h1
 go_wp2
 try simp only [Act.put]
 exact hend _ _ tS sP (⟨w.heap.size,sP0,S1.out⟩)
theorem mwi_r1(w0:World)(g g3:Nat)(cs cn:Array Value)(Ah:Option Addr)(n ch k:Nat)(hkc:k<=ch)(x:Bs)(hx32:x.length=32)(h3:cs[3]?=some (.slice Ah n ch))(hk0:cn[0]?=some (Nq k))(L:List Res)(HC0:∀ V,(∀ r ∈ L,r.ok V)->Calls Tryz.prog 49 #[.slice Ah k ch] V fun e w'=>e=.returned (.agg (hashA x)) ∧ Kp [] V w')(hsz:a.tmps.size=61)(o0:Sl a 0 (Pq g 0))(o3:Sl a 3 (Pq g3 0))
 (S0:Held w0 w (blkR g 85 cs :: blkR g3 28 cn :: L))
 (hend:∀ (a':Act) (vs:Nat->Value) (gs:Nat->Nat) (W:World),Same a a' [8,9,10,11,12,13,14,15,16,17,5]->Sl a' 5 (Pq (gs 10) 0)->Held w0 W (blkR (gs 10) 23 (hashA x) :: blkR g 85 cs :: blkR g3 28 cn :: L)->Q .normal a' W):(Code.region 1 (opsOf 1 Tryz.f45).toArray true).wp Tryz.prog Q a w:=by
 have hap:=pa 1 Tryz.f45
 refine wp_region_sep (Γ:=Nat) (l:=(opsOf 1 Tryz.f45)) 3 [0,1,2,3,4,5,6,7,8,9,11,12,13,14]
  (fun i vs gs=>match i with|0=>vs 0=Pq g 0|1=>vs 1=Pq g 0|2=>vs 2=Pq g 0|3=>vs 3=Pq g 3|4=>vs 4=.slice Ah n ch|5=>vs 5=Pq g3 0|6=>vs 6=Pq g3 0|7=>vs 7=Nq k|8=>vs 8=.slice Ah k ch|9=>vs 9=.agg (hashA x)|10=>vs 10=Pq (gs 10) 0|_=>True)
  (fun i vs gs=>match i with|10=>[blkR (gs 10) 23 (hashA (List.replicate 32 0))]|11=>[blkR (gs 10) 23 (hashA x)]|12=>[blkR g 85 cs]|13=>[blkR g3 28 cn]|14=>L|_=>[])
  (fun i=>match i with|11=>[10]|_=>[]) (fun i=>match i with|4=>[12]|7=>[13]|9=>[14]|_=>[]) S0 (by kernel_rfl) hap (by kernel_rfl) (by kernel_rfl) (fun i=>match i with|0=>[0]|1=>[1]|2=>[2]|3=>[3]|4=>[4]|5=>[5]|6=>[6]|7=>[7]|8=>[8]|9=>[9]|10=>[10]|11=>[10]|_=>[]) (by kernel_rfl) ?_ (by kernel_rfl) ?_ ?_ ?_
 . exact lA
 . exact pA
 . clear S0 hend
   and_intros <;> try intro vs gs A' W LF hA S hR hd hu K hK
   . exact qa1 (eO 0 o0)
   . exact qa1 (vD 8 0)
   . exact qa1 (vD 9 1)
   . exact qa1 (vD 10 2)
   . have c0:W.cell? ⟨g,3,none⟩=some (.slice Ah n ch):=by rw [(show Blk W g 85 cs from S.ok (blkR g 85 cs) (hR 12 (by simp) _ (List.mem_singleton.2 rfl))).cell];exact h3
     exact qa1 (vD 11 3)
   . exact qa1 (eO 3 o3)
   . exact qa1 (vD 13 5)
   . have c0:W.cell? ⟨g3,0,none⟩=some (Nq k):=by rw [(show Blk W g3 28 cn from S.ok (blkR g3 28 cn) (hR 13 (by simp) _ (List.mem_singleton.2 rfl))).cell];exact hk0
     exact qa1 (vD 14 6)
   . have hq:=cut_hiH Ah n ch k (by omega) W
     exact qa2 (vD 12 4) (vD 15 7)
   . replace hK:=hK default;have e16:=vD 16 8;clear hA o0 o3;go_step
     refine (HC0 W (fun r hr=>S.ok r (hR 14 (by simp) r hr))).mono ?_
     rintro e w' ⟨rfl,k1⟩
     exact hK _ _ (S.kp k1) rfl
   . clear hA o0 o3;go_step
     exact hK W.heap.size _ _ (S.newBlk 23 (hashA (List.replicate 32 0))) rfl
   . replace hK:=hK default;have e5:=vD 5 10;have e17:=vD 17 9;clear hA o0 o3
     have S1:Held w0 W (blkR (gs 10) 23 (hashA (List.replicate 32 0)) :: LF):=S
     refine op_store_blkS (.tmp 5) (.tmp 17) 23 rfl (gs 10) (by simpa [Act.eval] using e5) (hashA (x)) (by simpa [Act.eval] using e17) 23 (hashA (List.replicate 32 0)) S1 (by rw [hashA_size,hx32];exact Tryz.infoHashP) (by rw [hashA_size,hashA_size,hx32,List.length_replicate]) (hashA_one _) ?_
     intro w' S2
     exact hK _ _ S2 trivial
   . trivial
 . intro vs gs W S hp
   have S:Held w0 W (blkR (gs 10) 23 (hashA x) :: blkR g 85 cs :: blkR g3 28 cn :: L):=by simpa only [List.flatMap_cons,List.flatMap_nil,List.append_nil,List.nil_append,List.cons_append,List.append_assoc] using S
   rw [putAll_eq]
   exact hend _ vs gs W sQ (sW (hp 10 sB)) S
theorem mwi_r2(g3 g5:Nat)(z:Int)(h:Bs)(hh:h.length=32)(v:Value)(x:Bs)(hx32:x.length=32)(hb3:Blk w g3 28 (ntA z h v))(hb5:Blk w g5 23 (hashA x))(hsz:a.tmps.size=61)(o3:Sl a 3 (Pq g3 0))(o5:Sl a 5 (Pq g5 0)):RG1 false 2 Tryz.f45 Q a w fun a' W q'=>Kp [] w W->Sl a' 18 (.bool (x == h))->q':=by
 intro hend
 have hap:=pa 2 Tryz.f45
 refine wp_region_invS (l:=(opsOf 2 Tryz.f45)) (fun i v W=>match i with|0=>v=.agg (hashA x)|1=>v=Pq g3 0|2=>v=Pq g3 1|3=>v=.agg (hashA h)|4=>v=.bool (x == h)|5=>v=.bool (x == h)|_=>True) hap ?_ ?_ ?_
 . exact fun _ _ _ _ h _=>h
 . and_intros <;> try (intro vs A' W hA hW hd hu K hK;try (refine wpOp_free _ rfl rfl ?_;conv=>arg 2;whnf))
   . exact ldA (hashA x) (eO 5 o5) (Blk.agg (hb5.k0 hW)) Tryz.underlying23 (by rw [hashA_size,hx32];exact Tryz.infoHashP)
   . exact qa1 (eO 3 o3)
   . exact qa1 (vD 20 1)
   . exact ldA (hashA h) (vD 21 2) (nt_hashAt (hb3.k0 hW)) Tryz.underlying23 (by rw [hashA_size,hh];exact Tryz.infoHashP)
   . have e19:=vD 19 0;have e22:=vD 22 3;clear hA hd hu o3 o5;refine op_runs (v:=.bool (x == h)) (w':=W) (exec_bin_agg rfl (by simpa [Act.eval] using e19) (by simpa [Act.eval] using e22) Tryz.eqGuardType23 (eql_hash W x h hx32 hh)) ?_
     exact hK _ _ kR rfl
   . exact qa1 (vD 23 4)
   . trivial
 . intro vs W hW hp
   rw [putAll_eq]
   exact hend _ W sQ hW (sW (hp 5 sB))
theorem mwi_r3(hsz:a.tmps.size=61):RG0 3 Tryz.f45 Q a w fun a' q'=>Sl a' 4 (.int .i64 (0:Int))->q':=rO
theorem mwi_r5(hsz:a.tmps.size=61):RG0 5 Tryz.f45 Q a w fun a' q'=>Sl a' 4 (.int .i64 (403:Int))->q':=rO
theorem mwi_r8(hsz:a.tmps.size=61):RG0 8 Tryz.f45 Q a w fun a' q'=>Sl a' 4 (.int .i64 (400:Int))->q':=rO
theorem mwi_r4(g:Nat)(cs:Array Value)(nd:Bool)(hb:Blk w g 85 cs)(h9:cs[38]?=some (.bool nd))(hsz:a.tmps.size=61)(o0:Sl a 0 (Pq g 0)):RG0 4 Tryz.f45 Q a w fun a' q'=>Sl a' 24 (.bool (!nd))->q':=by
 have c0:w.cell? ⟨g,38,none⟩=some (.bool nd):=by rw [hb.cell];exact h9
 clear hb h9
 exact rO
theorem mwi_r6(w0:World)(g g3:Nat)(cs cn:Array Value)(Ah:Option Addr)(n ch k m:Nat)(xs:List Value)(cd:Int)(h3:cs[3]?=some (.slice Ah n ch))(hk0:cn[0]?=some (Nq k))(L:List Res)(HC0:∀ V,(∀ r ∈ L,r.ok V)->Calls Tryz.prog 88 #[.slice Ah n ch,Nq k] V fun e w'=>∃ v,e=.returned (.tuple #[v,.int .i64 cd]) ∧ Held V w' [rowR 23 32 v m xs])(hsz:a.tmps.size=61)(o0:Sl a 0 (Pq g 0))(o3:Sl a 3 (Pq g3 0))
 (S0:Held w0 w (blkR g 85 cs :: blkR g3 28 cn :: L))
 (hend:∀ (a':Act) (vs:Nat->Value) (gs:Nat->Value) (W:World),Same a a' [32,33,34,35,36,37,38,39,40,31,41,42,6,7]->Sl a' 6 (gs 8)->Held w0 W (rowR 23 32 (gs 8) m xs :: blkR g 85 cs :: blkR g3 28 cn :: L)->Q .normal a' W):(Code.region 6 (opsOf 6 Tryz.f45).toArray true).wp Tryz.prog Q a w:=by
 have hap:=pa 6 Tryz.f45
 refine wp_region_sep (Γ:=Value) (l:=(opsOf 6 Tryz.f45)) 3 [0,1,2,3,4,5,6,7,8,9,10,11,12,13,14,15,16]
  (fun i vs gs=>match i with|0=>vs 0=Pq g 0|1=>vs 1=Pq g 0|2=>vs 2=Pq g 0|3=>vs 3=Pq g 3|4=>vs 4=.slice Ah n ch|5=>vs 5=Pq g3 0|6=>vs 6=Pq g3 0|7=>vs 7=Nq k|8=>vs 8=.tuple #[gs 8,.int .i64 cd]|9=>vs 9=.tuple #[gs 8,.int .i64 cd]|10=>vs 10=gs 8|11=>vs 11=.int .i64 cd|12=>vs 12=gs 8|13=>vs 13=.int .i64 cd|_=>True)
  (fun i vs gs=>match i with|8=>[rowR 23 32 (gs 8) m xs]|14=>[blkR g 85 cs]|15=>[blkR g3 28 cn]|16=>L|_=>[])
  (fun i=>match i with  | _=>[]) (fun i=>match i with|4=>[14]|7=>[15]|8=>[16]|_=>[]) S0 (by kernel_rfl) hap (by kernel_rfl) (by kernel_rfl) (fun i=>match i with|0=>[0]|1=>[1]|2=>[2]|3=>[3]|4=>[4]|5=>[5]|6=>[6]|7=>[7]|8=>[8]|9=>[8,9]|10=>[8,10]|11=>[11]|12=>[8,12]|13=>[13]|_=>[]) (by kernel_rfl) ?_ (by kernel_rfl) ?_ ?_ ?_
 . exact lA
 . exact pA
 . clear S0 hend
   and_intros <;> try intro vs gs A' W LF hA S hR hd hu K hK
   . exact qa1 (eO 0 o0)
   . exact qa1 (vD 32 0)
   . exact qa1 (vD 33 1)
   . exact qa1 (vD 34 2)
   . have c0:W.cell? ⟨g,3,none⟩=some (.slice Ah n ch):=by rw [(show Blk W g 85 cs from S.ok (blkR g 85 cs) (hR 14 (by simp) _ (List.mem_singleton.2 rfl))).cell];exact h3
     exact qa1 (vD 35 3)
   . exact qa1 (eO 3 o3)
   . exact qa1 (vD 37 5)
   . have c0:W.cell? ⟨g3,0,none⟩=some (Nq k):=by rw [(show Blk W g3 28 cn from S.ok (blkR g3 28 cn) (hR 15 (by simp) _ (List.mem_singleton.2 rfl))).cell];exact hk0
     exact qa1 (vD 38 6)
   . have e36:=vD 36 4;have e39:=vD 39 7;clear hA o0 o3;go_step
     refine (HC0 W (fun r hr=>S.ok r (hR 16 (by simp) r hr))).mono ?_
     rintro e w' ⟨v,rfl,H⟩
     exact hK v _ w' ((S.join H).perm List.perm_append_comm) rfl
   . exact qa1 (vD 40 8)
   . exact qa1 (vD 31 9)
   . exact qa1 (vD 31 9)
   . exact qa1 (vD 41 10)
   . exact qa1 (vD 42 11)
   . trivial
 . intro vs gs W S hp
   have S:Held w0 W (rowR 23 32 (gs 8) m xs :: blkR g 85 cs :: blkR g3 28 cn :: L):=by simpa only [List.flatMap_cons,List.flatMap_nil,List.append_nil,List.nil_append,List.cons_append,List.append_assoc] using S
   rw [putAll_eq]
   exact hend _ vs gs W sQ (sW (hp 12 sB)) S
theorem mwi_r7(w0:World)(g g3 g5:Nat)(cs:Array Value)(hcs:cs.size=142)(z:Int)(h:Bs)(hh:h.length=32)(A:Option Addr)(c:Nat)(l:List SigD)(hok:SgOk l)(hll:l.length<=1000000)(la:List Value)(hll2:la.length=34)(hla:∀ j u,la[j]?=some u->cs[j+4]?=some u)(x:Bs)(hx32:x.length=32)(Ap:Option Addr)(np cp:Nat)(fd:Bool)(F c1:Value->Array Value)(hF:∀ A n c,Tryz.prog.built 31 [(0,.agg (ntA z h (.slice A n c))),(1,.agg la.toArray),(2,.agg (hashA x)),(3,.slice Ap np cp)]=some (F (.slice A n c)))(hFs:∀ v,(F v).size=101)(hF1:∀ A n c,∀ u,u ∈ (F (.slice A n c)).toList->u.oneCell'=true)(hc1:∀ v,(cs.toList.take 39 ++ (F v).toList ++ cs.toList.drop (39+101)).toArray=c1 v)(h140:∀ v,(c1 v)[140]?=some (.bool fd))(L:List Res)(HVn:∀ V,(∀ r ∈ L,r.ok V)->Rd V 33 (.slice A l.length c) l.length (sgsC l))(hsz:a.tmps.size=61)(o0:Sl a 0 (Pq g 0))(o3:Sl a 3 (Pq g3 0))(o5:Sl a 5 (Pq g5 0))(o6:Sl a 6 (.slice Ap np cp))
 (S0:Held w0 w (blkR g 85 cs :: blkR g3 28 (ntA z h (.slice A l.length c)) :: blkR g5 23 (hashA x) :: L))
 (hend:∀ (a':Act) (vs:Nat->Value) (gs:Nat->Value) (W:World),Same a a' [43,44,45,46,47,48,49,50,51,52,53,54,55,56,57,58,59,60]->Held w0 W (rowR 89 33 (gs 3) l.length (sgsC l) :: blkR g 85 ((c1 (gs 3)).setIfInBounds 140 (.bool true)) :: blkR g3 28 (ntA z h (.slice A l.length c)) :: blkR g5 23 (hashA x) :: L)->Q .normal a' W):(Code.region 7 (opsOf 7 Tryz.f45).toArray true).wp Tryz.prog Q a w:=by
 have hap:=pa 7 Tryz.f45
 refine wp_region_sep (Γ:=Value) (l:=(opsOf 7 Tryz.f45)) 4 [0,1,2,3,4,5,6,7,8,9,10,11,12,13,14,16,17,18,19,21,22,23]
  (fun i vs gs=>match i with|0=>vs 0=Pq g 0|1=>vs 1=Pq g 0|2=>vs 2=.agg (ntA z h (.slice A l.length c))|3=>vs 3=.agg (ntA z h (gs 3))|4=>vs 4=Pq g 0|5=>vs 5=Pq g 0|6=>vs 6=Pq g 0|7=>vs 7=Pq g 4|8=>vs 8=.agg la.toArray|9=>vs 9=.agg (hashA x)|10=>vs 10=.slice Ap np cp|11=>vs 11=.agg (F (gs 3))|12=>vs 12=Pq g 0|13=>vs 13=Pq g 0|14=>vs 14=Pq g 39|16=>vs 16=Pq g 0|17=>vs 17=Pq g 0|18=>vs 18=Pq g 140|_=>True)
  (fun i vs gs=>match i with|3=>[rowR 89 33 (gs 3) l.length (sgsC l)]|15=>[blkR g 85 (c1 (gs 3))]|19=>[blkR g 85 ((c1 (gs 3)).setIfInBounds 140 (.bool true))]|20=>[blkR g 85 cs]|21=>[blkR g3 28 (ntA z h (.slice A l.length c))]|22=>[blkR g5 23 (hashA x)]|23=>L|_=>[])
  (fun i=>match i with|15=>[20]|19=>[15]|_=>[]) (fun i=>match i with|2=>[21]|3=>[23]|8=>[20]|9=>[22]|11=>[3]|15=>[3]|_=>[]) S0 (by kernel_rfl) hap (by kernel_rfl) (by kernel_rfl) (fun i=>match i with|0=>[0]|1=>[1]|2=>[2]|3=>[3]|4=>[4]|5=>[5]|6=>[6]|7=>[7]|8=>[8]|9=>[9]|10=>[10]|11=>[3,11]|12=>[12]|13=>[13]|14=>[14]|15=>[3]|16=>[16]|17=>[17]|18=>[18]|19=>[3]|_=>[]) (by kernel_rfl) ?_ (by kernel_rfl) ?_ ?_ ?_
 . exact lA
 . exact pA
 . clear S0 hend
   and_intros <;> try intro vs gs A' W LF hA S hR hd hu K hK
   . exact qa1 (eO 0 o0)
   . exact qa1 (eO 0 o0)
   . exact ldA (ntA z h (.slice A l.length c)) (eO 3 o3) (Blk.agg (show Blk W g3 28 (ntA z h (.slice A l.length c)) from S.ok (blkR g3 28 (ntA z h (.slice A l.length c))) (hR 21 (by simp) _ (List.mem_singleton.2 rfl)))) Tryz.underlying28 (by rw [ntA_size hh];exact Tryz.infoNote)
   . have e45:=vD 45 2;clear hA o0 o3 o5 o6;go_step
     refine (mnote_any w0 _ z h hh A c l hok hll W S (fun V SV=>HVn V (fun r hr=>SV.ok r (hR 23 (by simp) r hr)))).mono ?_
     rintro e w' ⟨v,rfl,S2⟩
     exact hK v _ w' S2 rfl
   . exact qa1 (eO 0 o0)
   . exact qa1 (vD 47 4)
   . exact qa1 (vD 48 5)
   . exact qa1 (vD 49 6)
   . replace hK:=hK default;have e50:=vD 50 7;clear hA o0 o3 o5 o6;refine op_runs (v:=.agg la.toArray) (w':=W) (exec_load rfl (by simpa [Act.eval] using e50) (run_loadAt_agg W (⟨g,4,none⟩) 28 la _ (fun j u hj=>by rw [show (⟨g,4,none⟩:Addr).add j=⟨g,j+4,none⟩ by simp [Addr.add,Nat.add_comm],(show Blk W g 85 cs from S.ok (blkR g 85 cs) (hR 20 (by simp) _ (List.mem_singleton.2 rfl))).cell];exact hla j u hj) Tryz.underlying28 rfl (by rw [hll2];exact Tryz.infoNote))) ?_
     exact hK _ _ S rfl
   . exact ldA (hashA x) (eO 5 o5) (Blk.agg (show Blk W g5 23 (hashA x) from S.ok (blkR g5 23 (hashA x)) (hR 22 (by simp) _ (List.mem_singleton.2 rfl)))) Tryz.underlying23 (by rw [hashA_size,hx32];exact Tryz.infoHashP)
   . exact qa1 (eO 6 o6)
   . replace hK:=hK default;have e46:=vD 46 3;have e51:=vD 51 8;have e52:=vD 52 9;have e53:=vD 53 10;clear hA o0 o3 o5 o6
     obtain ⟨Av,cv,hv,-,-⟩:=ow_form (show Ow W 89 33 (gs 3) l.length (sgsC l) from S.ok (rowR 89 33 (gs 3) l.length (sgsC l)) (hR 3 (by simp) _ (List.mem_singleton.2 rfl)))
     rw [hv] at e46
     refine op_build 31 _ rfl [(0,.agg (ntA z h (.slice Av l.length cv))),(1,.agg la.toArray),(2,.agg (hashA x)),(3,.slice Ap np cp)] (by simp [Act.eval,e46,e51,e52,e53]) _ (hF Av l.length cv) ?_
     exact hK _ _ S (show Value.agg (F (.slice Av l.length cv))=.agg (F (gs 3)) by rw [hv])
   . exact qa1 (vD 43 0)
   . exact qa1 (vD 55 12)
   . exact qa1 (vD 56 13)
   . replace hK:=hK default;have e57:=vD 57 14;have e54:=vD 54 11;clear hA o0 o3 o5 o6
     obtain ⟨Av,cv,hv,-,-⟩:=ow_form (show Ow W 89 33 (gs 3) l.length (sgsC l) from S.ok (rowR 89 33 (gs 3) l.length (sgsC l)) (List.mem_cons_of_mem _ (hR 3 (by simp) _ (List.mem_singleton.2 rfl))))
     have S1:Held w0 W (blkR g 85 cs :: LF):=S
     refine op_store_part (.tmp 57) (.tmp 54) 31 rfl g 39 (by simpa [Act.eval] using e57) (F (gs 3)) (by simpa [Act.eval] using e54) 85 cs (S1.at_ (l1:=[])) (by rw [hFs];exact Tryz.infoFork) (by rw [hFs,hcs];decide) (by rw [hv];exact hF1 _ _ _) ?_
     intro w' b7 k7
     rw [hFs,hc1] at b7
     exact hK _ _ (Held.setBlk (l1:=[]) S1 b7 k7) trivial
   . exact qa1 (vD 44 1)
   . exact qa1 (vD 58 16)
   . exact qa1 (vD 59 17)
   . replace hK:=hK default;have e60:=vD 60 18;clear hA o0 o3 o5 o6
     have S1:Held w0 W (blkR g 85 (c1 (gs 3)) :: LF):=S
     have c33:W.cell? ⟨g,140,none⟩=some (.bool fd):=by rw [(show Blk W g 85 (c1 (gs 3)) from S1.at_ (l1:=[])).cell];exact h140 _
     have f33:=(show Blk W g 85 (c1 (gs 3)) from S1.at_ (l1:=[])).frozen 140
     have S2:=S1.set (l1:=[]) 140 (.bool true)
     go_step
     exact hK undef _ S2 trivial
   . trivial
 . intro vs gs W S hp
   have S:Held w0 W (rowR 89 33 (gs 3) l.length (sgsC l) :: blkR g 85 ((c1 (gs 3)).setIfInBounds 140 (.bool true)) :: blkR g3 28 (ntA z h (.slice A l.length c)) :: blkR g5 23 (hashA x) :: L):=by simpa only [List.flatMap_cons,List.flatMap_nil,List.append_nil,List.nil_append,List.cons_append,List.append_assoc] using S
   rw [putAll_eq]
   exact hend _ vs gs W sQ  S
end
section
open Go.RowKit Go.Shelf
theorem fkL_one{n1 n2 r:List Value}{p:Value}(h1:∀ u ∈ n1,u.oneCell'=true)(h2:∀ u ∈ n2,u.oneCell'=true)(h3:∀ u ∈ r,u.oneCell'=true)(hp:p.oneCell'=true):∀ u,u ∈ (fkL n1 n2 r p).toArray.toList->u.oneCell'=true:=by
 intro u hu
 simp only [fkL,List.toList_toArray,List.mem_append,List.mem_cons,List.not_mem_nil,or_false] at hu
 rcases hu with hu|hu|hu|rfl
 . exact h1 u hu
 . exact h2 u hu
 . exact h3 u hu
 . exact hp
section
variable {k0 k1 e h:Value} {la:List Value} {nd:Bool} {fk:List Value} {fd md:Bool}
theorem mirC_setF{F:List Value}(h1:la.length=34)(h2:fk.length=101):((mirC k0 k1 e h la nd fk fd md).toList.take 39 ++ F ++ (mirC k0 k1 e h la nd fk fd md).toList.drop (39+101)).toArray=mirC k0 k1 e h la nd F fd md:=by
 simp [mirC,List.take_append,List.drop_append,h1,h2,List.take_of_length_le,List.drop_of_length_le]
theorem mirC_setL{F:List Value}(h1:la.length=34):((mirC k0 k1 e h la nd fk fd md).toList.take 4 ++ F ++ (mirC k0 k1 e h la nd fk fd md).toList.drop (4+34)).toArray=mirC k0 k1 e h F nd fk fd md:=by
 simp [mirC,List.drop_append,h1,List.drop_of_length_le]
theorem mirC_setFd{b:Bool}(h1:la.length=34)(h2:fk.length=101):(mirC k0 k1 e h la nd fk fd md).setIfInBounds 140 (.bool b)=mirC k0 k1 e h la nd fk b md:=by
 simp [mirC,List.set_append,h1,h2]
theorem mirC_setNd{b:Bool}(h1:la.length=34):(mirC k0 k1 e h la nd fk fd md).setIfInBounds 38 (.bool b)=mirC k0 k1 e h la b fk fd md:=by
 simp [mirC,List.set_append,h1]
theorem mirC_setH{u:Value}:(mirC k0 k1 e h la nd fk fd md).setIfInBounds 3 u=mirC k0 k1 e u la nd fk fd md:=by
 simp [mirC]
theorem mirC_setE{u:Value}:(mirC k0 k1 e h la nd fk fd md).setIfInBounds 2 u=mirC k0 k1 u h la nd fk fd md:=by
 simp [mirC]
end
theorem mwithin_any(w0:World)(L:List Res)(g:Nat)(k0 k1 e:Value)(Ah:Option Addr)(ch:Nat)(hl:List (List UInt8))(hokh:HsOk hl)(hhl:hl.length<=1000000)(la:List Value)(hla:la.length=34)(hla1:∀ u ∈ la,u.oneCell'=true)(nd:Bool)(fk:List Value)(hfk:fk.length=101)(k:Nat)(hk:k<=hl.length)(h:Bs)(hh:h.length=32)(A:Option Addr)(c:Nat)(l:List SigD)(hok:SgOk l)(hll:l.length<=1000000)(w:World)(S:Held w0 w (blkR g 85 (mirC k0 k1 e (.slice Ah hl.length ch) la nd fk false true) :: L))(HVn:∀ V,(∀ r ∈ L,r.ok V)->Rd V 33 (.slice A l.length c) l.length (sgsC l))(HVh:∀ V,(∀ r ∈ L,r.ok V)->Rd V 32 (.slice Ah hl.length ch) hl.length (hsC hl)):
 Calls Tryz.prog 45 #[Pq g 0,.agg (ntA (k:Int) h (.slice A l.length c))] w fun r w'=>
  (rootF (hl.take k)=h ∧ r=.returned (.int .i64 0) ∧ Held w0 w' (blkR g 85 (mirC k0 k1 e (.slice Ah hl.length ch) la nd fk false true) :: L)) ∨
  (rootF (hl.take k) ≠ h ∧ nd=false ∧ r=.returned (.int .i64 403) ∧ Held w0 w' (blkR g 85 (mirC k0 k1 e (.slice Ah hl.length ch) la nd fk false true) :: L)) ∨
  (rootF (hl.take k) ≠ h ∧ nd=true ∧ r=.returned (.int .i64 400) ∧ ∃ v p,Held w0 w' (blkR g 85 (mirC k0 k1 e (.slice Ah hl.length ch) la nd (fkL (ntL k h v) la (bv (rootF (hl.take k))) p) true true) :: rowR 89 33 v l.length (sgsC l) :: rowR 23 32 p (prvF (k:Int) hl).length (hsC (prvF (k:Int) hl)) :: L)):=by
 have hlc:hl.length<=ch:=by
  obtain ⟨-,A',c',e,h1,-,-,-⟩:=HVh w (fun r hr=>S.ok r (List.mem_cons_of_mem _ hr))
  cases e
  exact h1
 have hx32:=rootF_length (hokh.take k)
 have hM:=mirC_size (k0:=k0) (k1:=k1) (e:=e) (h:=.slice Ah hl.length ch) (nd:=nd) (fd:=false) (md:=true) hla hfk
 have hlen:(hl.take k).length=k:=by rw [List.length_take];omega
 refine calls_fr Tryz.func45 rfl 61 rfl (fun a0 hsz hdf hAr=>?_)
 have hz0:a0.tmps.size=61:=hsz
 have D:=hdf
 have o0:=hAr 0 _ rfl
 have o1:=hAr 1 _ rfl
 refine wp_seq (mwi_r0 w0 _ (ntA_size hh) (ntA_one rfl) _ S hz0 o1 (fun a1 w1 hs1 o4 h1=>?_))
 obtain ⟨hz1,D,o0,o1⟩:=kq2 hs1 hz0 D o0 o1
 obtain ⟨g3,o3,S1⟩:=h1
 have HC:∀ V,(∀ r ∈ L,r.ok V)->Calls Tryz.prog 49 #[.slice Ah k ch] V fun e w'=>e=.returned (.agg (hashA (rootF (hl.take k)))) ∧ Kp [] V w':=fun V hV=>by
  have h:=tof_any Ah ch (hl.take k) (hokh.take k) V (by rw [hlen];exact rd_hiH hokh (HVh V hV) rfl hk)
  rwa [hlen] at h
 obtain ⟨x,hx⟩:∃ x,rootF (hl.take k)=x:=⟨_,rfl⟩
 rw [hx] at HC hx32 ⊢
 refine wp_seq (mwi_r1 w0 g g3 _ _ Ah hl.length ch k (by omega) x hx32 mirC_3 ntA_size0 L HC hz1 o0 o3 (S1.pull 1 rfl) (fun a2 vs gs w2 hs2 o5 S2=>?_))
 obtain ⟨hz2,D,o0,o3⟩:=kq2 hs2 hz1 D o0 o3
 obtain ⟨g5,hg5⟩:∃ g5,gs 10=g5:=⟨_,rfl⟩
 rw [hg5] at o5 S2
 clear hg5
 refine wp_seq (wp_block ?_)
 (conv=>arg 2;whnf)
 refine wp_seq (mwi_r2 g3 g5 (k:Int) h hh _ x hx32 (S2.at_ (l1:=[_,_])) (S2.at_ (l1:=[])) hz2 o3 o5 (fun a3 w3 hs3 k3 o18=>?_))
 obtain ⟨hz3,D,o0,o3,o5⟩:=kq3 hs3 hz2 D o0 o3 o5
 have S3:=S2.kp k3
 cases hxh:(x == h)
 . rw [hxh] at o18
   have hne:x ≠ h:=fun e=>by rw [e] at hxh;simp at hxh
   refine wcF o18 ?_
   refine wp_seq (mwi_r4 g _ nd (S3.at_ (l1:=[_])) (mirC_nd hla) hz3 o0 (fun a4 hs4 o24=>?_))
   obtain ⟨hz4,D,o0,o3,o5⟩:=kq3 hs4 hz3 D o0 o3 o5
   cases nd
   . refine wcT o24 ?_
     refine wp_seq (mwi_r5 hz4 (fun a5 hs5 o4=>?_))
     obtain ⟨hz5,D⟩:=kq0 hs5 hz4 D
     refine wp_ret ?_
     simp only [Exit.then,Exit.inBlock]
     exact bodyPost_ret (res_u1 (by rfl) (o4.eval (by rw [hz5];decide))) D (.inr (.inl ⟨hne,by simp,rfl,S3.drop.sub (.cons_cons _ (.cons _ (List.Sublist.refl _)))⟩))
   . refine wcF o24 (wp_skip ?_)
     simp only [Exit.then,Exit.inBlock]
     refine wp_seq (mwi_r6 w0 g g3 _ _ Ah hl.length ch k (prvF (k:Int) hl).length (hsC (prvF (k:Int) hl)) (if (k:Int) < 0 ∨ (hl.length:Int) < (k:Int) then 4 else 0) mirC_3 ntA_size0 (blkR g5 23 (hashA x) :: L) (fun V hV=>cprove_any Ah ch hl hokh hhl (k:Int) V (HVh V (fun r hr=>hV r (List.mem_cons_of_mem _ hr)))) hz4 o0 o3 ((S3.pull 2 rfl).pull 2 rfl) (fun a5 vs5 gs5 w5 hs5 o6 S5=>?_))
     obtain ⟨hz5,D,o0,o3,o5⟩:=kq3 hs5 hz4 D o0 o3 o5
     obtain ⟨p,hp⟩:∃ p,gs5 8=p:=⟨_,rfl⟩
     rw [hp] at o6 S5
     clear hp
     obtain ⟨Ap,cp,rfl,-,-⟩:=ow_form (show Ow w5 23 32 p _ _ from S5.at_ (l1:=[]))
     have S6:=((((S5.pull 0 rfl).pull 3 rfl).pull 3 rfl).pull 3 rfl)
     refine wp_seq (mwi_r7 w0 g g3 g5 _ hM (k:Int) h hh A c l hok hll la hla (fun j u hj=>mirC_la hla hj) x hx32 Ap (prvF (k:Int) hl).length cp false (fun v=>(fkL (ntL k h v) la (bv x) (.slice Ap (prvF (k:Int) hl).length cp)).toArray) (fun v=>mirC k0 k1 e (.slice Ah hl.length ch) la true (fkL (ntL k h v) la (bv x) (.slice Ap (prvF (k:Int) hl).length cp)) false true) (fun A' n' c'=>Tryz.built_fork (ntA (k:Int) h (.slice A' n' c')) la.toArray (hashA x) (ntA_size hh) (by simp [hla]) (by rw [hashA_size,hx32]) Ap _ cp) (fun v=>by simp [fkL,ntL,bv_length,hla,hh,hx32]) (fun A' n' c'=>fkL_one (fun u hu=>ntA_one (z:=(k:Int)) (h:=h) (v:=.slice A' n' c') rfl u (by simpa [ntA] using hu)) hla1 (bv_one x) rfl) (fun v=>mirC_setF hla hfk) (fun v=>mirC_fd hla (by simp [fkL,ntL,bv_length,hla,hh,hx32])) (rowR 23 32 (.slice Ap (prvF (k:Int) hl).length cp) (prvF (k:Int) hl).length (hsC (prvF (k:Int) hl)) :: L) (fun V hV=>HVn V (fun r hr=>hV r (List.mem_cons_of_mem _ hr))) hz5 o0 o3 o5 o6 S6 (fun a6 vs7 gs7 w7 hs6 S7=>?_))
     obtain ⟨hz6,D,o0,o3,o5,o6⟩:=kq4 hs6 hz5 D o0 o3 o5 o6
     refine wp_seq (mwi_r8 hz6 (fun a7 hs7 o4=>?_))
     obtain ⟨hz7,D⟩:=kq0 hs7 hz6 D
     refine wp_ret ?_
     have S8:=(((((S7.pull 3 rfl).pull 3 rfl).pull 4 rfl).pull 3 rfl).pull 4 rfl)
     rw [mirC_setFd hla (by simp [fkL,ntL,bv_length,hla,hh,hx32])] at S8
     exact bodyPost_ret (res_u1 (by rfl) (o4.eval (by rw [hz7];decide))) D (.inr (.inr ⟨hne,by simp,rfl,_,_,S8.sub (.cons_cons _ (.cons_cons _ (.cons_cons _ (.cons _ (.cons _ (List.Sublist.refl _))))))⟩))
 . rw [hxh] at o18
   have he:x=h:=eq_of_beq hxh
   refine wcT o18 ?_
   refine wp_seq (mwi_r3 hz3 (fun a4 hs4 o4=>?_))
   obtain ⟨hz4,D⟩:=kq0 hs4 hz3 D
   refine wp_ret ?_
   simp only [Exit.then,Exit.inBlock]
   exact bodyPost_ret (res_u1 (by rfl) (o4.eval (by rw [hz4];decide))) D (.inl ⟨he,rfl,S3.drop.sub (.cons_cons _ (.cons _ (List.Sublist.refl _)))⟩)
end
section
variable {Q:Exit->Act->World->Prop} {a:Act} {w:World}
open Go.RowKit Go.Shelf
attribute [local go_sem] Oper.semAt_some
theorem zeros_size(n m:Nat)(h:n<=m):(([]:List Value).toArray ++ Builtin.zeroCells (Value.cells (.agg (hashA (List.replicate 32 0)))) n ++ Builtin.zeroCells (Value.cells (.agg (hashA (List.replicate 32 0)))) (m - n)).size=m * 32:=by
 have hz:(Value.cells (.agg (hashA (List.replicate 32 0)))).size=32:=by show (hashA (List.replicate 32 0)).size=32;rw [hashA_size];simp
 simp only [Array.size_append,size_zeroCells,hz,List.size_toArray,List.length_nil,<- Nat.add_mul]
 omega
theorem sgr_r0(hsz:a.tmps.size=27):RG0 0 Tryz.f90 Q a w fun a' q'=>Sl a' 4 (.slice none 0 0)->q':=rO
theorem sgr_r1(n:Nat)(hsz:a.tmps.size=27)(o1:Sl a 1 (Nq n)):RG0 1 Tryz.f90 Q a w fun a' q'=>Sl a' 6 (.bool false)->q':=by
 have h0:¬ ((n:Int) < 0):=by omega
 exact rO
theorem sgr_r3(n:Nat)(hn:n<=2000000)(hsz:a.tmps.size=27)(o0:Sl a 0 (.slice none 0 0))(o1:Sl a 1 (Nq n)):RG0 3 Tryz.f90 Q a w fun a' q'=>Sl a' 1 (Nq n)->q':=by
 have hw:wrap64 ((0:Int) - 0)=0:=by unfold wrap64;omega
 have hw2:wrap64 ((n:Int) - 0)=(n:Int):=by unfold wrap64;omega
 have hw3:wrap64 (n:Int)=(n:Int):=by unfold wrap64;omega
 exact rO
theorem sgr_r4(n:Nat)(hsz:a.tmps.size=27)(o1:Sl a 1 (Nq n)):RG0 4 Tryz.f90 Q a w fun a' q'=>Sl a' 16 (.bool (decide (0 < n)))->q':=rO
theorem sgr_r5(w0:World)(n:Nat)(h0:0 < n)(hn:n<=2000000)(L:List Res)(S:Held w0 w L)(hsz:a.tmps.size=27)(o0:Sl a 0 (.slice none 0 0))(o1:Sl a 1 (Nq n)):RG1 false 5 Tryz.f90 Q a w fun a' W q'=>(∃ v,Sl a' 0 v ∧ Held w0 W (rowR 23 32 v 0 [] :: L))->q':=by
 intro hend
 refine wp_region_lit ?_
 (conv=>arg 4;whnf)
 unfold Sl at o0 o1
 have S:=LH S
 obtain ⟨i0,hi,hz,hsize,hby⟩:=info_parts Tryz.infoHashZ
 have HA0:=Lib.run_append_grow_zeros w 29 3 29 23 i0 _ .i64 .i64 Tryz.underlying29 Tryz.underlying3 hi hz none 0 0 [] (run_firstCells_none w.drew i0.size 0 0 0) n h0 (by rw [hsize];decide) (by omega) (by omega) (by rw [hby];omega) (by rw [hby];exact growslice_fits (by omega) (by omega))
 rw [Nat.zero_add] at HA0
 have HG:Hid (n<=grownCap w n 0 23 ∧ grownCap w n 0 23<=maxLen):=LH ⟨grownCap_ge _ _ _ _,grownCap_le_maxLen _ _ _ _ (by unfold maxLen;omega)⟩
 generalize grownCap w n 0 23=c2 at *
 have HZ:=LH (zeros_size n c2 HG.out.1)
 generalize ([]:List Value).toArray ++ Builtin.zeroCells (Value.cells (.agg (hashA (List.replicate 32 0)))) n ++ Builtin.zeroCells (Value.cells (.agg (hashA (List.replicate 32 0)))) (c2 - n)=C2 at *
 have HA:=LH HA0
 clear HA0 hz
 have h1:¬ c2=0:=by have:=HG.out.1;omega
 have h2:0<=(c2:Int):=by omega
 go_wp2_with (at_builtin;refine Lib.wpList_append_run _ rfl (.tmp 20) (.tmp 21) 29 3 rfl (.slice none 0 0) (Nq n) aE (aO o1) _ _ HA.out ?_)
 have S2:=LH (Held.blk_row (n:=0) (xs:=[]) ((S.out.newBlk 23 C2).kp (Kp.refl [] _).drew) HZ.out (by simp) (Nat.zero_le _) HG.out.2)
 try simp only [Act.put]
 exact hend _ _ tS (⟨_,sP0,S2.out⟩)
theorem sgr_r6(x:Value)(hsz:a.tmps.size=27)(o0:Sl a 0 (x)):RG0 6 Tryz.f90 Q a w fun a' q'=>Sl a' 4 (x)->q':=rO
theorem sgrow_any(n:Nat)(hn:n<=2000000)(w:World):Calls Tryz.prog 90 #[.slice none 0 0,Nq n] w fun e w'=>∃ v,e=.returned v ∧ Held w w' [rowR 23 32 v 0 []]:=by
 refine calls_fr Tryz.func90 rfl 27 rfl (fun a0 hsz hdf hAr=>?_)
 have hz0:a0.tmps.size=27:=hsz
 have D:=hdf
 have o0:=hAr 0 _ rfl
 have o1:=hAr 1 _ rfl
 refine wp_seq (sgr_r0 hz0 (fun a1 hs1 o4=>?_))
 obtain ⟨hz1,D,o0,o1⟩:=kq2 hs1 hz0 D o0 o1
 refine wp_seq (wp_seq (sgr_r1 n hz1 o1 (fun a2 hs2 o6=>?_)))
 obtain ⟨hz2,D,o0,o1⟩:=kq2 hs2 hz1 D o0 o1
 refine wcF o6 (wp_skip ?_)
 simp only [Exit.then]
 refine wp_seq (wp_seq (sgr_r3 n hn hz2 o0 o1 (fun a3 hs3 o1=>?_)))
 obtain ⟨hz3,D,o0⟩:=kq1 hs3 hz2 D o0
 refine wp_seq (sgr_r4 n hz3 o1 (fun a4 hs4 o16=>?_))
 obtain ⟨hz4,D,o0,o1⟩:=kq2 hs4 hz3 D o0 o1
 by_cases h0:0 < n
 . refine wcT o16 ?_ (by rw [decide_eq_true h0])
   refine sgr_r5 w n h0 hn [] (Held.start w) hz4 o0 o1 (fun a5 w5 hs5 h5=>?_)
   obtain ⟨v,o0,S⟩:=h5
   obtain ⟨hz5,D⟩:=kq0 hs5 hz4 D
   simp only [Exit.then]
   refine wp_seq (sgr_r6 v hz5 o0 (fun a6 hs6 o4=>?_))
   obtain ⟨hz6,D,o0⟩:=kq1 hs6 hz5 D o0
   refine wp_ret ?_
   exact bodyPost_ret (res_u1 (by rfl) (o4.eval (by rw [hz6];decide))) D ⟨v,rfl,S⟩
 . refine wcF o16 (wp_skip ?_) (by rw [decide_eq_false h0])
   simp only [Exit.then]
   refine wp_seq (sgr_r6 _ hz4 o0 (fun a5 hs5 o4=>?_))
   obtain ⟨hz5,D,o0⟩:=kq1 hs5 hz4 D o0
   refine wp_ret ?_
   exact bodyPost_ret (res_u1 (by rfl) (o4.eval (by rw [hz5];decide))) D ⟨_,rfl,(Held.start w).rownew (World.ownsRow_nil _ _ _ _:Ow w 23 32 (.slice none 0 0) 0 []) (Kp.refl [] w) (fun g hg=>by cases hg)⟩
theorem scc_r0(hsz:a.tmps.size=36):RG0 0 Tryz.f47 Q a w fun a' q'=>Sl a' 2 (.slice none 0 0)->q':=rO
theorem scc_r1(hsz:a.tmps.size=36):RG0 1 Tryz.f47 Q a w fun a' q'=>Sl a' 3 (Nq 0)->q':=rO
theorem scc_r2(A:Option Addr)(n c:Nat)(hsz:a.tmps.size=36)(o0:Sl a 0 (.slice A n c)):RG0 2 Tryz.f47 Q a w fun a' q'=>Sl a' 9 (.slice A n c)->Sl a' 10 (Nq n)->Sl a' 11 (Nq 0)->q':=rO
theorem scc_r3(k n:Nat)(hsz:a.tmps.size=36)(o10:Sl a 10 (Nq n))(o11:Sl a 11 (Nq k)):RG0 3 Tryz.f47 Q a w fun a' q'=>Sl a' 12 (.bool (decide (k < n)))->q':=rO
theorem scc_r4(ad:Addr)(k n c:Nat)(hk:k < n)(u:Value)(hu:w.cell? (ad.add k)=some u)(hus:∃ Au nu cu,u=.slice Au nu cu)(hsz:a.tmps.size=36)(o9:Sl a 9 (.slice (some ad) n c))(o11:Sl a 11 (Nq k)):RG0 4 Tryz.f47 Q a w fun a' q'=>Sl a' 5 (u)->q':=by
 have h0:0<=(k:Int):=by omega
 have h1:(k:Int) < (n:Int):=by omega
 obtain ⟨Au,nu,cu,rfl⟩:=hus
 exact rO
theorem scc_r8(k:Nat)(hk:k < 9223372036854775807)(hsz:a.tmps.size=36)(o11:Sl a 11 (Nq k)):RG0 8 Tryz.f47 Q a w fun a' q'=>Sl a' 11 (Nq (k+1))->q':=by
 have hw:wrap64 ((k:Int)+1)=(k:Int)+1:=by unfold wrap64;omega
 exact rO
theorem scc_r5(A:Option Addr)(n c m:Nat)(hm:m+n < 9223372036854775808)(hsz:a.tmps.size=36)(o3:Sl a 3 (Nq m))(o5:Sl a 5 (.slice A n c)):RG0 5 Tryz.f47 Q a w fun a' q'=>Sl a' 3 (Nq (m+n))->q':=by
 have hw:wrap64 ((m:Int)+(n:Int))=(m:Int)+(n:Int):=by unfold wrap64;omega
 exact rO
theorem scc_r6(m:Nat)(hsz:a.tmps.size=36)(o3:Sl a 3 (Nq m)):RG0 6 Tryz.f47 Q a w fun a' q'=>Sl a' 20 (.bool false)->q':=by
 have h0:¬ ((m:Int) < 0):=by omega
 exact rO
theorem scc_r9(n:Nat)(hn:n<=2000000)(hsz:a.tmps.size=36)(o3:Sl a 3 (Nq n)):RG1 false 9 Tryz.f47 Q a w fun a' W q'=>(∃ v,Sl a' 6 v ∧ Held w W [rowR 23 32 v 0 []])->q':=by
 intro hend
 refine wp_region_lit ?_
 (conv=>arg 4;whnf)
 unfold Sl at o3
 have HC:=LH (sgrow_any n hn w)
 clear hn
 go_wp2_with fail
 refine HC.out.mono ?_
 rintro e w1 ⟨v,rfl,S1⟩
 have S1:=LH S1
 go_wp2_with fail
 try simp only [Act.put]
 exact hend _ _ tS (⟨v,sP0,S1.out⟩)
theorem scc_r10(A:Option Addr)(n c:Nat)(hsz:a.tmps.size=36)(o0:Sl a 0 (.slice A n c)):RG0 10 Tryz.f47 Q a w fun a' q'=>Sl a' 25 (.slice A n c)->Sl a' 26 (Nq n)->Sl a' 27 (Nq 0)->q':=rO
theorem scc_r11(k n:Nat)(hsz:a.tmps.size=36)(o26:Sl a 26 (Nq n))(o27:Sl a 27 (Nq k)):RG0 11 Tryz.f47 Q a w fun a' q'=>Sl a' 28 (.bool (decide (k < n)))->q':=rO
theorem scc_r12(ad:Addr)(k n c:Nat)(hk:k < n)(u:Value)(hu:w.cell? (ad.add k)=some u)(hus:∃ Au nu cu,u=.slice Au nu cu)(hsz:a.tmps.size=36)(o25:Sl a 25 (.slice (some ad) n c))(o27:Sl a 27 (Nq k)):RG0 12 Tryz.f47 Q a w fun a' q'=>Sl a' 8 (u)->q':=by
 have h0:0<=(k:Int):=by omega
 have h1:(k:Int) < (n:Int):=by omega
 obtain ⟨Au,nu,cu,rfl⟩:=hus
 exact rO
theorem scc_r14(k:Nat)(hk:k < 9223372036854775807)(hsz:a.tmps.size=36)(o27:Sl a 27 (Nq k)):RG0 14 Tryz.f47 Q a w fun a' q'=>Sl a' 27 (Nq (k+1))->q':=by
 have hw:wrap64 ((k:Int)+1)=(k:Int)+1:=by unfold wrap64;omega
 exact rO
theorem scc_r15(x:Value)(hsz:a.tmps.size=36)(o6:Sl a 6 (x)):RG0 15 Tryz.f47 Q a w fun a' q'=>Sl a' 2 (x)->q':=rO
theorem scc_r13(w0:World)(u:Value)(m n:Nat)(hm:m+n<=2000000)(xs ys:List Value)(hy:∀ u ∈ ys,u.oneCell'=true)(A:Option Addr)(c:Nat)(hr:Rd w 32 (.slice A n c) n ys)(L:List Res)(S:Held w0 w (rowR 23 32 u m xs :: L))(hsz:a.tmps.size=36)(o6:Sl a 6 (u))(o8:Sl a 8 (.slice A n c)):RG1 false 13 Tryz.f47 Q a w fun a' W q'=>(∃ v,Sl a' 6 v ∧ Held w0 W (rowR 23 32 v (m+n) (xs ++ ys) :: L))->q':=by
 intro hend
 refine wp_region_lit ?_
 (conv=>arg 4;whnf)
 unfold Sl at o6 o8
 have S:=LH S
 have HR:=LH hr
 clear hr
 have hy:=LH hy
 have hb1:Hid (m+n<=maxLen ∧ (m+n) * 32<=140737488355328):=LH (by unfold maxLen;omega)
 clear hm
 go_wp2_with (at_builtin;refine wpList_appH rfl (.tmp 31) (.tmp 32) 29 23 rfl Tryz.infoHashZ Tryz.underlying29 rfl (by decide) u m xs aE S.out (.slice A n c) n ys aE HR.out hy.out hb1.out.1 hb1.out.2 ?_;intro v2 w2 S3;have S3:=LH S3)
 try simp only [Act.put]
 exact hend _ _ tS (⟨v2,sP0,S3.out⟩)
end
section
open Go.RowKit Go.Shelf
abbrev HV:=Value × List (List UInt8)
def hvF (xs:List HV):List (List UInt8):=xs.flatMap (·.2)
theorem hvF_snoc{xs:List HV}{k:Nat}{x:HV}(h:xs[k]?=some x):hvF (xs.take (k+1))=hvF (xs.take k) ++ x.2:=by
 rw [List.take_add_one,h]
 simp [hvF]
theorem hvF_le(xs:List HV)(k:Nat):(hvF (xs.take k)).length<=(hvF xs).length:=by
 have h:hvF xs=hvF (xs.take k) ++ hvF (xs.drop k):=by unfold hvF;rw [<- List.flatMap_append,List.take_append_drop]
 rw [h,List.length_append]
 omega
theorem sconcat_any(A:Option Addr)(c:Nat)(xs:List HV)(hn:(hvF xs).length<=2000000)(w:World)(hv:Rd w 1 (.slice A xs.length c) xs.length (xs.map (·.1)))(hx:∀ x ∈ xs,Rd w 32 x.1 x.2.length (hsC x.2)):
 Calls Tryz.prog 47 #[.slice A xs.length c] w fun e w'=>∃ v,e=.returned v ∧ Held w w' [rowR 23 32 v (hvF xs).length (hsC (hvF xs))]:=by
 have hlm:xs.length<=9223372036854775807:=by
  obtain ⟨-,A',c',e,h1,h2,-,-⟩:=hv
  unfold maxLen at h2
  omega
 have hcell:∀ (ad:Addr),A=some ad->∀ k x,xs[k]?=some x->∀ V,Kp [] w V->V.cell? (ad.add k)=some x.1:=fun ad e k x hk V kV=>by
  obtain ⟨-,A',c',e1,-,-,-,h5⟩:=rd_old hv kV
  cases e1
  exact h5 ad e k x.1 (by rw [List.getElem?_map,hk];rfl)
 have hform:∀ x ∈ xs,∃ Au nu cu,x.1=.slice Au nu cu:=fun x hx'=>by
  obtain ⟨-,A',c',e1,-⟩:=hx x hx'
  exact ⟨_,_,_,e1⟩
 refine calls_fr Tryz.func47 rfl 36 rfl (fun a0 hsz hdf hAr=>?_)
 have hz0:a0.tmps.size=36:=hsz
 have D:=hdf
 have o0:=hAr 0 _ rfl
 refine wp_seq (scc_r0 hz0 (fun a1 hs1 o2=>?_))
 obtain ⟨hz1,D,o0⟩:=kq1 hs1 hz0 D o0
 refine wp_seq (scc_r1 hz1 (fun a2 hs2 o3=>?_))
 obtain ⟨hz2,D,o0⟩:=kq1 hs2 hz1 D o0
 refine wp_seq (wp_seq (scc_r2 A xs.length c hz2 o0 (fun a3 hs3 o9 o10 o11=>?_)))
 obtain ⟨hz3,D,o0,o3⟩:=kq2 hs3 hz2 D o0 o3
 refine wp_block ?_
 (conv=>arg 2;whnf)
 refine wp_loop (fun a' w'=>∃ (k:Nat),k<=xs.length ∧ a'.tmps.size=36 ∧ a'.defers=[] ∧ Sl a' 0 (.slice A xs.length c) ∧ Sl a' 3 (.int .i64 (((hvF (xs.take k)).length:Nat):Int)) ∧ Sl a' 9 (.slice A xs.length c) ∧ Sl a' 10 (Nq (xs.length)) ∧ Sl a' 11 (Nq k) ∧ Kp [] w w') (fun a' _=>xs.length - (intOf (a'.eval (.tmp 11))).toNat) ⟨0,Nat.zero_le _,hz3,D,o0,o3,o9,o10,o11,Kp.refl _ _⟩ ?_
 iterate 9 (try clear o0)
 iterate 9 (try clear o3)
 iterate 9 (try clear o9)
 iterate 9 (try clear o10)
 iterate 9 (try clear o11)
 iterate 9 (try clear D)
 rintro a7 w7 ⟨k,hk,hz7,D,o0,o3,o9,o10,o11,K7⟩
 have e11:=o11.eval (by rw [hz7];decide)
 refine wp_seq (scc_r3 k xs.length hz7 o10 o11 (fun a8 hs8 o12=>?_))
 obtain ⟨hz8,D,o0,o3,o9,o10,o11⟩:=kq5 hs8 hz7 D o0 o3 o9 o10 o11
 by_cases hlt:k < xs.length
 . refine wp_seq (wcT o12 (wp_skip ?_) (by rw [decide_eq_true hlt]))
   simp only [Exit.then]
   obtain ⟨x,hxk⟩:∃ x,xs[k]?=some x:=⟨_,List.getElem?_eq_getElem hlt⟩
   have hxm:=List.mem_of_getElem? hxk
   obtain ⟨ad,rfl⟩:=rd_addr hv (by omega)
   obtain ⟨-,Ax,cx,ex,-⟩:=hx x hxm
   refine wp_seq (wp_block ?_)
   refine wp_seq (scc_r4 ad k xs.length c hlt x.1 (hcell ad rfl k x hxk w7 K7) (hform x hxm) hz8 o9 o11 (fun a9 hs9 o5=>?_))
   obtain ⟨hz9,D,o0,o3,o9,o10,o11⟩:=kq5 hs9 hz8 D o0 o3 o9 o10 o11
   rw [ex] at o5
   have hs1:=hvF_snoc hxk
   have hle:=hvF_le xs (k+1)
   have hln:(hvF (xs.take (k+1))).length=(hvF (xs.take k)).length+x.2.length:=by rw [hs1,List.length_append]
   refine wp_seq (scc_r5 Ax x.2.length cx (hvF (xs.take k)).length (by omega) hz9 o3 o5 (fun a10 hs10 o3=>?_))
   obtain ⟨hz10,D,o0,o9,o10,o11,o5⟩:=kq5 hs10 hz9 D o0 o9 o10 o11 o5
   refine wp_seq (scc_r6 _ hz10 o3 (fun a11 hs11 o20=>?_))
   obtain ⟨hz11,D,o0,o9,o10,o11,o5,o3⟩:=kq6 hs11 hz10 D o0 o9 o10 o11 o5 o3
   refine wcF o20 (wp_skip ?_)
   simp only [Exit.inBlock,Exit.then]
   refine scc_r8 k (by omega) hz11 o11 (fun a12 hs12 o11=>?_)
   have hz12:=hs12.size.trans hz11
   rw [<- hln] at o3
   refine ⟨⟨k+1,hlt,hz12,hs12.defers.trans D,hs12.q o0,hs12.q o3,hs12.q o9,hs12.q o10,o11,K7⟩,?_⟩
   show xs.length - (intOf _).toNat < xs.length - (intOf _).toNat
   rw [e11,o11.eval (by rw [hz12];decide)]
   simp only [intOf];omega
 . refine wp_seq (wcF o12 (wp_exit ?_) (by rw [decide_eq_false hlt]))
   simp only [Exit.then,Exit.inBlock]
   obtain rfl:k=xs.length:=by omega
   rw [List.take_length] at o3
   refine wp_seq (scc_r9 _ hn hz8 o3 (fun a9 w9 hs9 h9=>?_))
   obtain ⟨hz9,D,o0,o3⟩:=kq2 hs9 hz8 D o0 o3
   obtain ⟨v,o6,T⟩:=h9
   have S:=(Held.start w).kp K7
   have S:=S.join T
   clear T
   refine wp_seq (wp_seq (scc_r10 A xs.length c hz9 o0 (fun a10 hs10 o25 o26 o27=>?_)))
   obtain ⟨hz10,D,o0,o6⟩:=kq2 hs10 hz9 D o0 o6
   refine wp_block ?_
   (conv=>arg 2;whnf)
   refine wp_loop (fun a' w'=>∃ (k:Nat) (u:Value),k<=xs.length ∧ a'.tmps.size=36 ∧ a'.defers=[] ∧ Sl a' 6 (u) ∧ Sl a' 25 (.slice A xs.length c) ∧ Sl a' 26 (Nq (xs.length)) ∧ Sl a' 27 (Nq k) ∧ Held w w' [rowR 23 32 u (hvF (xs.take k)).length (hsC (hvF (xs.take k)))]) (fun a' _=>xs.length - (intOf (a'.eval (.tmp 27))).toNat) ⟨0,_,Nat.zero_le _,hz10,D,o6,o25,o26,o27,S⟩ ?_
   iterate 9 (try clear o0)
   iterate 9 (try clear o6)
   iterate 9 (try clear o25)
   iterate 9 (try clear o26)
   iterate 9 (try clear o27)
   iterate 9 (try clear D)
   iterate 9 (try clear S)
   iterate 9 (try clear K7)
   iterate 9 (try clear o3)
   iterate 9 (try clear o9)
   iterate 9 (try clear o10)
   iterate 9 (try clear o11)
   iterate 9 (try clear o12)
   iterate 9 (try clear e11)
   clear hlt
   rintro a17 w17 ⟨k,u,hk,hz17,D,o6,o25,o26,o27,S⟩
   have e27:=o27.eval (by rw [hz17];decide)
   refine wp_seq (scc_r11 k xs.length hz17 o26 o27 (fun a18 hs18 o28=>?_))
   obtain ⟨hz18,D,o6,o25,o26,o27⟩:=kq4 hs18 hz17 D o6 o25 o26 o27
   by_cases hlt:k < xs.length
   . refine wp_seq (wcT o28 (wp_skip ?_) (by rw [decide_eq_true hlt]))
     simp only [Exit.then]
     obtain ⟨x,hxk⟩:∃ x,xs[k]?=some x:=⟨_,List.getElem?_eq_getElem hlt⟩
     have hxm:=List.mem_of_getElem? hxk
     obtain ⟨ad,rfl⟩:=rd_addr hv (by omega)
     obtain ⟨-,Ax,cx,ex,-⟩:=hx x hxm
     refine wp_seq (wp_block ?_)
     refine wp_seq (scc_r12 ad k xs.length c hlt x.1 (hcell ad rfl k x hxk w17 S.k) (hform x hxm) hz18 o25 o27 (fun a19 hs19 o8=>?_))
     obtain ⟨hz19,D,o6,o25,o26,o27⟩:=kq4 hs19 hz18 D o6 o25 o26 o27
     have hrx:=rd_old (hx x hxm) S.k
     rw [ex] at o8 hrx
     have hs1:=hvF_snoc hxk
     have hle:=hvF_le xs (k+1)
     have hln:(hvF (xs.take (k+1))).length=(hvF (xs.take k)).length+x.2.length:=by rw [hs1,List.length_append]
     refine scc_r13 w u (hvF (xs.take k)).length x.2.length (by omega) _ _ hsC_one Ax cx hrx [] S hz19 o6 o8 (fun a20 w20 hs20 h20=>?_)
     obtain ⟨v2,o6,S2⟩:=h20
     obtain ⟨hz20,D,o25,o26,o27⟩:=kq3 hs20 hz19 D o25 o26 o27
     rw [<- hsC_append,<- hs1,<- hln] at S2
     simp only [Exit.inBlock,Exit.then]
     refine scc_r14 k (by omega) hz20 o27 (fun a21 hs21 o27=>?_)
     have hz21:=hs21.size.trans hz20
     refine ⟨⟨k+1,v2,hlt,hz21,hs21.defers.trans D,hs21.q o6,hs21.q o25,hs21.q o26,o27,S2⟩,?_⟩
     show xs.length - (intOf _).toNat < xs.length - (intOf _).toNat
     rw [e27,o27.eval (by rw [hz21];decide)]
     simp only [intOf];omega
   . refine wp_seq (wcF o28 (wp_exit ?_) (by rw [decide_eq_false hlt]))
     simp only [Exit.then,Exit.inBlock]
     obtain rfl:k=xs.length:=by omega
     rw [List.take_length] at S
     refine wp_seq (scc_r15 u hz18 o6 (fun a19 hs19 o2=>?_))
     obtain ⟨hz19,D,o6⟩:=kq1 hs19 hz18 D o6
     refine wp_ret ?_
     exact bodyPost_ret (res_u1 (by rfl) (o2.eval (by rw [hz19];decide))) D ⟨u,rfl,S⟩
end
end Go.Proofs.YtmkfopmdingaoaaGreatDoor
