/- Several texts in one: MFa, SigAR, SigAS, SigAT, SigAU, SigAV, SigAW, SigAX, SigAY, SigAZ, SigBA, SigBB, SigBC, RmA, RmB, SigBD, SigBE, SigBF, SigBG, RmC, RmE, InvH, Kna, Knb, Nla. -/
import Derived.Test.YtmkfopmdingaoaaGreatDoorP9
set_option linter.unusedVariables false
set_option linter.unusedSimpArgs false
set_option maxRecDepth 100000
set_option maxHeartbeats 8000000
namespace Go.Proofs.YtmkfopmdingaoaaGreatDoor
section
open Go.RowKit Go.Shelf
theorem both_back(L:List (List UInt8)):∀ (f m a n:Nat) (whole:Bool) (first:Bs),1<=m->m<=n->n<=2 ^ f->a+n<=L.length->(whole=true->first=rootF (((L.drop a).take n).take m))->
 bothN (f+1) m n whole first ((stepsN (f+1) m a n whole).map fun r=>rootF ((L.drop r.1).take (r.2 - r.1)))=(rootF (((L.drop a).take n).take m),rootF ((L.drop a).take n))
 |f,m,a,n,whole,first,h1,hm,hf,ha,hw=>by
  have hlen:((L.drop a).take n).length=n:=by rw [List.length_take,List.length_drop];omega
  rw [stepsN_succ]
  unfold bothN
  by_cases hmn:m=n
  . subst hmn
    have ht:((L.drop a).take m).take m=(L.drop a).take m:=List.take_of_length_le (by omega)
    rw [if_pos rfl,if_pos rfl]
    cases whole with
    |true=>
     rw [if_pos rfl,hw rfl,ht]
    |false=>
     rw [if_neg (by decide),if_neg (by decide),ht]
     simp
  . have h2:2<=n:=by omega
    obtain ⟨f,rfl⟩:∃ g,f=g+1:=by
     rcases f with _|g
     . simp at hf;omega
     . exact ⟨g,rfl⟩
    have hs1:=splF_lt h2
    have hs2:=splF_pos h2
    have hs3:=splF_half h2
    have hs4:=splF_le h2 hf
    obtain ⟨s,hs⟩:∃ s,splF n=s:=⟨_,rfl⟩
    rw [hs] at hs1 hs2 hs3 hs4
    rw [if_neg hmn,if_neg hmn,hs]
    have hroot:rootF ((L.drop a).take n)=nodeF (rootF ((L.drop a).take s)) (rootF ((L.drop (a+s)).take (n - s))):=by
     rw [rootF_two (by omega),hlen,hs,List.take_take,Nat.min_eq_left (by omega),List.drop_take,List.drop_drop]
    by_cases hk:m<=s
    . rw [if_pos hk,if_pos hk,List.map_append,List.map_singleton,List.dropLast_concat]
      have ih:=both_back L f m a s whole first h1 hk hs4 (by omega) (fun e=>by
       rw [hw e,List.take_take,List.take_take,Nat.min_eq_left (by omega),Nat.min_eq_left (by omega)])
      rw [ih,List.getLastD_concat,show a+n - (a+s)=n - s by omega,hroot]
      rw [List.take_take,List.take_take,Nat.min_eq_left (by omega),Nat.min_eq_left (by omega)]
    . rw [if_neg hk,if_neg hk,List.map_append,List.map_singleton,List.dropLast_concat]
      have hn2:n - s<=2 ^ f:=by rw [Nat.pow_succ] at hf;omega
      have ih:=both_back L f (m - s) (a+s) (n - s) false first (by omega) (by omega) hn2 (by omega) (fun e=>by cases e)
      rw [ih,List.getLastD_concat,show a+s - a=s by omega,hroot]
      have hm2:2<=m:=by omega
      have hsm:splF m=s:=by
       rw [splF_two h2] at hs
       rw [<- hs] at hk hs3 ⊢
       exact splF_is (by omega) (by omega)
      have hlm:(((L.drop a).take n).take m).length=m:=by rw [List.length_take,hlen];omega
      have hroot2:rootF (((L.drop a).take n).take m)=nodeF (rootF ((L.drop a).take s)) (rootF (((L.drop (a+s)).take (n - s)).take (m - s))):=by
       rw [rootF_two (by omega),hlm,hsm,List.take_take,List.take_take,Nat.min_eq_left (by omega),Nat.min_eq_left (by omega),List.drop_take,List.drop_take,List.drop_drop]
      rw [hroot2]
theorem cons_back(l:List (List UInt8))(m:Nat)(hm:m<=l.length)(hl:l.length<=2 ^ 64):consF (m:Int) (l.length:Int) (rootF (l.take m)) (rootF l) (prvF (m:Int) l)=0:=by
 unfold consF
 rw [if_neg (by omega)]
 by_cases h0:m=0
 . subst h0
   have hno:prvF ((0:Nat):Int) l=[]:=by unfold prvF;rw [stF_no (by omega)];rfl
   rw [if_pos (by rfl),if_neg]
   rw [hno]
   rintro (h|h|⟨h1,h2⟩)
   . exact h rfl
   . exact h rfl
   . have:l=[]:=List.length_eq_zero_iff.1 (by omega)
     subst this
     exact h2 rfl
 . rw [if_neg (by omega)]
   have hst:prvF (m:Int) l=(stepsF m l.length).map fun r=>rootF ((l.drop r.1).take (r.2 - r.1)):=by
    unfold prvF
    rw [stF_yes (by omega) hm]
    rfl
   simp only [Int.toNat_natCast]
   rw [hst,if_neg (by rw [List.length_map];exact fun h=>h rfl)]
   have hb:=both_back l 64 m 0 l.length true (rootF (l.take m)) (by omega) hm hl (by omega) (fun _=>by rw [List.drop_zero,List.take_length])
   rw [List.drop_zero,List.take_length] at hb
   unfold bothF stepsF
   refine if_neg ?_
   rw [show bothN 65 m l.length true (rootF (l.take m)) _=_ from hb]
   simp
def notedK (nm sec:Bs) (ls:List (List UInt8)):NtD:=⟨(ls.length:Int),rootF (ls.map leafF),[(nm,sumF (ls.length:Int) (rootF (ls.map leafF)) nm sec)]⟩
theorem notedK_ok{nm sec:List UInt8}{ls:List (List UInt8)}(hk:keyOk nm sec=true)(hl:ls.length<=1000000):(notedK nm sec ls).Ok:=by
 refine ⟨⟨by show -9223372036854775808<=(ls.length:Int);omega,by show (ls.length:Int)<=_;omega⟩,rootF_length (leaves_ok ls),?_,by show 1<=1000000;omega⟩
 intro s hs
 rw [List.mem_singleton.1 hs]
 exact ⟨sumF_length ..,by have:=(keyOk_le hk).1;show nm.length<=_;omega⟩
theorem nm_pos{nm sec:List UInt8}(hk:keyOk nm sec=true):nmOk nm=true ∧ 0 < cmpB nm []:=by
 rw [keyOk_eq] at hk
 simp only [Bool.and_eq_true] at hk
 refine ⟨hk.1.1,?_⟩
 have h:=hk.1.1
 simp only [nmOk,Bool.and_eq_true,decide_eq_true_eq] at h
 cases nm with
 |nil=>simp at h
 |cons x l=>simp [cmpB,Lib.compareBytes]
theorem may_one{nm sec:List UInt8}{s:List UInt8}{z:Int}(hz:0<=z)(hk:keyOk nm sec=true):mayN z [(nm,s)]=true:=by
 have h:=nm_pos hk
 unfold mayN rising rising
 rw [decide_eq_true hz,h.1,decide_eq_true h.2]
 rfl
theorem signed_noted{nm sec:List UInt8}{ls:List (List UInt8)}(hk:keyOk nm sec=true):signedN (notedK nm sec ls).z (notedK nm sec ls).h (notedK nm sec ls).l nm sec=0:=by
 have hm:=may_one (s:=sumF (ls.length:Int) (rootF (ls.map leafF)) nm sec) (z:=(ls.length:Int)) (by omega) hk
 have hso:sumOk (ls.length:Int) nm sec=true:=by simp [sumOk,hk]
 unfold signedN notedK chkN
 dsimp only
 rw [hm,if_neg (by decide),if_neg]
 unfold rightA
 rw [if_pos hm]
 simp [rightN,matchS,hso,sumV]
theorem chk_noted{nm sec:List UInt8}{ls:List (List UInt8)}(hk:keyOk nm sec=true):chkN (notedK nm sec ls).z (notedK nm sec ls).l=0:=by
 unfold chkN notedK
 dsimp only
 rw [may_one (by omega) hk]
 rfl
theorem wK30:keyOk [119] [1,2]=true:=by decide
def nLog (ls:List (List UInt8)):NtD:=notedK [119] [1,2] ls
theorem MS.may_noted{X:MS}(hfd:X.fd=false)(hnm:X.nm=[119])(hsec:X.sec=[1,2])(ls:List (List UInt8)):X.mayF (nLog ls)=0:=by
 unfold MS.mayF mayM
 rw [hfd,if_neg (by decide),hnm,hsec]
 exact signed_noted wK30
theorem MS.may_forked{X:MS}(hfd:X.fd=true)(n:NtD):X.mayF n=400:=by
 unfold MS.mayF mayM
 rw [hfd,if_pos rfl]
def kX0:MS:=MS.new [119] [1,2]
def kX1:MS:=({ kX0 with es:=[[97],[98]] }:MS).noteF (nLog [[97],[98]])
def kX2:MS:={ kX1 with fk:=forkF kX1 (nLog [[120]]),fd:=true }
theorem leaf_ne:leafF [97] ≠ leafF [120]:=by decide +kernel
theorem k_take:kX0.takeF (nLog [[97],[98]]) [[97],[98]]=(0,kX1):=by
 have hm:kX0.mayF (nLog [[97],[98]])=0:=MS.may_noted rfl rfl rfl _
 have hr:rootF (kX0.hl ++ ([[97],[98]]:List (List UInt8)).map leafF)=(nLog [[97],[98]]).h:=by kernel_rfl
 unfold MS.takeF
 rw [hm,if_neg (by decide),if_neg (by decide),if_neg (by decide),if_neg (by decide),if_pos hr]
 rfl
theorem kr_at:rootF (kX1.hl.take (nLog [[120]]).z.toNat)=leafF [97]:=by kernel_rfl
theorem kh_at:(nLog [[120]]).h=leafF [120]:=by kernel_rfl
theorem k_hear:kX1.hearF (nLog [[120]]) []=(400,kX2):=by
 have hm:kX1.mayF (nLog [[120]])=0:=MS.may_noted (by kernel_rfl) (by kernel_rfl) (by kernel_rfl) _
 have hz:(nLog [[120]]).z<=(kX1.es.length:Int):=by
  show (1:Int)<=2
  decide
 unfold MS.hearF
 rw [hm,if_neg (by decide),if_pos hz]
 unfold MS.withinF
 rw [kr_at,kh_at,if_neg leaf_ne,if_neg (show ¬ kX1.nd=false by decide)]
 rfl
theorem fk_r:kX2.fk.r=leafF [97]:=by kernel_rfl
theorem fk_h1:kX2.fk.h1=leafF [120]:=by kernel_rfl
theorem fk_c:consF kX2.fk.z1 kX2.fk.z2 kX2.fk.r kX2.fk.h2 kX2.fk.pf=consF ((1:Nat):Int) (([leafF [97],leafF [98]]:List (List UInt8)).length:Int) (rootF (([leafF [97],leafF [98]]:List (List UInt8)).take 1)) (rootF [leafF [97],leafF [98]]) (prvF ((1:Nat):Int) [leafF [97],leafF [98]]):=by kernel_rfl
theorem fk_s1:signedN kX2.fk.z1 kX2.fk.h1 kX2.fk.l1 [119] [1,2]=signedN (notedK [119] [1,2] [[120]]).z (notedK [119] [1,2] [[120]]).h (notedK [119] [1,2] [[120]]).l [119] [1,2]:=by kernel_rfl
theorem fk_s2:signedN kX2.fk.z2 kX2.fk.h2 kX2.fk.l2 [119] [1,2]=signedN (notedK [119] [1,2] [[97],[98]]).z (notedK [119] [1,2] [[97],[98]]).h (notedK [119] [1,2] [[97],[98]]).l [119] [1,2]:=by kernel_rfl
theorem fk_n1:chkN kX2.fk.z1 kX2.fk.l1=chkN (notedK [119] [1,2] [[120]]).z (notedK [119] [1,2] [[120]]).l:=by kernel_rfl
theorem fk_n2:chkN kX2.fk.z2 kX2.fk.l2=chkN (notedK [119] [1,2] [[97],[98]]).z (notedK [119] [1,2] [[97],[98]]).l:=by kernel_rfl
theorem k_check:chkMF kX2.fk [119] [1,2]=0:=by
 unfold chkMF
 rw [fk_s1,fk_s2,fk_n1,fk_n2,signed_noted wK30,signed_noted wK30,chk_noted wK30,chk_noted wK30,wK30,fk_c,cons_back _ 1 (by decide) (by decide),fk_r,fk_h1]
 rw [if_neg (by simp),if_neg (by simp),if_neg]
 rintro (h|h)
 . exact leaf_ne h
 . exact h rfl
theorem k_again:kX2.mayF (nLog [[97],[98]])=400:=MS.may_forked rfl _
end
section
open Go.RowKit
theorem cut_hiS(A:Option Addr)(n c k:Nat)(hk:k<=c)(w:World):(Instr.sliceAt 26 (.slice A n c) none (some (.int .i64 (k:Int))) none).run Tryz.prog w=.ok (.slice A k c) w:=by
 rw [run_sliceAt_slice w 26 _ _ _ _ und_sig,run_slice_h w 26 A n c und_sig .i64 k (by omega) (by omega),elem_sig,size_sig]
 simp only [Result.andThen_ok,Int.toNat_natCast]
 congr 1
 by_cases e:c=0
 . simp [sliced,e]
 . cases A with
   |none=>simp [sliced,e]
   |some ad=>simp [sliced,e,Addr.add]
theorem rd_hiS{w:World}{A:Option Addr}{n c k:Nat}{l:List SigD}(hok:SgOk l)(h:Rd w 33 (.slice A n c) n (sgsC l))(hn:n=l.length)(hk:k<=n):Rd w 33 (.slice A k c) k (sgsC (l.take k)):=by
 subst hn
 have hl:=sgsC_length hok
 have hl2:=sgsC_length (l:=l.take k) (fun s hs=>hok s (List.mem_of_mem_take hs))
 rw [List.length_take,Nat.min_eq_left hk] at hl2
 have he:sgsC l=sgsC (l.take k) ++ sgsC (l.drop k):=by rw [<- sgsC_append,List.take_append_drop]
 obtain ⟨h1,A',c',e,h2,h3,h4,h5⟩:=h
 cases e
 refine ⟨hl2,A,c,rfl,by omega,h3,(fun hA=>?_),fun ad had j u hu=>h5 ad had j u ?_⟩
 . have:=h4 hA;omega
 . rw [he,List.getElem?_append_left (List.getElem?_eq_some_iff.1 hu).1]
   exact hu
theorem rd_loS{w:World}{A:Option Addr}{n c k:Nat}{l:List SigD}(hok:SgOk l)(h:Rd w 33 (.slice A n c) n (sgsC l))(hn:n=l.length)(hk:k<=n):Rd w 33 (sliced A k n c 33) (n - k) (sgsC (l.drop k)):=by
 subst hn
 have hl:=sgsC_length hok
 have hl1:=sgsC_length (l:=l.take k) (fun s hs=>hok s (List.mem_of_mem_take hs))
 have hl2:=sgsC_length (l:=l.drop k) (fun s hs=>hok s (List.mem_of_mem_drop hs))
 rw [List.length_take,Nat.min_eq_left hk] at hl1
 rw [List.length_drop] at hl2
 have he:sgsC l=sgsC (l.take k) ++ sgsC (l.drop k):=by rw [<- sgsC_append,List.take_append_drop]
 obtain ⟨h1,A',c',e,h2,h3,h4,h5⟩:=h
 cases e
 unfold sliced
 refine ⟨hl2,_,c - k,rfl,by omega,by omega,(fun hA=>?_),fun ad had j u hu=>?_⟩
 . by_cases e:c=k
   . rw [if_pos e] at hA
     have:=h4 hA;omega
   . rw [if_neg e,Option.map_eq_none_iff] at hA
     have:=h4 hA;omega
 . by_cases e:c=k
   . have:=(List.getElem?_eq_some_iff.1 hu).1
     rw [hl2] at this
     omega
   . rw [if_neg e] at had
     obtain ⟨ad0,rfl,rfl⟩:=Option.map_eq_some_iff.1 had
     rw [add_of_add]
     refine h5 ad0 rfl _ u ?_
     rw [he,List.getElem?_append_right (by omega),hl1,show k * 33+j - k * 33=j from by omega]
     exact hu
end
section
variable {Q:Exit->Act->World->Prop} {a:Act} {w:World}
open Go.RowKit
def loA (A:Option Addr) (k c:Nat):Option Addr:=if c=k then A else A.map (·.add (k * 33))
theorem cut_loT(A:Option Addr)(n c k:Nat)(hk:k<=n)(w:World):(Instr.sliceAt 26 (.slice A n c) (some (.int .i64 (k:Int))) none none).run Tryz.prog w=.ok (.slice (loA A k c) (n - k) (c - k)) w:=cut_loS A n c k hk w
theorem rd_loT{w:World}{A:Option Addr}{n c k:Nat}{l:List SigD}(hok:SgOk l)(h:Rd w 33 (.slice A n c) n (sgsC l))(hn:n=l.length)(hk:k<=n):Rd w 33 (.slice (loA A k c) (n - k) (c - k)) (n - k) (sgsC (l.drop k)):=rd_loS hok h hn hk
theorem op_sigs1{o:Oper}{a:Act}{w:World}{K:Act->World->Prop}{Q:Exit->Act->World->Prop}(x:Operand)(ho:o.op=.buildSlice 26 1 #[(0,x)])(cs:Array Value)(hcs:cs.size=33)(hx:a.eval x=.agg cs)
 (h:K (a.put o.dst (.slice (some ⟨w.heap.size,0,none⟩) 1 1)) (w.alloc (.cells cs 89))):o.wp Tryz.prog a w K Q:=by
 obtain ⟨i0,hi,hz,hsize,-⟩:=info_parts Tryz.infoSigZ
 refine wp_buildSlice 26 89 1 #[(0,x)] ho cs i0 _ Tryz.underlying26 hi hz (by rw [hsize];decide) (by rw [hsize];decide) ?_ h
 rw [hsize,show ((#[(0,x)]:Array (Nat × Operand)).map fun (i,x)=>(i,a.eval x)).toList=[(0,.agg cs)] from by simp [hx]]
 exact fill_sig hcs
theorem wpList_sigs1{ops:Array Oper}{rest:List Oper}{o:Oper}{a:Act}{w:World}{Q:Exit->Act->World->Prop}(hg:o.guard=none)(x:Operand)(ho:o.op=.buildSlice 26 1 #[(0,x)])(cs:Array Value)(hcs:cs.size=33)(hx:a.eval x=.agg cs)
 (h:wpList Tryz.prog ops Q rest (a.put o.dst (.slice (some ⟨w.heap.size,0,none⟩) 1 1)) (w.alloc (.cells cs 89))):wpList Tryz.prog ops Q (o :: rest) a w:=
 wpList_plain hg fun _ hK=>op_sigs1 x ho cs hcs hx (hK _ _ h)
theorem sfd_r0(hsz:a.tmps.size=20):RG0 0 Tryz.f85 Q a w fun a' q'=>Sl a' 4 (.int .i64 (0:Int))->q':=rO
theorem sfd_r1(hsz:a.tmps.size=20):RG0 1 Tryz.f85 Q a w fun a' q'=>Sl a' 5 (Nq 0)->q':=rO
theorem sfd_r2(A:Option Addr)(k n c:Nat)(hsz:a.tmps.size=20)(o0:Sl a 0 (.slice A n c))(o5:Sl a 5 (Nq k)):RG0 2 Tryz.f85 Q a w fun a' q'=>Sl a' 9 (.bool (decide (k < n)))->q':=rO
theorem sfd_r4(ad:Addr)(k n c:Nat)(hk:k < n)(ns nm:ByteArray)(hc:w.cell? (ad.add (k * 33))=some (.string ns))(b:Bool)(hb:(ns.toList == nm.toList)=b)(hsz:a.tmps.size=20)(o0:Sl a 0 (.slice (some ad) n c))(o1:Sl a 1 (.string nm))(o5:Sl a 5 (Nq k)):RG0 4 Tryz.f85 Q a w fun a' q'=>Sl a' 18 (.bool b)->q':=by
 have h0:0<=(k:Int):=by omega
 have h1:(k:Int) < (n:Int):=by omega
 exact rO
theorem sfd_r5(k:Nat)(hsz:a.tmps.size=20)(o5:Sl a 5 (Nq k)):RG0 5 Tryz.f85 Q a w fun a' q'=>Sl a' 4 (Nq k)->q':=rO
theorem sfd_r3(k:Nat)(hk:k < 9223372036854775807)(hsz:a.tmps.size=20)(o5:Sl a 5 (Nq k)):RG0 3 Tryz.f85 Q a w fun a' q'=>Sl a' 5 (Nq (k+1))->q':=by
 have hw:wrap64 ((k:Int)+1)=(k:Int)+1:=by unfold wrap64;omega
 exact rO
theorem sfd_r6(hsz:a.tmps.size=20):RG0 6 Tryz.f85 Q a w fun a' q'=>Sl a' 4 (.int .i64 (-1:Int))->q':=rO
theorem sly_r0(w0:World)(s:SigD)(L:List Res)(S:Held w0 w L)(hsz:a.tmps.size=36)(o1:Sl a 1 (.agg (sgA s))):RG1 false 0 Tryz.f86 Q a w fun a' W q'=>Sl a' 4 (.slice none 0 0)->(∃ g,Sl a' 3 (Pq g 0) ∧ Held w0 W (blkR g 89 (sgA s) :: L))->q':=by
 intro hend
 refine wp_region_lit ?_
 (conv=>arg 4;whnf)
 unfold Sl at o1
 have S0:=LH (S.newBlk 89 (sgA s))
 generalize sgA s=cs at *
 go_wp2_with fail
 try simp only [Act.put]
 exact hend _ _ tS sP (⟨_,sP0,S0.out⟩)
theorem sly_r1(hsz:a.tmps.size=36):RG0 1 Tryz.f86 Q a w fun a' q'=>Sl a' 5 (Nq 0)->q':=rO
theorem sly_r2N(A:Option Addr)(k n c:Nat)(hk:¬ k < n)(hsz:a.tmps.size=36)(o0:Sl a 0 (.slice A n c))(o5:Sl a 5 (Nq k)):RG1 true 2 Tryz.f86 Q a w fun a' W q'=>Kp [] w.drew W->Sl a' 20 (.bool false)->q':=by
 intro hend
 have hap:=pa 2 Tryz.f86
 refine wp_region_invG (l:=(opsOf 2 Tryz.f86)) (fun i v W=>match i with|0=>v=Nq k|1=>v=.slice A n c|2=>v=Nq n|3=>v=.bool false|4=>v=.bool false|13=>v=.bool false|_=>True) (by kernel_rfl) hap (by kernel_rfl) ?_ ?_ ?_
 . exact fun _ _ _ _ h _=>h
 . and_intros <;> try (intro vs A' W hA hW hd K hK;try (refine wpOp_free _ rfl rfl ?_;conv=>arg 2;whnf))
   . exact qa1 (eO 5 o5)
   . exact qa1 (eO 0 o0)
   . exact qa1 (vD 8 1)
   . have e7:=vD 7 0;have e9:=vD 9 2;clear hA hd o0 o5
     have hk2:¬ (k:Int) < (n:Int):=by omega
     go_step
     exact hK _ _ kR (by first|rfl|(congr 1;exact decide_eq_false (by omega)))
   . exact qa1 (vD 10 3)
   . exact qS 4 true (vD 11 4)
   . exact qS 4 true (vD 11 4)
   . exact qS 4 true (vD 11 4)
   . exact qS 4 true (vD 11 4)
   . exact qS 4 true (vD 11 4)
   . exact qS 4 true (vD 11 4)
   . exact qS 4 true (vD 11 4)
   . exact qS 4 true (vD 11 4)
   . exact qa2 (vD 11 4) (eU 19 12)
   . trivial
 . intro vs W hW hp
   rw [putAll_eq]
   exact hend _ W sQ hW (sW (hp 13 sB))
theorem sly_r2Y(ad:Addr)(k n c:Nat)(hk:k < n)(nx ns:ByteArray)(hc:∀ V,Kp [] w.drew V->V.cell? (ad.add (k * 33))=some (.string nx))(g:Nat)(s:SigD)(hns:strV s.1=.string ns)(hb:Blk w.drew g 89 (sgA s))(b:Bool)(hlt:Op.bytesLess nx.toList ns.toList=b)(hsz:a.tmps.size=36)(o0:Sl a 0 (.slice (some ad) n c))(o3:Sl a 3 (Pq g 0))(o5:Sl a 5 (Nq k)):RG1 true 2 Tryz.f86 Q a w fun a' W q'=>Kp [] w.drew W->Sl a' 20 (.bool b)->q':=by
 intro hend
 have hap:=pa 2 Tryz.f86
 refine wp_region_invG (l:=(opsOf 2 Tryz.f86)) (fun i v W=>match i with|0=>v=Nq k|1=>v=.slice (some ad) n c|2=>v=Nq n|3=>v=.bool true|4=>v=.bool true|5=>v=.slice (some ad) n c|6=>v=Nq k|7=>v=.pointer (some (ad.add (k * 33)))|8=>v=.pointer (some (ad.add (k * 33)))|9=>v=.string nx|10=>v=Pq g 0|11=>v=.string ns|12=>v=.bool b|13=>v=.bool b|_=>True) (by kernel_rfl) hap (by kernel_rfl) ?_ ?_ ?_
 . exact fun _ _ _ _ h _=>h
 . and_intros <;> try (intro vs A' W hA hW hd K hK;try (refine wpOp_free _ rfl rfl ?_;conv=>arg 2;whnf))
   . exact qa1 (eO 5 o5)
   . exact qa1 (eO 0 o0)
   . exact qa1 (vD 8 1)
   . have e7:=vD 7 0;have e9:=vD 9 2;clear hA hd o0 o3 o5
     have hk2:(k:Int) < (n:Int):=by omega
     go_step
     exact hK _ _ kR (by first|rfl|(congr 1;exact decide_eq_true (by omega)))
   . exact qa1 (vD 10 3)
   . exact gq1 4 (vD 11 4) (eO 0 o0)
   . exact gq1 4 (vD 11 4) (eO 5 o5)
   . refine qG 4 (vD 11 4) ?_;(conv=>arg 2;whnf)
     have h0:0<=(k:Int):=by omega
     have h1:(k:Int) < (n:Int):=by omega
     exact qa2 (vD 12 5) (vD 13 6)
   . exact gq1 4 (vD 11 4) (vD 14 7)
   . refine qG 4 (vD 11 4) ?_;(conv=>arg 2;whnf);have c0:=hc _ hW
     exact qa1 (vD 15 8)
   . exact gq1 4 (vD 11 4) (eO 3 o3)
   . refine qG 4 (vD 11 4) ?_;(conv=>arg 2;whnf)
     have c0:W.cell? ⟨g,0,none⟩=some (.string ns):=by rw [(hb.k0 hW).cell,<- hns];rfl
     exact qa1 (vD 17 10)
   . refine qG 4 (vD 11 4) ?_;(conv=>arg 2;whnf);have e16:=vD 16 9;have e18:=vD 18 11;clear hA hd o0 o3 o5;go_step
     exact hK _ _ kR (by first|rfl|exact congrArg Value.bool hlt)
   . exact qa2 (vD 11 4) (vD 19 12)
   . trivial
 . intro vs W hW hp
   rw [putAll_eq]
   exact hend _ W sQ hW (sW (hp 13 sB))
theorem sly_r3(k:Nat)(hk:k < 9223372036854775807)(hsz:a.tmps.size=36)(o5:Sl a 5 (Nq k)):RG0 3 Tryz.f86 Q a w fun a' q'=>Sl a' 5 (Nq (k+1))->q':=by
 have hw:wrap64 ((k:Int)+1)=(k:Int)+1:=by unfold wrap64;omega
 exact rO
theorem sly_r4(w0:World)(A:Option Addr)(c:Nat)(l:List SigD)(hok:SgOk l)(hll:l.length<=2000000)(k:Nat)(hk:k<=l.length)(hv:∀ V,Kp [] w0 V->Rd V 33 (.slice A l.length c) l.length (sgsC l))(hc:l.length<=c)(L:List Res)(S:Held w0 w L)(hsz:a.tmps.size=36)(o0:Sl a 0 (.slice A l.length c))(o5:Sl a 5 (Nq k)):RG1 false 4 Tryz.f86 Q a w fun a' W q'=>(∃ v,Sl a' 6 v ∧ Held w0 W (rowR 89 33 v k (sgsC (l.take k)) :: L))->q':=by
 intro hend
 refine wp_region_lit ?_
 (conv=>arg 4;whnf)
 unfold Sl at o0 o5
 have S:=LH S
 have q:=fun w=>cut_hiS A l.length c k (by omega) w
 have HR:=LH (rd_hiS hok (hv _ S.out.k) rfl hk)
 have hb1:Hid (k<=maxLen ∧ (k) * 48<=140737488355328):=LH (by unfold maxLen;omega)
 clear hv
 go_wp2_with (at_builtin;refine wpList_appHN rfl (.const (.slice none 0 0)) (.tmp 25) 26 89 rfl Tryz.infoSigZ Tryz.underlying26 rfl (by decide) rfl S.out (.slice A k c) k (sgsC (l.take k)) aE HR.out (sgsC_one _) hb1.out.1 hb1.out.2 ?_;intro v1 w1 S1;have S1:=LH S1)
 try simp only [Act.put]
 exact hend _ _ tS (⟨v1,sP0,S1.out⟩)
theorem sly_r5(w0:World)(u:Value)(m:Nat)(hm:m<=2000000)(xs:List Value)(g:Nat)(s:SigD)(hs:s.2.length=32)(L:List Res)(S:Held w0 w (rowR 89 33 u m xs :: blkR g 89 (sgA s) :: L))(hsz:a.tmps.size=36)(o3:Sl a 3 (Pq g 0))(o6:Sl a 6 (u)):RG1 false 5 Tryz.f86 Q a w fun a' W q'=>(∃ v,Sl a' 6 v ∧ Held w0 W (rowR 89 33 v (m+1) (xs ++ (sgA s).toList) :: L))->q':=by
 intro hend
 refine wp_region_lit ?_
 (conv=>arg 4;whnf)
 unfold Sl at o3 o6
 have S:=LH S
 have HO:=LH (sgA_one s)
 have hz2:Hid ((sgA s).size=33):=LH (sgA_size hs)
 have hR1:=fun V vb (hb:Blk V vb 89 (sgA s))=>rd_sig1 hb hs
 have hR1:=LH hR1
 have hF:=LH (fill_sig (sgA_size hs))
 have hb1:Hid (m+1<=maxLen ∧ (m+1) * 48<=140737488355328):=LH (by unfold maxLen;omega)
 generalize sgA s=cs at *
 go_wp2_with (first
  |(refine wpList_load_blk rfl 89 (.tmp 3) rfl g (aO o3) 89 _ (S.out.at_ (l1:=[_])) _ Tryz.underlying89 rfl (by rw [hz2.out];exact Tryz.infoSig) ?_)
  |(refine wpList_sigs1 rfl (.tmp 28) rfl cs hz2.out aE ?_;have S2:=LH ((S.out.newBlk 89 cs).pull 1 rfl);have HR:=LH (hR1.out _ _ (S2.out.at_ (l1:=[_]))))
  |(at_builtin;refine wpList_appH rfl (.tmp 27) (.tmp 29) 26 89 rfl Tryz.infoSigZ Tryz.underlying26 rfl (by decide) u m xs aE S2.out (.slice (some ⟨w.heap.size,0,none⟩) 1 1) 1 cs.toList aE HR.out HO.out hb1.out.1 hb1.out.2 ?_;intro v2 w2 S3;have S3:=LH S3))
 try simp only [Act.put]
 exact hend _ _ tS (⟨v2,sP0,S3.out.some_of (List.Sublist.cons_cons _ (List.Sublist.cons _ (List.Sublist.cons _ (List.Sublist.refl _))))⟩)
theorem sly_r6(w0:World)(A:Option Addr)(c:Nat)(l:List SigD)(hok:SgOk l)(hll:l.length<=2000000)(k:Nat)(hk:k<=l.length)(hv:∀ V,Kp [] w0 V->Rd V 33 (.slice A l.length c) l.length (sgsC l))(u:Value)(m:Nat)(hm:m<=2000000)(xs:List Value)(L:List Res)(S:Held w0 w (rowR 89 33 u m xs :: L))(hsz:a.tmps.size=36)(o0:Sl a 0 (.slice A l.length c))(o5:Sl a 5 (Nq k))(o6:Sl a 6 (u)):RG1 false 6 Tryz.f86 Q a w fun a' W q'=>(∃ v,Sl a' 4 v ∧ Held w0 W (rowR 89 33 v (m+(l.length - k)) (xs ++ sgsC (l.drop k)) :: L))->q':=by
 intro hend
 refine wp_region_lit ?_
 (conv=>arg 4;whnf)
 unfold Sl at o0 o5 o6
 have S:=LH S
 have q:=fun w=>cut_loT A l.length c k hk w
 have HR:=LH (rd_loT hok (hv _ S.out.k) rfl hk)
 clear hv
 obtain ⟨dk,hdk⟩:∃ dk,l.length - k=dk:=⟨_,rfl⟩
 rw [hdk] at HR
 simp only [hdk] at q
 have hb1:Hid (m+dk<=maxLen ∧ (m+dk) * 48<=140737488355328):=LH (by unfold maxLen;omega)
 rw [hdk] at hend
 clear hdk
 go_wp2_with (at_builtin;refine wpList_appH rfl (.tmp 31) (.tmp 34) 26 89 rfl Tryz.infoSigZ Tryz.underlying26 rfl (by decide) u m xs aE S.out (.slice (loA A k c) dk (c - k)) dk (sgsC (l.drop k)) aE HR.out (sgsC_one _) hb1.out.1 hb1.out.2 ?_;intro v1 w1 S1;have S1:=LH S1)
 try simp only [Act.put]
 exact hend _ _ tS (⟨v1,sP0,S1.out⟩)
end
section
open Go.RowKit
def findK (nm:Bs):List SigD->Nat->Int
 |[],_=>-1
 |s :: l,k=>if s.1 == nm then (k:Int) else findK nm l (k+1)
def findN (nm:Bs) (l:List SigD):Int:=findK nm l 0
theorem sfind_any(A:Option Addr)(c:Nat)(l:List SigD)(hok:SgOk l)(hll:l.length < 9223372036854775807)(nm:ByteArray)(w:World)(hv:Rd w 33 (.slice A l.length c) l.length (sgsC l)):
 Calls Tryz.prog 85 #[.slice A l.length c,.string nm] w fun e w'=>e=.returned (.int .i64 (findN nm.toList l)) ∧ w=w':=by
 refine calls_fr Tryz.func85 rfl 20 rfl (fun a0 hsz hdf hAr=>?_)
 have hz0:a0.tmps.size=20:=hsz
 have D:=hdf
 have o0:=hAr 0 _ rfl
 have o1:=hAr 1 _ rfl
 refine wp_seq (sfd_r0 hz0 (fun a1 hs1 o4=>?_))
 obtain ⟨hz1,D,o0,o1⟩:=kq2 hs1 hz0 D o0 o1
 refine wp_seq (wp_seq (sfd_r1 hz1 (fun a2 hs2 o5=>?_)))
 obtain ⟨hz2,D,o0,o1,o4⟩:=kq3 hs2 hz1 D o0 o1 o4
 refine wp_block ?_
 (conv=>arg 2;whnf)
 refine wp_loop (fun a' w'=>∃ (k:Nat),k<=l.length ∧ a'.tmps.size=20 ∧ a'.defers=[] ∧ w'=w ∧ Sl a' 0 (.slice A l.length c) ∧ Sl a' 1 (.string nm) ∧ Sl a' 5 (Nq k) ∧ findN nm.toList l=findK nm.toList (l.drop k) k) (fun a' _=>l.length - (intOf (a'.eval (.tmp 5))).toNat) ⟨0,Nat.zero_le _,hz2,D,rfl,o0,o1,o5,rfl⟩ ?_
 iterate 6 (try clear o0)
 iterate 6 (try clear o1)
 iterate 6 (try clear o5)
 rintro a3 w3 ⟨k,hk,hz3,D,rfl,o0,o1,o5,hF⟩
 have e5:=o5.eval (by rw [hz3];decide)
 refine wp_seq (wp_seq (sfd_r2 A k l.length c hz3 o0 o5 (fun a4 hs4 o9=>?_)))
 obtain ⟨hz4,D,o0,o1,o5⟩:=kq3 hs4 hz3 D o0 o1 o5
 by_cases hlt:k < l.length
 . refine wcT o9 (wp_skip ?_) (by rw [decide_eq_true hlt])
   simp only [Exit.then]
   obtain ⟨ad,rfl⟩:=sgs_addr hv (by omega)
   obtain ⟨s,hs⟩:∃ s,l[k]?=some s:=⟨_,List.getElem?_eq_getElem hlt⟩
   obtain ⟨ns,hns,hnl,-,-⟩:=str_of s.1
   have hdr:l.drop k=s :: l.drop (k+1):=by rw [List.drop_eq_getElem_cons hlt,(List.getElem?_eq_some_iff.1 hs).2]
   rw [hdr] at hF
   unfold findK at hF
   have hc0:w3.cell? (ad.add (k * 33))=some (.string ns):=by
    have:=sgs_at hv hok hs 0 (strV s.1) rfl
    rwa [addr0,hns.out] at this
   refine wp_seq (wp_block ?_)
   refine wp_seq (sfd_r4 ad k l.length c hlt ns nm hc0 (s.1 == nm.toList) (by rw [hnl.out]) hz4 o0 o1 o5 (fun a5 hs5 o18=>?_))
   obtain ⟨hz5,D,o0,o1,o5,o9⟩:=kq4 hs5 hz4 D o0 o1 o5 o9
   cases he:s.1 == nm.toList
   . refine wcF o18 (wp_skip ?_) (by rw [he])
     rw [he,if_neg (by decide)] at hF
     simp only [Exit.inBlock,Exit.then]
     refine sfd_r3 k (by omega) hz5 o5 (fun a6 hs6 o5=>?_)
     obtain ⟨hz6,D,o0,o1,o9,o18⟩:=kq4 hs6 hz5 D o0 o1 o9 o18
     refine ⟨⟨k+1,by omega,hz6,D,rfl,o0,o1,o5,hF⟩,?_⟩
     show l.length - (intOf _).toNat < l.length - (intOf _).toNat
     rw [e5,o5.eval (by rw [hz6];decide)]
     simp only [intOf];omega
   . refine wcT o18 ?_ (by rw [he])
     rw [he,if_pos rfl] at hF
     refine wp_seq (sfd_r5 k hz5 o5 (fun a6 hs6 o4=>?_))
     obtain ⟨hz6,D,o0,o1,o5,o9,o18⟩:=kq5 hs6 hz5 D o0 o1 o5 o9 o18
     refine wp_ret ?_
     simp only [Exit.inBlock,Exit.then]
     exact (bodyPost_ret (results_t1 (by rfl) (o4.eval (by rw [hz6];decide))) D ⟨by rw [hF],rfl⟩)
 . refine wcF o9 (wp_exit ?_) (by rw [decide_eq_false hlt])
   simp only [Exit.then,Exit.inBlock]
   obtain rfl:k=l.length:=by omega
   rw [List.drop_length] at hF
   refine wp_seq (sfd_r6 hz4 (fun a5 hs5 o4=>?_))
   obtain ⟨hz5,D⟩:=kq0 hs5 hz4 D
   refine wp_ret ?_
   exact (bodyPost_ret (results_t1 (by rfl) (o4.eval (by rw [hz5];decide))) D ⟨by rw [hF];rfl,rfl⟩)
theorem slay_any(A:Option Addr)(c:Nat)(l:List SigD)(hok:SgOk l)(hll:l.length<=1000000)(s:SigD)(hs:s.2.length=32)(w:World)(hv:Rd w 33 (.slice A l.length c) l.length (sgsC l)):
 Calls Tryz.prog 86 #[.slice A l.length c,.agg (sgA s)] w fun e w'=>∃ v,e=.returned v ∧ Held w w' [rowR 89 33 v (l.length+1) (sgsC (insN l s))]:=by
 obtain ⟨ns,hns,hnl,-,-⟩:=str_of s.1
 have hlc:l.length<=c:=by obtain ⟨-,A',c',he,h1,-⟩:=hv;cases he;exact h1
 refine calls_fr Tryz.func86 rfl 36 rfl (fun a0 hsz hdf hAr=>?_)
 have hz0:a0.tmps.size=36:=hsz
 have D:=hdf
 have o0:=hAr 0 _ rfl
 have o1:=hAr 1 _ rfl
 refine wp_seq (sly_r0 w s [] (Held.start w) hz0 o1 (fun a1 w1 hs1 o4 h1=>?_))
 obtain ⟨hz1,D,o0,o1⟩:=kq2 hs1 hz0 D o0 o1
 obtain ⟨gs,o3,S⟩:=h1
 refine wp_seq (sly_r1 hz1 (fun a2 hs2 o5=>?_))
 obtain ⟨hz2,D,o0,o3⟩:=kq2 hs2 hz1 D o0 o3
 refine wp_seq (wp_block ?_)
 (conv=>arg 2;whnf)
 refine wp_loop (fun a' w'=>∃ (k:Nat),k<=l.length ∧ a'.tmps.size=36 ∧ a'.defers=[] ∧ Held w w' [blkR gs 89 (sgA s)] ∧ Sl a' 0 (.slice A l.length c) ∧ Sl a' 3 (Pq gs 0) ∧ Sl a' 5 (Nq k) ∧ posN s.1 l=k+posN s.1 (l.drop k)) (fun a' _=>l.length - (intOf (a'.eval (.tmp 5))).toNat) ⟨0,Nat.zero_le _,hz2,D,S,o0,o3,o5,by simp⟩ ?_
 iterate 6 (try clear S)
 iterate 6 (try clear o0)
 iterate 6 (try clear o3)
 iterate 6 (try clear o5)
 rintro a3 w3 ⟨k,hk,hz3,D,S,o0,o3,o5,hF⟩
 have e5:=o5.eval (by rw [hz3];decide)
 have hfin:∀ (a4:Act) (w4:World),a4.tmps.size=36->a4.defers=[]->Held w w4 [blkR gs 89 (sgA s)]->Sl a4 0 (.slice A l.length c)->Sl a4 3 (Pq gs 0)->Sl a4 5 (Nq k)->posN s.1 l=k->(tailOf 2 Tryz.f86).wp Tryz.prog (bodyPost Tryz.prog Tryz.f86 fun e w'=>∃ v,e=.returned v ∧ Held w w' [rowR 89 33 v (l.length+1) (sgsC (insN l s))]) a4 w4:=by
  intro a4 w4 hz4 D S o0 o3 o5 hp
  (conv=>arg 2;whnf)
  refine wp_seq (sly_r4 w A c l hok (by omega) k hk (fun V kV=>rd_old hv kV) hlc _ S hz4 o0 o5 (fun a5 w5 hs5 h5=>?_))
  obtain ⟨hz5,D,o0,o3,o5⟩:=kq3 hs5 hz4 D o0 o3 o5
  obtain ⟨v5,o6,S⟩:=h5
  refine wp_seq (sly_r5 w v5 k (by omega) _ gs s hs [] S hz5 o3 o6 (fun a6 w6 hs6 h6=>?_))
  obtain ⟨hz6,D,o0,o3,o5⟩:=kq3 hs6 hz5 D o0 o3 o5
  obtain ⟨v6,o6,S⟩:=h6
  refine wp_seq (sly_r6 w A c l hok (by omega) k hk (fun V kV=>rd_old hv kV) v6 (k+1) (by omega) _ _ S hz6 o0 o5 o6 (fun a7 w7 hs7 h7=>?_))
  obtain ⟨hz7,D,o0,o3,o5,o6⟩:=kq4 hs7 hz6 D o0 o3 o5 o6
  obtain ⟨v7,o4,S⟩:=h7
  refine wp_ret ?_
  refine (bodyPost_ret (results_t1 (by rfl) (o4.eval (by rw [hz7];decide))) D ⟨_,rfl,?_⟩)
  have e1:sgsC (l.take k) ++ (sgA s).toList ++ sgsC (l.drop k)=sgsC (insN l s):=by
   unfold insN
   rw [hp,sgsC_append,List.append_assoc]
   rfl
  rw [e1,show k+1+(l.length - k)=l.length+1 from by omega] at S
  exact S
 by_cases hlt:k < l.length
 . obtain ⟨ad,rfl⟩:=sgs_addr hv (by omega)
   obtain ⟨x,hx⟩:∃ x,l[k]?=some x:=⟨_,List.getElem?_eq_getElem hlt⟩
   obtain ⟨nx,hnx,hnxl,-,-⟩:=str_of x.1
   have hdr:l.drop k=x :: l.drop (k+1):=by rw [List.drop_eq_getElem_cons hlt,(List.getElem?_eq_some_iff.1 hx).2]
   rw [hdr] at hF
   have hc:∀ V,Kp [] w3.drew V->V.cell? (ad.add (k * 33))=some (.string nx):=by
    intro V kV
    have:=sgs_at (rd_old hv (S.k.drew.trans kV (by simp))) hok hx 0 (strV x.1) rfl
    rwa [addr0,hnx.out] at this
   have hlt2:Op.bytesLess nx.toList ns.toList=decide (cmpB x.1 s.1 < 0):=by rw [hnxl.out,hnl.out,less_cmp]
   refine wp_seq (wp_seq (sly_r2Y ad k l.length c hlt nx ns hc gs s hns.out ((S.at_ (l1:=[])).drew) _ hlt2 hz3 o0 o3 o5 (fun a4 w4 hs4 k4 o20=>?_)))
   obtain ⟨hz4,D,o0,o3,o5⟩:=kq3 hs4 hz3 D o0 o3 o5
   have S:=S.kp (((Kp.refl [] w3).drew).trans k4 (by simp))
   by_cases hc2:cmpB x.1 s.1 < 0
   . refine wcT o20 (wp_skip ?_) (by rw [decide_eq_true hc2])
     rw [posN_lt hc2] at hF
     simp only [Exit.then]
     refine wp_block ?_
     refine sly_r3 k (by omega) hz4 o5 (fun a5 hs5 o5'=>?_)
     have hz5:=hs5.size.trans hz4
     simp only [Exit.inBlock,Exit.then]
     refine ⟨⟨k+1,by omega,hz5,hs5.defers.trans D,S,hs5.q o0,hs5.q o3,o5',by omega⟩,?_⟩
     show l.length - (intOf _).toNat < l.length - (intOf _).toNat
     rw [e5,o5'.eval (by rw [hz5];decide)]
     simp only [intOf];omega
   . refine wcF o20 (wp_exit ?_) (by rw [decide_eq_false hc2])
     rw [posN_ge hc2] at hF
     simp only [Exit.then,Exit.inBlock]
     exact hfin a4 w4 hz4 D S o0 o3 o5 (by omega)
 . refine wp_seq (wp_seq (sly_r2N A k l.length c hlt hz3 o0 o5 (fun a4 w4 hs4 k4 o20=>?_)))
   obtain ⟨hz4,D,o0,o3,o5⟩:=kq3 hs4 hz3 D o0 o3 o5
   have S:=S.kp (((Kp.refl [] w3).drew).trans k4 (by simp))
   refine wcF o20 (wp_exit ?_)
   simp only [Exit.then,Exit.inBlock]
   have hkl:k=l.length:=by omega
   rw [List.drop_of_length_le (by omega)] at hF
   exact hfin a4 w4 hz4 D S o0 o3 o5 (by rw [hF];rfl)
end
section
open Go.RowKit
def lk (nm:Bs) (l:List SigD):Option (List UInt8):=(l.find? fun s=>s.1 == nm).map (·.2)
theorem lk_nil(nm:Bs):lk nm []=none:=rfl
theorem lk_cons(nm:Bs)(s:SigD)(l:List SigD):lk nm (s :: l)=if s.1 == nm then some s.2 else lk nm l:=by
 unfold lk
 rw [List.find?_cons]
 cases s.1 == nm <;> rfl
theorem lk_none{nm:List UInt8}:∀ {l:List SigD},lk nm l=none ↔ ∀ s,s ∈ l->s.1 ≠ nm
 |[]=>by simp [lk_nil]
 |x :: l=>by
  rw [lk_cons]
  cases e:x.1 == nm
  . rw [if_neg (by decide),lk_none (l:=l)]
    refine ⟨fun h s hs=>?_,fun h s hs=>h s (List.mem_cons_of_mem _ hs)⟩
    rcases List.mem_cons.1 hs with rfl|hs
    . intro e2
      rw [e2,beq_self_eq_true] at e
      cases e
    . exact h s hs
  . rw [if_pos rfl]
    refine ⟨fun h=>(by cases h),fun h=>absurd (eq_of_beq e) (h x (List.mem_cons_self ..))⟩
theorem lk_some{nm v:List UInt8}:∀ {l:List SigD} {a:List UInt8},rising a l=true->(lk nm l=some v ↔ (nm,v) ∈ l)
 |[],_,_=>by simp [lk_nil]
 |x :: l,a,h=>by
  have h':=h
  unfold rising at h'
  simp only [Bool.and_eq_true,decide_eq_true_eq] at h'
  rw [lk_cons]
  cases e:x.1 == nm
  . rw [if_neg (by decide),lk_some h'.2]
    refine ⟨fun h=>List.mem_cons_of_mem _ h,fun h=>?_⟩
    rcases List.mem_cons.1 h with h|h
    . rw [<- h,beq_self_eq_true] at e
      cases e
    . exact h
  . rw [if_pos rfl]
    have e1:=eq_of_beq e
    constructor
    . intro h
      cases h
      rw [<- e1]
      exact List.mem_cons_self ..
    . intro h2
      rcases List.mem_cons.1 h2 with h2|h2
      . rw [<- h2]
      . have:=rising_all h'.2 _ h2
        rw [e1,cmpB_self] at this
        omega
theorem hasN_lk{nm:List UInt8}:∀ {l:List SigD} {a:List UInt8},rising a l=true->hasN nm l=(lk nm l).isSome
 |[],_,_=>rfl
 |x :: l,a,h=>by
  have h':=h
  unfold rising at h'
  simp only [Bool.and_eq_true,decide_eq_true_eq] at h'
  rw [lk_cons]
  by_cases hx:cmpB x.1 nm < 0
  . rw [hasN_lt hx,hasN_lk h'.2,if_neg (by intro e;rw [eq_of_beq e,cmpB_self] at hx;omega)]
  . rw [hasN_ge hx]
    by_cases h0:cmpB x.1 nm=0
    . rw [cmpB_zero h0,beq_self_eq_true,if_pos rfl,cmpB_self];rfl
    . rw [decide_eq_false h0,if_neg (by intro e;rw [eq_of_beq e] at h0;exact h0 (cmpB_self _))]
      have:lk nm l=none:=lk_none.2 fun s hs e=>by
       have:=rising_all h'.2 s hs
       rw [e] at this
       omega
      rw [this];rfl
end
section
open Go.RowKit
theorem Tryz.built_note2(z:Int)(hh:Bs)(hl:hh.length=32)(A:Option Addr)(n c:Nat):Tryz.prog.built 28 [(0,.agg (ptA z hh)),(1,.slice A n c)]=some (ntA z hh (.slice A n c)):=by
 rw [Tryz.builtN_is]
 have hs:(ptA z hh).size=33:=ptA_size hl
 have hs0:zeroN.size=34:=rfl
 have h:((ptA z hh).zipIdx.foldl (fun cs (x:Value × Nat)=>cs.setIfInBounds (0+x.2) x.1) zeroN)=ntA z hh (.slice none 0 0):=by
  have h1:=foldl_place 0 (ptA z hh).toList 0 zeroN
  rw [show (ptA z hh).zipIdx.foldl (fun cs (x:Value × Nat)=>cs.setIfInBounds (0+x.2) x.1) zeroN=((ptA z hh).toList.zipIdx 0).foldl (fun cs (x:Value × Nat)=>cs.setIfInBounds (0+x.2) x.1) zeroN from by rw [<- Array.foldl_toList,Array.toList_zipIdx],h1]
  rw [hs0,List.take_of_length_le (l:=(ptA z hh).toList) (by rw [Array.length_toList,hs];decide),Array.length_toList,hs]
  rfl
 unfold Instr.fill
 show (if (decide ((ptA z hh).size ≠ 33) || decide (0+(ptA z hh).size > zeroN.size))=true then none else Instr.fill (#[(0,33),(33,1)][·]?) ((ptA z hh).zipIdx.foldl (fun cs (x:Value × Nat)=>cs.setIfInBounds (0+x.2) x.1) zeroN) [(1,.slice A n c)])=_
 rw [hs,hs0,h,if_neg (by decide)]
 unfold Instr.fill
 show (if (decide (1 ≠ 1) || decide (33+1 > (ntA z hh (.slice none 0 0)).size))=true then none else some ((ntA z hh (.slice none 0 0)).setIfInBounds (33+0) (.slice A n c)))=_
 rw [ntA_size hl,Nat.add_zero,ntA_setSigs hl]
 rfl
end
section
open Go.RowKit
theorem findK_none{nm:List UInt8}:∀ {l:List SigD} {k:Nat},lk nm l=none->findK nm l k=-1
 |[],_,_=>rfl
 |s :: l,k,h=>by
  rw [lk_cons] at h
  unfold findK
  cases e:s.1 == nm
  . rw [e,if_neg (by decide)] at h
    rw [if_neg (by decide)]
    exact findK_none h
  . rw [e,if_pos rfl] at h
    cases h
theorem findK_some{nm v:List UInt8}:∀ {l:List SigD} {k:Nat},lk nm l=some v->∃ p,findK nm l k=((k+p:Nat):Int) ∧ l[p]?=some (nm,v)
 |[],_,h=>by cases h
 |s :: l,k,h=>by
  rw [lk_cons] at h
  unfold findK
  cases e:s.1 == nm
  . rw [e,if_neg (by decide)] at h
    rw [if_neg (by decide)]
    obtain ⟨p,h1,h2⟩:=findK_some (k:=k+1) h
    exact ⟨p+1,by rw [h1];congr 1;omega,by rw [List.getElem?_cons_succ];exact h2⟩
  . rw [e,if_pos rfl] at h
    cases h
    rw [if_pos rfl]
    exact ⟨0,rfl,by rw [List.getElem?_cons_zero,<- eq_of_beq e]⟩
end
section
open Go.RowKit Go.Shelf
attribute [local go_sem] Oper.semAt_some
end
section
variable {Q:Exit->Act->World->Prop} {a:Act} {w:World}
open Go.RowKit
theorem rsm_r0(w0:World)(ca ck:Array Value)(L:List Res)(S:Held w0 w L)(hsz:a.tmps.size=15)(o0:Sl a 0 (.agg ca))(o1:Sl a 1 (.agg ck)):RG1 false 0 Tryz.f87 Q a w fun a' W q'=>(∃ g2 g3 g4,Sl a' 2 (Pq g2 0) ∧ Sl a' 3 (Pq g3 0) ∧ Sl a' 4 (Pq g4 0) ∧ Held w0 W (blkR g4 23 (hashA (List.replicate 32 0)) :: blkR g3 34 ck :: blkR g2 25 ca :: L))->q':=by
 intro hend
 refine wp_region_lit ?_
 (conv=>arg 4;whnf)
 unfold Sl at o0 o1
 have S1:=LH (((S.newBlk 25 ca).newBlkN 34 ck (g:=w.heap.size+1) (by simp)).newBlkN 23 (hashA (List.replicate 32 0)) (g:=w.heap.size+2) (by simp))
 go_wp2_with fail
 try simp only [Act.put]
 exact hend _ _ tS (⟨w.heap.size,w.heap.size+1,w.heap.size+2,sP0,sP0,sP0,S1.out⟩)
theorem rsm_r1(w0:World)(n:Nat)(hn:n < 9223372036854775808)(h:Bs)(hh:h.length=32)(nm:Bs)(Ak:Option Addr)(ck:Nat)(sec:Bs)(hnl:nm.length<=64)(hsl:sec.length<=256)(hva:∀ V,Kp [] w0 V->Rd V 1 (.slice Ak sec.length ck) sec.length (bv sec))(g2 g3 g4:Nat)(L:List Res)(hsz:a.tmps.size=15)(o2:Sl a 2 (Pq g2 0))(o3:Sl a 3 (Pq g3 0))(o4:Sl a 4 (Pq g4 0))
 (S0:Held w0 w (blkR g4 23 (hashA (List.replicate 32 0)) :: blkR g2 25 (ptA (n:Int) h) :: blkR g3 34 #[.string ⟨nm.toArray⟩,.slice Ak sec.length ck] :: L)):RG2 1 Tryz.f87 Q a w fun a' vs gs W q'=>Held w0 W (rdR (vs 8) (nm ++ 10 :: told n h).length (bv (nm ++ 10 :: told n h)) :: blkR g4 23 (hashA (sumF (n:Int) h nm sec)) :: blkR g2 25 (ptA (n:Int) h) :: blkR g3 34 #[.string ⟨nm.toArray⟩,.slice Ak sec.length ck] :: L)->q':=by
 intro hend
 have hap:=pa 1 Tryz.f87
 refine wp_region_sep (Γ:=Unit) (l:=(opsOf 1 Tryz.f87)) 4 [0,1,2,3,4,5,6,7,8,9,10,12,13,14]
  (fun i vs gs=>match i with|0=>vs 0=Pq g3 1|1=>vs 1=.slice Ak sec.length ck|2=>vs 2=Pq g3 0|3=>vs 3=.string ⟨(nm).toArray⟩|4=>vs 4=.string ⟨(nm ++ [10]).toArray⟩|5=>vs 5=.agg (ptA (n:Int) h)|6=>vs 6=.string ⟨(told n h).toArray⟩|7=>vs 7=.string ⟨(nm ++ 10 :: told n h).toArray⟩|9=>vs 9=.agg (hashA (sumF (n:Int) h nm sec))|_=>True)
  (fun i vs gs=>match i with|8=>[rdR (vs 8) (nm ++ 10 :: told n h).length (bv (nm ++ 10 :: told n h))]|10=>[blkR g4 23 (hashA (sumF (n:Int) h nm sec))]|11=>[blkR g4 23 (hashA (List.replicate 32 0))]|12=>[blkR g2 25 (ptA (n:Int) h)]|13=>[blkR g3 34 #[.string ⟨nm.toArray⟩,.slice Ak sec.length ck]]|14=>L|_=>[])
  (fun i=>match i with|10=>[11]|_=>[]) (fun i=>match i with|1=>[13]|3=>[13]|5=>[12]|9=>[8]|_=>[]) S0 (by kernel_rfl) hap (by kernel_rfl) (by kernel_rfl) (fun i=>match i with|0=>[0]|1=>[1]|2=>[2]|3=>[3]|4=>[4]|5=>[5]|6=>[6]|7=>[7]|8=>[8]|9=>[9]|_=>[]) (by kernel_rfl) ?_ (by kernel_rfl) ?_ ?_ ?_
 . intro s vs vs' gs gs' h
   iterate 15 (rcases s with _|s;· (first|exact ⟨rfl,id⟩|(simp only [List.mem_cons,List.not_mem_nil,or_false,forall_eq] at h;simp [h])))
   exact ⟨rfl,id⟩
 . simp only [List.range,List.range.loop,List.flatMap_cons,List.flatMap_nil,List.append_nil]
   exact List.Perm.refl _
 . clear S0 hend
   and_intros <;> try intro vs gs A' W LF hA S hR hd hu K hK
   . exact qa1 (eO 3 o3)
   . have c0:W.cell? ⟨g3,1,none⟩=some (.slice Ak sec.length ck):=by rw [(show Blk W g3 34 (#[.string ⟨nm.toArray⟩,.slice Ak sec.length ck]) from S.ok (blkR g3 34 (#[.string ⟨nm.toArray⟩,.slice Ak sec.length ck])) (hR 13 (List.mem_singleton.2 rfl) _ (List.mem_singleton.2 rfl))).cell];rfl
     exact qa1 (vD 5 0)
   . exact qa1 (eO 3 o3)
   . have c0:W.cell? ⟨g3,0,none⟩=some (.string ⟨(nm).toArray⟩):=by rw [(show Blk W g3 34 (#[.string ⟨nm.toArray⟩,.slice Ak sec.length ck]) from S.ok (blkR g3 34 (#[.string ⟨nm.toArray⟩,.slice Ak sec.length ck])) (hR 13 (List.mem_singleton.2 rfl) _ (List.mem_singleton.2 rfl))).cell];rfl
     exact qa1 (vD 7 2)
   . replace hK:=hK default;have e8:=vD 8 3;clear hA o2 o3 o4
     have hsz2:¬ 9223372036854775807 < nm.length+1:=by omega
     go_step
     exact hK _ _ S (congrArg Value.string ((str_add nm [10]).trans (congrArg (fun x:List UInt8=>ByteArray.mk x.toArray) (by simp))))
   . exact ldA (ptA (n:Int) h) (eO 2 o2) (Blk.agg (show Blk W g2 25 (ptA (n:Int) h) from S.ok (blkR g2 25 (ptA (n:Int) h)) (hR 12 (List.mem_singleton.2 rfl) _ (List.mem_singleton.2 rfl)))) Tryz.underlying25 (by rw [ptA_size hh];exact Tryz.infoPointP)
   . replace hK:=hK default;have e10:=vD 10 5;clear hA o2 o3 o4
     simp only at *
     go_step
     refine (rtold_any n hn h hh W).mono ?_
     rintro e w' ⟨rfl,k⟩
     exact hK _ _ (S.kp k) rfl
   . replace hK:=hK default;have e9:=vD 9 4;have e11:=vD 11 6;clear hA o2 o3 o4;have htl:=told_le n hn h hh
     have hsz2:¬ 9223372036854775807 < nm.length+1+(told n h).length:=by omega
     go_step
     exact hK _ _ S (congrArg Value.string ((str_add (nm ++ [10]) (told n h)).trans (congrArg (fun x:List UInt8=>ByteArray.mk x.toArray) (by simp))))
   . replace hK:=hK default;have e12:=vD 12 7;clear hA o2 o3 o4;have htl:=told_le n hn h hh
     obtain ⟨v,w',hrun,S'⟩:=conv_str W ⟨(nm ++ 10 :: told n h).toArray⟩ (by rw [str_size,List.length_append,List.length_cons];omega)
     rw [str_size] at S'
     refine op_runs (v:=v) (w':=w') ?_ (hK _ _ (S.new _ S'.k (S'.at_ (l1:=[])) (fun b hb=>S'.base _ (List.mem_singleton.2 rfl) b hb)) trivial)
     have e12':A'.eval (.tmp 12)=.string ⟨(nm ++ 10 :: told n h).toArray⟩:=by simpa [Act.eval] using e12
     simp [execOp,e12',hrun,Result.andThen]
   . replace hK:=hK default;have e6:=vD 6 1;have e13:=eU 13 8;clear hA o2 o3 o4;go_step;have htl:=told_le n hn h hh
     obtain ⟨Ax,cx,hx⟩:=rd_form (show Rd W 1 (vs 8) (nm ++ 10 :: told n h).length (bv (nm ++ 10 :: told n h)) from (S.ok (rdR (vs 8) (nm ++ 10 :: told n h).length (bv (nm ++ 10 :: told n h))) (hR 8 (List.mem_singleton.2 rfl) _ (List.mem_singleton.2 rfl))).1)
     have hsum:sumF (n:Int) h nm sec=macF sec (nm ++ 10 :: told n h):=by unfold sumF;rw [Int.toNat_natCast];simp
     have hM:=rmac_any w0 LF Ak ck sec (by omega) Ax cx (nm ++ 10 :: told n h) (by rw [List.length_append,List.length_cons];omega) W S (fun V L' SV=>hva V SV.k) (fun V L' SV=>by rw [<- hx];exact (SV.ok (rdR (vs 8) (nm ++ 10 :: told n h).length (bv (nm ++ 10 :: told n h))) (List.mem_append_right _ (hR 8 (List.mem_singleton.2 rfl) _ (List.mem_singleton.2 rfl)))).1)
     rw [<- hx] at hM
     refine hM.mono ?_
     rintro e w' ⟨rfl,S2⟩
     exact hK _ _ S2 (congrArg (fun x=>Value.agg (hashA x)) hsum.symm)
   . replace hK:=hK default;have e4:=eO 4 o4;have e14:=vD 14 9;clear hA o2 o3 o4
     have S1:Held w0 W (blkR g4 23 (hashA (List.replicate 32 0)) :: LF):=S
     refine op_store_blkS (.tmp 4) (.tmp 14) 23 rfl g4 (by simpa [Act.eval] using e4) (hashA (sumF (n:Int) h nm sec)) (by simpa [Act.eval] using e14) 23 (hashA (List.replicate 32 0)) S1 (by rw [hashA_size,sumF_length];exact Tryz.infoHashP) (by rw [hashA_size,sumF_length] <;> rfl) (hashA_one _) ?_
     intro w' S2
     exact hK _ _ S2 trivial
   . trivial
 . intro vs gs W S hp
   have S:Held w0 W (rdR (vs 8) (nm ++ 10 :: told n h).length (bv (nm ++ 10 :: told n h)) :: blkR g4 23 (hashA (sumF (n:Int) h nm sec)) :: blkR g2 25 (ptA (n:Int) h) :: blkR g3 34 #[.string ⟨nm.toArray⟩,.slice Ak sec.length ck] :: L):=by simpa only [List.flatMap_cons,List.flatMap_nil,List.append_nil,List.nil_append,List.cons_append,List.append_assoc] using S
   rw [putAll_eq]
   exact hend _ vs gs W sQ  S
theorem rsu_r1N(z:Int)(hz:z < 0)(h:Bs)(nm:Bs)(Ak:Option Addr)(ck:Nat)(sec:Bs)(hnl:nm.length<=9223372036854775807)(g2 g3:Nat)(hb2:Blk w g2 25 (ptA z h))(hb3:Blk w g3 34 #[.string ⟨nm.toArray⟩,.slice Ak sec.length ck])(hsz:a.tmps.size=18)(o2:Sl a 2 (Pq g2 0))(o3:Sl a 3 (Pq g3 0)):RG1 false 1 Tryz.f76 Q a w fun a' W q'=>Kp [] w W->Sl a' 13 (.bool true)->q':=by
 intro hend
 have hap:=pa 1 Tryz.f76
 refine wp_region_invS (l:=(opsOf 1 Tryz.f76)) (fun i v W=>match i with|0=>v=Pq g2 0|1=>v=.int .i64 z|2=>v=.bool true|3=>v=.bool true|7=>v=.bool true|_=>True) hap ?_ ?_ ?_
 . exact fun _ _ _ _ h _=>h
 . and_intros <;> try (intro vs A' W hA hW hd hu K hK;try (refine wpOp_free _ rfl rfl ?_;conv=>arg 2;whnf))
   . exact qa1 (eO 2 o2)
   . have c0:W.cell? ⟨g2,0,none⟩=some (.int .i64 z):=by rw [(hb2.k0 hW).cell];rfl
     exact qa1 (vD 6 0)
   . have e7:=vD 7 1;clear hA hd hu o2 o3
     have hzz:z < 0:=by omega
     go_step
     exact hK _ _ kR (by first|rfl|(refine congrArg Value.bool ?_;simp [hzz];done)|(refine congrArg Value.bool ?_;simp;omega))
   . exact qa1 (vD 8 2)
   . exact qS 3 false (vD 9 3)
   . exact qS 3 false (vD 9 3)
   . exact qS 3 false (vD 9 3)
   . exact qa2 (vD 9 3) (eU 12 6)
   . trivial
 . intro vs W hW hp
   rw [putAll_eq]
   exact hend _ W sQ hW (sW (hp 7 sB))
theorem rsu_r1Y(z:Int)(hz:0<=z)(h:Bs)(nm:Bs)(Ak:Option Addr)(ck:Nat)(sec:Bs)(hnl:nm.length<=9223372036854775807)(g2 g3:Nat)(hb2:Blk w g2 25 (ptA z h))(hb3:Blk w g3 34 #[.string ⟨nm.toArray⟩,.slice Ak sec.length ck])(hsz:a.tmps.size=18)(o2:Sl a 2 (Pq g2 0))(o3:Sl a 3 (Pq g3 0)):RG1 false 1 Tryz.f76 Q a w fun a' W q'=>Kp [] w W->Sl a' 13 (.bool (!keyOk nm sec))->q':=by
 intro hend
 have hap:=pa 1 Tryz.f76
 refine wp_region_invS (l:=(opsOf 1 Tryz.f76)) (fun i v W=>match i with|0=>v=Pq g2 0|1=>v=.int .i64 z|2=>v=.bool false|3=>v=.bool false|4=>v=.agg #[.string ⟨nm.toArray⟩,.slice Ak sec.length ck]|5=>v=.bool (keyOk nm sec)|6=>v=.bool (!keyOk nm sec)|7=>v=.bool (!keyOk nm sec)|_=>True) hap ?_ ?_ ?_
 . exact fun _ _ _ _ h _=>h
 . and_intros <;> try (intro vs A' W hA hW hd hu K hK;try (refine wpOp_free _ rfl rfl ?_;conv=>arg 2;whnf))
   . exact qa1 (eO 2 o2)
   . have c0:W.cell? ⟨g2,0,none⟩=some (.int .i64 z):=by rw [(hb2.k0 hW).cell];rfl
     exact qa1 (vD 6 0)
   . have e7:=vD 7 1;clear hA hd hu o2 o3
     have hzz:¬ z < 0:=by omega
     go_step
     exact hK _ _ kR (by first|rfl|(refine congrArg Value.bool ?_;simp [hzz];done)|(refine congrArg Value.bool ?_;simp;omega))
   . exact qa1 (vD 8 2)
   . refine qG 3 (vD 9 3) ?_;(conv=>arg 2;whnf);have e3:=eO 3 o3;clear hA hd hu o2 o3;refine op_runs (v:=.agg #[.string ⟨nm.toArray⟩,.slice Ak sec.length ck]) (w':=W) (exec_load rfl (by simpa [Act.eval] using e3) (run_loadAt_agg W (⟨g3,0,none⟩) 34 (#[.string ⟨nm.toArray⟩,.slice Ak sec.length ck]).toList _ (Blk.agg (hb3.k0 hW)) Tryz.underlying34 rfl (by exact Tryz.infoKeyP))) ?_
     exact hK _ _ kR rfl
   . refine qG 3 (vD 9 3) ?_;(conv=>arg 2;whnf);have e10:=vD 10 4;clear hA hd hu o2 o3;go_step
     refine (rkey_any ⟨nm.toArray⟩ (by rw [str_size];omega) Ak sec.length ck W).mono ?_
     rintro e w' ⟨rfl,k⟩
     exact hK _ _ k rfl
   . exact gq1 3 (vD 9 3) (vD 11 5)
   . exact qa2 (vD 9 3) (vD 12 6)
   . trivial
 . intro vs W hW hp
   rw [putAll_eq]
   exact hend _ W sQ hW (sW (hp 7 sB))
theorem rsi_r0(w0:World)(ca ck:Array Value)(L:List Res)(S:Held w0 w L)(hsz:a.tmps.size=40)(o0:Sl a 0 (.agg ca))(o1:Sl a 1 (.agg ck)):RG1 false 0 Tryz.f43 Q a w fun a' W q'=>Sl a' 5 (.int .i64 (0:Int))->(∃ g2 g3 g4,Sl a' 2 (Pq g2 0) ∧ Sl a' 3 (Pq g3 0) ∧ Sl a' 4 (Pq g4 0) ∧ Held w0 W (blkR g4 28 zeroN :: blkR g3 34 ck :: blkR g2 28 ca :: L))->q':=by
 intro hend
 refine wp_region_lit ?_
 (conv=>arg 4;whnf)
 unfold Sl at o0 o1
 have S1:=LH (((S.newBlk 28 ca).newBlkN 34 ck (g:=w.heap.size+1) (by simp)).newBlkN 28 zeroN (g:=w.heap.size+2) (by simp))
 go_wp2_with fail
 try simp only [Act.put]
 exact hend _ _ tS sP (⟨w.heap.size,w.heap.size+1,w.heap.size+2,sP0,sP0,sP0,S1.out⟩)
theorem rsi_r1N(z:Int)(hz:-9223372036854775808<=z ∧ z<=9223372036854775807)(h:Bs)(hh:h.length=32)(A:Option Addr)(c:Nat)(l:List SigD)(hok:SgOk l)(hll:l.length<=9223372036854775806)(hv:Rd w 33 (.slice A l.length c) l.length (sgsC l))(nm:Bs)(Ak:Option Addr)(ck:Nat)(sec:Bs)(hnl:nm.length<=9223372036854775807)(g2 g3:Nat)(hb2:Blk w g2 28 (ntA z h (.slice A l.length c)))(hb3:Blk w g3 34 #[.string ⟨nm.toArray⟩,.slice Ak sec.length ck])(hm:mayN z l=false)(hsz:a.tmps.size=40)(o2:Sl a 2 (Pq g2 0))(o3:Sl a 3 (Pq g3 0)):RG1 false 1 Tryz.f43 Q a w fun a' W q'=>Kp [] w W->Sl a' 13 (.bool true)->q':=by
 intro hend
 have hap:=pa 1 Tryz.f43
 refine wp_region_invS (l:=(opsOf 1 Tryz.f43)) (fun i v W=>match i with|0=>v=.agg (ntA z h (.slice A l.length c))|1=>v=.bool false|2=>v=.bool true|3=>v=.bool true|7=>v=.bool true|_=>True) hap ?_ ?_ ?_
 . exact fun _ _ _ _ h _=>h
 . and_intros <;> try (intro vs A' W hA hW hd hu K hK;try (refine wpOp_free _ rfl rfl ?_;conv=>arg 2;whnf))
   . exact ldA (ntA z h (.slice A l.length c)) (eO 2 o2) (Blk.agg (hb2.k0 hW)) Tryz.underlying28 (by rw [ntA_size hh];exact Tryz.infoNote)
   . have e6:=vD 6 0;clear hA hd hu o2 o3;go_step
     refine (rmay_any z hz h hh l hok (by omega) A c W (rd_old hv hW)).mono ?_
     rintro e w' ⟨rfl,k⟩
     exact hK _ _ k (congrArg Value.bool hm)
   . exact qa1 (vD 7 1)
   . exact qa1 (vD 8 2)
   . exact qS 3 false (vD 9 3)
   . exact qS 3 false (vD 9 3)
   . exact qS 3 false (vD 9 3)
   . exact qa2 (vD 9 3) (eU 12 6)
   . trivial
 . intro vs W hW hp
   rw [putAll_eq]
   exact hend _ W sQ hW (sW (hp 7 sB))
theorem rsi_r1Y(z:Int)(hz:-9223372036854775808<=z ∧ z<=9223372036854775807)(h:Bs)(hh:h.length=32)(A:Option Addr)(c:Nat)(l:List SigD)(hok:SgOk l)(hll:l.length<=9223372036854775806)(hv:Rd w 33 (.slice A l.length c) l.length (sgsC l))(nm:Bs)(Ak:Option Addr)(ck:Nat)(sec:Bs)(hnl:nm.length<=9223372036854775807)(g2 g3:Nat)(hb2:Blk w g2 28 (ntA z h (.slice A l.length c)))(hb3:Blk w g3 34 #[.string ⟨nm.toArray⟩,.slice Ak sec.length ck])(hm:mayN z l=true)(hsz:a.tmps.size=40)(o2:Sl a 2 (Pq g2 0))(o3:Sl a 3 (Pq g3 0)):RG1 false 1 Tryz.f43 Q a w fun a' W q'=>Kp [] w W->Sl a' 13 (.bool (!keyOk nm sec))->q':=by
 intro hend
 have hap:=pa 1 Tryz.f43
 refine wp_region_invS (l:=(opsOf 1 Tryz.f43)) (fun i v W=>match i with|0=>v=.agg (ntA z h (.slice A l.length c))|1=>v=.bool true|2=>v=.bool false|3=>v=.bool false|4=>v=.agg #[.string ⟨nm.toArray⟩,.slice Ak sec.length ck]|5=>v=.bool (keyOk nm sec)|6=>v=.bool (!keyOk nm sec)|7=>v=.bool (!keyOk nm sec)|_=>True) hap ?_ ?_ ?_
 . exact fun _ _ _ _ h _=>h
 . and_intros <;> try (intro vs A' W hA hW hd hu K hK;try (refine wpOp_free _ rfl rfl ?_;conv=>arg 2;whnf))
   . exact ldA (ntA z h (.slice A l.length c)) (eO 2 o2) (Blk.agg (hb2.k0 hW)) Tryz.underlying28 (by rw [ntA_size hh];exact Tryz.infoNote)
   . have e6:=vD 6 0;clear hA hd hu o2 o3;go_step
     refine (rmay_any z hz h hh l hok (by omega) A c W (rd_old hv hW)).mono ?_
     rintro e w' ⟨rfl,k⟩
     exact hK _ _ k (congrArg Value.bool hm)
   . exact qa1 (vD 7 1)
   . exact qa1 (vD 8 2)
   . refine qG 3 (vD 9 3) ?_;(conv=>arg 2;whnf);have e3:=eO 3 o3;clear hA hd hu o2 o3;refine op_runs (v:=.agg #[.string ⟨nm.toArray⟩,.slice Ak sec.length ck]) (w':=W) (exec_load rfl (by simpa [Act.eval] using e3) (run_loadAt_agg W (⟨g3,0,none⟩) 34 (#[.string ⟨nm.toArray⟩,.slice Ak sec.length ck]).toList _ (Blk.agg (hb3.k0 hW)) Tryz.underlying34 rfl (by exact Tryz.infoKeyP))) ?_
     exact hK _ _ kR rfl
   . refine qG 3 (vD 9 3) ?_;(conv=>arg 2;whnf);have e10:=vD 10 4;clear hA hd hu o2 o3;go_step
     refine (rkey_any ⟨nm.toArray⟩ (by rw [str_size];omega) Ak sec.length ck W).mono ?_
     rintro e w' ⟨rfl,k⟩
     exact hK _ _ k rfl
   . exact gq1 3 (vD 9 3) (vD 11 5)
   . exact qa2 (vD 9 3) (vD 12 6)
   . trivial
 . intro vs W hW hp
   rw [putAll_eq]
   exact hend _ W sQ hW (sW (hp 7 sB))
theorem rsi_r2(w0:World)(g4:Nat)(L:List Res)(S:Held w0 w (blkR g4 28 zeroN :: L))(hsz:a.tmps.size=40)(o4:Sl a 4 (Pq g4 0)):RG1 false 2 Tryz.f43 Q a w fun a' W q'=>Sl a' 5 (.int .i64 (2:Int))->(Held w0 W (blkR g4 28 zeroN :: L))->q':=by
 intro hend
 refine wp_region_lit ?_
 (conv=>arg 4;whnf)
 unfold Sl at o4
 have S:=LH S
 have HB0:=LH Tryz.built_noteZ
 have hzz:Hid (zeroN.size=34):=LH rfl
 have hOz:Hid (∀ u,u ∈ zeroN.toList->u.oneCell'=true):=LH (ntA_one (v:=.slice none 0 0) rfl)
 generalize zeroN=cz at *
 go_wp2_with (first|(refine wpList_buildC rfl 28 _ rfl [] (by simp [Act.eval,Act.put]) _ HB0.out ?_)|(refine wpList_store_blk rfl 28 (.tmp 4) (.tmp 14) rfl g4 (aO o4) cz aE 28 _ (S.out.at_ (l1:=[])) (by rw [hzz.out];exact Tryz.infoNote) (by rw [hzz.out]) hOz.out ?_;intro w7 b7 k7;have S7:=LH (Held.setBlk (l1:=[]) S.out b7 k7);clear b7 k7))
 try simp only [Act.put]
 exact hend _ _ tS sP (S7.out)
theorem rsi_r4(w0:World)(g4:Nat)(L:List Res)(S:Held w0 w (blkR g4 28 zeroN :: L))(hsz:a.tmps.size=40)(o4:Sl a 4 (Pq g4 0)):RG1 false 4 Tryz.f43 Q a w fun a' W q'=>Sl a' 5 (.int .i64 (8:Int))->(Held w0 W (blkR g4 28 zeroN :: L))->q':=by
 intro hend
 refine wp_region_lit ?_
 (conv=>arg 4;whnf)
 unfold Sl at o4
 have S:=LH S
 have HB0:=LH Tryz.built_noteZ
 have hzz:Hid (zeroN.size=34):=LH rfl
 have hOz:Hid (∀ u,u ∈ zeroN.toList->u.oneCell'=true):=LH (ntA_one (v:=.slice none 0 0) rfl)
 generalize zeroN=cz at *
 go_wp2_with (first|(refine wpList_buildC rfl 28 _ rfl [] (by simp [Act.eval,Act.put]) _ HB0.out ?_)|(refine wpList_store_blk rfl 28 (.tmp 4) (.tmp 21) rfl g4 (aO o4) cz aE 28 _ (S.out.at_ (l1:=[])) (by rw [hzz.out];exact Tryz.infoNote) (by rw [hzz.out]) hOz.out ?_;intro w7 b7 k7;have S7:=LH (Held.setBlk (l1:=[]) S.out b7 k7);clear b7 k7))
 try simp only [Act.put]
 exact hend _ _ tS sP (S7.out)
theorem rsi_r6(w0:World)(g4:Nat)(L:List Res)(S:Held w0 w (blkR g4 28 zeroN :: L))(hsz:a.tmps.size=40)(o4:Sl a 4 (Pq g4 0)):RG1 false 6 Tryz.f43 Q a w fun a' W q'=>Sl a' 5 (.int .i64 (380:Int))->(Held w0 W (blkR g4 28 zeroN :: L))->q':=by
 intro hend
 refine wp_region_lit ?_
 (conv=>arg 4;whnf)
 unfold Sl at o4
 have S:=LH S
 have HB0:=LH Tryz.built_noteZ
 have hzz:Hid (zeroN.size=34):=LH rfl
 have hOz:Hid (∀ u,u ∈ zeroN.toList->u.oneCell'=true):=LH (ntA_one (v:=.slice none 0 0) rfl)
 generalize zeroN=cz at *
 go_wp2_with (first|(refine wpList_buildC rfl 28 _ rfl [] (by simp [Act.eval,Act.put]) _ HB0.out ?_)|(refine wpList_store_blk rfl 28 (.tmp 4) (.tmp 26) rfl g4 (aO o4) cz aE 28 _ (S.out.at_ (l1:=[])) (by rw [hzz.out];exact Tryz.infoNote) (by rw [hzz.out]) hOz.out ?_;intro w7 b7 k7;have S7:=LH (Held.setBlk (l1:=[]) S.out b7 k7);clear b7 k7))
 try simp only [Act.put]
 exact hend _ _ tS sP (S7.out)
theorem rsi_r3(z:Int)(hz:-9223372036854775808<=z ∧ z<=9223372036854775807)(h:Bs)(hh:h.length=32)(A:Option Addr)(c:Nat)(l:List SigD)(hok:SgOk l)(hll:l.length<=9223372036854775806)(hv:Rd w 33 (.slice A l.length c) l.length (sgsC l))(nm:Bs)(Ak:Option Addr)(ck:Nat)(sec:Bs)(g2 g3:Nat)(hb2:Blk w g2 28 (ntA z h (.slice A l.length c)))(hb3:Blk w g3 34 #[.string ⟨nm.toArray⟩,.slice Ak sec.length ck])(hsz:a.tmps.size=40)(o2:Sl a 2 (Pq g2 0))(o3:Sl a 3 (Pq g3 0)):RG1 false 3 Tryz.f43 Q a w fun a' W q'=>Kp [] w W->Sl a' 20 (.bool (decide (0<=findN nm l)))->q':=by
 intro hend
 have hap:=pa 3 Tryz.f43
 refine wp_region_invS (l:=(opsOf 3 Tryz.f43)) (fun i v W=>match i with|0=>v=Pq g2 33|1=>v=.slice A l.length c|2=>v=Pq g3 0|3=>v=.string ⟨(nm).toArray⟩|4=>v=.int .i64 (findN nm l)|5=>v=.bool (decide (0<=findN nm l))|_=>True) hap ?_ ?_ ?_
 . exact fun _ _ _ _ h _=>h
 . and_intros <;> try (intro vs A' W hA hW hd hu K hK;try (refine wpOp_free _ rfl rfl ?_;conv=>arg 2;whnf))
   . exact qa1 (eO 2 o2)
   . have c0:W.cell? ⟨g2,33,none⟩=some (.slice A l.length c):=by rw [(hb2.k0 hW).cell];exact ntA_sigs hh
     exact qa1 (vD 15 0)
   . exact qa1 (eO 3 o3)
   . have c0:W.cell? ⟨g3,0,none⟩=some (.string ⟨(nm).toArray⟩):=by rw [(hb3.k0 hW).cell];rfl
     exact qa1 (vD 17 2)
   . have e16:=vD 16 1;have e18:=vD 18 3;clear hA hd hu o2 o3;go_step
     refine (sfind_any A c l hok (by omega) ⟨nm.toArray⟩ W (rd_old hv hW)).mono ?_
     rintro e w' ⟨rfl,rfl⟩
     exact hK _ _ kR (show Value.int .i64 (findN (ByteArray.mk nm.toArray).toList l)=Value.int .i64 (findN nm l) from by rw [str_list])
   . have e19:=vD 19 4;clear hA hd hu o2 o3;go_step
     exact hK _ _ kR (by first|rfl|(refine congrArg Value.bool ?_;simp))
   . trivial
 . intro vs W hW hp
   rw [putAll_eq]
   exact hend _ W sQ hW (sW (hp 5 sB))
theorem rsi_r5(z:Int)(h:Bs)(hh:h.length=32)(A:Option Addr)(n c g2:Nat)(hb:Blk w g2 28 (ntA z h (.slice A n c)))(hsz:a.tmps.size=40)(o2:Sl a 2 (Pq g2 0)):RG0 5 Tryz.f43 Q a w fun a' q'=>Sl a' 25 (.bool ((n:Int) == 64))->q':=by
 have c33:w.cell? ⟨g2,33,none⟩=some (.slice A n c):=by rw [hb.cell];exact ntA_sigs hh
 exact rO
theorem rsi_r7(w0:World)(z:Int)(h:Bs)(hh:h.length=32)(A:Option Addr)(c:Nat)(l:List SigD)(hok:SgOk l)(hll:l.length<=64)(hva:∀ V,Kp [] w0 V->Rd V 33 (.slice A l.length c) l.length (sgsC l))(nm:Bs)(Ak:Option Addr)(ck:Nat)(sec:Bs)(HJ:∀ V,Kp [] w0 V->Calls Tryz.prog 87 #[.agg (ptA z h),.agg #[.string ⟨nm.toArray⟩,.slice Ak sec.length ck]] V fun r w'=>r=.returned (.agg (hashA (sumF z h nm sec))) ∧ Kp [] V w')(g2 g3 g4:Nat)(L:List Res)(hsz:a.tmps.size=40)(o2:Sl a 2 (Pq g2 0))(o3:Sl a 3 (Pq g3 0))(o4:Sl a 4 (Pq g4 0))
 (S0:Held w0 w (blkR g4 28 zeroN :: blkR g2 28 (ntA z h (.slice A l.length c)) :: blkR g3 34 #[.string ⟨nm.toArray⟩,.slice Ak sec.length ck] :: L)):RG2 7 Tryz.f43 Q a w fun a' vs gs W q'=>Sl a' 5 (.int .i64 (0:Int))->Held w0 W (rowR 89 33 (vs 11) (l.length+1) (sgsC (insN l (nm,sumF z h nm sec))) :: blkR g4 28 (ntA z h (vs 11)) :: blkR g2 28 (ntA z h (.slice A l.length c)) :: blkR g3 34 #[.string ⟨nm.toArray⟩,.slice Ak sec.length ck] :: L)->q':=by
 intro hend
 have hap:=pa 7 Tryz.f43
 refine wp_region_sep (Γ:=Unit) (l:=(opsOf 7 Tryz.f43)) 4 [0,1,2,3,4,5,6,7,8,9,10,11,12,13,14,16,17,18]
  (fun i vs gs=>match i with|0=>vs 0=Pq g2 0|1=>vs 1=.agg (ptA z h)|2=>vs 2=Pq g2 33|3=>vs 3=.slice A l.length c|4=>vs 4=Pq g3 0|5=>vs 5=.string ⟨(nm).toArray⟩|6=>vs 6=Pq g2 0|7=>vs 7=.agg (ptA z h)|8=>vs 8=.agg #[.string ⟨nm.toArray⟩,.slice Ak sec.length ck]|9=>vs 9=.agg (hashA (sumF z h nm sec))|10=>vs 10=.agg (sgA (nm,sumF z h nm sec))|12=>vs 12=.agg (ntA z h (vs 11))|14=>vs 14=.int .i64 (0:Int)|_=>True)
  (fun i vs gs=>match i with|11=>[rowR 89 33 (vs 11) (l.length+1) (sgsC (insN l (nm,sumF z h nm sec)))]|13=>[blkR g4 28 (ntA z h (vs 11))]|15=>[blkR g4 28 zeroN]|16=>[blkR g2 28 (ntA z h (.slice A l.length c))]|17=>[blkR g3 34 #[.string ⟨nm.toArray⟩,.slice Ak sec.length ck]]|18=>L|_=>[])
  (fun i=>match i with|13=>[15]|_=>[]) (fun i=>match i with|1=>[16]|3=>[16]|5=>[17]|7=>[16]|8=>[17]|12=>[11]|13=>[11]|_=>[]) S0 (by kernel_rfl) hap (by kernel_rfl) (by kernel_rfl) (fun i=>match i with|0=>[0]|1=>[1]|2=>[2]|3=>[3]|4=>[4]|5=>[5]|6=>[6]|7=>[7]|8=>[8]|9=>[9]|10=>[10]|11=>[11]|12=>[11,12]|13=>[11]|14=>[14]|_=>[]) (by kernel_rfl) ?_ (by kernel_rfl) ?_ ?_ ?_
 . exact lA
 . simp only [List.range,List.range.loop,List.flatMap_cons,List.flatMap_nil,List.append_nil]
   exact List.Perm.refl _
 . clear S0 hend
   and_intros <;> try intro vs gs A' W LF hA S hR hd hu K hK
   . exact qa1 (eO 2 o2)
   . exact ldA (ptA z h) (vD 27 0) (nt_pointAt (show Blk W g2 28 (ntA z h (.slice A l.length c)) from S.ok (blkR g2 28 (ntA z h (.slice A l.length c))) (hR 16 (List.mem_singleton.2 rfl) _ (List.mem_singleton.2 rfl)))) Tryz.underlying25 (by rw [ptA_size hh];exact Tryz.infoPointP)
   . exact qa1 (eO 2 o2)
   . have c33:W.cell? ⟨g2,33,none⟩=some (.slice A l.length c):=by rw [(show Blk W g2 28 (ntA z h (.slice A l.length c)) from S.ok (blkR g2 28 (ntA z h (.slice A l.length c))) (hR 16 (List.mem_singleton.2 rfl) _ (List.mem_singleton.2 rfl))).cell];exact ntA_sigs hh
     exact qa1 (vD 29 2)
   . exact qa1 (eO 3 o3)
   . have c0:W.cell? ⟨g3,0,none⟩=some (.string ⟨(nm).toArray⟩):=by rw [(show Blk W g3 34 (#[.string ⟨nm.toArray⟩,.slice Ak sec.length ck]) from S.ok (blkR g3 34 (#[.string ⟨nm.toArray⟩,.slice Ak sec.length ck])) (hR 17 (List.mem_singleton.2 rfl) _ (List.mem_singleton.2 rfl))).cell];rfl
     exact qa1 (vD 31 4)
   . exact qa1 (eO 2 o2)
   . exact ldA (ptA z h) (vD 33 6) (nt_pointAt (show Blk W g2 28 (ntA z h (.slice A l.length c)) from S.ok (blkR g2 28 (ntA z h (.slice A l.length c))) (hR 16 (List.mem_singleton.2 rfl) _ (List.mem_singleton.2 rfl)))) Tryz.underlying25 (by rw [ptA_size hh];exact Tryz.infoPointP)
   . replace hK:=hK default;have e3:=eO 3 o3;clear hA o2 o3 o4;refine op_runs (v:=.agg (#[.string ⟨nm.toArray⟩,.slice Ak sec.length ck])) (w':=W) (exec_load rfl (by simpa [Act.eval] using e3) (run_loadAt_agg W (⟨g3,0,none⟩) 34 (#[.string ⟨nm.toArray⟩,.slice Ak sec.length ck]).toList _ (Blk.agg (show Blk W g3 34 (#[.string ⟨nm.toArray⟩,.slice Ak sec.length ck]) from S.ok (blkR g3 34 (#[.string ⟨nm.toArray⟩,.slice Ak sec.length ck])) (hR 17 (List.mem_singleton.2 rfl) _ (List.mem_singleton.2 rfl)))) Tryz.underlying34 rfl (by exact Tryz.infoKeyP))) ?_
     exact hK _ _ S rfl
   . replace hK:=hK default;have e34:=vD 34 7;have e35:=vD 35 8;clear hA o2 o3 o4;go_step
     refine (HJ _ S.k).mono ?_
     rintro e w' ⟨rfl,k⟩
     exact hK _ _ (S.kp k) rfl
   . replace hK:=hK default;have e32:=vD 32 5;have e36:=vD 36 9;clear hA o2 o3 o4;refine op_build 89 _ rfl [(0,strV nm),(1,.agg (hashA (sumF z h nm sec)))] (by simp [Act.eval,e32,e36,strV]) _ (Tryz.built_sig (nm,sumF z h nm sec) (sumF_length ..)) ?_
     exact hK _ _ S rfl
   . replace hK:=hK default;have e30:=vD 30 3;have e37:=vD 37 10;clear hA o2 o3 o4;go_step
     refine (slay_any A c l hok (by omega) (nm,sumF z h nm sec) (sumF_length ..) W (hva _ S.k)).mono ?_
     rintro e w' ⟨v,rfl,H⟩
     exact hK v w' ((S.join H).perm (List.perm_append_singleton _ _)) trivial
   . replace hK:=hK default;have e28:=vD 28 1;have e38:=eU 38 11;clear hA o2 o3 o4
     obtain ⟨Av,cv,hv4,-,-⟩:=ow_form (show Ow W 89 33 (vs 11) (l.length+1) (sgsC (insN l (nm,sumF z h nm sec))) from S.ok (rowR 89 33 (vs 11) (l.length+1) (sgsC (insN l (nm,sumF z h nm sec)))) (hR 11 (List.mem_singleton.2 rfl) _ (List.mem_singleton.2 rfl)))
     rw [hv4] at e38
     refine op_build 28 _ rfl [(0,.agg (ptA z h)),(1,.slice Av (l.length+1) cv)] (by simp [Act.eval,e28,e38]) _ (Tryz.built_note2 z h hh Av (l.length+1) cv) ?_
     rw [<- hv4]
     exact hK _ _ S rfl
   . replace hK:=hK default;have e4:=eO 4 o4;have e39:=vD 39 12;clear hA o2 o3 o4
     have S1:Held w0 W (blkR g4 28 zeroN :: LF):=S
     obtain ⟨Av,cv,hv4,-,-⟩:=ow_form (show Ow W 89 33 (vs 11) (l.length+1) (sgsC (insN l (nm,sumF z h nm sec))) from S.ok (rowR 89 33 (vs 11) (l.length+1) (sgsC (insN l (nm,sumF z h nm sec)))) (List.mem_cons_of_mem _ (hR 11 (List.mem_singleton.2 rfl) _ (List.mem_singleton.2 rfl))))
     refine op_store_blkS (.tmp 4) (.tmp 39) 28 rfl g4 (by simpa [Act.eval] using e4) (ntA z h (vs 11)) (by simpa [Act.eval] using e39) 28 zeroN S1 (by rw [ntA_size hh];exact Tryz.infoNote) (by rw [ntA_size hh] <;> rfl) (ntA_one (by rw [hv4];rfl)) ?_
     intro w' S2
     exact hK _ _ S2 trivial
   . exact qa0
   . trivial
 . intro vs gs W S hp
   have S:Held w0 W (rowR 89 33 (vs 11) (l.length+1) (sgsC (insN l (nm,sumF z h nm sec))) :: blkR g4 28 (ntA z h (vs 11)) :: blkR g2 28 (ntA z h (.slice A l.length c)) :: blkR g3 34 #[.string ⟨nm.toArray⟩,.slice Ak sec.length ck] :: L):=by simpa only [List.flatMap_cons,List.flatMap_nil,List.append_nil,List.nil_append,List.cons_append,List.append_assoc] using S
   rw [putAll_eq]
   exact hend _ vs gs W sQ (sW (hp 14 sB)) S
end
section
open Go.RowKit
theorem find_has{nm:List UInt8}{l:List SigD}(hr:rising [] l=true):(0<=findN nm l) ↔ hasN nm l=true:=by
 rw [hasN_lk hr]
 cases e:lk nm l with
 |none=>
  rw [show findN nm l=-1 from findK_none e]
  simp
 |some v=>
  obtain ⟨p,hp,-⟩:=findK_some (k:=0) e
  rw [show findN nm l=((0+p:Nat):Int) from hp]
  simp
theorem rnsum_any(n:Nat)(hn:n < 9223372036854775808)(h:Bs)(hh:h.length=32)(nm:Bs)(hnl:nm.length<=64)(Ak:Option Addr)(ck:Nat)(sec:Bs)(hsl:sec.length<=256)(w:World)(hk:Rd w 1 (.slice Ak sec.length ck) sec.length (bv sec)):
 Calls Tryz.prog 87 #[.agg (ptA (n:Int) h),.agg #[.string ⟨nm.toArray⟩,.slice Ak sec.length ck]] w fun r w'=>r=.returned (.agg (hashA (sumF (n:Int) h nm sec))) ∧ Kp [] w w':=by
 refine calls_fr Tryz.func87 rfl 15 rfl (fun a0 hsz hdf hAr=>?_)
 have hz0:a0.tmps.size=15:=hsz
 have D:=hdf
 have o0:=hAr 0 _ rfl
 have o1:=hAr 1 _ rfl
 refine wp_seq (rsm_r0 w _ _ [] (Held.start w) hz0 o0 o1 (fun a1 w1 hs1 h1=>?_))
 obtain ⟨hz1,D,o0,o1⟩:=kq2 hs1 hz0 D o0 o1
 obtain ⟨g2,g3,g4,o2,o3,o4,S⟩:=h1
 have S:=(S.pull 2 rfl).pull 1 rfl
 refine wp_seq (rsm_r1 w n hn h hh nm Ak ck sec hnl hsl (fun V kV=>rd_old hk kV) g2 g3 g4 _ hz1 o2 o3 o4 S (fun a2 vs gs w2 hs2 S=>?_))
 obtain ⟨hz2,D,o2,o3,o4⟩:=kq3 hs2 hz1 D o2 o3 o4
 refine wp_ret ?_
 exact (bodyPost_ret (results_cell1 (by rfl) (o4.eval (by rw [hz2];decide)) (S.at_ (l1:=[_])) Tryz.underlying23 rfl (by rw [hashA_size,sumF_length];exact Tryz.infoHashP)) D ⟨rfl,S.k⟩)
theorem sum_call(z:Int)(hz:-9223372036854775808<=z ∧ z<=9223372036854775807)(h:Bs)(hh:h.length=32)(nm:Bs)(hnl:nm.length<=9223372036854775807)(Ak:Option Addr)(ck:Nat)(sec:Bs)(w:World)(hk:Rd w 1 (.slice Ak sec.length ck) sec.length (bv sec))(hok:sumOk z nm sec=true):
 Calls Tryz.prog 87 #[.agg (ptA z h),.agg #[.string ⟨nm.toArray⟩,.slice Ak sec.length ck]] w fun r w'=>r=.returned (.agg (hashA (sumF z h nm sec))) ∧ Kp [] w w':=by
 unfold sumOk keyOk at hok
 simp only [Bool.and_eq_true,decide_eq_true_eq] at hok
 obtain ⟨n,rfl⟩:=Int.eq_ofNat_of_zero_le hok.1
 exact rnsum_any n (by omega) h hh nm (nmOk_len hok.2.1.1) Ak ck sec hok.2.2 w hk
theorem rsign_any(z:Int)(hz:-9223372036854775808<=z ∧ z<=9223372036854775807)(h:Bs)(hh:h.length=32)(A:Option Addr)(c:Nat)(l:List SigD)(hok:SgOk l)(hll:l.length<=9223372036854775806)(nm:Bs)(hnl:nm.length<=9223372036854775807)(Ak:Option Addr)(ck:Nat)(sec:Bs)(w:World)(hv:Rd w 33 (.slice A l.length c) l.length (sgsC l))(hk:Rd w 1 (.slice Ak sec.length ck) sec.length (bv sec)):
 Calls Tryz.prog 43 #[.agg (ntA z h (.slice A l.length c)),.agg #[.string ⟨nm.toArray⟩,.slice Ak sec.length ck]] w fun e w'=>∃ v,e=.returned (.tuple #[.agg (if signE z l nm sec=0 then ntA z h v else zeroN),.int .i64 (signE z l nm sec)]) ∧ (signE z l nm sec=0->Held w w' [rowR 89 33 v (l.length+1) (sgsC (insN l (nm,sumF z h nm sec)))]) ∧ Kp [] w w':=by
 refine calls_fr Tryz.func43 rfl 40 rfl (fun a0 hsz hdf hAr=>?_)
 have hz0:a0.tmps.size=40:=hsz
 have D:=hdf
 have o0:=hAr 0 _ rfl
 have o1:=hAr 1 _ rfl
 refine wp_seq (rsi_r0 w _ _ [] (Held.start w) hz0 o0 o1 (fun a1 w1 hs1 o5 h1=>?_))
 obtain ⟨hz1,D,o0,o1⟩:=kq2 hs1 hz0 D o0 o1
 obtain ⟨g2,g3,g4,o2,o3,o4,S⟩:=h1
 have hb2:=S.at_ (l1:=[_,_])
 have hb3:=S.at_ (l1:=[_])
 have hfail:∀ (a:Act) (W:World) (L:List Res) (E:Int),a.tmps.size=40->a.defers=[]->Sl a 4 (Pq g4 0)->Sl a 5 (.int .i64 E)->Held w W (blkR g4 28 zeroN :: L)->signE z l nm sec=E->E ≠ 0->bodyPost Tryz.prog Tryz.f43 (fun e w'=>∃ v,e=.returned (.tuple #[.agg (if signE z l nm sec=0 then ntA z h v else zeroN),.int .i64 (signE z l nm sec)]) ∧ (signE z l nm sec=0->Held w w' [rowR 89 33 v (l.length+1) (sgsC (insN l (nm,sumF z h nm sec)))]) ∧ Kp [] w w') .ret a W:=by
  intro a W L E hs hd o4 o5 S hE h0
  refine (bodyPost_ret (results_cell_tmp (by rfl) (o4.eval (by rw [hs];decide)) (S.at_ (l1:=[])) Tryz.underlying28 rfl (by rw [show zeroN.size=34 from rfl];exact Tryz.infoNote)) hd ⟨.slice none 0 0,?_,fun h1=>absurd (hE.symm.trans h1) h0,S.k⟩)
  rw [hE,if_neg h0]
  exact congrArg (fun x=>Ending.returned (.tuple #[.agg zeroN,x])) (o5.eval (by rw [hs];decide))
 cases hm:mayN z l
 . skip
   refine wp_seq (wp_seq (rsi_r1N z hz h hh A c l hok hll (rd_old hv S.k) nm Ak ck sec hnl g2 g3 hb2 hb3 hm hz1 o2 o3 (fun a2 w2 hs2 k2 o13=>?_)))
   obtain ⟨hz2,D,o2,o3,o4⟩:=kq3 hs2 hz1 D o2 o3 o4
   refine wcT o13 ?_
   refine wp_seq (rsi_r2 w g4 _ (S.kp k2) hz2 o4 (fun a3 w9 hs3 o5 S=>?_))
   obtain ⟨hz3,D,o2,o3,o4,o13⟩:=kq4 hs3 hz2 D o2 o3 o4 o13
   refine wp_ret ?_
   simp only [Exit.then]
   exact hfail a3 w9 _ 2 hz3 D o4 o5 S (by unfold signE;rw [hm];rfl) (by decide)
 . obtain ⟨h64,hr⟩:=mayN_64 hm
   have hz0':0<=z:=by unfold mayN at hm;simp only [Bool.and_eq_true,decide_eq_true_eq] at hm;exact hm.1.1
   have hO:sumOk z nm sec=keyOk nm sec:=by unfold sumOk;rw [decide_eq_true hz0',Bool.true_and]
   refine wp_seq (wp_seq (rsi_r1Y z hz h hh A c l hok hll (rd_old hv S.k) nm Ak ck sec hnl g2 g3 hb2 hb3 hm hz1 o2 o3 (fun a2 w2 hs2 k2 o13=>?_)))
   obtain ⟨hz2,D,o2,o3,o4⟩:=kq3 hs2 hz1 D o2 o3 o4
   cases hK:keyOk nm sec
   . rw [hK] at hO o13
     refine wcT o13 ?_
     refine wp_seq (rsi_r2 w g4 _ (S.kp k2) hz2 o4 (fun a3 w9 hs3 o5 S=>?_))
     obtain ⟨hz3,D,o2,o3,o4,o13⟩:=kq4 hs3 hz2 D o2 o3 o4 o13
     refine wp_ret ?_
     simp only [Exit.then]
     exact hfail a3 w9 _ 2 hz3 D o4 o5 S (by unfold signE;rw [hm,hO];rfl) (by decide)
   . rw [hK] at hO o13
     refine wcF o13 (wp_skip ?_)
     simp only [Exit.then]
     have S:=S.kp k2
     have hb2:=S.at_ (l1:=[_,_])
     have hb3:=S.at_ (l1:=[_])
     refine wp_seq (wp_seq (rsi_r3 z hz h hh A c l hok hll (rd_old hv S.k) nm Ak ck sec g2 g3 hb2 hb3 hz2 o2 o3 (fun a3 w3 hs3 k3 o20=>?_)))
     obtain ⟨hz3,D,o2,o3,o4,o13⟩:=kq4 hs3 hz2 D o2 o3 o4 o13
     have S:=S.kp k3
     cases hH:hasN nm l
     . have hfn:¬ 0<=findN nm l:=by rw [find_has hr,hH];decide
       refine wcF o20 (wp_skip ?_) (by rw [decide_eq_false hfn])
       simp only [Exit.then]
       refine wp_seq (wp_seq (rsi_r5 z h hh A l.length c g2 (S.at_ (l1:=[_,_])) hz3 o2 (fun a4 hs4 o25=>?_)))
       obtain ⟨hz4,D,o2,o3,o4,o13,o20⟩:=kq5 hs4 hz3 D o2 o3 o4 o13 o20
       by_cases h6:l.length=64
       . skip
         refine wcT o25 ?_ (by rw [h6];rfl)
         refine wp_seq (rsi_r6 w g4 _ S hz4 o4 (fun a5 w9 hs5 o5 S=>?_))
         obtain ⟨hz5,D,o2,o3,o4,o13,o20,o25⟩:=kq6 hs5 hz4 D o2 o3 o4 o13 o20 o25
         refine wp_ret ?_
         simp only [Exit.then]
         exact hfail a5 w9 _ 380 hz5 D o4 o5 S (by unfold signE;rw [hm,hO,hH,if_neg (by decide),if_neg (by decide),if_neg (by decide),if_pos h6]) (by decide)
       . have hE:signE z l nm sec=0:=by unfold signE;rw [hm,hO,hH,if_neg (by decide),if_neg (by decide),if_neg (by decide),if_neg h6]
         have hne:(((l.length:Nat):Int) == 64)=false:=by rw [beq_eq_false_iff_ne];omega
         refine wcF o25 (wp_skip ?_) (by rw [hne])
         simp only [Exit.then]
         have S:Held w w3 [blkR g4 28 zeroN,blkR g2 28 (ntA z h (.slice A l.length c)),blkR g3 34 #[.string ⟨nm.toArray⟩,.slice Ak sec.length ck]]:=(S.pull 2 rfl).pull 1 rfl
         refine wp_seq (rsi_r7 w z h hh A c l hok h64 (fun V kV=>rd_old hv kV) nm Ak ck sec (fun V kV=>sum_call z hz h hh nm hnl Ak ck sec V (rd_old hk kV) hO) g2 g3 g4 _ hz4 o2 o3 o4 S (fun a5 vs gs w4 hs5 o5 S=>?_))
         obtain ⟨hz5,D,o2,o3,o4,o13,o20,o25⟩:=kq6 hs5 hz4 D o2 o3 o4 o13 o20 o25
         refine wp_ret ?_
         refine (bodyPost_ret (results_cell_tmp (by rfl) (o4.eval (by rw [hz5];decide)) (S.at_ (l1:=[_])) Tryz.underlying28 rfl (by rw [ntA_size hh];exact Tryz.infoNote)) D ⟨vs 11,?_,fun _=>S.some_of (List.singleton_sublist.2 (by simp)),S.k⟩)
         rw [hE,if_pos rfl]
         exact congrArg (fun x=>Ending.returned (.tuple #[.agg (ntA z h (vs 11)),x])) (o5.eval (by rw [hz5];decide))
     . have hfn:0<=findN nm l:=(find_has hr).2 hH
       refine wcT o20 ?_ (by rw [decide_eq_true hfn])
       refine wp_seq (rsi_r4 w g4 _ S hz3 o4 (fun a4 w9 hs4 o5 S=>?_))
       obtain ⟨hz4,D,o2,o3,o4,o13,o20⟩:=kq5 hs4 hz3 D o2 o3 o4 o13 o20
       refine wp_ret ?_
       simp only [Exit.then]
       exact hfail a4 w9 _ 8 hz4 D o4 o5 S (by unfold signE;rw [hm,hO,hH,if_neg (by decide),if_neg (by decide),if_pos rfl]) (by decide)
end
section
open Go.RowKit Go.Shelf
attribute [local go_sem] Oper.semAt_some
end
section
variable {Q:Exit->Act->World->Prop} {a:Act} {w:World}
open Go.RowKit Go.Shelf
attribute [local go_sem] Oper.semAt_some
theorem key_one(s:ByteArray)(A:Option Addr)(n c:Nat):∀ u,u ∈ (#[.string s,.slice A n c]:Array Value).toList->u.oneCell'=true:=by
 intro u hu
 simp at hu
 rcases hu with rfl|rfl <;> rfl
theorem lsg_r0(w0:World)(L:List Res)(S:Held w0 w L)(hsz:a.tmps.size=3):RG1 false 0 Tryz.f14 Q a w fun a' W q'=>(∃ g,Sl a' 0 (Pq g 0) ∧ Held w0 W (blkR g 34 #[.string ⟨#[]⟩,.slice none 0 0] :: L))->q':=by
 intro hend
 refine wp_region_lit ?_
 (conv=>arg 4;whnf)
 have S1:=LH (S.newBlk 34 #[.string ⟨#[]⟩,.slice none 0 0])
 go_wp2
 try simp only [Act.put]
 exact hend _ _ tS (⟨w.heap.size,sP0,S1.out⟩)
theorem lsg_r1(w0:World)(g0:Nat)(L:List Res)(S:Held w0 w (blkR g0 34 #[.string ⟨#[]⟩,.slice none 0 0] :: L))(hsz:a.tmps.size=3)(o0:Sl a 0 (Pq g0 0)):RG1 false 1 Tryz.f14 Q a w fun a' W q'=>(∃ A c,Held w0 W (rowR 5 1 (.slice A 2 c) 2 (bv [1,2]) :: blkR g0 34 #[.string ⟨#[119]⟩,.slice A 2 c] :: L))->q':=by
 intro hend
 refine wp_region_lit ?_
 (conv=>arg 4;whnf)
 unfold Sl at o0
 have S2:=LH (S.rownew (ow_new w 5 1 2 #[.int .u8 1,.int .u8 2] rfl (by decide)) ((Kp.refl [] w).alloc _) (fun g hg=>Nat.le_of_eq (Option.some.inj hg)))
 clear S
 go_wp2_with (first
  |(refine wpList_buildP rfl 34 _ rfl [(0,.string ⟨#[119]⟩),(1,.slice (some ⟨w.heap.size,0,none⟩) 2 2)] aE _ (Tryz.built_keyV ⟨#[119]⟩ _ 2 2) ?_)
  |(refine wpList_store_blk rfl 34 (.tmp 0) (.tmp 2) rfl g0 (aO o0) #[.string ⟨#[119]⟩,.slice (some ⟨w.heap.size,0,none⟩) 2 2] aE 34 _ (S2.out.at_ (l1:=[_])) Tryz.infoKeyP rfl (key_one _ _ _ _) ?_;intro w7 b7 k7;have S7:=LH (Held.setBlk (l1:=[_]) S2.out b7 k7);clear b7 k7))
 try simp only [Act.put]
 exact hend _ _ tS (⟨_,_,S7.out⟩)
theorem signer_law(w:World):Calls Tryz.prog 14 #[] w fun e w'=>∃ A c,e=.returned (.agg #[strV [119],.slice A 2 c]) ∧ Held w w' [rowR 5 1 (.slice A 2 c) 2 (bv [1,2])]:=by
 refine calls_fr Tryz.func14 rfl 3 rfl (fun a0 hsz hdf hAr=>?_)
 have hz0:a0.tmps.size=3:=hsz
 have D:=hdf
 refine wp_seq (lsg_r0 w [] (Held.start w) hz0 (fun a1 w1 hs1 h1=>?_))
 obtain ⟨hz1,D⟩:=kq0 hs1 hz0 D
 obtain ⟨g0,o0,S⟩:=h1
 refine wp_seq (lsg_r1 w g0 [] S hz1 o0 (fun a2 w2 hs2 h2=>?_))
 obtain ⟨hz2,D,o0⟩:=kq1 hs2 hz1 D o0
 obtain ⟨A,c,S⟩:=h2
 refine wp_ret ?_
 exact bodyPost_ret (results_cell1 (by rfl) (o0.eval (by rw [hz2];decide)) (S.at_ (l1:=[_])) Tryz.underlying34 rfl Tryz.infoKeyP) D ⟨A,c,rfl,S.some_of (List.Sublist.cons_cons _ (List.nil_sublist _))⟩
theorem lnd_r0(w0:World)(s:ByteArray)(Ak:Option Addr)(nk ck:Nat)(L:List Res)(S:Held w0 w L)(hsz:a.tmps.size=33)(o0:Sl a 0 (.agg #[.string s,.slice Ak nk ck])):RG1 false 0 Tryz.f15 Q a w fun a' W q'=>Sl a' 5 (.bool false)->(∃ g2 g4,Sl a' 2 (Pq g2 0) ∧ Sl a' 4 (Pq g4 0) ∧ Held w0 W (blkR g4 28 zeroN :: blkR g2 34 #[.string s,.slice Ak nk ck] :: L))->q':=by
 intro hend
 refine wp_region_lit ?_
 (conv=>arg 4;whnf)
 unfold Sl at o0
 have S1:=LH ((S.newBlk 34 #[.string s,.slice Ak nk ck]).newBlkN 28 zeroN (g:=w.heap.size+1) (by simp))
 go_wp2
 try simp only [Act.put]
 exact hend _ _ tS sP (⟨w.heap.size,w.heap.size+1,sP0,sP0,S1.out⟩)
theorem lnd_r1(w0:World)(A:Option Addr)(n c m:Nat)(ys:List Value)(h:Bs)(hh:h.length=32)(cn:Array Value)(hcn:cn.size=34)(h1:∀ u,u ∈ cn.toList->u.oneCell'=true)(L:List Res)(S:Held w0 w L)(HC1:Calls Tryz.prog 42 #[.slice A n c] w fun r w'=>∃ v,r=.returned v ∧ Held w w' [rowR 23 32 v m ys])(HC2:∀ V v,Ow V 23 32 v m ys->Calls Tryz.prog 41 #[v] V fun r w'=>r=.returned (.agg (hashA h)) ∧ Kp [] V w')(HC3:∀ V,Kp [] w0 V->Calls Tryz.prog 40 #[.agg (ptA (n:Int) h)] V fun e w'=>e=.returned (.tuple #[.agg cn,.int .i64 0]) ∧ Kp [] V w')(hsz:a.tmps.size=33)(o1:Sl a 1 (.slice A n c)):RG1 false 1 Tryz.f15 Q a w fun a' W q'=>Sl a' 7 (.int .i64 (0:Int))->(∃ g6 v,Sl a' 6 (Pq g6 0) ∧ Held w0 W (blkR g6 28 cn :: rowR 23 32 v m ys :: L))->q':=by
 intro hend
 refine wp_region_lit ?_
 (conv=>arg 4;whnf)
 unfold Sl at o1
 have HC1:=LH HC1
 have HC2:=LH HC2
 have S:=LH S
 have hcn:=LH hcn
 have h1:=LH h1
 have HB:=LH (Tryz.built_pt (n:Int) h hh)
 obtain ⟨cp,hcp⟩:∃ cp,Hid (ptA (n:Int) h=cp):=⟨_,LH rfl⟩
 rw [hcp.out] at HC3 HB
 obtain ⟨ch,hch⟩:∃ cs,Hid (hashA h=cs):=⟨_,LH rfl⟩
 rw [hch.out] at HB HC2
 have HC3:=LH HC3
 go_wp2_with fail
 refine HC1.out.mono ?_
 rintro e w1 ⟨v,rfl,H⟩
 obtain ⟨Av,cv,rfl,-⟩:=ow_form (H.at_ (l1:=[]))
 have S1:=LH ((S.out.join H).perm List.perm_append_comm)
 clear H
 go_wp2_with fail
 refine (HC2.out w1 _ (S1.out.at_ (l1:=[]))).mono ?_
 rintro e w2 ⟨rfl,k2⟩
 have S2:=LH (S1.out.kp k2)
 clear k2
 go_wp2_with (refine wpList_buildP rfl 25 _ rfl [(0,.int .i64 (n:Int)),(1,.agg ch)] aE _ HB.out ?_)
 refine (HC3.out w2 S2.out.k).mono ?_
 rintro e w3 ⟨rfl,k3⟩
 have S3:=LH ((S2.out.kp k3).newBlk 28 zeroN)
 clear k3
 go_wp2_with (refine wpList_store_blk rfl 28 (.tmp 6) (.tmp 18) rfl w3.heap.size aE cn aE 28 _ (S3.out.at_ (l1:=[])) (by rw [hcn.out];exact Tryz.infoNote) (by rw [hcn.out];rfl) h1.out ?_;intro w7 b7 k7;have S7:=LH (Held.setBlk (l1:=[]) S3.out b7 k7);clear b7 k7)
 try simp only [Act.put]
 exact hend _ _ tS sP (⟨w3.heap.size,_,sP0,S7.out⟩)
theorem lnd_r2(w0:World)(g2 g6:Nat)(s:ByteArray)(Ak:Option Addr)(nk ck:Nat)(cn:Array Value)(hcn:cn.size=34)(z:Int)(h:Bs)(hh:h.length=32)(m:Nat)(ys:List Value)(L:List Res)(S:Held w0 w L)(hb2:Blk w g2 34 #[.string s,.slice Ak nk ck])(hb6:Blk w g6 28 cn)(HC1:Calls Tryz.prog 43 #[.agg cn,.agg #[.string s,.slice Ak nk ck]] w fun e w'=>∃ v,e=.returned (.tuple #[.agg (ntA z h v),.int .i64 0]) ∧ Held w w' [rowR 89 33 v m ys])(hsz:a.tmps.size=33)(o2:Sl a 2 (Pq g2 0))(o6:Sl a 6 (Pq g6 0)):RG1 false 2 Tryz.f15 Q a w fun a' W q'=>Sl a' 9 (.int .i64 (0:Int))->(∃ g8 Av cv,Sl a' 8 (Pq g8 0) ∧ Held w0 W (blkR g8 28 (ntA z h (.slice Av m cv)) :: ([rowR 89 33 (.slice Av m cv) m ys] ++ L)))->q':=by
 intro hend
 refine wp_region_lit ?_
 (conv=>arg 4;whnf)
 unfold Sl at o2 o6
 have HC1:=LH HC1
 have S:=LH S
 have hcn:=LH hcn
 have HB6:=LH hb6
 obtain ⟨q1,q2,q3,q4⟩:=Blk.c2 hb2
 clear hb2 hb6
 go_wp2_with (refine wpList_load_blk rfl 28 (.tmp 6) rfl g6 (aO o6) 28 _ HB6.out _ Tryz.underlying28 rfl (by rw [hcn.out];exact Tryz.infoNote) ?_)
 refine HC1.out.mono ?_
 rintro e w1 ⟨v,rfl,H⟩
 obtain ⟨Av,cv,rfl,-⟩:=ow_form (H.at_ (l1:=[]))
 have S1:=LH ((S.out.join H).perm List.perm_append_comm)
 clear H
 have hz3:=LH (ntA_size (z:=z) (v:=.slice Av m cv) hh)
 have HO:=LH (ntA_one (z:=z) (h:=h) (v:=.slice Av m cv) rfl)
 obtain ⟨c8,hc8⟩:∃ cs,Hid (ntA z h (.slice Av m cv)=cs):=⟨_,LH rfl⟩
 rw [hc8.out] at hz3 HO ⊢
 have S3:=LH (S1.out.newBlk 28 zeroN)
 clear S1
 go_wp2_with (refine wpList_store_blk rfl 28 (.tmp 8) (.tmp 24) rfl w1.heap.size aE c8 aE 28 _ (S3.out.at_ (l1:=[])) (by rw [hz3.out];exact Tryz.infoNote) (by rw [hz3.out];rfl) HO.out ?_;intro w7 b7 k7;have S7:=LH (Held.setBlk (l1:=[]) S3.out b7 k7);clear b7 k7)
 rw [<- hc8.out] at S7
 try simp only [Act.put]
 exact hend _ _ tS sP (⟨w1.heap.size,Av,cv,sP0,S7.out⟩)
theorem lnd_r3(w0:World)(g4 g8:Nat)(cn:Array Value)(hcn:cn.size=34)(h1:∀ u,u ∈ cn.toList->u.oneCell'=true)(L:List Res)(hb8:Blk w g8 28 cn)(S:Held w0 w (blkR g4 28 zeroN :: L))(hsz:a.tmps.size=33)(o4:Sl a 4 (Pq g4 0))(o7:Sl a 7 (.int .i64 (0:Int)))(o8:Sl a 8 (Pq g8 0))(o9:Sl a 9 (.int .i64 (0:Int))):RG1 false 3 Tryz.f15 Q a w fun a' W q'=>Sl a' 5 (.bool true)->(Held w0 W (blkR g4 28 cn :: L))->q':=by
 intro hend
 have hap:apartB ((opsOf 3 Tryz.f15).take 7)=true:=by kernel_rfl
 refine wp_region_invSL (l:=(opsOf 3 Tryz.f15)) 7 (fun i v W=>match i with|0=>v=.agg cn|1=>v=.int .i64 (0:Int)|2=>v=.bool true|3=>v=.bool true|4=>v=.int .i64 (0:Int)|5=>v=.bool true|6=>v=.bool true|_=>True) hap ?_ ?_ ?_
 . exact fun _ _ _ _ h _=>h
 . and_intros <;> try (intro vs A' W hA hW hd hu K hK;try (refine wpOp_free _ rfl rfl ?_;conv=>arg 2;whnf))
   . exact ldA cn (eO 8 o8) (Blk.agg (hb8.k0 hW)) Tryz.underlying28 (by rw [hcn];exact Tryz.infoNote)
   . exact qa1 (eO 7 o7)
   . exact qa1 (vD 27 1)
   . exact qa1 (vD 28 2)
   . exact gq1 3 (vD 29 3) (eO 9 o9)
   . exact gq1 3 (vD 29 3) (vD 30 4)
   . exact qa2 (vD 29 3) (vD 31 5)
   . trivial
 . intro vs W hW hp
   rw [show putAll vs ((opsOf 3 Tryz.f15).take 7) 0 a=putD [(26,vs 0),(27,vs 1),(28,vs 2),(29,vs 3),(30,vs 4),(31,vs 5),(32,vs 6)] a from by kernel_rfl]
   have hS:Same a (putD [(26,vs 0),(27,vs 1),(28,vs 2),(29,vs 3),(30,vs 4),(31,vs 5),(32,vs 6)] a) [26,27,28,29,30,31,32]:=same_putD _ a
   have n26:Sl (putD [(26,vs 0),(27,vs 1),(28,vs 2),(29,vs 3),(30,vs 4),(31,vs 5),(32,vs 6)] a) 26 (.agg cn):=sl_putD _ a 26 _ (by rw [show vs 0=_ from hp 0 (Nat.le_of_ble_eq_true (by kernel_rfl))];kernel_rfl)
   have n32:Sl (putD [(26,vs 0),(27,vs 1),(28,vs 2),(29,vs 3),(30,vs 4),(31,vs 5),(32,vs 6)] a) 32 (.bool true):=sl_putD _ a 32 _ (by rw [show vs 6=_ from hp 6 (Nat.le_of_ble_eq_true (by kernel_rfl))];kernel_rfl)
   clear hp hap
   generalize putD [(26,vs 0),(27,vs 1),(28,vs 2),(29,vs 3),(30,vs 4),(31,vs 5),(32,vs 6)] a=a1 at *
   have hsz1:a1.tmps.size=33:=hS.size.trans hsz
   have n4:=hS.keep 4 _ (by decide) o4
   clear o4 o7 o8 o9;(conv=>arg 4;whnf)
   unfold Sl at n4 n26 n32
   have hcn:=LH hcn
   have h1:=LH h1
   have S3:=LH (S.kp hW)
   clear hb8 S
   go_wp2_with (refine wpList_store_blk rfl 28 (.tmp 4) (.tmp 26) rfl g4 (by simp [Act.eval,Act.put,hsz1,n4]) cn (by simp [Act.eval,Act.put,hsz1,n26]) 28 _ (S3.out.at_ (l1:=[])) (by rw [hcn.out];exact Tryz.infoNote) (by rw [hcn.out];rfl) h1.out ?_;intro w7 b7 k7;have S7:=LH (Held.setBlk (l1:=[]) S3.out b7 k7);clear b7 k7)
   try simp only [Act.put]
   exact hend _ _ ((hS.trans (d2:=[5]) tS).more (by decide +kernel)) (by unfold Sl;first|(simp [hsz1];done)|(simp [hsz1];omega)) (S7.out)
theorem noted_any(nm:Bs)(Ak:Option Addr)(ck:Nat)(sec:Bs)(hkey:keyOk nm sec=true)(A:Option Addr)(c:Nat)(ls:List (List UInt8))(hls:ls.length<=1000000)(hlb:∀ e ∈ ls,e.length<=140737488355200)(w:World)(hk:Rd w 1 (.slice Ak sec.length ck) sec.length (bv sec))(hx:Txs w (.slice A ls.length c) ls):
 Calls Tryz.prog 15 #[.agg #[strV nm,.slice Ak sec.length ck],.slice A ls.length c] w fun e w'=>∃ v,e=.returned (.tuple #[.agg (ntA (ls.length:Int) (rootF (ls.map leafF)) v),.bool true]) ∧ Held w w' [rowR 89 33 v 1 (sgsC [(nm,sumF (ls.length:Int) (rootF (ls.map leafF)) nm sec)])]:=by
 have hnm:nm.length<=64:=by
  rw [keyOk_eq] at hkey
  simp only [Bool.and_eq_true,nmOk,decide_eq_true_eq] at hkey
  exact hkey.1.1.1.2
 have hrl:(rootF (ls.map leafF)).length=32:=rootF_length (leaves_ok ls)
 have hmay:mayN (ls.length:Int) []=true:=by rw [mayN_nil];exact decide_eq_true (by omega)
 have hsE:signE (ls.length:Int) [] nm sec=0:=by
  unfold signE
  rw [if_neg (by rw [hmay];decide),if_neg (by simp [sumOk,hkey])]
  rfl
 refine calls_fr Tryz.func15 rfl 33 rfl (fun a0 hsz hdf hAr=>?_)
 have hz0:a0.tmps.size=33:=hsz
 have D:=hdf
 have o0:=hAr 0 _ rfl
 have o1:=hAr 1 _ rfl
 refine wp_seq (lnd_r0 w ⟨nm.toArray⟩ Ak sec.length ck [] (Held.start w) hz0 o0 (fun a1 w1 hs1 o5 h1=>?_))
 obtain ⟨hz1,D,o0,o1⟩:=kq2 hs1 hz0 D o0 o1
 obtain ⟨g2,g4,o2,o4,S⟩:=h1
 have HC3:∀ V,Kp [] w V->Calls Tryz.prog 40 #[.agg (ptA (ls.length:Int) (rootF (ls.map leafF)))] V fun e w'=>e=.returned (.tuple #[.agg (ntA (ls.length:Int) (rootF (ls.map leafF)) (.slice none 0 0)),.int .i64 0]) ∧ Kp [] V w':=by
  intro V _
  have:=rgnew_any (ls.length:Int) (by omega) (rootF (ls.map leafF)) hrl V
  rw [show newA (ls.length:Int) (rootF (ls.map leafF))=ntA (ls.length:Int) (rootF (ls.map leafF)) (.slice none 0 0) from by unfold newA;rw [if_pos (by omega)],show chkN (ls.length:Int) []=0 from by unfold chkN;rw [if_pos hmay]] at this
  exact this
 refine wp_seq (lnd_r1 w A ls.length c (ls.map leafF).length (hsC (ls.map leafF)) (rootF (ls.map leafF)) hrl _ (ntA_size hrl) (ntA_one rfl) _ S (by have:=rleaves_any _ ls hls hlb w1 (hx.kp0 S.k);rw [List.length_map];exact this) (fun V v ho=>(by obtain ⟨Av,cv,rfl,-⟩:=ow_form ho;exact trf_any Av cv (ls.map leafF) (leaves_ok ls) V (Rd.of_own ho))) HC3 hz1 o1 (fun a2 w2 hs2 o7 h2=>?_))
 obtain ⟨hz2,D,o1,o2,o4⟩:=kq3 hs2 hz1 D o1 o2 o4
 obtain ⟨g6,v6,o6,S⟩:=h2
 have HC4:Calls Tryz.prog 43 #[.agg (ntA (ls.length:Int) (rootF (ls.map leafF)) (.slice none 0 0)),.agg #[.string ⟨nm.toArray⟩,.slice Ak sec.length ck]] w2 fun e w'=>∃ v,e=.returned (.tuple #[.agg (ntA (ls.length:Int) (rootF (ls.map leafF)) v),.int .i64 0]) ∧ Held w2 w' [rowR 89 33 v 1 (sgsC [(nm,sumF (ls.length:Int) (rootF (ls.map leafF)) nm sec)])]:=by
  refine (rsign_any (ls.length:Int) (by omega) (rootF (ls.map leafF)) hrl none 0 [] (by intro s hs;cases hs) (by simp) nm (by omega) Ak ck sec w2 (rd_nil_any 33 w2) (rd_old hk S.k)).mono ?_
  rintro e w' ⟨v,rfl,h2,-⟩
  rw [hsE,if_pos rfl]
  exact ⟨v,rfl,h2 hsE⟩
 refine wp_seq (lnd_r2 w g2 g6 ⟨nm.toArray⟩ Ak sec.length ck _ (ntA_size hrl) _ _ hrl _ _ _ S (S.at_ (l1:=[_,_,_])) (S.at_ (l1:=[])) HC4 hz2 o2 o6 (fun a3 w3 hs3 o9 h3=>?_))
 obtain ⟨hz3,D,o2,o4,o7,o6⟩:=kq4 hs3 hz2 D o2 o4 o7 o6
 obtain ⟨g8,Av8,cv8,o8,S⟩:=h3
 have hb8:=S.at_ (l1:=[])
 have S:=S.pull 4 rfl
 simp only [List.eraseIdx,List.cons_append,List.nil_append] at S
 refine wp_seq (lnd_r3 w g4 g8 _ (ntA_size hrl) (ntA_one rfl) _ hb8 S hz3 o4 o7 o8 o9 (fun a4 w4 hs4 o5 S=>?_))
 obtain ⟨hz4,D,o4,o7,o9,o8⟩:=kq4 hs4 hz3 D o4 o7 o9 o8
 refine wp_ret ?_
 refine bodyPost_ret ((results_cell_tmp (by rfl) (o4.eval (by rw [hz4];decide)) (S.at_ (l1:=[])) Tryz.underlying28 rfl (by rw [ntA_size hrl];exact Tryz.infoNote)).trans (by rw [show (a4.tmps.getD 5 undef)=.bool true from o5.eval (by rw [hz4];decide)])) D ⟨.slice Av8 1 cv8,rfl,S.some_of (List.singleton_sublist.2 (by simp))⟩
end
section
section
variable {P:Program} {Q:Exit->Act->World->Prop}
def InvStepH (P:Program) (Q:Exit->Act->World->Prop) (PV:Nat->Value->Prop) (ST:Nat->(Nat->Value)->World->Prop) (fr:(Nat->Value)->Act) (u0:Nat->Value) (ops:Array Oper) (o:Oper) (i:Nat):Prop:=
 ∀ (vs:Nat->Value) (A:Act) (W:World),fr vs=A->ST i vs W->(∀ j,Nat.blt j i=true->PV j (vs j))->(∀ j,Nat.ble i j=true->vs j=u0 j)->
  ∀ K:Act->World->Prop,(∀ v W',PV i v->ST (i+1) (upd vs i v) W'->K (A.put o.dst v) W')->wpOp P ops (Qn Q) i K A W
def InvStepsH (P:Program) (Q:Exit->Act->World->Prop) (PV:Nat->Value->Prop) (ST:Nat->(Nat->Value)->World->Prop) (fr:(Nat->Value)->Act) (u0:Nat->Value) (ops:Array Oper):List Oper->Nat->Prop
 |[],_=>True
 |o :: l,i=>InvStepH P Q PV ST fr u0 ops o i ∧ InvStepsH P Q PV ST fr u0 ops l (i+1)
theorem seq_invH{PV:Nat->Value->Prop}{ST:Nat->(Nat->Value)->World->Prop}{a0:Act}{l:List Oper}{ops:Array Oper}(hops:∀ (i:Nat) (o:Oper),l[i]?=some o->ops[i]?=some o)(hap:apartB l=true)
 (hend:∀ vs W,ST l.length vs W->(∀ i,i < l.length->PV i (vs i))->Q .normal (putAll vs l 0 a0) W):
 ∀ (rest:List Oper) (i:Nat) (vs:Nat->Value) (W:World),i<=l.length->l.drop i=rest->InvStepsH P Q PV ST (fun vs=>putAll vs l 0 a0) (at0 a0 l) ops rest i->ST i vs W->(∀ j,j < i->PV j (vs j))->(∀ j,i<=j->vs j=at0 a0 l j)->
  wpList P ops Q rest (putAll vs l 0 a0) W
 |[],i,vs,W,hil,hr,_,hS,hp,_=>by
  have hi:l.length<=i:=List.drop_eq_nil_iff.1 hr
  obtain rfl:i=l.length:=by omega
  exact hend vs W hS (fun j hj=>hp j (by omega))
 |o :: rest,i,vs,W,hil,hr,hs,hS,hp,hu=>by
  have hol:l[i]?=some o:=by
   have:(l.drop i)[0]?=some o:=by rw [hr];rfl
   rwa [List.getElem?_drop,Nat.add_zero] at this
  have hr2:l.drop (i+1)=rest:=by
   rw [<- List.drop_drop,hr];rfl
  have hlt:=(List.getElem?_eq_some_iff.1 hol).1
  refine wpList_of_op (i:=i) (hops i o hol) (wpOp_n ?_)
  refine hs.1 vs _ W rfl hS (fun j hj=>hp j (by simpa [Nat.blt_eq] using hj)) (fun j hj=>hu j (by simpa [Nat.ble_eq] using hj)) _ fun v W' hv hS'=>?_
  rw [putAll_upd vs i v l 0 a0 o hap (Nat.zero_le _) (by simpa using hol)]
  refine seq_invH hops hap hend rest (i+1) _ W' hlt hr2 hs.2 hS' (fun j hj=>?_) (fun j hj=>?_)
  . by_cases e:j=i
    . subst e;simpa [upd] using hv
    . simp only [upd,if_neg e]
      exact hp j (by omega)
  . simp only [upd,if_neg (show j ≠ i by omega)]
    exact hu j (by omega)
theorem wp_region_invH{id:Nat}{a:Act}{w:World}{l:List Oper}(PV:Nat->Value->Prop)(ST:Nat->(Nat->Value)->World->Prop)(hap:apartB l=true)(hS:ST 0 (at0 a l) w)
 (hs:InvStepsH P Q PV ST (fun vs=>putAll vs l 0 a) (at0 a l) l.toArray l 0)
 (hend:∀ vs W,ST l.length vs W->(∀ i,i < l.length->PV i (vs i))->Q .normal (putAll vs l 0 a) W):(Code.region id l.toArray false).wp P Q a w:=by
 refine wp_region_lit (l:=l) ?_
 have h:=seq_invH (P:=P) (Q:=Q) (a0:=a) (l:=l) (ops:=l.toArray) (fun i o h=>by simpa using h) hap hend l 0 (at0 a l) w (Nat.zero_le _) rfl hs hS (fun j hj=>by omega) (fun _ _=>rfl)
 rwa [putAll_at a l 0 (at0 a l) (fun j o ho=>by simp [at0,ho])] at h
end
end
section
variable {Q:Exit->Act->World->Prop} {a:Act} {w:World}
open Go.RowKit Go.Shelf
attribute [local go_sem] Oper.semAt_some
theorem held_txt{w0 W:World}{L:List Res}(S:Held w0 W L)(C:Array Value)(l:Bs)(h:C.toList=bv l)(hn:l.length<=4096)(fr:Nat × Nat):Held w0 (W.alloc (.cells C 5 fr)) (rdR (.slice (some ⟨W.heap.size,0,none⟩) l.length l.length) l.length (bv l) :: L):=by
 refine S.new _ ((Kp.refl [] W).alloc _) ⟨rd_txt W 5 C l fr h hn rfl,fun g hg=>?_⟩ (fun b hb=>?_)
 . have:W.heap.size=g:=by injection hg
   subst this
   simp
 . have:b=W.heap.size:=mem_own (n:=l.length) (c:=l.length) hb
   omega
theorem knw_r0(hsz:a.tmps.size=93):RG0 0 Tryz.f7 Q a w fun a' q'=>Sl a' 0 (.bool false)->q':=rO
theorem knw_r1(w0:World)(L:List Res)(S:Held w0 w L)(HS:Calls Tryz.prog 14 #[] w fun e w'=>∃ A c,e=.returned (.agg #[strV [119],.slice A 2 c]) ∧ Held w w' [rowR 5 1 (.slice A 2 c) 2 (bv [1,2])])(HN:∀ V A c,Kp [] w0 V->Rd V 1 (.slice A 2 c) 2 (bv [1,2])->Calls Tryz.prog 13 #[.agg #[strV [119],.slice A 2 c]] V fun e w'=>∃ g u,e=.returned (.tuple #[Pq g 0,.int .i64 0]) ∧ Held V w' [blkR g 85 (mirN (strV [119]) u),rowR 5 1 u 2 (bv [1,2])])(hsz:a.tmps.size=93):RG1 false 1 Tryz.f7 Q a w fun a' W q'=>Sl a' 2 (.int .i64 (0:Int))->(∃ g u,Sl a' 1 (Pq g 0) ∧ Held w0 W (blkR g 85 (mirN (strV [119]) u) :: rowR 5 1 u 2 (bv [1,2]) :: L))->q':=by
 intro hend
 refine wp_region_lit ?_
 (conv=>arg 4;whnf)
 have HS:=LH HS
 have S:=LH S
 have hcv:=conv_txt
 go_wp2_with fail
 refine HS.out.mono ?_
 rintro e w1 ⟨A,c,rfl,H⟩
 have HR:=LH (Rd.of_own (H.at_ (l1:=[])))
 have S1:=LH ((S.out.join H).perm List.perm_append_comm)
 clear H
 have hSV:∃ x,Hid (strV [119]=x):=⟨_,LH rfl⟩
 obtain ⟨sv,hsv⟩:=hSV
 rw [hsv.out] at HN ⊢
 have HN:=LH HN
 go_wp2_with fail
 refine (HN.out w1 A c S1.out.k HR.out).mono ?_
 rintro e w2 ⟨g,u,rfl,H⟩
 have S2:=LH ((S1.out.join H).perm List.perm_append_comm)
 clear H
 rw [<- hsv.out] at S2
 go_wp2_with fail
 try simp only [Act.put]
 exact hend _ _ tS sP (⟨g,u,sP0,S2.out.some_of (List.Sublist.cons_cons _ (List.Sublist.cons_cons _ (List.Sublist.cons _ (List.Sublist.refl _))))⟩)
theorem knw_r2(w0:World)(z:Int)(h:Bs)(hh:h.length=32)(ys:List Value)(L:List Res)(S:Held w0 w L)(HS:Calls Tryz.prog 14 #[] w fun e w'=>∃ A c,e=.returned (.agg #[strV [119],.slice A 2 c]) ∧ Held w w' [rowR 5 1 (.slice A 2 c) 2 (bv [1,2])])(HN:∀ V A c x,Kp [] w0 V->Rd V 1 (.slice A 2 c) 2 (bv [1,2])->Txs V x [[97],[98]]->Calls Tryz.prog 15 #[.agg #[strV [119],.slice A 2 c],x] V fun e w'=>∃ v,e=.returned (.tuple #[.agg (ntA z h v),.bool true]) ∧ Held V w' [rowR 89 33 v 1 ys])(hsz:a.tmps.size=93):RG1 false 2 Tryz.f7 Q a w fun a' W q'=>Sl a' 4 (.bool true)->(∃ g Av cv,Sl a' 3 (Pq g 0) ∧ Held w0 W (blkR g 28 (ntA z h (.slice Av 1 cv)) :: rowR 89 33 (.slice Av 1 cv) 1 ys :: L))->q':=by
 intro hend
 refine wp_region_lit ?_
 (conv=>arg 4;whnf)
 have HS:=LH HS
 have S:=LH S
 have hcv:=conv_txt
 go_wp2_with fail
 refine HS.out.mono ?_
 rintro e w1 ⟨A,c,rfl,H⟩
 have HR:=LH (Rd.of_own (H.at_ (l1:=[])))
 have S1:=LH ((S.out.join H).perm List.perm_append_comm)
 clear H
 have hSV:∃ x,Hid (strV [119]=x):=⟨_,LH rfl⟩
 obtain ⟨sv,hsv⟩:=hSV
 rw [hsv.out] at HN ⊢
 have HN:=LH HN
 have h1:=rd_txt w1 5 #[.int .u8 97] [97] (1,2) rfl (by decide) (g:=w1.heap.size) rfl
 have h2:=rd_txt (w1.alloc (.cells #[.int .u8 97] 5 (1,2))) 5 #[.int .u8 98] [98] (1,2) rfl (by decide) (g:=w1.heap.size+1) (by simp)
 have hT:=LH (txs2 32 (g:=w1.heap.size+1+1) (by simp) (h1.alloc _) h2)
 have S3:=LH (((S1.out.alloc (.cells #[.int .u8 97] 5 (1,2))).alloc (.cells #[.int .u8 98] 5 (1,2))).alloc (.cells #[.slice (some ⟨w1.heap.size,0,none⟩) 1 1,.slice (some ⟨w1.heap.size+1,0,none⟩) 1 1] 32))
 have HR3:=LH (((HR.out.alloc (.cells #[.int .u8 97] 5 (1,2))).alloc (.cells #[.int .u8 98] 5 (1,2))).alloc (.cells #[.slice (some ⟨w1.heap.size,0,none⟩) 1 1,.slice (some ⟨w1.heap.size+1,0,none⟩) 1 1] 32))
 clear h1 h2
 go_wp2_with fail
 refine (HN.out _ A c _ S3.out.k HR3.out hT.out).mono ?_
 rintro e w2 ⟨v,rfl,H⟩
 obtain ⟨Av,cv,rfl,-⟩:=ow_form (H.at_ (l1:=[]))
 have S4:=LH ((S3.out.join H).perm List.perm_append_comm)
 clear H
 have hz3:=LH (ntA_size (z:=z) (v:=.slice Av 1 cv) hh)
 have HO:=LH (ntA_one (z:=z) (h:=h) (v:=.slice Av 1 cv) rfl)
 obtain ⟨c8,hc8⟩:∃ cs,Hid (ntA z h (.slice Av 1 cv)=cs):=⟨_,LH rfl⟩
 rw [hc8.out] at hz3 HO ⊢
 have S5:=LH (S4.out.newBlk 28 zeroN)
 clear S4
 go_wp2_with (refine wpList_store_blk rfl 28 (.tmp 3) (.tmp 22) rfl w2.heap.size aE c8 aE 28 _ (S5.out.at_ (l1:=[])) (by rw [hz3.out];exact Tryz.infoNote) (by rw [hz3.out];rfl) HO.out ?_;intro w7 b7 k7;have S7:=LH (Held.setBlk (l1:=[]) S5.out b7 k7);clear b7 k7)
 rw [<- hc8.out] at S7
 try simp only [Act.put]
 exact hend _ _ tS sP (⟨w2.heap.size,Av,cv,sP0,S7.out.some_of (List.Sublist.cons_cons _ (List.Sublist.cons_cons _ (List.Sublist.cons _ (List.Sublist.refl _))))⟩)
theorem knw_r3(w0:World)(z:Int)(h:Bs)(hh:h.length=32)(ys:List Value)(L:List Res)(S:Held w0 w L)(HS:Calls Tryz.prog 14 #[] w fun e w'=>∃ A c,e=.returned (.agg #[strV [119],.slice A 2 c]) ∧ Held w w' [rowR 5 1 (.slice A 2 c) 2 (bv [1,2])])(HN:∀ V A c x,Kp [] w0 V->Rd V 1 (.slice A 2 c) 2 (bv [1,2])->Txs V x [[120]]->Calls Tryz.prog 15 #[.agg #[strV [119],.slice A 2 c],x] V fun e w'=>∃ v,e=.returned (.tuple #[.agg (ntA z h v),.bool true]) ∧ Held V w' [rowR 89 33 v 1 ys])(hsz:a.tmps.size=93):RG1 false 3 Tryz.f7 Q a w fun a' W q'=>Sl a' 6 (.bool true)->(∃ g Av cv,Sl a' 5 (Pq g 0) ∧ Held w0 W (blkR g 28 (ntA z h (.slice Av 1 cv)) :: rowR 89 33 (.slice Av 1 cv) 1 ys :: L))->q':=by
 intro hend
 refine wp_region_lit ?_
 (conv=>arg 4;whnf)
 have HS:=LH HS
 have S:=LH S
 have hcv:=conv_txt
 go_wp2_with fail
 refine HS.out.mono ?_
 rintro e w1 ⟨A,c,rfl,H⟩
 have HR:=LH (Rd.of_own (H.at_ (l1:=[])))
 have S1:=LH ((S.out.join H).perm List.perm_append_comm)
 clear H
 have hSV:∃ x,Hid (strV [119]=x):=⟨_,LH rfl⟩
 obtain ⟨sv,hsv⟩:=hSV
 rw [hsv.out] at HN ⊢
 have HN:=LH HN
 have h1:=rd_txt w1 5 #[.int .u8 120] [120] (1,2) rfl (by decide) (g:=w1.heap.size) rfl
 have hT:=LH (txs1 32 (g:=w1.heap.size+1) (by simp) h1)
 have S3:=LH ((S1.out.alloc (.cells #[.int .u8 120] 5 (1,2))).alloc (.cells #[.slice (some ⟨w1.heap.size,0,none⟩) 1 1] 32))
 have HR3:=LH ((HR.out.alloc (.cells #[.int .u8 120] 5 (1,2))).alloc (.cells #[.slice (some ⟨w1.heap.size,0,none⟩) 1 1] 32))
 clear h1
 go_wp2_with fail
 refine (HN.out _ A c _ S3.out.k HR3.out hT.out).mono ?_
 rintro e w2 ⟨v,rfl,H⟩
 obtain ⟨Av,cv,rfl,-⟩:=ow_form (H.at_ (l1:=[]))
 have S4:=LH ((S3.out.join H).perm List.perm_append_comm)
 clear H
 have hz3:=LH (ntA_size (z:=z) (v:=.slice Av 1 cv) hh)
 have HO:=LH (ntA_one (z:=z) (h:=h) (v:=.slice Av 1 cv) rfl)
 obtain ⟨c8,hc8⟩:∃ cs,Hid (ntA z h (.slice Av 1 cv)=cs):=⟨_,LH rfl⟩
 rw [hc8.out] at hz3 HO ⊢
 have S5:=LH (S4.out.newBlk 28 zeroN)
 clear S4
 go_wp2_with (refine wpList_store_blk rfl 28 (.tmp 5) (.tmp 30) rfl w2.heap.size aE c8 aE 28 _ (S5.out.at_ (l1:=[])) (by rw [hz3.out];exact Tryz.infoNote) (by rw [hz3.out];rfl) HO.out ?_;intro w7 b7 k7;have S7:=LH (Held.setBlk (l1:=[]) S5.out b7 k7);clear b7 k7)
 rw [<- hc8.out] at S7
 try simp only [Act.put]
 exact hend _ _ tS sP (⟨w2.heap.size,Av,cv,sP0,S7.out.some_of (List.Sublist.cons_cons _ (List.Sublist.cons_cons _ (List.Sublist.cons _ (List.Sublist.refl _))))⟩)
theorem knw_r4(w0:World)(g g3 g5:Nat)(cA cB:Array Value)(hcA:cA.size=34)(hcB:cB.size=34)(LA:List Res)(Q1 Q2:World->Prop)(HA3:∀ V,Held w0 V LA->Blk V g3 28 cA)(HB5:∀ V,Q1 V->Blk V g5 28 cB)(HT:∀ V u1 u2 u,Held w0 V (rowR 32 1 u 2 [u1,u2] :: rdR (u2) 1 (bv [98]) :: rdR (u1) 1 (bv [97]) :: LA)->Calls Tryz.prog 16 #[Pq g 0,.agg cA,u] V fun r w'=>r=.returned (.int .i64 0) ∧ Q1 w')(HH:∀ V,Q1 V->Calls Tryz.prog 18 #[Pq g 0,.agg cB,.slice none 0 0] V fun r w'=>r=.returned (.int .i64 400) ∧ Q2 w')(hsz:a.tmps.size=93)(o1:Sl a 1 (Pq g 0))(o2:Sl a 2 (.int .i64 (0:Int)))(o3:Sl a 3 (Pq g3 0))(o4:Sl a 4 (.bool true))(o5:Sl a 5 (Pq g5 0))(o6:Sl a 6 (.bool true))
 (S0:Held w0 w LA):RG1 false 4 Tryz.f7 Q a w fun a' W q'=>Sl a' 62 (.bool false)->(Q2 W)->q':=by
 intro hend
 have hap:=pa 4 Tryz.f7
 refine wp_region_invH (l:=(opsOf 4 Tryz.f7)) (fun i v=>match i with|0=>v=Pq g 0|1=>v=.bool false|2=>v=.bool false|3=>v=.int .i64 (0:Int)|4=>v=.bool false|5=>v=.bool false|6=>v=.bool false|7=>v=.bool true|8=>v=.bool false|9=>v=.bool false|10=>v=.bool false|11=>v=.bool true|12=>v=.bool false|13=>v=.bool false|14=>v=.bool false|15=>v=Pq g 0|16=>v=.agg cA|22=>v=.int .i64 (0:Int)|23=>v=.bool false|24=>v=.bool false|25=>v=.bool false|26=>v=Pq g 0|27=>v=.agg cB|28=>v=.int .i64 (400:Int)|29=>v=.bool false|30=>v=.bool false|_=>True) (fun (i:Nat) (vs:Nat->Value) (W:World)=>cond (Nat.blt i 18) (Held w0 W LA) (cond (Nat.blt i 19) (∃ W',W=W'.alloc (.cells #[.int .u8 97] 5) ∧ vs 17=.slice (some ⟨W'.heap.size,0,none⟩) 1 1 ∧ Held w0 W' (LA)) (cond (Nat.blt i 20) (Held w0 W (rdR (vs 18) 1 (bv [97]) :: LA)) (cond (Nat.blt i 21) (∃ W',W=W'.alloc (.cells #[.int .u8 98] 5) ∧ vs 19=.slice (some ⟨W'.heap.size,0,none⟩) 1 1 ∧ Held w0 W' (rdR (vs 18) 1 (bv [97]) :: LA)) (cond (Nat.blt i 22) (Held w0 W (rdR (vs 20) 1 (bv [98]) :: rdR (vs 18) 1 (bv [97]) :: LA)) (cond (Nat.blt i 23) (Held w0 W (rowR 32 1 (vs 21) 2 [vs 18,vs 20] :: rdR (vs 20) 1 (bv [98]) :: rdR (vs 18) 1 (bv [97]) :: LA)) (cond (Nat.blt i 29) (Q1 W) ((Q2 W))))))))) hap S0 ?_ ?_
 . clear S0 hend
   and_intros <;> try (intro vs A' W hA S hd hu K hK;try (refine wpOp_free _ rfl rfl ?_;conv=>arg 2;whnf))
   . replace S:Held w0 W LA:=S
     exact qa1 (eO 1 o1)
   . replace S:Held w0 W LA:=S
     exact qa1 (vD 32 0)
   . replace S:Held w0 W LA:=S
     exact qa1 (vD 33 1)
   . replace S:Held w0 W LA:=S
     exact gq1 2 (vD 34 2) (eO 2 o2)
   . replace S:Held w0 W LA:=S
     exact gq1 2 (vD 34 2) (vD 35 3)
   . replace S:Held w0 W LA:=S
     exact qa2 (vD 34 2) (vD 36 4)
   . replace S:Held w0 W LA:=S
     exact qa1 (vD 37 5)
   . replace S:Held w0 W LA:=S
     exact gq1 6 (vD 38 6) (eO 4 o4)
   . replace S:Held w0 W LA:=S
     exact gq1 6 (vD 38 6) (vD 39 7)
   . replace S:Held w0 W LA:=S
     exact qa2 (vD 38 6) (vD 40 8)
   . replace S:Held w0 W LA:=S
     exact qa1 (vD 41 9)
   . replace S:Held w0 W LA:=S
     exact gq1 10 (vD 42 10) (eO 6 o6)
   . replace S:Held w0 W LA:=S
     exact gq1 10 (vD 42 10) (vD 43 11)
   . replace S:Held w0 W LA:=S
     exact qa2 (vD 42 10) (vD 44 12)
   . replace S:Held w0 W LA:=S
     exact qa1 (vD 45 13)
   . replace S:Held w0 W LA:=S
     exact gq1 14 (vD 46 14) (eO 1 o1)
   . replace S:Held w0 W LA:=S
     refine qG 14 (vD 46 14) ?_;(conv=>arg 2;whnf);exact ldA cA (eO 3 o3) (Blk.agg (show Blk W g3 28 cA from HA3 W S)) Tryz.underlying28 (by rw [hcA];exact Tryz.infoNote)
   . replace S:Held w0 W LA:=S
     refine qG 14 (vD 46 14) ?_;(conv=>arg 2;whnf);clear hA hd hu o1 o2 o3 o4 o5 o6;go_step
     exact hK _ _ trivial ⟨W,rfl,rfl,S⟩
   . replace S:∃ W',W=W'.alloc (.cells #[.int .u8 97] 5) ∧ vs 17=.slice (some ⟨W'.heap.size,0,none⟩) 1 1 ∧ Held w0 W' (LA):=S
     refine qG 14 (vD 46 14) ?_;(conv=>arg 2;whnf);have e49:=eU 49 17;clear hA hd hu o1 o2 o3 o4 o5 o6
     obtain ⟨W1,rfl,hv,S⟩:=S
     rw [hv] at e49
     have hcv:=conv_txt W1 #[.int .u8 97] 1 1 W1.heap.size rfl
     go_step
     exact hK _ _ trivial (held_txt S #[.int .u8 97] [97] rfl (by decide) _)
   . replace S:Held w0 W (rdR (vs 18) 1 (bv [97]) :: LA):=S
     refine qG 14 (vD 46 14) ?_;(conv=>arg 2;whnf);clear hA hd hu o1 o2 o3 o4 o5 o6;go_step
     exact hK _ _ trivial ⟨W,rfl,rfl,S⟩
   . replace S:∃ W',W=W'.alloc (.cells #[.int .u8 98] 5) ∧ vs 19=.slice (some ⟨W'.heap.size,0,none⟩) 1 1 ∧ Held w0 W' (rdR (vs 18) 1 (bv [97]) :: LA):=S
     refine qG 14 (vD 46 14) ?_;(conv=>arg 2;whnf);have e51:=eU 51 19;clear hA hd hu o1 o2 o3 o4 o5 o6
     obtain ⟨W1,rfl,hv,S⟩:=S
     rw [hv] at e51
     have hcv:=conv_txt W1 #[.int .u8 98] 1 1 W1.heap.size rfl
     go_step
     exact hK _ _ trivial (held_txt S #[.int .u8 98] [98] rfl (by decide) _)
   . replace S:Held w0 W (rdR (vs 20) 1 (bv [98]) :: rdR (vs 18) 1 (bv [97]) :: LA):=S
     refine qG 14 (vD 46 14) ?_;(conv=>arg 2;whnf);have e50:=eU 50 18;have e52:=eU 52 20;clear hA hd hu o1 o2 o3 o4 o5 o6
     obtain ⟨A1,c1,hv1⟩:=rd_form (S.at_ (l1:=[_])).1
     obtain ⟨A2,c2,hv2⟩:=rd_form (S.at_ (l1:=[])).1
     rw [hv1] at e50 S
     rw [hv2] at e52 S
     go_step
     refine hK _ _ trivial ?_
     show Held w0 _ (rowR 32 1 _ 2 [vs 18,vs 20] :: rdR (vs 20) 1 (bv [98]) :: rdR (vs 18) 1 (bv [97]) :: LA)
     rw [hv1,hv2]
     exact S.rownew (ow_new W 32 1 2 #[.slice A1 1 c1,.slice A2 1 c2] rfl (by decide)) ((Kp.refl [] W).alloc _) (fun g hg=>Nat.le_of_eq (Option.some.inj hg))
   . replace S:Held w0 W (rowR 32 1 (vs 21) 2 [vs 18,vs 20] :: rdR (vs 20) 1 (bv [98]) :: rdR (vs 18) 1 (bv [97]) :: LA):=S
     refine qG 14 (vD 46 14) ?_;(conv=>arg 2;whnf);have e47:=vD 47 15;have e48:=vD 48 16;have e53:=eU 53 21;clear hA hd hu o1 o2 o3 o4 o5 o6;go_step
     refine (HT W _ _ _ S).mono ?_
     rintro e w' ⟨rfl,h1⟩
     exact hK _ _ rfl h1
   . replace S:Q1 W:=S
     exact gq1 14 (vD 46 14) (vD 54 22)
   . replace S:Q1 W:=S
     exact qa2 (vD 46 14) (vD 55 23)
   . replace S:Q1 W:=S
     exact qa1 (vD 56 24)
   . replace S:Q1 W:=S
     exact gq1 25 (vD 57 25) (eO 1 o1)
   . replace S:Q1 W:=S
     refine qG 25 (vD 57 25) ?_;(conv=>arg 2;whnf);exact ldA cB (eO 5 o5) (Blk.agg (HB5 W S)) Tryz.underlying28 (by rw [hcB];exact Tryz.infoNote)
   . replace S:Q1 W:=S
     refine qG 25 (vD 57 25) ?_;(conv=>arg 2;whnf);have e58:=vD 58 26;have e59:=vD 59 27;clear hA hd hu o1 o2 o3 o4 o5 o6;go_step
     refine (HH W S).mono ?_
     rintro e w' ⟨rfl,h1⟩
     exact hK _ _ rfl h1
   . replace S:Q2 W:=S
     exact gq1 25 (vD 57 25) (vD 60 28)
   . replace S:Q2 W:=S
     exact qa2 (vD 57 25) (vD 61 29)
   . trivial
 . intro vs W S hp
   replace S:Q2 W:=S
   rw [putAll_eq]
   exact hend _ W sQ (sW (hp 30 sB)) S
theorem knw_r6(w0:World)(p:Value)(cf:Value->Value->Value->Array Value)(hcf:∀ A1 n1 c1 A2 n2 c2 A3 n3 c3,(cf (.slice A1 n1 c1) (.slice A2 n2 c2) (.slice A3 n3 c3)).size=101 ∧ ∀ u,u ∈ (cf (.slice A1 n1 c1) (.slice A2 n2 c2) (.slice A3 n3 c3)).toList->u.oneCell'=true)(n1 n2 n3:Nat)(y1 y2 y3:List Value)(L:List Res)(HC:Calls Tryz.prog 21 #[p] w fun e w'=>∃ s1 s2 p,e=.returned (.tuple #[.agg (cf s1 s2 p),.bool true]) ∧ Held w0 w' (rowR 89 33 s1 n1 y1 :: rowR 89 33 s2 n2 y2 :: rowR 23 32 p n3 y3 :: L))(hsz:a.tmps.size=93)(o1:Sl a 1 (p)):RG1 false 6 Tryz.f7 Q a w fun a' W q'=>Sl a' 8 (.bool true)->(∃ g s1 s2 p,Sl a' 7 (Pq g 0) ∧ Held w0 W (blkR g 31 (cf s1 s2 p) :: rowR 89 33 s1 n1 y1 :: rowR 89 33 s2 n2 y2 :: rowR 23 32 p n3 y3 :: L))->q':=by
 intro hend
 refine wp_region_lit ?_
 (conv=>arg 4;whnf)
 unfold Sl at o1
 have HC:=LH HC
 have hcf:=LH hcf
 go_wp2_with fail
 refine HC.out.mono ?_
 rintro e w1 ⟨s1,s2,pv,rfl,S⟩
 obtain ⟨A1,c1,rfl,-⟩:=ow_form (S.at_ (l1:=[]))
 obtain ⟨A2,c2,rfl,-⟩:=ow_form (S.at_ (l1:=[_]))
 obtain ⟨A3,c3,rfl,-⟩:=ow_form (S.at_ (l1:=[_,_]))
 have hz3:=LH (hcf.out A1 n1 c1 A2 n2 c2 A3 n3 c3)
 obtain ⟨c8,hc8⟩:∃ cs,Hid (cf (.slice A1 n1 c1) (.slice A2 n2 c2) (.slice A3 n3 c3)=cs):=⟨_,LH rfl⟩
 rw [hc8.out] at hz3 ⊢
 have S5:=LH (S.newBlk 31 zFork.toArray)
 clear S
 go_wp2_with (refine wpList_store_blk rfl 31 (.tmp 7) (.tmp 66) rfl w1.heap.size aE c8 aE 31 _ (S5.out.at_ (l1:=[])) (by rw [hz3.out.1];exact Tryz.infoFork) (by rw [hz3.out.1];rfl) hz3.out.2 ?_;intro w7 b7 k7;have S7:=LH (Held.setBlk (l1:=[]) S5.out b7 k7);clear b7 k7)
 rw [<- hc8.out] at S7
 try simp only [Act.put]
 exact hend _ _ tS sP (⟨w1.heap.size,_,_,_,sP0,S7.out⟩)
theorem knw_r7(g g3 g7:Nat)(f:FkD)(hf:f.Ok)(s1 s2 pv:Value)(hb7:Blk w g7 31 (f.cells s1 s2 pv))(hz1:(f.cells s1 s2 pv)[0]?=some (.int .i64 1))(cA:Array Value)(hcA:cA.size=34)(hb3:Blk w g3 28 cA)(HC1:∀ V A c,Kp [] w V->Rd V 1 (.slice A 2 c) 2 (bv [1,2])->Calls Tryz.prog 9 #[.agg (f.cells s1 s2 pv),.agg #[strV [119],.slice A 2 c]] V fun e w'=>e=.returned (.int .i64 0) ∧ Kp [] V w')(HC2:∀ V,Kp [] w V->Calls Tryz.prog 17 #[Pq g 0] V fun e w'=>e=.returned (.int .i64 2) ∧ Kp [] V w')(HC3:∀ V,Kp [] w V->Calls Tryz.prog 16 #[Pq g 0,.agg cA,.slice none 0 0] V fun e w'=>e=.returned (.int .i64 400) ∧ Kp [] V w')(hsz:a.tmps.size=93)(o1:Sl a 1 (Pq g 0))(o3:Sl a 3 (Pq g3 0))(o7:Sl a 7 (Pq g7 0))(o8:Sl a 8 (.bool true)):RG1 true 7 Tryz.f7 Q a w fun a' W q'=>Kp [] w.drew W->Sl a' 0 (.bool true)->q':=by
 intro hend
 have hap:=pa 7 Tryz.f7
 refine wp_region_invG (l:=(opsOf 7 Tryz.f7)) (fun i v W=>match i with|0=>v=.bool true|1=>v=.bool true|2=>v=.agg (f.cells s1 s2 pv)|3=>∃ A c,v=.agg #[strV [119],.slice A 2 c] ∧ Go.Proofs.YtmkfopmdingaoaaGreatDoor.Rd W 1 (.slice A 2 c) 2 (bv [1,2])|4=>v=.int .i64 (0:Int)|5=>v=.bool true|6=>v=.bool true|7=>v=.bool true|8=>v=Pq g7 0|9=>v=Pq g7 0|10=>v=Pq g7 0|11=>v=.int .i64 (1:Int)|12=>v=.bool true|13=>v=.bool true|14=>v=.bool true|15=>v=Pq g 0|16=>v=.int .i64 (2:Int)|17=>v=.bool true|18=>v=.bool true|19=>v=.bool true|20=>v=Pq g 0|21=>v=.agg cA|22=>v=.int .i64 (400:Int)|23=>v=.bool true|24=>v=.bool true|25=>v=.bool true|_=>True) (by kernel_rfl) hap (by kernel_rfl) ?_ ?_ ?_
 . intro i v W W' h k
   rcases i with _|i
   . exact h
   rcases i with _|i
   . exact h
   rcases i with _|i
   . exact h
   rcases i with _|i
   . obtain ⟨A,c,h1,h2⟩:=h;exact ⟨A,c,h1,rd_old h2 k⟩
   rcases i with _|i
   . exact h
   rcases i with _|i
   . exact h
   rcases i with _|i
   . exact h
   rcases i with _|i
   . exact h
   rcases i with _|i
   . exact h
   rcases i with _|i
   . exact h
   rcases i with _|i
   . exact h
   rcases i with _|i
   . exact h
   rcases i with _|i
   . exact h
   rcases i with _|i
   . exact h
   rcases i with _|i
   . exact h
   rcases i with _|i
   . exact h
   rcases i with _|i
   . exact h
   rcases i with _|i
   . exact h
   rcases i with _|i
   . exact h
   rcases i with _|i
   . exact h
   rcases i with _|i
   . exact h
   rcases i with _|i
   . exact h
   rcases i with _|i
   . exact h
   rcases i with _|i
   . exact h
   rcases i with _|i
   . exact h
   rcases i with _|i
   . exact h
   exact h
 . and_intros <;> try (intro vs A' W hA hW hd K hK;try (refine wpOp_free _ rfl rfl ?_;conv=>arg 2;whnf))
   . exact qa1 (eO 8 o8)
   . exact qa1 (vD 68 0)
   . refine qG 1 (vD 69 1) ?_;(conv=>arg 2;whnf);exact ldA (f.cells s1 s2 pv) (eO 7 o7) (Blk.agg (hb7.kp (((Kp.refl [] w).drew).trans hW (by simp)) (by simp))) Tryz.underlying31 (by rw [FkD.size hf];exact Tryz.infoFork)
   . refine qG 1 (vD 69 1) ?_;(conv=>arg 2;whnf);clear hA hd o1 o3 o7 o8;go_step
     refine (signer_law W).mono ?_
     rintro e w' ⟨A,c,rfl,H⟩
     exact hK _ w' H.k ⟨A,c,rfl,Rd.of_own (H.at_ (l1:=[]))⟩
   . refine qG 1 (vD 69 1) ?_;(conv=>arg 2;whnf);have e70:=vD 70 2
     have f3:∃ A c,(vs 3)=.agg #[strV [119],.slice A 2 c] ∧ Go.Proofs.YtmkfopmdingaoaaGreatDoor.Rd W 1 (.slice A 2 c) 2 (bv [1,2]):=hd 3 (by kernel_rfl);have e71:=eU 71 3;clear hA hd o1 o3 o7 o8
     obtain ⟨A,c,hv,hr⟩:=f3
     rw [hv] at e71
     go_step
     refine (HC1 W A c (((Kp.refl [] w).drew).trans hW (by simp)) hr).mono ?_
     rintro e w' ⟨rfl,k1⟩
     exact hK _ w' k1 rfl
   . exact gq1 1 (vD 69 1) (vD 72 4)
   . exact qa2 (vD 69 1) (vD 73 5)
   . exact qa1 (vD 74 6)
   . exact gq1 7 (vD 75 7) (eO 7 o7)
   . exact gq1 7 (vD 75 7) (vD 76 8)
   . exact gq1 7 (vD 75 7) (vD 77 9)
   . refine qG 7 (vD 75 7) ?_;(conv=>arg 2;whnf)
     have c0:W.cell? ⟨g7,0,none⟩=some (.int .i64 1):=by rw [(hb7.kp (((Kp.refl [] w).drew).trans hW (by simp)) (by simp)).cell];exact hz1
     exact qa1 (vD 78 10)
   . exact gq1 7 (vD 75 7) (vD 79 11)
   . exact qa2 (vD 75 7) (vD 80 12)
   . exact qa1 (vD 81 13)
   . exact gq1 14 (vD 82 14) (eO 1 o1)
   . refine qG 14 (vD 82 14) ?_;(conv=>arg 2;whnf);have e83:=vD 83 15;clear hA hd o1 o3 o7 o8;go_step
     refine (HC2 W (((Kp.refl [] w).drew).trans hW (by simp))).mono ?_
     rintro e w' ⟨rfl,k1⟩
     exact hK _ w' k1 rfl
   . exact gq1 14 (vD 82 14) (vD 84 16)
   . exact qa2 (vD 82 14) (vD 85 17)
   . exact qa1 (vD 86 18)
   . exact gq1 19 (vD 87 19) (eO 1 o1)
   . refine qG 19 (vD 87 19) ?_;(conv=>arg 2;whnf);exact ldA cA (eO 3 o3) (Blk.agg (hb3.kp (((Kp.refl [] w).drew).trans hW (by simp)) (by simp))) Tryz.underlying28 (by rw [hcA];exact Tryz.infoNote)
   . refine qG 19 (vD 87 19) ?_;(conv=>arg 2;whnf);have e88:=vD 88 20;have e89:=vD 89 21;clear hA hd o1 o3 o7 o8;go_step
     refine (HC3 W (((Kp.refl [] w).drew).trans hW (by simp))).mono ?_
     rintro e w' ⟨rfl,k1⟩
     exact hK _ w' k1 rfl
   . exact gq1 19 (vD 87 19) (vD 90 22)
   . exact qa2 (vD 87 19) (vD 91 23)
   . exact qa1 (vD 92 24)
   . trivial
 . intro vs W hW hp
   rw [putAll_eq]
   exact hend _ W sQ hW (sW (hp 25 sB))
end
section
open Go.RowKit Go.Shelf
theorem mtake_early(p:Value)(z:Int)(h:Bs)(hh:h.length=32)(A:Option Addr)(n c:Nat)(x:Value)(e0:Int)(he:e0 ≠ 0)(w:World)(HC:∀ V,Kp [] w V->Calls Tryz.prog 44 #[p,.agg (ntA z h (.slice A n c))] V fun e w'=>e=.returned (.int .i64 e0) ∧ Kp [] V w'):
 Calls Tryz.prog 16 #[p,.agg (ntA z h (.slice A n c)),x] w fun e w'=>e=.returned (.int .i64 e0) ∧ Kp [] w w':=by
 refine calls_fr Tryz.func16 rfl 130 rfl (fun a0 hsz hdf hAr=>?_)
 have hz0:a0.tmps.size=130:=hsz
 have D:=hdf
 have o0:=hAr 0 _ rfl
 have o1:=hAr 1 _ rfl
 have o2:=hAr 2 _ rfl
 refine wp_seq (mtk_r0 w _ (ntA_size hh) (ntA_one rfl) _ (Held.start w) hz0 o1 (fun a1 w1 hs1 o6 h1=>?_))
 obtain ⟨hz1,D,o0,o1⟩:=kq2 hs1 hz0 D o0 o1
 obtain ⟨g4,o4,S1⟩:=h1
 refine wp_seq (wp_seq (mtk_r1 _ g4 _ (ntA_size hh) (S1.at_ (l1:=[])) _ (HC w1 S1.k) hz1 o0 o4 (fun a2 w2 hs2 o7 k2=>?_)))
 obtain ⟨hz2,D,o0,o4⟩:=kq2 hs2 hz1 D o0 o4
 refine wp_seq (mtk_r2 _ hz2 o7 (fun a3 hs3 o19=>?_))
 obtain ⟨hz3,D,o0,o4,o7⟩:=kq3 hs3 hz2 D o0 o4 o7
 have hq:(e0 != 0)=true:=by rw [bne_iff_ne];exact he
 refine wcT o19 ?_ (by rw [hq])
 refine wp_seq (mtk_r3 _ hz3 o7 (fun a4 hs4 o6=>?_))
 obtain ⟨hz4,D,o7⟩:=kq1 hs4 hz3 D o7
 refine wp_ret ?_
 simp only [Exit.then]
 exact bodyPost_ret (res_u1 (by rfl) (o6.eval (by rw [hz4];decide))) D ⟨rfl,S1.k.trans k2 (by simp)⟩
theorem mhear_early(p:Value)(z:Int)(h:Bs)(hh:h.length=32)(A:Option Addr)(n c:Nat)(x:Value)(e0:Int)(he:e0 ≠ 0)(w:World)(HC:∀ V,Kp [] w V->Calls Tryz.prog 44 #[p,.agg (ntA z h (.slice A n c))] V fun e w'=>e=.returned (.int .i64 e0) ∧ Kp [] V w'):
 Calls Tryz.prog 18 #[p,.agg (ntA z h (.slice A n c)),x] w fun e w'=>e=.returned (.int .i64 e0) ∧ Kp [] w w':=by
 refine calls_fr Tryz.func18 rfl 39 rfl (fun a0 hsz hdf hAr=>?_)
 have hz0:a0.tmps.size=39:=hsz
 have D:=hdf
 have o0:=hAr 0 _ rfl
 have o1:=hAr 1 _ rfl
 have o2:=hAr 2 _ rfl
 refine wp_seq (mhe_r0 w _ (ntA_size hh) (ntA_one rfl) _ (Held.start w) hz0 o1 (fun a1 w1 hs1 o6 h1=>?_))
 obtain ⟨hz1,D,o0,o1⟩:=kq2 hs1 hz0 D o0 o1
 obtain ⟨g4,o4,S1⟩:=h1
 refine wp_seq (wp_seq (mhe_r1 _ g4 _ (ntA_size hh) (S1.at_ (l1:=[])) _ (HC w1 S1.k) hz1 o0 o4 (fun a2 w2 hs2 o7 k2=>?_)))
 obtain ⟨hz2,D,o0,o4⟩:=kq2 hs2 hz1 D o0 o4
 refine wp_seq (mhe_r2 _ hz2 o7 (fun a3 hs3 o12=>?_))
 obtain ⟨hz3,D,o0,o4,o7⟩:=kq3 hs3 hz2 D o0 o4 o7
 have hq:(e0 != 0)=true:=by rw [bne_iff_ne];exact he
 refine wcT o12 ?_ (by rw [hq])
 refine wp_seq (mhe_r3 _ hz3 o7 (fun a4 hs4 o6=>?_))
 obtain ⟨hz4,D,o7⟩:=kq1 hs4 hz3 D o7
 refine wp_ret ?_
 simp only [Exit.then]
 exact bodyPost_ret (res_u1 (by rfl) (o6.eval (by rw [hz4];decide))) D ⟨rfl,S1.k.trans k2 (by simp)⟩
def MirQ (w0 w':World) (L:List Res) (g:Nat) (X:MS):Prop:=∃ L' M vs,Held w0 w' (blkR g 85 M.cells :: rowR 32 1 M.e X.es.length vs :: (L' ++ L)) ∧ MirR M vs X (L' ++ L)
theorem mhearP_any(w0:World)(L:List Res)(LD0:LD w0)(g:Nat)(X:MS)(M:MirD)(vs:List Value)(R:MirR M vs X L)(n:NtD)(hn:n.Ok)(A:Option Addr)(c:Nat)(Ap:Option Addr)(cp:Nat)(pf:List (List UInt8))(hpf:HsOk pf)(w:World)(S:Held w0 w (blkR g 85 M.cells :: rowR 32 1 M.e X.es.length vs :: L))(HVn:SgR L A c n.l)(HVp:HsR L Ap cp pf):
 Calls Tryz.prog 18 #[Pq g 0,.agg (ntA n.z n.h (.slice A n.l.length c)),.slice Ap pf.length cp] w fun r w'=>MirP w0 w' L g (X.hearF n pf) r:=by
 have hmay:mayM M.fd n.z n.h n.l M.nm M.sec=X.mayF n:=by unfold MS.mayF;rw [R.fd,R.nm,R.sec]
 have hXl:M.hl.length=X.es.length:=by rw [R.hl,X.hl_length]
 refine (mhear_any w0 (rowR 32 1 M.e X.es.length vs :: L) LD0 g M R.ok n.z hn.z n.h hn.h A c n.l hn.l hn.m Ap cp pf hpf w S (fun V hV=>HVn V (fun r hr=>hV r (List.mem_cons_of_mem _ hr))) (fun V hV=>R.rd V (fun r hr=>hV r (List.mem_cons_of_mem _ hr))) (fun V hV=>HVp V (fun r hr=>hV r (List.mem_cons_of_mem _ hr)))).mono ?_
 rw [hmay,hXl,R.hl]
 rintro r w' ⟨cd,rfl,⟨h1,rfl,S⟩|⟨h1,k,hk,hkn,hW⟩|⟨h1,h2,rfl,S⟩⟩
 . have e:X.hearF n pf=(X.mayF n,X):=by unfold MS.hearF;rw [if_pos h1]
   rw [e]
   exact mirP_same R S
 . have e:X.hearF n pf=X.withinF n:=by unfold MS.hearF;rw [if_neg (by rw [h1];decide),if_pos (by omega)]
   rw [e]
   exact mirP_within hn hk R hW
 . have e:X.hearF n pf=(((consF (X.es.length:Int) n.z (rootF X.hl) n.h pf:Nat):Int),X):=by unfold MS.hearF;rw [if_neg (by rw [h1];decide),if_neg (by omega)]
   rw [e]
   exact mirP_same R S
theorem sgOk_nil:SgOk []:=by
 intro s hs
 cases hs
theorem hsOk_nil:HsOk []:=by
 intro s hs
 cases hs
theorem prvF_le{m:Int}{l:List (List UInt8)}:(prvF m l).length<=65:=by rw [prvF_length];exact stF_length _ _
theorem forkF_ok{X:MS}{n:NtD}(hX:X.la.Ok)(hn:n.Ok):(forkF X n).Ok:=by
 exact ⟨hn.h,hX.h,rootF_length (fun y hy=>X.hs y (List.mem_of_mem_take hy)),hn.l,hX.l,hn.m,hX.m,prvF_ok X.hs,by have:=prvF_le (m:=n.z) (l:=X.hl);show (prvF n.z X.hl).length<=_;omega⟩
theorem zFk_ok:zFk.Ok:=⟨(by decide),(by decide),(by decide),sgOk_nil,sgOk_nil,(by decide),(by decide),hsOk_nil,(by decide)⟩
theorem zNote_one:∀ u ∈ zNote,u.oneCell'=true:=by
 intro u hu
 have:=ntA_one (z:=0) (h:=List.replicate 32 0) (v:=.slice none 0 0) rfl u
 rw [ntA_list] at this
 exact this hu
def mirD0 (nm sec:Bs) (Ak:Option Addr) (ck:Nat):MirD:=⟨nm,sec,Ak,ck,.slice none 0 0,[],none,0,zNote,false,zFork,false⟩
theorem mirR_new{nm sec:List UInt8}{Ak:Option Addr}{ck:Nat}{L:List Res}(hnm:nm.length<=1000000)(h:∀ V,(∀ r ∈ L,r.ok V)->Rd V 1 (.slice Ak sec.length ck) sec.length (bv sec)):MirR (mirD0 nm sec Ak ck) [] (MS.new nm sec) L:=
 ⟨⟨hnm,hsOk_nil,Nat.zero_le _,zNote_length,zNote_one,zFork_length,⟨none,0,rfl⟩⟩,rfl,rfl,rfl,fun V hV=>⟨h V hV,rd_nil_any 32 V⟩,rfl,rfl,⟨none,0,rfl,fun V _=>rd_nil_any 33 V⟩,⟨none,none,none,0,0,0,by rw [FkD.list];rfl,fun V _=>rd_nil_any 33 V,fun V _=>rd_nil_any 33 V,fun V _=>rd_nil_any 32 V⟩,EnR.nil L⟩
theorem mirR_may{M:MirD}{vs:List Value}{X:MS}{L:List Res}(R:MirR M vs X L){g:Nat}(n:NtD)(hn:n.Ok)(A:Option Addr)(c:Nat)(V:World)(LDV:LD V)(hb:Blk V g 85 M.cells)(hV:∀ r ∈ L,r.ok V)(HVn:Rd V 33 (.slice A n.l.length c) n.l.length (sgsC n.l)):
 Calls Tryz.prog 44 #[Pq g 0,.agg (ntA n.z n.h (.slice A n.l.length c))] V fun e w'=>e=.returned (.int .i64 (X.mayF n)) ∧ Kp [] V w':=by
 have hmay:mayM M.fd n.z n.h n.l M.nm M.sec=X.mayF n:=by unfold MS.mayF;rw [R.fd,R.nm,R.sec]
 rw [<- hmay]
 exact mmay_any n.z hn.z n.h hn.h A c n.l hn.l hn.m M.nm R.ok.nm M.Ak M.ck M.sec g M.cells M.fd V LDV hb mirC_0 mirC_1 (mirC_fd R.ok.la R.ok.fk) (mirC_md R.ok.la R.ok.fk) HVn (R.rd V hV).1
theorem mirR_size{M:MirD}{vs:List Value}{X:MS}{L:List Res}(R:MirR M vs X L){g:Nat}(V:World)(hb:Blk V g 85 M.cells):
 Calls Tryz.prog 17 #[Pq g 0] V fun e w'=>e=.returned (Nq (X.es.length)) ∧ Kp [] V w':=by
 have hXl:M.hl.length=X.es.length:=by rw [R.hl,X.hl_length]
 obtain ⟨Ae,ce,hMe⟩:=R.ok.e
 rw [hXl] at hMe
 exact msize_any g M.cells Ae X.es.length ce V hb (mirC_md R.ok.la R.ok.fk) (by rw [<- hMe];exact mirC_2)
theorem kN_ok(ls:List (List UInt8))(h:ls.length<=1000000):(nLog ls).Ok:=notedK_ok wK30 h
theorem kX2_fk:kX2.fk.Ok:=forkF_ok (X:=kX1) (kN_ok _ (by decide)) (kN_ok _ (by decide))
theorem call_noted(ls:List (List UInt8))(hl:ls.length<=1000000)(hb:∀ e ∈ ls,e.length<=140737488355200)(w0:World):∀ V A c x,Kp [] w0 V->Rd V 1 (.slice A 2 c) 2 (bv [1,2])->Txs V x ls->Calls Tryz.prog 15 #[.agg #[strV [119],.slice A 2 c],x] V fun e w'=>∃ v,e=.returned (.tuple #[.agg (ntA (nLog ls).z (nLog ls).h v),.bool true]) ∧ Held V w' [rowR 89 33 v 1 (sgsC (nLog ls).l)]:=by
 intro V A c x _ hr hx
 obtain ⟨Ax,cx,rfl,-⟩:=hx.open_
 exact noted_any [119] A c [1,2] wK30 Ax cx ls hl hb V hr hx
theorem call_new(w0:World)(LD0:LD w0):∀ V A c,Kp [] w0 V->Rd V 1 (.slice A 2 c) 2 (bv [1,2])->Calls Tryz.prog 13 #[.agg #[strV [119],.slice A 2 c]] V fun e w'=>∃ g u,e=.returned (.tuple #[Pq g 0,.int .i64 0]) ∧ Held V w' [blkR g 85 (mirN (strV [119]) u),rowR 5 1 u 2 (bv [1,2])]:=by
 intro V A c kV hr
 refine (mnew_any [119] (by decide) A c [1,2] (by decide) V (LD0.kp kV) hr).mono ?_
 rintro e w' (⟨-,g,u,rfl,S⟩|⟨h,-⟩)
 . exact ⟨g,u,rfl,S⟩
 . rw [wK30] at h;cases h
theorem known30_any(w:World)(LDw:LD w):Calls Tryz.prog 7 #[] w fun e w'=>e=.returned (.bool true) ∧ Kp [] w w':=by
 refine calls_fr Tryz.func7 rfl 93 rfl (fun a0 hsz hdf hAr=>?_)
 have hz0:a0.tmps.size=93:=hsz
 have D:=hdf
 refine wp_seq (knw_r0 hz0 (fun a1 hs1 o0=>?_))
 obtain ⟨hz1,D⟩:=kq0 hs1 hz0 D
 refine wp_seq (knw_r1 w [] (Held.start w) (signer_law w) (call_new w LDw) hz1 (fun a2 w1 hs2 o2 h1=>?_))
 obtain ⟨hz2,D⟩:=kq0 hs2 hz1 D
 obtain ⟨g,u,o1,S1⟩:=h1
 refine wp_seq (knw_r2 w (nLog [[97],[98]]).z (nLog [[97],[98]]).h (kN_ok _ (by decide)).h (sgsC (nLog [[97],[98]]).l) _ S1 (signer_law w1) (call_noted [[97],[98]] (by decide) (by decide) w) hz2 (fun a3 w2 hs3 o4 h2=>?_))
 obtain ⟨hz3,D,o2,o1⟩:=kq2 hs3 hz2 D o2 o1
 obtain ⟨g3,A3,c3,o3,S2⟩:=h2
 refine wp_seq (knw_r3 w (nLog [[120]]).z (nLog [[120]]).h (kN_ok _ (by decide)).h (sgsC (nLog [[120]]).l) _ S2 (signer_law w2) (call_noted [[120]] (by decide) (by decide) w) hz3 (fun a4 w3 hs4 o6 h3=>?_))
 obtain ⟨hz4,D,o2,o1,o4,o3⟩:=kq4 hs4 hz3 D o2 o1 o4 o3
 obtain ⟨g5,A5,c5,o5,S3⟩:=h3
 obtain ⟨Au,cu,rfl,-⟩:=ow_form (S3.at_ (l1:=[_,_,_,_,_]))
 have hT:=k_take
 have hH:=k_hear
 have hG:=k_again
 have okA:=kN_ok [[97],[98]] (by decide)
 have okB:=kN_ok [[120]] (by decide)
 have lA:(nLog [[97],[98]]).l.length=1:=rfl
 have lB:(nLog [[120]]).l.length=1:=rfl
 generalize nLog [[97],[98]]=nA at *
 generalize nLog [[120]]=nB at *
 obtain ⟨LR,hLR⟩:∃ LR:List Res,[blkR g5 28 (ntA nB.z nB.h (.slice A5 1 c5)),rowR 89 33 (.slice A5 1 c5) 1 (sgsC nB.l),blkR g3 28 (ntA nA.z nA.h (.slice A3 1 c3)),rowR 89 33 (.slice A3 1 c3) 1 (sgsC nA.l),rowR 5 1 (.slice Au 2 cu) 2 (bv [1,2])]=LR:=⟨_,rfl⟩
 have m5:blkR g5 28 (ntA nB.z nB.h (.slice A5 1 c5)) ∈ LR:=by rw [<- hLR];simp
 have m3:blkR g3 28 (ntA nA.z nA.h (.slice A3 1 c3)) ∈ LR:=by rw [<- hLR];simp
 have mB:rowR 89 33 (.slice A5 1 c5) 1 (sgsC nB.l) ∈ LR:=by rw [<- hLR];simp
 have mA:rowR 89 33 (.slice A3 1 c3) 1 (sgsC nA.l) ∈ LR:=by rw [<- hLR];simp
 have mU:rowR 5 1 (.slice Au 2 cu) 2 (bv [1,2]) ∈ LR:=by rw [<- hLR];simp
 have S4:Held w w3 (blkR g 85 (mirD0 [119] [1,2] Au cu).cells :: rowR 32 1 (mirD0 [119] [1,2] Au cu).e kX0.es.length [] :: LR):=by
  have h1:=S3.pull 4 rfl
  have h2:=(h1.rownew (World.ownsRow_nil _ _ _ _:Ow w3 32 1 (.slice none 0 0) 0 []) (Kp.refl [] w3) (fun g hg=>by cases hg)).pull 1 rfl
  rw [<- hLR]
  exact h2
 have R0:MirR (mirD0 [119] [1,2] Au cu) [] kX0 LR:=mirR_new (by decide) (fun V hV=>ow_rdE (e:=5) hV mU)
 clear S3 S2 S1
 obtain ⟨LA,hLA⟩:∃ LA:List Res,blkR g 85 (mirD0 [119] [1,2] Au cu).cells :: rowR 32 1 (mirD0 [119] [1,2] Au cu).e kX0.es.length [] :: LR=LA:=⟨_,rfl⟩
 have HA3:∀ V,Held w V LA->Blk V g3 28 (ntA nA.z nA.h (.slice A3 1 c3)):=fun V SV=>SV.ok (blkR g3 28 (ntA nA.z nA.h (.slice A3 1 c3))) (by rw [<- hLA];exact List.mem_cons_of_mem _ (List.mem_cons_of_mem _ m3))
 have HB5:∀ V,MirQ w V LR g kX1->Blk V g5 28 (ntA nB.z nB.h (.slice A5 1 c5)):=by
  rintro V ⟨L',M,vs,SV,-⟩
  exact SV.ok (blkR g5 28 (ntA nB.z nB.h (.slice A5 1 c5))) (List.mem_cons_of_mem _ (List.mem_cons_of_mem _ (List.mem_append_right _ m5)))
 have HTk:∀ V u1 u2 u,Held w V (rowR 32 1 u 2 [u1,u2] :: rdR u2 1 (bv [98]) :: rdR u1 1 (bv [97]) :: LA)->Calls Tryz.prog 16 #[Pq g 0,.agg (ntA nA.z nA.h (.slice A3 1 c3)),u] V fun r w'=>r=.returned (.int .i64 0) ∧ MirQ w w' LR g kX1:=by
  intro V u1 u2 u SV
  obtain ⟨Ax,cx,rfl,-⟩:=ow_form (SV.at_ (l1:=[]))
  rw [<- hLA] at SV
  have SV:=(SV.pull 4 rfl).pull 4 rfl
  simp only [List.eraseIdx] at SV
  have:=mtake_any w (rowR 32 1 (.slice Ax 2 cx) 2 [u1,u2] :: rdR u2 1 (bv [98]) :: rdR u1 1 (bv [97]) :: LR) LDw g kX0 _ [] (R0.more (fun r hr=>by simp [hr])) nA okA A3 c3 [[97],[98]] (by decide) (by decide) Ax cx [u1,u2] V SV (fun V hV=>by rw [lA];exact ow_rdE (e:=89) hV (by simp [mA])) (fun V kV hV=>⟨ow_rdE (e:=32) hV (by simp),fun i hi=>by
   rcases i with _|_|i
   . exact ⟨u1,rfl,(hV (rdR u1 1 (bv [97])) (by simp)).1⟩
   . exact ⟨u2,rfl,(hV (rdR u2 1 (bv [98])) (by simp)).1⟩
   . simp at hi;omega⟩)
  rw [lA,hT] at this
  refine this.mono ?_
  rintro r w' ⟨h1,L',M,vs,h2,h3⟩
  exact ⟨h1,L' ++ [_,_,_],M,vs,by rw [List.append_assoc];exact h2,by rw [List.append_assoc];exact h3⟩
 have HHr:∀ V,MirQ w V LR g kX1->Calls Tryz.prog 18 #[Pq g 0,.agg (ntA nB.z nB.h (.slice A5 1 c5)),.slice none 0 0] V fun r w'=>r=.returned (.int .i64 400) ∧ MirQ w w' LR g kX2:=by
  rintro V ⟨L',M,vs,SV,R⟩
  have:=mhearP_any w (L' ++ LR) LDw g kX1 M vs R nB okB A5 c5 none 0 [] hsOk_nil V SV (fun V hV=>by rw [lB];exact ow_rdE (e:=89) hV (List.mem_append_right _ mB)) (fun V _=>rd_nil_any 32 V)
  rw [lB,hH] at this
  refine this.mono ?_
  rintro r w' ⟨h1,L2,M,vs,h2,h3⟩
  exact ⟨h1,L2 ++ L',M,vs,by rw [List.append_assoc];exact h2,by rw [List.append_assoc];exact h3⟩
 rw [hLA] at S4
 refine wp_seq (wp_seq (knw_r4 w g g3 g5 _ _ (ntA_size okA.h) (ntA_size okB.h) LA _ _ HA3 HB5 HTk HHr hz4 o1 o2 o3 o4 o5 o6 S4  (fun a5 w4 hs5 o62 hQ=>?_)))
 obtain ⟨hz5,D,o2,o1,o4,o3,o6,o5⟩:=kq6 hs5 hz4 D o2 o1 o4 o3 o6 o5
 refine wcF o62 (wp_skip ?_)
 simp only [Exit.then]
 obtain ⟨L',M,vs,S5,R⟩:=hQ
 obtain ⟨A1,A2,Ap,c1,c2,cp,hfk,r1,r2,r3⟩:=R.fk
 have okf:=kX2_fk
 have hV5:∀ {V:World},(∀ r ∈ (rowR 32 1 M.e kX2.es.length vs :: (L' ++ LR)),r.ok V)->∀ r ∈ L' ++ LR,r.ok V:=fun hV r hr=>hV r (List.mem_cons_of_mem _ hr)
 refine wp_seq (knw_r6 w _ kX2.fk.cells (fun A1 n1 c1 A2 n2 c2 A3 n3 c3=>⟨FkD.size okf,FkD.one kX2.fk _ _ _ _ _ _ _ _ _⟩) _ _ _ _ _ _ _ (mffork_yes w (rowR 32 1 M.e kX2.es.length vs :: (L' ++ LR)) g M R.ok (R.fd.trans rfl) kX2.fk okf A1 A2 Ap c1 c2 cp hfk w4 S5 (fun V hV=>r1 V (hV5 hV)) (fun V hV=>r2 V (hV5 hV)) (fun V hV=>r3 V (hV5 hV))) hz5 o1 (fun a6 w5 hs6 o8 h5=>?_))
 obtain ⟨hz6,D,o1,o3⟩:=kq2 hs6 hz5 D o1 o3
 obtain ⟨g7,s1,s2,pv,o7,S6⟩:=h5
 obtain ⟨B1,d1,rfl,-⟩:=ow_form (S6.at_ (l1:=[_]))
 obtain ⟨B2,d2,rfl,-⟩:=ow_form (S6.at_ (l1:=[_,_]))
 obtain ⟨B3,d3,rfl,-⟩:=ow_form (S6.at_ (l1:=[_,_,_]))
 have hbM:=S6.at_ (l1:=[_,_,_,_])
 have hVL:∀ V,Kp [] w5 V->∀ r ∈ L' ++ LR,r.ok V:=fun V kV r hr=>(S6.kp kV).ok r (by simp only [List.mem_cons];exact .inr (.inr (.inr (.inr (.inr (.inr hr))))))
 have hb3:Blk w5 g3 28 (ntA nA.z nA.h (.slice A3 1 c3)):=hVL w5 kR (blkR g3 28 (ntA nA.z nA.h (.slice A3 1 c3))) (List.mem_append_right _ m3)
 refine wp_seq (knw_r7 g g3 g7 kX2.fk okf _ _ _ (S6.at_ (l1:=[])) (FkD.n1 okf (j:=0) rfl) _ (ntA_size okA.h) hb3 (fun V A c kV hr=>by have:=mcheck_any kX2.fk okf (by decide) (by decide) B1 B2 B3 d1 d2 d3 [119] (by decide) A c [1,2] V ((LDw.kp S6.k).kp kV) hr (Rd.of_own ((S6.kp kV).at_ (l1:=[_]))) (Rd.of_own ((S6.kp kV).at_ (l1:=[_,_]))) (Rd.of_own ((S6.kp kV).at_ (l1:=[_,_,_])));rw [k_check] at this;exact this) (fun V kV=>mirR_size R V ((S6.kp kV).at_ (l1:=[_,_,_,_]))) (fun V kV=>mtake_early _ nA.z nA.h okA.h A3 1 c3 _ 400 (by decide) V (fun V2 kV2=>by have kk:=kV.trans kV2 (by simp);have:=mirR_may R nA okA A3 c3 V2 ((LDw.kp S6.k).kp kk) ((S6.kp kk).at_ (l1:=[_,_,_,_])) (hVL V2 kk) (by rw [lA];exact ow_rdE (e:=89) (hVL V2 kk) (List.mem_append_right _ mA));rw [lA,hG] at this;exact this)) hz6 o1 o3 o7 o8 (fun a7 w6 hs7 k6 o0=>?_))
 obtain ⟨hz7,D,o1,o3,o7,o8⟩:=kq4 hs7 hz6 D o1 o3 o7 o8
 refine wp_ret ?_
 exact bodyPost_ret (res_u1 (by rfl) (o0.eval (by rw [hz7];decide))) D ⟨rfl,S6.k.trans (((Kp.refl [] w5).drew).trans k6 (by simp)) (by simp)⟩
end
section
variable {Q:Exit->Act->World->Prop} {a:Act} {w:World}
open Go.RowKit Go.Shelf
attribute [local go_sem] Oper.semAt_some
def mirZ:Array Value:=mirC (.string ⟨#[]⟩) (.slice none 0 0) (.slice none 0 0) (.slice none 0 0) zNote false zFork false false
theorem Tryz.built_mirZ:Tryz.prog.built 85 []=some mirZ:=by kernel_rfl
theorem mirZ_made:mirZ[141]?=some (.bool false):=mirC_md zNote_length zFork_length
theorem mcp_r0(hsz:a.tmps.size=25):RG0 0 Tryz.f55 Q a w fun a' q'=>Sl a' 2 (.pointer none)->q':=rO
theorem mcp_r2(hsz:a.tmps.size=25):RG0 2 Tryz.f55 Q a w fun a' q'=>Sl a' 2 (.pointer none)->q':=rO
theorem mcp_r1(p:Value)(b:Bool)(HC0:Calls Tryz.prog 50 #[p] w fun e w'=>e=.returned (.bool b) ∧ Kp [] w w')(hsz:a.tmps.size=25)(o0:Sl a 0 (p)):RG1 false 1 Tryz.f55 Q a w fun a' W q'=>Sl a' 5 (.bool b)->(Kp [] w W)->q':=by
 intro hend
 refine wp_region_lit ?_
 (conv=>arg 4;whnf)
 unfold Sl at o0
 have HC:=LH HC0
 clear HC0
 go_wp2_with fail
 refine HC.out.mono ?_
 rintro e w1 ⟨rfl,k1⟩
 have k1:=LH k1
 go_wp2_with fail
 try simp only [Act.put]
 exact hend _ _ tS sP (k1.out)
theorem mcopy_none(p:Value)(w:World)(h:MirAt w p false):Calls Tryz.prog 55 #[p] w fun e w'=>e=.returned (.pointer none) ∧ Kp [] w w':=by
 refine calls_fr Tryz.func55 rfl 25 rfl (fun a0 hsz hdf hAr=>?_)
 have hz0:a0.tmps.size=25:=hsz
 have D:=hdf
 have o0:=hAr 0 _ rfl
 refine wp_seq (mcp_r0 hz0 (fun a1 hs1 o2=>?_))
 obtain ⟨hz1,D,o0⟩:=kq1 hs1 hz0 D o0
 refine wp_seq (wp_seq (mcp_r1 p true (mnone_any p false w h) hz1 o0 (fun a2 w2 hs2 o5 k2=>?_)))
 obtain ⟨hz2,D,o0⟩:=kq1 hs2 hz1 D o0
 refine wcT o5 ?_
 refine wp_seq (mcp_r2 hz2 (fun a3 hs3 o2=>?_))
 obtain ⟨hz3,D⟩:=kq0 hs3 hz2 D
 refine wp_ret ?_
 simp only [Exit.then]
 exact bodyPost_ret (res_u1 (by rfl) (o2.eval (by rw [hz3];decide))) D ⟨rfl,k2⟩
theorem msm_r0(hsz:a.tmps.size=161):RG0 0 Tryz.f28 Q a w fun a' q'=>Sl a' 4 (.bool false)->q':=rO
theorem msm_r1A(p q:Value)(HC0:∀ V,Kp [] w V->Calls Tryz.prog 50 #[p] V fun e w'=>e=.returned (.bool true) ∧ Kp [] V w')(hsz:a.tmps.size=161)(o0:Sl a 0 (p))(o1:Sl a 1 (q)):RG1 false 1 Tryz.f28 Q a w fun a' W q'=>Kp [] w W->Sl a' 12 (.bool true)->q':=by
 intro hend
 have hap:=pa 1 Tryz.f28
 refine wp_region_invS (l:=(opsOf 1 Tryz.f28)) (fun i v W=>match i with|0=>v=p|1=>v=.bool true|2=>v=.bool true|5=>v=.bool true|_=>True) hap ?_ ?_ ?_
 . exact fun _ _ _ _ h _=>h
 . and_intros <;> try (intro vs A' W hA hW hd hu K hK;try (refine wpOp_free _ rfl rfl ?_;conv=>arg 2;whnf))
   . exact qa1 (eO 0 o0)
   . have e7:=vD 7 0;clear hA hd hu o0 o1;go_step
     refine (HC0 W hW).mono ?_
     rintro e w' ⟨rfl,k1⟩
     exact hK _ w' k1 rfl
   . exact qa1 (vD 8 1)
   . exact qS 2 false (vD 9 2)
   . exact qS 2 false (vD 9 2)
   . exact qa2 (vD 9 2) (eU 11 4)
   . trivial
 . intro vs W hW hp
   rw [putAll_eq]
   exact hend _ W sQ hW (sW (hp 5 sB))
theorem msm_r1B(p q:Value)(b:Bool)(HC0:∀ V,Kp [] w V->Calls Tryz.prog 50 #[p] V fun e w'=>e=.returned (.bool false) ∧ Kp [] V w')(HC1:∀ V,Kp [] w V->Calls Tryz.prog 50 #[q] V fun e w'=>e=.returned (.bool b) ∧ Kp [] V w')(hsz:a.tmps.size=161)(o0:Sl a 0 (p))(o1:Sl a 1 (q)):RG1 false 1 Tryz.f28 Q a w fun a' W q'=>Kp [] w W->Sl a' 12 (.bool b)->q':=by
 intro hend
 have hap:=pa 1 Tryz.f28
 refine wp_region_invS (l:=(opsOf 1 Tryz.f28)) (fun i v W=>match i with|0=>v=p|1=>v=.bool false|2=>v=.bool false|3=>v=q|4=>v=.bool b|5=>v=.bool b|_=>True) hap ?_ ?_ ?_
 . exact fun _ _ _ _ h _=>h
 . and_intros <;> try (intro vs A' W hA hW hd hu K hK;try (refine wpOp_free _ rfl rfl ?_;conv=>arg 2;whnf))
   . exact qa1 (eO 0 o0)
   . have e7:=vD 7 0;clear hA hd hu o0 o1;go_step
     refine (HC0 W hW).mono ?_
     rintro e w' ⟨rfl,k1⟩
     exact hK _ w' k1 rfl
   . exact qa1 (vD 8 1)
   . exact gq1 2 (vD 9 2) (eO 1 o1)
   . refine qG 2 (vD 9 2) ?_;(conv=>arg 2;whnf);have e10:=vD 10 3;clear hA hd hu o0 o1;go_step
     refine (HC1 W hW).mono ?_
     rintro e w' ⟨rfl,k1⟩
     exact hK _ w' k1 rfl
   . exact qa2 (vD 9 2) (vD 11 4)
   . trivial
 . intro vs W hW hp
   rw [putAll_eq]
   exact hend _ W sQ hW (sW (hp 5 sB))
theorem msm_r2A(p q:Value)(b:Bool)(HC0:∀ V,Kp [] w V->Calls Tryz.prog 50 #[p] V fun e w'=>e=.returned (.bool true) ∧ Kp [] V w')(HC1:∀ V,Kp [] w V->Calls Tryz.prog 50 #[q] V fun e w'=>e=.returned (.bool b) ∧ Kp [] V w')(hsz:a.tmps.size=161)(o0:Sl a 0 (p))(o1:Sl a 1 (q)):RG1 false 2 Tryz.f28 Q a w fun a' W q'=>Kp [] w W->Sl a' 4 (.bool b)->q':=by
 intro hend
 have hap:=pa 2 Tryz.f28
 refine wp_region_invS (l:=(opsOf 2 Tryz.f28)) (fun i v W=>match i with|0=>v=p|1=>v=.bool true|2=>v=.bool true|3=>v=q|4=>v=.bool b|5=>v=.bool b|6=>v=.bool b|_=>True) hap ?_ ?_ ?_
 . exact fun _ _ _ _ h _=>h
 . and_intros <;> try (intro vs A' W hA hW hd hu K hK;try (refine wpOp_free _ rfl rfl ?_;conv=>arg 2;whnf))
   . exact qa1 (eO 0 o0)
   . have e13:=vD 13 0;clear hA hd hu o0 o1;go_step
     refine (HC0 W hW).mono ?_
     rintro e w' ⟨rfl,k1⟩
     exact hK _ w' k1 rfl
   . exact qa1 (vD 14 1)
   . exact gq1 2 (vD 15 2) (eO 1 o1)
   . refine qG 2 (vD 15 2) ?_;(conv=>arg 2;whnf);have e16:=vD 16 3;clear hA hd hu o0 o1;go_step
     refine (HC1 W hW).mono ?_
     rintro e w' ⟨rfl,k1⟩
     exact hK _ w' k1 rfl
   . exact qa2 (vD 15 2) (vD 17 4)
   . exact qa1 (vD 18 5)
   . trivial
 . intro vs W hW hp
   rw [putAll_eq]
   exact hend _ W sQ hW (sW (hp 6 sB))
theorem msm_r2B(p q:Value)(HC0:∀ V,Kp [] w V->Calls Tryz.prog 50 #[p] V fun e w'=>e=.returned (.bool false) ∧ Kp [] V w')(hsz:a.tmps.size=161)(o0:Sl a 0 (p))(o1:Sl a 1 (q)):RG1 false 2 Tryz.f28 Q a w fun a' W q'=>Kp [] w W->Sl a' 4 (.bool false)->q':=by
 intro hend
 have hap:=pa 2 Tryz.f28
 refine wp_region_invS (l:=(opsOf 2 Tryz.f28)) (fun i v W=>match i with|0=>v=p|1=>v=.bool false|2=>v=.bool false|5=>v=.bool false|6=>v=.bool false|_=>True) hap ?_ ?_ ?_
 . exact fun _ _ _ _ h _=>h
 . and_intros <;> try (intro vs A' W hA hW hd hu K hK;try (refine wpOp_free _ rfl rfl ?_;conv=>arg 2;whnf))
   . exact qa1 (eO 0 o0)
   . have e13:=vD 13 0;clear hA hd hu o0 o1;go_step
     refine (HC0 W hW).mono ?_
     rintro e w' ⟨rfl,k1⟩
     exact hK _ w' k1 rfl
   . exact qa1 (vD 14 1)
   . exact qS 2 true (vD 15 2)
   . exact qS 2 true (vD 15 2)
   . exact qa2 (vD 15 2) (eU 17 4)
   . exact qa1 (vD 18 5)
   . trivial
 . intro vs W hW hp
   rw [putAll_eq]
   exact hend _ W sQ hW (sW (hp 6 sB))
theorem msame_none(p q:Value)(a b:Bool)(hab:a=false ∨ b=false)(w:World)(hp:MirAt w p a)(hq:MirAt w q b):Calls Tryz.prog 28 #[p,q] w fun e w'=>e=.returned (.bool (!a && !b)) ∧ Kp [] w w':=by
 have H0:∀ V,Kp [] w V->Calls Tryz.prog 50 #[p] V fun e w'=>e=.returned (.bool (!a)) ∧ Kp [] V w':=fun V k=>mnone_any p a V (hp.kp k)
 have H1:∀ V,Kp [] w V->Calls Tryz.prog 50 #[q] V fun e w'=>e=.returned (.bool (!b)) ∧ Kp [] V w':=fun V k=>mnone_any q b V (hq.kp k)
 refine calls_fr Tryz.func28 rfl 161 rfl (fun a0 hsz hdf hAr=>?_)
 have hz0:a0.tmps.size=161:=hsz
 have D:=hdf
 have o0:=hAr 0 _ rfl
 have o1:=hAr 1 _ rfl
 refine wp_seq (msm_r0 hz0 (fun a1 hs1 o4=>?_))
 obtain ⟨hz1,D,o0,o1⟩:=kq2 hs1 hz0 D o0 o1
 cases a
 case true=>
  obtain rfl:b=false:=by simpa using hab
  refine wp_seq (wp_seq (msm_r1B p q true H0 H1 hz1 o0 o1 (fun a2 w2 hs2 k2 o12=>?_)))
  obtain ⟨hz2,D,o0,o1⟩:=kq2 hs2 hz1 D o0 o1
  refine wcT o12 ?_
  refine wp_seq (msm_r2B p q (fun V k=>H0 V (k2.trans k (by simp))) hz2 o0 o1 (fun a3 w3 hs3 k3 o4=>?_))
  obtain ⟨hz3,D,o0,o1,o12⟩:=kq3 hs3 hz2 D o0 o1 o12
  refine wp_ret ?_
  simp only [Exit.then]
  exact bodyPost_ret (res_u1 (by rfl) (o4.eval (by rw [hz3];decide))) D ⟨rfl,k2.trans k3 (by simp)⟩
 refine wp_seq (wp_seq (msm_r1A p q H0 hz1 o0 o1 (fun a2 w2 hs2 k2 o12=>?_)))
 obtain ⟨hz2,D,o0,o1⟩:=kq2 hs2 hz1 D o0 o1
 refine wcT o12 ?_
 refine wp_seq (msm_r2A p q (!b) (fun V k=>H0 V (k2.trans k (by simp))) (fun V k=>H1 V (k2.trans k (by simp))) hz2 o0 o1 (fun a3 w3 hs3 k3 o4=>?_))
 obtain ⟨hz3,D,o0,o1,o12⟩:=kq3 hs3 hz2 D o0 o1 o12
 refine wp_ret ?_
 simp only [Exit.then]
 exact bodyPost_ret (res_u1 (by rfl) (o4.eval (by rw [hz3];decide))) D ⟨rfl,k2.trans k3 (by simp)⟩
theorem mal_r0(w0:World)(z:Int)(L:List Res)(S:Held w0 w L)(hsz:a.tmps.size=21)(o1:Sl a 1 (.int .i64 z)):RG1 false 0 Tryz.f23 Q a w fun a' W q'=>(∃ g3,Sl a' 3 (Pq g3 0) ∧ Held w0 W (blkR g3 2 #[.int .i64 z] :: L))->q':=by
 intro hend
 refine wp_region_lit ?_
 (conv=>arg 4;whnf)
 unfold Sl at o1
 have S1:=LH (S.newBlk 2 #[.int .i64 z])
 go_wp2
 try simp only [Act.put]
 exact hend _ _ tS (⟨w.heap.size,sP0,S1.out⟩)
theorem mal_r1(w0:World)(z:Int)(g3:Nat)(L:List Res)(S:Held w0 w (blkR g3 2 #[.int .i64 z] :: L))(hsz:a.tmps.size=21)(o3:Sl a 3 (Pq g3 0)):RG1 false 1 Tryz.f23 Q a w fun a' W q'=>(Held w0 W (blkR g3 2 #[.int .i64 (max z 0)] :: L))->q':=by
 intro hend
 refine wp_region_lit ?_
 (conv=>arg 4;whnf)
 unfold Sl at o3
 have c0:w.cell? ⟨g3,0,none⟩=some (.int .i64 z):=by rw [(show Blk w g3 2 #[.int .i64 z] from S.at_ (l1:=[])).cell];rfl
 have f0:=(show Blk w g3 2 #[.int .i64 z] from S.at_ (l1:=[])).frozen 0
 have S8:=LH (S.set (l1:=[]) 0 (.int .i64 (max z 0)))
 clear S
 go_wp2_with fail
 try simp only [Act.put]
 exact hend _ _ tS (S8.out)
theorem mal_r2(w0:World)(L:List Res)(S:Held w0 w L)(hsz:a.tmps.size=21):RG1 false 2 Tryz.f23 Q a w fun a' W q'=>(∃ g,Sl a' 5 (Pq g 0) ∧ Held w0 W (blkR g 43 #[.slice none 0 0] :: L))->q':=by
 intro hend
 refine wp_region_lit ?_
 (conv=>arg 4;whnf)
 have S1:=LH (S.newBlk 43 #[.slice none 0 0])
 go_wp2
 try simp only [Act.put]
 exact hend _ _ tS (⟨w.heap.size,sP0,S1.out⟩)
theorem mal_r3(p:Value)(y n:Int)(g3:Nat)(hb:Blk w g3 2 #[.int .i64 y])(HC0:∀ V,Kp [] w V->Calls Tryz.prog 17 #[p] V fun e w'=>e=.returned (.int .i64 n) ∧ Kp [] V w')(hsz:a.tmps.size=21)(o0:Sl a 0 (p))(o3:Sl a 3 (Pq g3 0)):RG1 true 3 Tryz.f23 Q a w fun a' W q'=>Kp [] w.drew W->Sl a' 11 (.bool (decide (y < n)))->q':=by
 intro hend
 have hap:=pa 3 Tryz.f23
 refine wp_region_inv (l:=(opsOf 3 Tryz.f23)) (fun i v W=>match i with|0=>v=.int .i64 y|1=>v=p|2=>v=.int .i64 n|3=>v=.bool (decide (y < n))|_=>True) (by kernel_rfl) hap (by kernel_rfl) ?_ ?_ ?_
 . exact fun _ _ _ _ h _=>h
 . refine ⟨?_,?_,?_,?_,trivial⟩ <;> intro vs A' W hA hW hd K hK
   . have c0:W.cell? ⟨g3,0,none⟩=some (.int .i64 y):=(hb.kp (((Kp.refl [] w).drew).trans hW (by simp)) (by simp)).cell 0
     exact qa1 (eO 3 o3)
   . exact qa1 (eO 0 o0)
   . have e9:=vD 9 1;clear hA hd o0 o3;go_step
     refine (HC0 W (((Kp.refl [] w).drew).trans hW (by simp))).mono ?_
     rintro e w' ⟨rfl,k1⟩
     exact hK _ w' k1 rfl
   . exact qa2 (vD 8 0) (vD 10 2)
 . intro vs W hW hp
   rw [putAll_eq]
   exact hend _ W sQ hW (sW (hp 3 sB))
theorem mal_r5(g5 g3:Nat)(hsz:a.tmps.size=21)(o3:Sl a 3 (Pq g3 0))(o5:Sl a 5 (Pq g5 0)):RG0 5 Tryz.f23 Q a w fun a' q'=>Sl a' 4 (.func (.func 53) #[] #[Pq g5 0,Pq g3 0])->q':=rO
theorem mall_none(p:Value)(z:Int)(w:World)(h:MirAt w p false):Calls Tryz.prog 23 #[p,.int .i64 z] w fun e w'=>∃ g5 g3 y,e=.returned (.func (.func 53) #[] #[Pq g5 0,Pq g3 0]) ∧ Held w w' [blkR g5 43 #[.slice none 0 0],blkR g3 2 #[.int .i64 y]]:=by
 refine calls_fr Tryz.func23 rfl 21 rfl (fun a0 hsz hdf hAr=>?_)
 have hz0:a0.tmps.size=21:=hsz
 have D:=hdf
 have o0:=hAr 0 _ rfl
 have o1:=hAr 1 _ rfl
 refine wp_seq (mal_r0 w z [] (Held.start w) hz0 o1 (fun a1 w1 hs1 h1=>?_))
 obtain ⟨hz1,D,o0,o1⟩:=kq2 hs1 hz0 D o0 o1
 obtain ⟨g3,o3,S⟩:=h1
 refine wp_seq (mal_r1 w z g3 [] S hz1 o3 (fun a2 w2 hs2 S=>?_))
 obtain ⟨hz2,D,o0,o3⟩:=kq2 hs2 hz1 D o0 o3
 obtain ⟨y,hy⟩:∃ y:Int,max z 0=y:=⟨_,rfl⟩
 rw [hy] at S
 have hy0:0<=y:=by omega
 refine wp_seq (mal_r2 w _ S hz2 (fun a3 w3 hs3 h3=>?_))
 obtain ⟨hz3,D,o0,o3⟩:=kq2 hs3 hz2 D o0 o3
 obtain ⟨g5,o5,S⟩:=h3
 refine wp_seq (wp_seq (mal_r3 p y 0 g3 (S.at_ (l1:=[_])) (fun V k=>msize_none p V (h.kp (S.k.trans k (by simp)))) hz3 o0 o3 (fun a4 w4 hs4 k4 o11=>?_)))
 obtain ⟨hz4,D,o0,o3,o5⟩:=kq3 hs4 hz3 D o0 o3 o5
 have S:=S.kp (((Kp.refl [] w3).drew).trans k4 (by simp))
 refine wcF o11 (wp_skip ?_) (by rw [decide_eq_false (by omega)])
 simp only [Exit.then]
 refine wp_seq (mal_r5 g5 g3 hz4 o3 o5 (fun a5 hs5 o4=>?_))
 obtain ⟨hz5,D,o3,o5⟩:=kq2 hs5 hz4 D o3 o5
 refine wp_ret ?_
 exact bodyPost_ret (res_u1 (by rfl) (o4.eval (by rw [hz5];decide))) D ⟨g5,g3,y,rfl,S⟩
theorem ma1_r0(g5:Nat)(A:Option Addr)(n c:Nat)(hb:Blk w g5 43 #[.slice A n c])(hsz:a.tmps.size=22)(o1:Sl a 1 (Pq g5 0)):RG0 0 Tryz.f53 Q a w fun a' q'=>Sl a' 6 (.slice A n c)->Sl a' 7 (Nq n)->Sl a' 8 (Nq 0)->q':=by
 have c0:w.cell? ⟨g5,0,none⟩=some (.slice A n c):=hb.cell 0
 clear hb
 exact rO
theorem ma1_r1(k n:Nat)(hsz:a.tmps.size=22)(o7:Sl a 7 (Nq n))(o8:Sl a 8 (Nq k)):RG0 1 Tryz.f53 Q a w fun a' q'=>Sl a' 9 (.bool (decide (k < n)))->q':=rO
theorem mall_seq0(g5 g3:Nat)(w:World)(hb:Blk w g5 43 #[.slice none 0 0])(n:Nat):
 SeqW Tryz.prog n 53 #[Pq g5 0,Pq g3 0] (fun _:Unit=>#[(.int .i64 0),(.int .i64 0)]) (fun _ _=>True) (fun _ _ _ _=>False) (fun xs=>xs=[]) (fun _=>False) 0 w:=by
 intro ll J Jx W hk hJ hJx hY h0
 refine callsIn_wide.2 ?_
 refine calls_fr Tryz.func53 rfl 22 rfl (fun a0 hsz hdf hAr=>?_)
 have hz0:a0.tmps.size=22:=hsz
 have D:=hdf
 have o0:=hAr 0 _ rfl
 have o1:=hAr 1 _ rfl
 have o2:=hAr 2 _ rfl
 refine wp_seq (ma1_r0 g5 none 0 0 (hb.kp hk (by simp)) hz0 o1 (fun a1 hs1 o6 o7 o8=>?_))
 obtain ⟨hz1,D,o0,o1,o2⟩:=kq3 hs1 hz0 D o0 o1 o2
 refine wp_block ?_
 (conv=>arg 2;whnf)
 refine wp_loop (fun a' w'=>a'.tmps.size=22 ∧ a'.defers=[] ∧ Sl a' 7 (Nq 0) ∧ Sl a' 8 (Nq 0) ∧ J [] w') (fun a' _=>0) ⟨hz1,D,o7,o8,h0⟩ ?_
 iterate 9 (try clear o7)
 iterate 9 (try clear o8)
 iterate 9 (try clear D)
 rintro a2 w2 ⟨hz2,D,o7,o8,hJ2⟩
 refine wp_seq (ma1_r1 0 0 hz2 o7 o8 (fun a3 hs3 o9=>?_))
 obtain ⟨hz3,D,o7,o8⟩:=kq2 hs3 hz2 D o7 o8
 refine wp_seq (wcF o9 (wp_exit ?_))
 simp only [Exit.then,Exit.inBlock]
 exact ⟨D,_,res_u0 (by rfl),⟨_,rfl⟩,.inl ⟨[],rfl,hJ2⟩⟩
end
end Go.Proofs.YtmkfopmdingaoaaGreatDoor
