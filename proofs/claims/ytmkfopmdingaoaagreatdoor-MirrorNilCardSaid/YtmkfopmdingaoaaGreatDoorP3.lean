/- Several texts in one: ShaW, ShaV, ShaE, Cut, ShaI, PtN, PtE, PtEP, PtF, PtG, ShaJ, ShaK, ShaL, ShaO, ShaP, CrcF, CrcG, CrcH, CrcI, CrcM2, WireT, RecA, RecB, WireU, Conv, WireV, PtK, PtJ, WireW, WireX, WireY, WireZ, WireAA, WireAB, WireBA, WireBB, WireBC, WireBD, WireBE, WireBF, WireBG, WireBH, EntM, EntA, EntB, WList, EntC, EntD, EntE, EntR, PtR, Keep, Full, PtL, WireBI, Guard, PtS, PtH, PtEq, PtP, PtReads, PtPuts, RecV, RecW, PtTurned, PtCmp, PtCmq, PtCmr, PtLast, SigM, SigA, SigB. -/
import Derived.Laws.CopyOwn
import Derived.Lib.ItoaNum
import Derived.Lib.ParseIntB
import Derived.Lib.Bytealg
import Derived.WalkKit
import Derived.Test.YtmkfopmdingaoaaGreatDoorShelf
import Derived.Lib.SmallJoins
import Derived.Lib.AtoiErrMem
import Derived.Laws.Bits128
import Derived.Lib.SlBytesConst
import Derived.Laws.Tables
import Derived.Laws.Cover3
import Derived.DeepKeys
import Derived.Laws.StructEq
import Derived.Test.YtmkfopmdingaoaaGreatDoorP2
set_option linter.unusedVariables false
set_option linter.unusedSimpArgs false
set_option maxRecDepth 100000
set_option maxHeartbeats 8000000
namespace Go.Proofs.YtmkfopmdingaoaaGreatDoor
section
variable {Q:Exit->Act->World->Prop} {a:Act} {w:World}
open Go.RowKit
theorem sblk_r3(k:Nat)(hsz:a.tmps.size=172)(o18:Sl a 18 (.int .i64 (k:Int))):RG0 3 Tryz.f147 Q a w fun a' q'=>Sl a' 19 (.bool (decide ((k:Int) < 16)))->q':=rO
theorem sblk_r4(k:Nat)(hsz:a.tmps.size=172)(o18:Sl a 18 (.int .i64 (k:Int))):RG0 4 Tryz.f147 Q a w fun a' q'=>Sl a' 6 (.int .i64 (k:Int))->q':=rO
theorem sblk_r5(w0:World)(k g5 g3:Nat)(L:List Nat)(b:Bs)(R:List Res)(hlt:k < 16)(hbl:b.length=64)(hL:L.length=k)(S:Held w0 w (blkR g5 226 (u32A (pz L)) :: blkR g3 181 (hashA b) :: R))(hsz:a.tmps.size=172)(o3:Sl a 3 (Pq g3 0))(o5:Sl a 5 (Pq g5 0))(o6:Sl a 6 (.int .i64 (k:Int))):RG1 false 5 Tryz.f147 Q a w fun a' W q'=>(Held w0 W (blkR g5 226 (u32A (pz (L ++ [num ((b.drop (4 * k)).take 4)]))) :: blkR g3 181 (hashA b) :: R))->q':=by
 intro hend
 refine wp_region_lit ?_
 (conv=>arg 4;whnf)
 unfold Sl at o3 o5 o6
 have S:=LH S
 have HBl:=LH hbl
 have HP:=LH (pz_next (l:=L) (by omega) (num ((b.drop (4 * k)).take 4)))
 rw [hL] at HP
 have HR:Hid (Calls Tryz.prog 158 #[.slice (some ⟨g3,4 * k,none⟩) (64 - 4 * k) (64 - 4 * k)] w fun e w'=>e=.returned (.int .u32 ((num ((b.drop (4 * k)).take 4):Nat):Int)) ∧ w=w'):=LH (by
  have:=bytes_rd (S.out.at_ (l1:=[_])) (4 * k) (by rw [hbl];omega) (by rw [hbl];omega)
  rw [hbl] at this
  exact word_any _ _ _ (by omega) w this)
 generalize num ((b.drop (4 * k)).take 4)=nw at *
 have hpl:k < (pz L).length:=by rw [pz_length (by omega)];omega
 have q1:=u32_cell (S.out.at_ (l1:=[])) k _ (getD_at hpl)
 have q2:=(S.out.at_ (l1:=[])).frozen k
 have q3:=(S.out.at_ (l1:=[])).lt
 have S2:Hid (Held w0 (w.setCell ⟨g5,k,none⟩ (.int .u32 (nw:Int))) _):=LH (S.out.set (l1:=[]) k (.int .u32 (nw:Int)))
 rw [u32A_set,HP.out] at S2
 clear hpl hL hbl
 have hs:=Tryz.slice64 g3 w (4 * k) (4 * (k:Int)) (by omega) (by omega)
 go_wp2_with fail
 refine HR.out.mono ?_
 rintro e w' ⟨rfl,rfl⟩
 go_wp2
 try simp only [Act.put]
 exact hend _ _ tS (S2.out)
theorem sblk_r6(k:Nat)(hk:k < 16)(hsz:a.tmps.size=172)(o18:Sl a 18 (.int .i64 (k:Int))):RG0 6 Tryz.f147 Q a w fun a' q'=>Sl a' 18 (Nq (k+1))->q':=rO
theorem sblk_r8(n:Nat)(hsz:a.tmps.size=172)(o7:Sl a 7 (.int .i64 (n:Int))):RG0 8 Tryz.f147 Q a w fun a' q'=>Sl a' 29 (.bool (decide ((n:Int) < 64)))->q':=rO
theorem sblk_r9(n:Nat)(hn:n < 64)(hsz:a.tmps.size=172)(o7:Sl a 7 (.int .i64 (n:Int))):RG0 9 Tryz.f147 Q a w fun a' q'=>Sl a' 7 (Nq (n+1))->q':=rO
theorem sblk_r10(j g5 x y:Nat)(L:List Nat)(hlt:j < 48)(HX:Hid (L[j+1]?=some x))(HY:Hid (L[j+14]?=some y))(HW:Hid (∀ V,Kp [] w V->∀ i x:Nat,L[i]?=some x->V.cell? ⟨g5,i,none⟩=some (.int .u32 (x:Int))))(hsz:a.tmps.size=172)(o5:Sl a 5 (Pq g5 0))(o7:Sl a 7 (Nq (j+16))):RG1 true 10 Tryz.f147 Q a w fun a' W q'=>Kp [] w.drew W->Sl a' 8 (.int .u32 (x:Int))->Sl a' 9 (.int .u32 (y:Int))->q':=by
 intro hend
 have hap:=pa 10 Tryz.f147
 refine wp_region_inv (l:=(opsOf 10 Tryz.f147)) (fun i v W=>match i with|0=>v=Nq (j+16)|1=>v=Nq (j+1)|2=>v=.pointer (some ⟨g5,j+1,none⟩)|3=>v=.int .u32 (x:Int)|4=>v=Nq (j+16)|5=>v=Nq (j+14)|6=>v=.pointer (some ⟨g5,j+14,none⟩)|7=>v=.int .u32 (y:Int)|8=>v=.int .u32 (x:Int)|9=>v=.int .u32 (y:Int)|_=>True) (by kernel_rfl) hap (by kernel_rfl) ?_ ?_ ?_
 . exact fun _ _ _ _ h _=>h
 . and_intros <;> try intro vs A' W hA hW hd K hK
   . exact qa1 (eO 7 o7)
   . have e32:=vD 32 0;clear hA hd o5 o7;go_step
     exact hK _ _ kR (congrArg (Value.int .i64) (by first|omega|(unfold wrap64;omega)))
   . have h0:0<=(j:Int)+1:=by omega
     have h1:(j:Int)+1 < 64:=by omega
     exact qa2 (eO 5 o5) (vD 33 1)
   . have c0:=HW.out W ((Kp.refl [] _).drew.trans hW (by simp)) (j+1) x HX.out
     exact qa1 (vD 34 2)
   . exact qa1 (eO 7 o7)
   . have e36:=vD 36 4;clear hA hd o5 o7;go_step
     exact hK _ _ kR (congrArg (Value.int .i64) (by first|omega|(unfold wrap64;omega)))
   . have h0:0<=(j:Int)+14:=by omega
     have h1:(j:Int)+14 < 64:=by omega
     exact qa2 (eO 5 o5) (vD 37 5)
   . have c0:=HW.out W ((Kp.refl [] _).drew.trans hW (by simp)) (j+14) y HY.out
     exact qa1 (vD 38 6)
   . exact qa1 (vD 35 3)
   . exact qa1 (vD 39 7)
   . trivial
 . intro vs W hW hp
   rw [putAll_eq]
   exact hend _ W sQ hW (sW (hp 8 sB)) (sW (hp 9 sB))
theorem sblk_r11(w0:World)(j g5:Nat)(L:List Nat)(R:List Res)(hlt:j < 48)(a1 c m:Nat)(HA:L[j]?=some a1)(HC:L[j+9]?=some c)(HM:L[j+16]?=some m)(hsz:a.tmps.size=172)(o5:Sl a 5 (Pq g5 0))(o7:Sl a 7 (Nq (j+16)))
 (S0:Held w0 w (blkR g5 226 (u32A L) :: R)):RG1 true 11 Tryz.f147 Q a w fun a' W q'=>Held w0 W (blkR g5 226 (u32A (L.set (j+16) ((a1+c) % 4294967296))) :: R)->q':=by
 intro hend
 have hap:=pa 11 Tryz.f147
 refine wp_region_sep (Γ:=Unit) (l:=(opsOf 11 Tryz.f147)) 2 [0,1,2,3,4,5,6,7,8,9,10,11,13]
  (fun i vs gs=>match i with|0=>vs 0=Nq (j+16)|1=>vs 1=Nq (j+16)|2=>vs 2=.int .i64 (j:Int)|3=>vs 3=.pointer (some ⟨g5,j,none⟩)|4=>vs 4=.int .u32 ((a1:Nat):Int)|5=>vs 5=Nq (j+16)|6=>vs 6=Nq (j+9)|7=>vs 7=.pointer (some ⟨g5,j+9,none⟩)|8=>vs 8=.int .u32 ((c:Nat):Int)|9=>vs 9=.int .u32 (((a1+c) % 4294967296:Nat):Int)|10=>vs 10=.pointer (some ⟨g5,j+16,none⟩)|_=>True)
  (fun i vs gs=>match i with|11=>[blkR g5 226 (u32A (L.set (j+16) ((a1+c) % 4294967296)))]|12=>[blkR g5 226 (u32A (L))]|13=>R|_=>[])
  (fun i=>match i with|11=>[12]|_=>[]) (fun i=>match i with|4=>[12]|8=>[12]|_=>[]) S0 (by kernel_rfl) hap (by kernel_rfl) (by kernel_rfl) (fun i=>match i with|0=>[0]|1=>[1]|2=>[2]|3=>[3]|4=>[4]|5=>[5]|6=>[6]|7=>[7]|8=>[8]|9=>[9]|10=>[10]|_=>[]) (by kernel_rfl) ?_ (by kernel_rfl) ?_ ?_ ?_
 . intro s vs vs' gs gs' h
   iterate 14 (rcases s with _|s;· (first|exact ⟨rfl,id⟩|(simp only [List.mem_cons,List.not_mem_nil,or_false,forall_eq] at h;simp [h])))
   exact ⟨rfl,id⟩
 . simp only [List.range,List.range.loop,List.flatMap_cons,List.flatMap_nil,List.append_nil]
   exact List.Perm.refl _
 . clear S0 hend
   and_intros <;> try intro vs gs A' W LF hA S hR hd hu K hK
   . exact qa1 (eO 7 o7)
   . exact qa1 (eO 7 o7)
   . replace hK:=hK default;have e41:=vD 41 1;clear hA o5 o7;go_step
     exact hK _ _ S (congrArg (Value.int .i64) (by first|omega|(unfold wrap64;omega)))
   . have h0:0<=(j:Int):=by omega
     have h1:(j:Int) < 64:=by omega
     exact qa2 (eO 5 o5) (vD 42 2)
   . have c0:=u32_cell (S.ok (blkR g5 226 (u32A (L))) (hR 12 (List.mem_singleton.2 rfl) _ (List.mem_singleton.2 rfl))) (j) (a1) HA
     exact qa1 (vD 43 3)
   . exact qa1 (eO 7 o7)
   . replace hK:=hK default;have e45:=vD 45 5;clear hA o5 o7;go_step
     exact hK _ _ S (congrArg (Value.int .i64) (by first|omega|(unfold wrap64;omega)))
   . have h0:0<=(j:Int)+9:=by omega
     have h1:(j:Int)+9 < 64:=by omega
     exact qa2 (eO 5 o5) (vD 46 6)
   . have c0:=u32_cell (S.ok (blkR g5 226 (u32A (L))) (hR 12 (List.mem_singleton.2 rfl) _ (List.mem_singleton.2 rfl))) (j+9) (c) HC
     exact qa1 (vD 47 7)
   . replace hK:=hK default;have e44:=vD 44 4;have e48:=vD 48 8;clear hA o5 o7;go_step
     exact hK _ _ S (congrArg (Value.int .u32) (by first|omega|rfl))
   . have h0:0<=(j:Int)+16:=by omega
     have h1:(j:Int)+16 < 64:=by omega
     exact qa2 (eO 5 o5) (vD 40 0)
   . replace hK:=hK default;have e50:=vD 50 10;have e49:=vD 49 9;clear hA o5 o7
     have S1:Held w0 W (blkR g5 226 (u32A (L)) :: LF):=S
     have q1:=u32_cell (S1.at_ (l1:=[])) (j+16) _ (HM)
     have q2:=(S1.at_ (l1:=[])).frozen (j+16)
     have q3:=(S1.at_ (l1:=[])).lt
     go_step;have S2:=S1.set (l1:=[]) (j+16) (.int .u32 (((a1+c) % 4294967296:Nat):Int))
     rw [u32A_set] at S2
     exact hK undef _ S2 trivial
   . trivial
 . intro vs gs W S hp
   have S:Held w0 W (blkR g5 226 (u32A (L.set (j+16) ((a1+c) % 4294967296))) :: R):=by simpa only [List.flatMap_cons,List.flatMap_nil,List.append_nil,List.nil_append,List.cons_append,List.append_assoc] using S
   rw [putAll_eq]
   exact hend _ W sQ  S
theorem sblk_r12(w0:World)(j g5:Nat)(L:List Nat)(R:List Res)(hlt:j < 48)(m x:Nat)(HM:L[j+16]?=some m)(HXl:x < 4294967296)(hsz:a.tmps.size=172)(o5:Sl a 5 (Pq g5 0))(o7:Sl a 7 (Nq (j+16)))(o8:Sl a 8 (.int .u32 ((x:Nat):Int)))
 (S0:Held w0 w (blkR g5 226 (u32A L) :: R)):RG1 true 12 Tryz.f147 Q a w fun a' W q'=>Held w0 W (blkR g5 226 (u32A (L.set (j+16) ((m+sg0 x) % 4294967296))) :: R)->q':=by
 intro hend
 have hap:=pa 12 Tryz.f147
 refine wp_region_sep (Γ:=Unit) (l:=(opsOf 12 Tryz.f147)) 2 [0,1,2,3,4,5,6,7,8,9,10,11,12,13,15]
  (fun i vs gs=>match i with|0=>vs 0=Nq (j+16)|1=>vs 1=.pointer (some ⟨g5,j+16,none⟩)|2=>vs 2=.int .u32 ((m:Nat):Int)|3=>vs 3=.int .u32 ((x:Nat):Int)|4=>vs 4=.int .u32 ((rotr x 7:Nat):Int)|5=>vs 5=.int .u32 ((x:Nat):Int)|6=>vs 6=.int .u32 ((rotr x 18:Nat):Int)|7=>vs 7=.int .u32 ((rotr x 7 ^^^ rotr x 18:Nat):Int)|8=>vs 8=.int .u32 ((x:Nat):Int)|9=>vs 9=.int .u32 ((x / 8:Nat):Int)|10=>vs 10=.int .u32 ((sg0 x:Nat):Int)|11=>vs 11=.int .u32 (((m+sg0 x) % 4294967296:Nat):Int)|12=>vs 12=.pointer (some ⟨g5,j+16,none⟩)|_=>True)
  (fun i vs gs=>match i with|13=>[blkR g5 226 (u32A (L.set (j+16) ((m+sg0 x) % 4294967296)))]|14=>[blkR g5 226 (u32A (L))]|15=>R|_=>[])
  (fun i=>match i with|13=>[14]|_=>[]) (fun i=>match i with|2=>[14]|_=>[]) S0 (by kernel_rfl) hap (by kernel_rfl) (by kernel_rfl) (fun i=>match i with|0=>[0]|1=>[1]|2=>[2]|3=>[3]|4=>[4]|5=>[5]|6=>[6]|7=>[7]|8=>[8]|9=>[9]|10=>[10]|11=>[11]|12=>[12]|_=>[]) (by kernel_rfl) ?_ (by kernel_rfl) ?_ ?_ ?_
 . intro s vs vs' gs gs' h
   iterate 16 (rcases s with _|s;· (first|exact ⟨rfl,id⟩|(simp only [List.mem_cons,List.not_mem_nil,or_false,forall_eq] at h;simp [h])))
   exact ⟨rfl,id⟩
 . simp only [List.range,List.range.loop,List.flatMap_cons,List.flatMap_nil,List.append_nil]
   exact List.Perm.refl _
 . clear S0 hend
   and_intros <;> try intro vs gs A' W LF hA S hR hd hu K hK
   . exact qa1 (eO 7 o7)
   . have h0:0<=(j:Int)+16:=by omega
     have h1:(j:Int)+16 < 64:=by omega
     exact qa2 (eO 5 o5) (vD 51 0)
   . have c0:=u32_cell (S.ok (blkR g5 226 (u32A (L))) (hR 14 (List.mem_singleton.2 rfl) _ (List.mem_singleton.2 rfl))) (j+16) (m) HM
     exact qa1 (vD 52 1)
   . exact qa1 (eO 8 o8)
   . replace hK:=hK default;have e54:=vD 54 3;clear hA o5 o7 o8;go_step
     refine (srot_any x 7 7 rfl HXl (by unfold rotK;omega) W).mono ?_
     rintro e w' ⟨rfl,rfl⟩
     exact hK _ _ S rfl
   . exact qa1 (eO 8 o8)
   . replace hK:=hK default;have e56:=vD 56 5;clear hA o5 o7 o8;go_step
     refine (srot_any x 18 18 rfl HXl (by unfold rotK;omega) W).mono ?_
     rintro e w' ⟨rfl,rfl⟩
     exact hK _ _ S rfl
   . replace hK:=hK default;have e55:=vD 55 4;have e57:=vD 57 6;clear hA o5 o7 o8;go_step
     exact hK _ _ S (congrArg (Value.int .u32) (u32_x _ _ (rotr_lt HXl) (rotr_lt HXl)))
   . exact qa1 (eO 8 o8)
   . replace hK:=hK default;have e59:=vD 59 8;clear hA o5 o7 o8;go_step
     exact hK _ _ S (congrArg (Value.int .u32) (by first|omega|rfl))
   . replace hK:=hK default;have e58:=vD 58 7;have e60:=vD 60 9;clear hA o5 o7 o8;go_step
     exact hK _ _ S (congrArg (Value.int .u32) (u32_x _ _ (xor_lt (rotr_lt HXl) (rotr_lt HXl)) (div_lt HXl)))
   . replace hK:=hK default;have e53:=vD 53 2;have e61:=vD 61 10;clear hA o5 o7 o8;go_step
     exact hK _ _ S (congrArg (Value.int .u32) (by first|omega|rfl))
   . have h0:0<=(j:Int)+16:=by omega
     have h1:(j:Int)+16 < 64:=by omega
     exact qa2 (eO 5 o5) (vD 51 0)
   . replace hK:=hK default;have e63:=vD 63 12;have e62:=vD 62 11;clear hA o5 o7 o8
     have S1:Held w0 W (blkR g5 226 (u32A (L)) :: LF):=S
     have q1:=u32_cell (S1.at_ (l1:=[])) (j+16) _ (HM)
     have q2:=(S1.at_ (l1:=[])).frozen (j+16)
     have q3:=(S1.at_ (l1:=[])).lt
     go_step;have S2:=S1.set (l1:=[]) (j+16) (.int .u32 (((m+sg0 x) % 4294967296:Nat):Int))
     rw [u32A_set] at S2
     exact hK undef _ S2 trivial
   . trivial
 . intro vs gs W S hp
   have S:Held w0 W (blkR g5 226 (u32A (L.set (j+16) ((m+sg0 x) % 4294967296))) :: R):=by simpa only [List.flatMap_cons,List.flatMap_nil,List.append_nil,List.nil_append,List.cons_append,List.append_assoc] using S
   rw [putAll_eq]
   exact hend _ W sQ  S
theorem sblk_r13(w0:World)(j g5:Nat)(L:List Nat)(R:List Res)(hlt:j < 48)(m y:Nat)(HM:L[j+16]?=some m)(HYl:y < 4294967296)(hsz:a.tmps.size=172)(o5:Sl a 5 (Pq g5 0))(o7:Sl a 7 (Nq (j+16)))(o9:Sl a 9 (.int .u32 ((y:Nat):Int)))
 (S0:Held w0 w (blkR g5 226 (u32A L) :: R)):RG1 true 13 Tryz.f147 Q a w fun a' W q'=>Held w0 W (blkR g5 226 (u32A (L.set (j+16) ((m+sg1 y) % 4294967296))) :: R)->q':=by
 intro hend
 have hap:=pa 13 Tryz.f147
 refine wp_region_sep (Γ:=Unit) (l:=(opsOf 13 Tryz.f147)) 2 [0,1,2,3,4,5,6,7,8,9,10,11,12,13,15]
  (fun i vs gs=>match i with|0=>vs 0=Nq (j+16)|1=>vs 1=.pointer (some ⟨g5,j+16,none⟩)|2=>vs 2=.int .u32 ((m:Nat):Int)|3=>vs 3=.int .u32 ((y:Nat):Int)|4=>vs 4=.int .u32 ((rotr y 17:Nat):Int)|5=>vs 5=.int .u32 ((y:Nat):Int)|6=>vs 6=.int .u32 ((rotr y 19:Nat):Int)|7=>vs 7=.int .u32 ((rotr y 17 ^^^ rotr y 19:Nat):Int)|8=>vs 8=.int .u32 ((y:Nat):Int)|9=>vs 9=.int .u32 ((y / 1024:Nat):Int)|10=>vs 10=.int .u32 ((sg1 y:Nat):Int)|11=>vs 11=.int .u32 (((m+sg1 y) % 4294967296:Nat):Int)|12=>vs 12=.pointer (some ⟨g5,j+16,none⟩)|_=>True)
  (fun i vs gs=>match i with|13=>[blkR g5 226 (u32A (L.set (j+16) ((m+sg1 y) % 4294967296)))]|14=>[blkR g5 226 (u32A (L))]|15=>R|_=>[])
  (fun i=>match i with|13=>[14]|_=>[]) (fun i=>match i with|2=>[14]|_=>[]) S0 (by kernel_rfl) hap (by kernel_rfl) (by kernel_rfl) (fun i=>match i with|0=>[0]|1=>[1]|2=>[2]|3=>[3]|4=>[4]|5=>[5]|6=>[6]|7=>[7]|8=>[8]|9=>[9]|10=>[10]|11=>[11]|12=>[12]|_=>[]) (by kernel_rfl) ?_ (by kernel_rfl) ?_ ?_ ?_
 . intro s vs vs' gs gs' h
   iterate 16 (rcases s with _|s;· (first|exact ⟨rfl,id⟩|(simp only [List.mem_cons,List.not_mem_nil,or_false,forall_eq] at h;simp [h])))
   exact ⟨rfl,id⟩
 . simp only [List.range,List.range.loop,List.flatMap_cons,List.flatMap_nil,List.append_nil]
   exact List.Perm.refl _
 . clear S0 hend
   and_intros <;> try intro vs gs A' W LF hA S hR hd hu K hK
   . exact qa1 (eO 7 o7)
   . have h0:0<=(j:Int)+16:=by omega
     have h1:(j:Int)+16 < 64:=by omega
     exact qa2 (eO 5 o5) (vD 64 0)
   . have c0:=u32_cell (S.ok (blkR g5 226 (u32A (L))) (hR 14 (List.mem_singleton.2 rfl) _ (List.mem_singleton.2 rfl))) (j+16) (m) HM
     exact qa1 (vD 65 1)
   . exact qa1 (eO 9 o9)
   . replace hK:=hK default;have e67:=vD 67 3;clear hA o5 o7 o9;go_step
     refine (srot_any y 17 17 rfl HYl (by unfold rotK;omega) W).mono ?_
     rintro e w' ⟨rfl,rfl⟩
     exact hK _ _ S rfl
   . exact qa1 (eO 9 o9)
   . replace hK:=hK default;have e69:=vD 69 5;clear hA o5 o7 o9;go_step
     refine (srot_any y 19 19 rfl HYl (by unfold rotK;omega) W).mono ?_
     rintro e w' ⟨rfl,rfl⟩
     exact hK _ _ S rfl
   . replace hK:=hK default;have e68:=vD 68 4;have e70:=vD 70 6;clear hA o5 o7 o9;go_step
     exact hK _ _ S (congrArg (Value.int .u32) (u32_x _ _ (rotr_lt HYl) (rotr_lt HYl)))
   . exact qa1 (eO 9 o9)
   . replace hK:=hK default;have e72:=vD 72 8;clear hA o5 o7 o9;go_step
     exact hK _ _ S (congrArg (Value.int .u32) (by first|omega|rfl))
   . replace hK:=hK default;have e71:=vD 71 7;have e73:=vD 73 9;clear hA o5 o7 o9;go_step
     exact hK _ _ S (congrArg (Value.int .u32) (u32_x _ _ (xor_lt (rotr_lt HYl) (rotr_lt HYl)) (div_lt HYl)))
   . replace hK:=hK default;have e66:=vD 66 2;have e74:=vD 74 10;clear hA o5 o7 o9;go_step
     exact hK _ _ S (congrArg (Value.int .u32) (by first|omega|rfl))
   . have h0:0<=(j:Int)+16:=by omega
     have h1:(j:Int)+16 < 64:=by omega
     exact qa2 (eO 5 o5) (vD 64 0)
   . replace hK:=hK default;have e76:=vD 76 12;have e75:=vD 75 11;clear hA o5 o7 o9
     have S1:Held w0 W (blkR g5 226 (u32A (L)) :: LF):=S
     have q1:=u32_cell (S1.at_ (l1:=[])) (j+16) _ (HM)
     have q2:=(S1.at_ (l1:=[])).frozen (j+16)
     have q3:=(S1.at_ (l1:=[])).lt
     go_step;have S2:=S1.set (l1:=[]) (j+16) (.int .u32 (((m+sg1 y) % 4294967296:Nat):Int))
     rw [u32A_set] at S2
     exact hK undef _ S2 trivial
   . trivial
 . intro vs gs W S hp
   have S:Held w0 W (blkR g5 226 (u32A (L.set (j+16) ((m+sg1 y) % 4294967296))) :: R):=by simpa only [List.flatMap_cons,List.flatMap_nil,List.append_nil,List.nil_append,List.cons_append,List.append_assoc] using S
   rw [putAll_eq]
   exact hend _ W sQ  S
end
section
variable {Q:Exit->Act->World->Prop} {a:Act} {w:World}
open Go.RowKit
theorem sblk_r0(w0:World)(st:List Nat)(b:Bs)(L:List Res)(S:Held w0 w L)(hsz:a.tmps.size=172)(o0:Sl a 0 (.agg (u32A st)))(o1:Sl a 1 (.agg (hashA b))):RG1 false 0 Tryz.f147 Q a w fun a' W q'=>(∃ g2 g3 g4,Sl a' 2 (Pq g2 0) ∧ Sl a' 3 (Pq g3 0) ∧ Sl a' 4 (Pq g4 0) ∧ Held w0 W (blkR g4 205 (u32A (List.replicate 8 0)) :: blkR g3 181 (hashA b) :: blkR g2 205 (u32A st) :: L))->q':=by
 intro hend
 refine wp_region_lit ?_
 (conv=>arg 4;whnf)
 unfold Sl at o0 o1
 have S0:=LH (((S.newBlk 205 (u32A st)).newBlk 181 (hashA b)).newBlk 205 (u32A (List.replicate 8 0)))
 simp only [World.size_alloc] at S0
 generalize hca:u32A st=ca at *
 generalize hcb:hashA b=cb at *
 go_wp2
 try simp only [Act.put]
 exact hend _ _ tS (⟨w.heap.size,w.heap.size+1,w.heap.size+1+1,sP0,sP0,sP0,S0.out⟩)
theorem sblk_r1(w0:World)(L:List Res)(S:Held w0 w L)(hsz:a.tmps.size=172):RG1 false 1 Tryz.f147 Q a w fun a' W q'=>(∃ g5,Sl a' 5 (Pq g5 0) ∧ Held w0 W (blkR g5 226 (u32A (List.replicate 64 0)) :: L))->q':=by
 intro hend
 refine wp_region_lit ?_
 (conv=>arg 4;whnf)
 have S0:=LH (S.newBlk 226 (u32A (List.replicate 64 0)))
 go_wp2
 try simp only [Act.put]
 exact hend _ _ tS (⟨w.heap.size,sP0,S0.out⟩)
theorem sblk_r2(hsz:a.tmps.size=172):RG0 2 Tryz.f147 Q a w fun a' q'=>Sl a' 18 (Nq 0)->q':=by
 intro hend
 refine wp_region_lit ?_
 (conv=>arg 4;whnf)
 go_wp2_with fail
 try simp only [Act.put]
 exact hend _ tS sP
theorem sblk_r7(hsz:a.tmps.size=172):RG0 7 Tryz.f147 Q a w fun a' q'=>Sl a' 7 (Nq 16)->q':=by
 intro hend
 refine wp_region_lit ?_
 (conv=>arg 4;whnf)
 go_wp2_with fail
 try simp only [Act.put]
 exact hend _ tS sP
theorem sblk_r14(w0:World)(L:List Res)(S:Held w0 w L)(hsz:a.tmps.size=172):RG1 false 14 Tryz.f147 Q a w fun a' W q'=>(∃ g10,Sl a' 10 (Pq g10 0) ∧ Held w0 W (blkR g10 226 (u32A kT) :: L))->q':=by
 intro hend
 refine wp_region_lit ?_
 (conv=>arg 4;whnf)
 have S:=LH S
 go_wp2_with fail
 refine (stable_any _).mono ?_
 rintro e w5 ⟨rfl,k5⟩
 have S5:=LH (S.out.kp k5)
 clear k5
 go_wp2_with (refine wpList_store_blk rfl 226 (.tmp 10) (.tmp 77) rfl w5.heap.size aE (u32A kT) aE 226 _ (Blk.new w5 226 _) (by rw [u32A_size];exact Tryz.info64w) (by rw [u32A_size];rfl) (u32A_one kT) ?_;intro w6 b6 k6;have S6:=LH (Held.setBlk (l1:=[]) (S5.out.newBlk 226 _) b6 k6);clear b6 k6)
 try simp only [Act.put]
 exact hend _ _ tS (⟨_,sP0,S6.out⟩)
theorem sblk_r15(w0:World)(g2:Nat)(st:List Nat)(hsl:st.length=8)(L1 L2:List Res)(S:Held w0 w (L1 ++ blkR g2 205 (u32A st) :: L2))(hsz:a.tmps.size=172)(o2:Sl a 2 (Pq g2 0)):RG1 false 15 Tryz.f147 Q a w fun a' W q'=>(∃ g11,Sl a' 11 (Pq g11 0) ∧ Held w0 W (blkR g11 205 (u32A st) :: (L1 ++ blkR g2 205 (u32A st) :: L2)))->q':=by
 intro hend
 refine wp_region_lit ?_
 (conv=>arg 4;whnf)
 unfold Sl at o2
 have S:=LH S
 have HSl:=LH hsl
 clear hsl
 go_wp2_with (first
  |(refine wpList_load_blk rfl 205 (.tmp 2) rfl g2 (aO o2) 205 _ S.out.at_ _ Tryz.underlying205 rfl (by rw [u32A_size,HSl.out];exact Tryz.info8w) ?_)
  |(refine wpList_store_blk rfl 205 (.tmp 11) (.tmp 78) rfl w.heap.size aE (u32A st) aE 205 _ (Blk.new w 205 _) (by rw [u32A_size,HSl.out];exact Tryz.info8w) (by rw [u32A_size,HSl.out];rfl) (u32A_one st) ?_;intro w7 b7 k7;have S7:=LH (Held.setBlk (l1:=[]) (S.out.newBlk 205 _) b7 k7);clear b7 k7))
 try simp only [Act.put]
 exact hend _ _ tS (⟨_,sP0,S7.out⟩)
theorem sblk_r16(hsz:a.tmps.size=172):RG0 16 Tryz.f147 Q a w fun a' q'=>Sl a' 79 (.int .i64 0)->q':=by
 intro hend
 refine wp_region_lit ?_
 (conv=>arg 4;whnf)
 go_wp2_with fail
 try simp only [Act.put]
 exact hend _ tS sP
theorem sblk_r24(hsz:a.tmps.size=172):RG0 24 Tryz.f147 Q a w fun a' q'=>Sl a' 159 (Nq 0)->q':=by
 intro hend
 refine wp_region_lit ?_
 (conv=>arg 4;whnf)
 go_wp2_with fail
 try simp only [Act.put]
 exact hend _ tS sP
theorem sblk_r25(k:Nat)(hsz:a.tmps.size=172)(o159:Sl a 159 (.int .i64 (k:Int))):RG0 25 Tryz.f147 Q a w fun a' q'=>Sl a' 160 (.bool (decide ((k:Int) < 8)))->q':=by
 intro hend
 refine wp_region_lit ?_
 (conv=>arg 4;whnf)
 unfold Sl at o159
 go_wp2_with fail
 try simp only [Act.put]
 exact hend _ tS sP
theorem sblk_r26(k:Nat)(hsz:a.tmps.size=172)(o159:Sl a 159 (.int .i64 (k:Int))):RG0 26 Tryz.f147 Q a w fun a' q'=>Sl a' 17 (.int .i64 (k:Int))->q':=by
 intro hend
 refine wp_region_lit ?_
 (conv=>arg 4;whnf)
 unfold Sl at o159
 go_wp2_with fail
 try simp only [Act.put]
 exact hend _ tS sP
theorem sblk_r28(k:Nat)(hk:k < 8)(hsz:a.tmps.size=172)(o159:Sl a 159 (.int .i64 (k:Int))):RG0 28 Tryz.f147 Q a w fun a' q'=>Sl a' 159 (Nq (k+1))->q':=by
 intro hend
 refine wp_region_lit ?_
 (conv=>arg 4;whnf)
 unfold Sl at o159
 go_wp2_with fail
 try simp only [Act.put]
 exact hend _ tS sP
theorem sblk_r29(w0:World)(g11 g4:Nat)(v c4:List Nat)(hvl:v.length=8)(h4l:c4.length=8)(L1 L2:List Res)(S:Held w0 w (blkR g11 205 (u32A v) :: (L1 ++ blkR g4 205 (u32A c4) :: L2)))(hsz:a.tmps.size=172)(o4:Sl a 4 (Pq g4 0))(o11:Sl a 11 (Pq g11 0)):RG1 false 29 Tryz.f147 Q a w fun a' W q'=>(Held w0 W (blkR g11 205 (u32A v) :: (L1 ++ blkR g4 205 (u32A v) :: L2)))->q':=by
 intro hend
 refine wp_region_lit ?_
 (conv=>arg 4;whnf)
 unfold Sl at o4 o11
 have S:=LH S
 have HV:=LH hvl
 have H4:=LH h4l
 clear hvl h4l
 go_wp2_with (first
  |(refine wpList_load_blk rfl 205 (.tmp 11) rfl g11 (aO o11) 205 _ (S.out.at_ (l1:=[])) _ Tryz.underlying205 rfl (by rw [u32A_size,HV.out];exact Tryz.info8w) ?_)
  |(refine wpList_store_blk rfl 205 (.tmp 4) (.tmp 171) rfl g4 (aO o4) (u32A v) aE 205 _ (S.out.at_ (l1:=_ :: L1)) (by rw [u32A_size,HV.out];exact Tryz.info8w) (by rw [u32A_size,u32A_size,HV.out,H4.out]) (u32A_one v) ?_;intro w7 b7 k7;have S7:=LH (Held.setBlk (l1:=_ :: L1) S.out b7 k7);clear b7 k7))
 try simp only [Act.put]
 exact hend _ _ tS (S7.out)
theorem sblk_r27(w0:World)(k g11 g2:Nat)(V st:List Nat)(R1 R2:List Res)(hlt:k < 8)(x y:Nat)(HX:V[k]?=some x)(HY:st[k]?=some y)(hsz:a.tmps.size=172)(o2:Sl a 2 (Pq g2 0))(o11:Sl a 11 (Pq g11 0))(o17:Sl a 17 (.int .i64 (k:Int)))
 (S0:Held w0 w (blkR g11 205 (u32A V) :: (R1 ++ blkR g2 205 (u32A st) :: R2))):RG1 true 27 Tryz.f147 Q a w fun a' W q'=>Held w0 W (blkR g11 205 (u32A (V.set k ((x+y) % 4294967296))) :: R1 ++ blkR g2 205 (u32A st) :: R2)->q':=by
 intro hend
 have hap:=pa 27 Tryz.f147
 refine wp_region_sep (Γ:=Unit) (l:=(opsOf 27 Tryz.f147)) 2 [0,1,2,3,4,5,6,7,8,10]
  (fun i vs gs=>match i with|0=>vs 0=.int .i64 (k:Int)|1=>vs 1=.pointer (some ⟨g11,k,none⟩)|2=>vs 2=.int .u32 ((x:Nat):Int)|3=>vs 3=.int .i64 (k:Int)|4=>vs 4=.pointer (some ⟨g2,k,none⟩)|5=>vs 5=.int .u32 ((y:Nat):Int)|6=>vs 6=.int .u32 (((x+y) % 4294967296:Nat):Int)|7=>vs 7=.pointer (some ⟨g11,k,none⟩)|_=>True)
  (fun i vs gs=>match i with|8=>[blkR g11 205 (u32A (V.set k ((x+y) % 4294967296)))]|9=>[blkR g11 205 (u32A V)]|10=>R1 ++ blkR g2 205 (u32A st) :: R2|_=>[])
  (fun i=>match i with|8=>[9]|_=>[]) (fun i=>match i with|2=>[9]|5=>[10]|_=>[]) S0 (by kernel_rfl) hap (by kernel_rfl) (by kernel_rfl) (fun i=>match i with|0=>[0]|1=>[1]|2=>[2]|3=>[3]|4=>[4]|5=>[5]|6=>[6]|7=>[7]|_=>[]) (by kernel_rfl) ?_ (by kernel_rfl) ?_ ?_ ?_
 . intro s vs vs' gs gs' h
   iterate 11 (rcases s with _|s;· (first|exact ⟨rfl,id⟩|(simp only [List.mem_cons,List.not_mem_nil,or_false,forall_eq] at h;simp [h])))
   exact ⟨rfl,id⟩
 . simp only [List.range,List.range.loop,List.flatMap_cons,List.flatMap_nil,List.append_nil]
   exact List.Perm.refl _
 . clear S0 hend
   and_intros <;> try intro vs gs A' W LF hA S hR hd hu K hK
   . exact qa1 (eO 17 o17)
   . have h0:0<=(k:Int):=by omega
     have h1:(k:Int) < 8:=by omega
     exact qa2 (eO 11 o11) (vD 162 0)
   . have c0:=u32_cell (S.ok (blkR g11 205 (u32A V)) (hR 9 (List.mem_singleton.2 rfl) _ (List.mem_singleton.2 rfl))) k x HX
     exact qa1 (vD 163 1)
   . exact qa1 (eO 17 o17)
   . have h0:0<=(k:Int):=by omega
     have h1:(k:Int) < 8:=by omega
     exact qa2 (eO 2 o2) (vD 165 3)
   . have c0:=u32_cell (S.ok (blkR g2 205 (u32A st)) (hR 10 (List.mem_singleton.2 rfl) _ (List.mem_append_right _ (List.mem_cons_self ..)))) k y HY
     exact qa1 (vD 166 4)
   . replace hK:=hK default;have e164:=vD 164 2;have e167:=vD 167 5;clear hA o2 o11 o17;go_step
     exact hK _ _ S (congrArg (Value.int .u32) (by first|omega|rfl))
   . have h0:0<=(k:Int):=by omega
     have h1:(k:Int) < 8:=by omega
     exact qa2 (eO 11 o11) (vD 162 0)
   . replace hK:=hK default;have e169:=vD 169 7;have e168:=vD 168 6;clear hA o2 o11 o17
     have S1:Held w0 W (blkR g11 205 (u32A V) :: LF):=S
     have q1:=u32_cell (S1.at_ (l1:=[])) k _ HX
     have q2:=(S1.at_ (l1:=[])).frozen k
     have q3:=(S1.at_ (l1:=[])).lt
     go_step;have S2:=S1.set (l1:=[]) k (.int .u32 (((x+y) % 4294967296:Nat):Int))
     rw [u32A_set] at S2
     exact hK undef _ S2 trivial
   . trivial
 . intro vs gs W S hp
   have S:Held w0 W (blkR g11 205 (u32A (V.set k ((x+y) % 4294967296))) :: R1 ++ blkR g2 205 (u32A st) :: R2):=by simpa only [List.flatMap_cons,List.flatMap_nil,List.append_nil,List.nil_append,List.cons_append,List.append_assoc] using S
   rw [putAll_eq]
   exact hend _ W sQ  S
end
section
open Go.RowKit
def dsL1:List Nat:=[6,18,19,20,21,22,23,24,25,26,27]
def dsL2:List Nat:=[7,8,9,28,29,30,31,32,33,34,35,36,37,38,39,40,41,42,43,44,45,46,47,48,49,50,51,52,53,54,55,56,57,58,59,60,61,62,63,64,65,66,67,68,69,70,71,72,73,74,75,76]
def dsL4:List Nat:=[17,159,160,161,162,163,164,165,166,167,168,169,170]
theorem sblk_l1{Q:Exit->Act->World->Prop}{a:Act}{w0 w:World}(b:Bs)(hbl:b.length=64)(g5 g3:Nat)(R:List Res)(hsz:a.tmps.size=172)
 (o3:Sl a 3 (Pq g3 0)) (o5:Sl a 5 (Pq g5 0)) (o18:Sl a 18 (Nq 0))
 (S:Held w0 w (blkR g5 226 (u32A (List.replicate 64 0)) :: blkR g3 181 (hashA b) :: R))
 (hend:∀ a' W,Same a a' dsL1->Held w0 W (blkR g5 226 (u32A (pz (wsN b 16))) :: blkR g3 181 (hashA b) :: R)->Q .normal a' W):
 (Code.block 0 (blockOf 0 Tryz.f147)).wp Tryz.prog Q a w:=by
 refine wp_block ?_
 (conv=>arg 2;whnf)
 refine wp_loop (fun a' w'=>∃ k:Nat,k<=16 ∧ Same a a' dsL1 ∧ Sl a' 18 (.int .i64 (k:Int)) ∧ Held w0 w' (blkR g5 226 (u32A (pz (wsN b k))) :: blkR g3 181 (hashA b) :: R)) (fun a' _=>16 - (intOf (a'.eval (.tmp 18))).toNat) ⟨0,by omega,Same.refl _ _,o18,S⟩ ?_
 clear o18 S
 rintro a1 w1 ⟨k,hk,hs,o18,S⟩
 have o3:=hs.keep 3 _ (by decide) o3
 have o5:=hs.keep 5 _ (by decide) o5
 have hz:=hs.size.trans hsz
 refine wp_seq (sblk_r3 k hz o18 (fun a2 hs2 o19=>?_))
 have e18:=o18.eval (by rw [hz];decide)
 have hz2:=hs2.size.trans hz
 by_cases hlt:k < 16
 . refine wp_seq (wcT o19 (wp_skip ?_) (by rw [decide_eq_true (by omega)]))
   have o18:=hs2.q o18
   refine wp_seq (wp_block ?_)
   refine wp_seq (sblk_r4 k hz2 o18 (fun a3 hs3 o6=>?_))
   have T:=(hs.trans hs2).trans hs3
   have hz3:=hs3.size.trans hz2;have o18:=hs3.q o18
   have o3:=(hs2.trans hs3).keep 3 _ (by decide) o3
   have o5:=(hs2.trans hs3).keep 5 _ (by decide) o5
   refine sblk_r5 w0 k g5 g3 (wsN b k) b R hlt hbl (wsN_length b k) S hz3 o3 o5 o6 (fun a4 W4 hs4 S4=>?_)
   rw [<- wsN_next16 b hlt] at S4
   have hz4:=hs4.size.trans hz3;have o18:=hs4.q o18
   refine sblk_r6 k hlt hz4 o18 (fun a5 hs5 o18=>?_)
   have hz5:=hs5.size.trans hz4
   refine ⟨⟨k+1,by omega,((T.trans hs4).trans hs5).more (by decide +kernel),o18,S4⟩,?_⟩
   show 16 - (intOf (a5.eval (.tmp 18))).toNat < 16 - (intOf (a1.eval (.tmp 18))).toNat
   rw [e18,o18.eval (by rw [hz5];decide)]
   simp [intOf];omega
 . obtain rfl:k=16:=by omega
   refine wp_seq (wcF o19 (wp_exit ?_) (by rw [decide_eq_false (by omega)]))
   exact hend _ _ ((hs.trans hs2).more (by decide +kernel)) S
theorem sblk_l2{Q:Exit->Act->World->Prop}{a:Act}{w0 w:World}(b:Bs)(g5:Nat)(R:List Res)(hsz:a.tmps.size=172)
 (o5:Sl a 5 (Pq g5 0)) (o7:Sl a 7 (Nq 16))
 (S:Held w0 w (blkR g5 226 (u32A (pz (wsN b 16))) :: R))
 (hend:∀ a' W,Same a a' dsL2->Held w0 W (blkR g5 226 (u32A (wsN b 64)) :: R)->Q .normal a' W):
 (Code.block 2 (blockOf 2 Tryz.f147)).wp Tryz.prog Q a w:=by
 refine wp_block ?_
 (conv=>arg 2;whnf)
 refine wp_loop (fun a' w'=>∃ k:Nat,16<=k ∧ k<=64 ∧ Same a a' dsL2 ∧ Sl a' 7 (.int .i64 (k:Int)) ∧ Held w0 w' (blkR g5 226 (u32A (pz (wsN b k))) :: R)) (fun a' _=>64 - (intOf (a'.eval (.tmp 7))).toNat) ⟨16,by omega,by omega,Same.refl _ _,o7,S⟩ ?_
 clear o7 S
 rintro a1 w1 ⟨n,hn16,hn,hs,o7,S⟩
 have o5:=hs.keep 5 _ (by decide) o5
 have hz:=hs.size.trans hsz
 refine wp_seq (wp_seq (sblk_r8 n hz o7 (fun a2 hs2 o29=>?_)))
 have e7:=o7.eval (by rw [hz];decide)
 have hz2:=hs2.size.trans hz
 by_cases hlt:n < 64
 . refine wcT o29 (wp_skip ?_) (by rw [decide_eq_true (by omega)])
   have o7:=hs2.q o7;have o5:=hs2.q o5
   obtain ⟨j,rfl⟩:∃ j,n=j+16:=⟨n - 16,by omega⟩
   have HWl:=wsN_lt b (j+16)
   have HWn:=wsN_length b (j+16)
   have Hnx:=wsN_next48 b j
   generalize hl:wsN b (j+16)=l at *
   have hpl:(pz l).length=64:=pz_length (by omega)
   have HA:(pz l)[j]?=some (l.getD j 0):=pz_at (getD_at (by omega))
   have HC:(pz l)[j+9]?=some (l.getD (j+9) 0):=pz_at (getD_at (by omega))
   have HX:(pz l)[j+1]?=some (l.getD (j+1) 0):=pz_at (getD_at (by omega))
   have HY:(pz l)[j+14]?=some (l.getD (j+14) 0):=pz_at (getD_at (by omega))
   have HM:(pz l)[j+16]?=some ((pz l).getD (j+16) 0):=getD_at (by omega)
   have HXl:=getD_lt HWl (j+1)
   have HYl:=getD_lt HWl (j+14)
   have HE:∀ x,(pz l).set (j+16) x=pz (l ++ [x]):=fun x=>by rw [<- HWn];exact pz_next (by omega) x
   generalize l.getD j 0=v at *
   generalize l.getD (j+9) 0=c at *
   generalize l.getD (j+1) 0=x at *
   generalize l.getD (j+14) 0=y at *
   have hs2i:∀ m:Nat,((pz l).set (j+16) m)[j+16]?=some m:=fun m=>by rw [List.getElem?_set_self (by omega)]
   refine wp_seq (wp_block ?_)
   refine wp_seq (sblk_r10 j g5 x y (pz l) (by omega) (LH HX) (LH HY) (LH (fun V kk i x h=>u32_cell ((S.at_ (l1:=[])).kp kk (by simp)) i x h)) hz2 o5 o7 (fun a3 W3 hs3 k3 o8 o9=>?_))
   have S3:=S.kp ((Kp.refl [] _).drew.trans k3 (by simp))
   have T:=(hs.trans hs2).trans hs3
   obtain ⟨hz3,-,o7,o5⟩:=kq2 hs3 hz2 rfl o7 o5
   refine wp_seq (sblk_r11 w0 j g5 (pz l) R (by omega) v c _ HA HC HM hz3 o5 o7 S3 (fun a4 W4 hs4 S4=>?_))
   obtain ⟨hz4,-,o7,o5,o8,o9⟩:=kq4 hs4 hz3 rfl o7 o5 o8 o9
   refine wp_seq (sblk_r12 w0 j g5 _ R (by omega) _ x (hs2i _) HXl hz4 o5 o7 o8 S4 (fun a5 W5 hs5 S5=>?_))
   rw [List.set_set] at S5
   obtain ⟨hz5,-,o7,o5,o9⟩:=kq3 hs5 hz4 rfl o7 o5 o9
   refine sblk_r13 w0 j g5 _ R (by omega) _ y (hs2i _) HYl hz5 o5 o7 o9 S5 (fun a6 W6 hs6 S6=>?_)
   rw [List.set_set,HE] at S6
   have hz6:=hs6.size.trans hz5;have o7:=hs6.q o7
   refine sblk_r9 (j+16) hlt hz6 o7 (fun a7 hs7 o7=>?_)
   have hz7:=hs7.size.trans hz6
   refine ⟨⟨j+16+1,by omega,by omega,(((((T.trans hs4).trans hs5).trans hs6).trans hs7)).more (by decide +kernel),o7,?_⟩,?_⟩
   . rw [Hnx]
     have e:(((v+c) % 4294967296+sg0 x) % 4294967296+sg1 y) % 4294967296=(v+sg0 x+c+sg1 y) % 4294967296:=by omega
     rw [e] at S6
     exact S6
   . show 64 - (intOf (a7.eval (.tmp 7))).toNat < 64 - (intOf (a1.eval (.tmp 7))).toNat
     rw [e7,o7.eval (by rw [hz7];decide)]
     simp [intOf];omega
 . obtain rfl:n=64:=by omega
   refine wcF o29 (wp_exit ?_) (by rw [decide_eq_false (by omega)])
   rw [pz_full (wsN_length b 64)] at S
   exact hend _ _ ((hs.trans hs2).more (by decide +kernel)) S
def addN (v st:List Nat) (k:Nat):List Nat:=(List.zipWith (fun x y=>(x+y) % 4294967296) v st).take k ++ v.drop k
theorem addN_at{v st:List Nat}(hv:v.length=8)(hst:st.length=8){k:Nat}(hk:k < 8):(addN v st k)[k]?=some (v.getD k 0):=by
 unfold addN
 have h1:((List.zipWith (fun x y=>(x+y) % 4294967296) v st).take k).length=k:=by rw [List.length_take,List.length_zipWith];omega
 rw [List.getElem?_append_right (by omega),h1,Nat.sub_self,List.getElem?_drop,Nat.add_zero]
 exact getD_at (by omega)
theorem addN_next{v st:List Nat}(hv:v.length=8)(hst:st.length=8){k:Nat}(hk:k < 8):(addN v st k).set k ((v.getD k 0+st.getD k 0) % 4294967296)=addN v st (k+1):=by
 unfold addN
 have h1:((List.zipWith (fun x y=>(x+y) % 4294967296) v st).take k).length=k:=by rw [List.length_take,List.length_zipWith];omega
 rw [List.set_append_right _ _ (by omega),h1,Nat.sub_self,List.drop_eq_getElem_cons (by omega:k < v.length),List.set_cons_zero]
 rw [List.take_add_one,List.getElem?_zipWith,getD_at (show k < v.length by omega),getD_at (show k < st.length by omega)]
 simp
theorem sblk_l4{Q:Exit->Act->World->Prop}{a:Act}{w0 w:World}(v st:List Nat)(hv:v.length=8)(hst:st.length=8)(g11 g2:Nat)(R1 R2:List Res)(hsz:a.tmps.size=172)
 (o2:Sl a 2 (Pq g2 0)) (o11:Sl a 11 (Pq g11 0)) (o159:Sl a 159 (Nq 0))
 (S:Held w0 w (blkR g11 205 (u32A v) :: (R1 ++ blkR g2 205 (u32A st) :: R2)))
 (hend:∀ a' W,Same a a' dsL4->Held w0 W (blkR g11 205 (u32A (List.zipWith (fun x y=>(x+y) % 4294967296) v st)) :: (R1 ++ blkR g2 205 (u32A st) :: R2))->Q .normal a' W):
 (Code.block 6 (blockOf 6 Tryz.f147)).wp Tryz.prog Q a w:=by
 refine wp_block ?_
 (conv=>arg 2;whnf)
 refine wp_loop (fun a' w'=>∃ k:Nat,k<=8 ∧ Same a a' dsL4 ∧ Sl a' 159 (.int .i64 (k:Int)) ∧ Held w0 w' (blkR g11 205 (u32A (addN v st k)) :: (R1 ++ blkR g2 205 (u32A st) :: R2))) (fun a' _=>8 - (intOf (a'.eval (.tmp 159))).toNat) ⟨0,by omega,Same.refl _ _,o159,S⟩ ?_
 clear o159 S
 rintro a1 w1 ⟨k,hk,hs,o159,S⟩
 have o2:=hs.keep 2 _ (by decide) o2
 have o11:=hs.keep 11 _ (by decide) o11
 have hz:=hs.size.trans hsz
 refine wp_seq (sblk_r25 k hz o159 (fun a2 hs2 o160=>?_))
 have e159:=o159.eval (by rw [hz];decide)
 have hz2:=hs2.size.trans hz
 by_cases hlt:k < 8
 . refine wp_seq (wcT o160 (wp_skip ?_) (by rw [decide_eq_true (by omega)]))
   have o159:=hs2.q o159
   refine wp_seq (wp_block ?_)
   refine wp_seq (sblk_r26 k hz2 o159 (fun a3 hs3 o17=>?_))
   have T:=(hs.trans hs2).trans hs3
   have hz3:=hs3.size.trans hz2;have o159:=hs3.q o159
   have o2:=(hs2.trans hs3).keep 2 _ (by decide) o2
   have o11:=(hs2.trans hs3).keep 11 _ (by decide) o11
   refine sblk_r27 w0 k g11 g2 _ st R1 R2 hlt _ _ (addN_at hv hst hlt) (getD_at (by omega)) hz3 o2 o11 o17 S (fun a4 W4 hs4 S4=>?_)
   rw [addN_next hv hst hlt] at S4
   have hz4:=hs4.size.trans hz3;have o159:=hs4.q o159
   refine sblk_r28 k hlt hz4 o159 (fun a5 hs5 o159=>?_)
   have hz5:=hs5.size.trans hz4
   refine ⟨⟨k+1,by omega,((T.trans hs4).trans hs5).more (by decide +kernel),o159,S4⟩,?_⟩
   show 8 - (intOf (a5.eval (.tmp 159))).toNat < 8 - (intOf (a1.eval (.tmp 159))).toNat
   rw [e159,o159.eval (by rw [hz5];decide)]
   simp [intOf];omega
 . obtain rfl:k=8:=by omega
   refine wp_seq (wcF o160 (wp_exit ?_) (by rw [decide_eq_false (by omega)]))
   have e:addN v st 8=List.zipWith (fun x y=>(x+y) % 4294967296) v st:=by
    unfold addN
    rw [List.drop_of_length_le (by omega),List.append_nil,List.take_of_length_le (by rw [List.length_zipWith];omega)]
   rw [e] at S
   exact hend _ _ ((hs.trans hs2).more (by decide +kernel)) S
theorem sblock_any(st:List Nat)(hst:Ws st)(hsl:st.length=8)(b:Bs)(hbl:b.length=64)(w:World):Calls Tryz.prog 147 #[.agg (u32A st),.agg (hashA b)] w fun e w'=>e=.returned (.agg (u32A (blkF st b))) ∧ Kp [] w w':=by
 refine calls_fr Tryz.func147 rfl 172 rfl (fun a hsz hdf hA=>?_)
 refine wp_seq (sblk_r0 w st b [] (Held.start w) hsz (hA 0 _ rfl) (hA 1 _ rfl) (fun a1 w1 hs1 h=>?_))
 obtain ⟨g2,g3,g4,o2,o3,o4,S⟩:=h
 have hz1:=hs1.size.trans hsz
 refine wp_seq (sblk_r1 w _ S hz1 (fun a2 w2 hs2 h=>?_))
 obtain ⟨g5,o5,S⟩:=h
 obtain ⟨hz2,-,o2,o3,o4⟩:=kq3 hs2 hz1 rfl o2 o3 o4
 refine wp_seq (wp_seq (sblk_r2 hz2 (fun a3 hs3 o18=>?_)))
 obtain ⟨hz3,-,o2,o3,o4,o5⟩:=kq4 hs3 hz2 rfl o2 o3 o4 o5
 have D3:=(hs3.defers.trans (hs2.defers.trans hs1.defers)).trans hdf
 refine sblk_l1 b hbl g5 g3 _ hz3 o3 o5 o18 (S.perm (List.Perm.cons _ (List.Perm.swap _ _ _))) (fun a4 w4 hs4 S=>?_)
 obtain ⟨hz4,-,o2,o3,o4,o5⟩:=kq4 hs4 hz3 rfl o2 o3 o4 o5
 refine wp_seq (wp_seq (sblk_r7 hz4 (fun a5 hs5 o7=>?_)))
 obtain ⟨hz5,-,o2,o4,o5⟩:=kq3 hs5 hz4 rfl o2 o4 o5
 refine sblk_l2 b g5 _ hz5 o5 o7 S (fun a6 w6 hs6 S=>?_)
 obtain ⟨hz6,-,o2,o4,o5⟩:=kq3 hs6 hz5 rfl o2 o4 o5
 refine wp_seq (sblk_r14 w _ S hz6 (fun a7 w7 hs7 h=>?_))
 obtain ⟨g10,o10,S⟩:=h
 obtain ⟨hz7,-,o2,o4,o5⟩:=kq3 hs7 hz6 rfl o2 o4 o5
 refine wp_seq (sblk_r15 w g2 st hsl [_,_,_,_] _ S hz7 o2 (fun a8 w8 hs8 h=>?_))
 obtain ⟨g11,o11,S⟩:=h
 obtain ⟨hz8,-,o2,o4,o5,o10⟩:=kq4 hs8 hz7 rfl o2 o4 o5 o10
 refine wp_seq (wp_seq (sblk_r16 hz8 (fun a9 hs9 o79=>?_)))
 obtain ⟨hz9,-,o2,o4,o5,o10,o11⟩:=kq5 hs9 hz8 rfl o2 o4 o5 o10 o11
 refine sblk_l3 st (wsN b 64) hst hsl (wsN_length b 64) g5 g10 g11 _ hz9 o5 o10 o11 o79 S (fun a10 w10 hs10 S=>?_)
 obtain ⟨hz10,-,o2,o4,o11⟩:=kq3 hs10 hz9 rfl o2 o4 o11
 refine wp_seq (wp_seq (sblk_r24 hz10 (fun a11 hs11 o159=>?_)))
 obtain ⟨hz11,-,o2,o4,o11⟩:=kq3 hs11 hz10 rfl o2 o4 o11
 refine sblk_l4 _ st ((rnds_length st _ 64).trans hsl) hsl g11 g2 [_,_,_,_] _ hz11 o2 o11 o159 S (fun a12 w12 hs12 S=>?_)
 obtain ⟨hz12,-,o4,o11⟩:=kq2 hs12 hz11 rfl o4 o11
 have hbl8:=(blkF_length st b).trans hsl
 refine wp_seq (sblk_r29 w g11 g4 _ (List.replicate 8 0) hbl8 rfl [_,_,_] _ S hz12 o4 o11 (fun a13 w13 hs13 S=>?_))
 have hz13:=hs13.size.trans hz12;have o4:=hs13.q o4
 refine wp_ret (bodyPost_ret (results_cell1 (by rfl) (o4.eval (by rw [hz13];decide)) (S.at_ (l1:=[_,_,_,_])) Tryz.underlying205 rfl (by rw [u32A_size,hbl8];exact Tryz.info8w)) ?_ ⟨rfl,S.k⟩)
 rw [hs13.defers,hs12.defers,hs11.defers,hs10.defers,hs9.defers,hs8.defers,hs7.defers,hs6.defers,hs5.defers,hs4.defers]
 exact D3
end
section
open Go.RowKit
def CutOf (A:Option Addr) (n c lo m:Nat) (A':Option Addr) (c':Nat):Prop:=
 ∀ (W:World) (bs:Bs),Rd W 1 (.slice A n c) n (bv bs)->Rd W 1 (.slice A' m c') m (bv ((bs.drop lo).take m))
theorem cut_of{A:Option Addr}{n c lo m:Nat}(h:lo+m<=n):∃ A' c',sliced A lo (lo+m) c 1=.slice A' m c' ∧ CutOf A n c lo m A' c' ∧ ∀ g,(Value.slice A' m c').ownBlock=some g->(Value.slice A n c).ownBlock=some g:=by
 by_cases e:c=lo
 . refine ⟨A,c - lo,by simp [sliced,e],fun W bs h1=>?_,fun g hg=>by cases A <;> simp_all [Value.ownBlock]⟩
   have:=h1.cut0 (a:=lo) (k:=m) h e
   rwa [bv_drop] at this
 . refine ⟨A.map (fun x=>x.add lo),c - lo,by simp [sliced,e],fun W bs h1=>?_,fun g hg=>?_⟩
   . have:=h1.cut (a:=lo) (k:=m) h e
     rwa [bv_drop] at this
   . cases A with
     |none=>simp [Value.ownBlock] at hg
     |some ad=>
      simp only [Option.map_some,Value.ownBlock] at hg ⊢
      rw [<- hg];simp [block_of_add]
theorem run_size_u8(w:World):(sizeOf 5).run Tryz.prog w=.ok 1 w:=by
 obtain ⟨i0,hi,hz0,hz1,hz2⟩:=info_parts Tryz.infoU8
 simp [sizeOf,typeInfo,hi,hz1]
theorem cut_at(w:World)(x:Value)(lo hi mx:Option Value):(Instr.sliceAt 32 x lo hi mx).run Tryz.prog w=(Instr.slice 32 x lo hi mx).run Tryz.prog w:=by
 simp [Instr.sliceAt,run_underlying Tryz.underlying32]
theorem elem_u8:Tryz.prog.elem 32=5:=by kernel_rfl
theorem und_u8:Tryz.prog.underlying 32=some (.slice (Tryz.prog.elem 32)):=by rw [elem_u8];exact Tryz.underlying32
theorem cut_hi(A:Option Addr)(n c k:Nat)(h:Int)(hh:h=k)(hk:k<=n)(hc:n<=c):∃ A' c',(∀ w,(Instr.sliceAt 32 (.slice A n c) none (some (.int .i64 h)) none).run Tryz.prog w=.ok (.slice A' k c') w) ∧ CutOf A n c 0 k A' c' ∧ ∀ g,(Value.slice A' k c').ownBlock=some g->(Value.slice A n c).ownBlock=some g:=by
 subst hh
 obtain ⟨A',c',e,h1,h2⟩:=cut_of (A:=A) (n:=n) (c:=c) (lo:=0) (m:=k) (by omega)
 refine ⟨A',c',fun w=>?_,h1,h2⟩
 rw [cut_at,run_slice_h w 32 A n c und_u8 .i64 k (by omega) (by omega),elem_u8,run_size_u8]
 simp only [Result.andThen_ok,Int.toNat_natCast]
 rw [Nat.zero_add] at e
 rw [e]
theorem cut_lo(A:Option Addr)(n c lo m:Nat)(l:Int)(hl:l=lo)(hm:lo+m=n):∃ A' c',(∀ w,(Instr.sliceAt 32 (.slice A n c) (some (.int .i64 l)) none none).run Tryz.prog w=.ok (.slice A' m c') w) ∧ CutOf A n c lo m A' c' ∧ ∀ g,(Value.slice A' m c').ownBlock=some g->(Value.slice A n c).ownBlock=some g:=by
 subst hl
 obtain ⟨A',c',e,h1,h2⟩:=cut_of (A:=A) (n:=n) (c:=c) (lo:=lo) (m:=m) (by omega)
 refine ⟨A',c',fun w=>?_,h1,h2⟩
 rw [cut_at,run_slice_l w 32 A n c und_u8 .i64 lo (by omega) (by omega),elem_u8,run_size_u8]
 simp only [Result.andThen_ok,Int.toNat_natCast]
 rw [<- hm,e]
end
section
open Go.RowKit
def shaL (st:List Nat) (blk:Bs) (n:Nat):List Value:=u32L st ++ (bv blk ++ [.int .i64 (n:Int),.bool true])
def shaC (st:List Nat) (blk:Bs) (n:Nat):Array Value:=(shaL st blk n).toArray
section
variable {st:List Nat} {blk:List UInt8} {n:Nat}
theorem shaL_length(hs:st.length=8)(hb:blk.length=64):(shaL st blk n).length=74:=by
 unfold shaL
 simp only [List.length_append,u32L_length,bv_length,List.length_cons,List.length_nil]
 omega
theorem shaC_size(hs:st.length=8)(hb:blk.length=64):(shaC st blk n).size=74:=by
 simp only [shaC,List.size_toArray];exact shaL_length hs hb
theorem shaL_drop8(hs:st.length=8):(shaL st blk n).drop 8=bv blk ++ [.int .i64 (n:Int),.bool true]:=by
 unfold shaL;rw [List.drop_left' (by rw [u32L_length,hs])]
theorem shaC_len(hs:st.length=8)(hb:blk.length=64):(shaC st blk n)[72]?=some (.int .i64 (n:Int)):=by
 simp only [shaC,List.getElem?_toArray,shaL]
 rw [List.getElem?_append_right (by rw [u32L_length];omega),u32L_length,List.getElem?_append_right (by rw [bv_length];omega),bv_length,hs,hb]
 rfl
theorem shaC_made(hs:st.length=8)(hb:blk.length=64):(shaC st blk n)[73]?=some (.bool true):=by
 simp only [shaC,List.getElem?_toArray,shaL]
 rw [List.getElem?_append_right (by rw [u32L_length];omega),u32L_length,List.getElem?_append_right (by rw [bv_length];omega),bv_length,hs,hb]
 rfl
theorem shaC_setLen(hs:st.length=8)(hb:blk.length=64)(m:Nat):(shaC st blk n).setIfInBounds 72 (.int .i64 (m:Int))=shaC st blk m:=by
 unfold shaC shaL
 rw [List.setIfInBounds_toArray,List.set_append_right _ _ (by rw [u32L_length];omega),u32L_length,List.set_append_right _ _ (by rw [bv_length];omega),bv_length,hs,hb]
 rfl
theorem shaC_splice(hs:st.length=8)(hb:blk.length=64)(k:Nat)(x:Bs)(h:k+x.length<=64):(splice (shaC st blk n).toList (8+k) (bv x)).toArray=shaC st (lay blk k x) n:=by
 unfold splice shaC shaL lay
 rw [List.toList_toArray]
 congr 1
 rw [List.take_append,List.take_of_length_le (l:=u32L st) (by rw [u32L_length];omega),u32L_length,hs,show 8+k - 8=k from by omega,List.take_append_of_le_length (by rw [bv_length];omega),
  List.drop_append,List.drop_of_length_le (l:=u32L st) (by rw [u32L_length];omega),u32L_length,hs,bv_length,show 8+k+x.length - 8=k+x.length from by omega,List.drop_append_of_le_length (by rw [bv_length];omega)]
 simp only [List.append_assoc,List.nil_append,bv,List.map_append,List.map_take,List.map_drop]
theorem shaC_state(hs:st.length=8)(st':List Nat)(hs':st'.length=8):((shaC st blk n).toList.take 0 ++ (u32A st').toList ++ (shaC st blk n).toList.drop (0+(u32A st').size)).toArray=shaC st' blk n:=by
 rw [u32A_size,hs']
 unfold shaC
 rw [List.toList_toArray,List.take_zero,List.nil_append,Nat.zero_add,shaL_drop8 hs]
 rfl
theorem sha_stateAt{w:World}{g:Nat}{t:TypeId}(h:Blk w g t (shaC st blk n))(hs:st.length=8):∀ j u,(u32A st).toList[j]?=some u->w.cell? ((⟨g,0,none⟩:Addr).add j)=some u:=by
 intro j u hu
 have hj:j < 8:=by
  have:=(List.getElem?_eq_some_iff.1 hu).1
  simpa [u32A,u32L,hs] using this
 refine h.agg j u ?_
 simp only [shaC,List.toList_toArray,shaL]
 rw [List.getElem?_append_left (by rw [u32L_length];omega)]
 exact hu
theorem sha_blockAt{w:World}{g:Nat}{t:TypeId}(h:Blk w g t (shaC st blk n))(hs:st.length=8)(hb:blk.length=64):∀ j u,(hashA blk).toList[j]?=some u->w.cell? ((⟨g,8,none⟩:Addr).add j)=some u:=by
 intro j u hu
 have hj:j < 64:=by
  have:=(List.getElem?_eq_some_iff.1 hu).1
  rw [hashA_list,bv_length] at this
  omega
 have h1:=h.agg (8+j) u (by
  simp only [shaC,List.toList_toArray,shaL]
  rw [List.getElem?_append_right (by rw [u32L_length];omega),u32L_length,hs,show 8+j - 8=j from by omega,List.getElem?_append_left (by rw [bv_length];omega)]
  exact hu)
 rw [<- h1,<- add_of_add]
 congr 2
theorem shaC_one(st:List Nat)(blk:Bs)(n:Nat):∀ u,u ∈ (shaC st blk n).toList->u.oneCell'=true:=by
 intro u hu
 simp only [shaC,List.toList_toArray,shaL,List.mem_append,List.mem_cons,List.not_mem_nil,or_false] at hu
 rcases hu with hu|hu|rfl|rfl
 . exact u32L_one st u hu
 . exact bv_one blk u hu
 . rfl
 . rfl
end
theorem Tryz.infoSha:(Tryz.prog.info? 214).map (·.size)=some 74:=by kernel_rfl
theorem Tryz.info64u8s:(Tryz.prog.info? 181).map (·.size)=some 64:=by kernel_rfl
theorem Tryz.slice64at(g b:Nat)(w:World)(k:Nat)(z:Int)(hz:z=k)(hk:k < 64):(Instr.sliceAt 181 (.pointer (some ⟨g,b,none⟩)) (some (.int .i64 z)) none none).run Tryz.prog w=.ok (.slice (some ⟨g,b+k,none⟩) (64 - k) (64 - k)) w:=by
 subst hz
 obtain ⟨i0,hi,hz0,hz1,hz2⟩:=info_parts Tryz.infoU8
 rw [run_sliceAt_array_l w 181 ⟨g,b,none⟩ (by kernel_rfl) .i64 (k:Int) (by omega) (by rw [Tryz.len64u8];omega),Tryz.len64u8,show Tryz.prog.elem 181=5 from by kernel_rfl]
 have e:(⟨g,b,none⟩:Addr).add (k * 1)=⟨g,b+k,none⟩:=by unfold Addr.add;split <;> simp <;> omega
 simp only [sizeOf,typeInfo,hi,hz1,Sem.run_bind,Sem.run_pure,Result.andThen,run_program,slicedAt,Int.toNat_natCast,e]
 rw [if_neg (by omega)]
theorem wpList_copy_blk{P:Program}{w:World}{ops:Array Oper}{rest:List Oper}{o:Oper}{a:Act}{Q:Exit->Act->World->Prop}(hgd:o.guard=none)(d s:Operand)(dT sT:TypeId)
 (ho:o.op=.call { callee:=.builtin .copy,args:=#[d,s],argTypes:=#[dT,sT] }) (elem:TypeId) (hu:P.underlying dT=some (.slice elem)) (hsz:(P.info? elem).map (·.size)=some 1)
 (g off dLen dCap:Nat) (hd:a.eval d=.slice (some ⟨g,off,none⟩) dLen dCap) (y:Value) (hs:a.eval s=y) (n:Nat) (xs:List Value) (hr:Rd w 1 y n xs)
 (t:TypeId) (cur:Array Value) (hb:Blk w g t cur) (hfit:off+dLen<=cur.size) (h1:∀ v ∈ xs,v.oneCell'=true) (m:Nat) (hm:min n dLen=m)
 (h:∀ w',Blk w' g t (splice cur.toList off (xs.take dLen)).toArray->Kp [g] w w'->wpList P ops Q rest (a.put o.dst (goInt (m:Int))) w'):wpList P ops Q (o :: rest) a w:=by
 subst hm
 obtain ⟨hl,A,c,rfl,h2,h3,hA,hc⟩:=hr
 by_cases h0:min n dLen=0
 . refine wpList_copy_nothing hgd d s dT sT ho elem hu hsz (some ⟨g,off,none⟩) A dLen dCap n c hd hs h0 ?_
   have e:xs.take dLen=[]:=by
    apply List.eq_nil_of_length_eq_zero
    rw [List.length_take];omega
   have:=h w (by rw [e];simpa [splice] using hb) kR
   rwa [h0] at this
 . rcases A with _|ad
   . have:=hA rfl;omega
   . have hcl:(xs.take dLen).length=min n dLen:=by rw [List.length_take];omega
     refine wpList_copy_own hgd d s dT sT ho elem hu hsz g off dLen dCap ad n c hd hs cur t hb (xs.take dLen) (by rw [hcl]) ?_ (by rw [hcl];omega) (fun v hv=>h1 v (List.mem_of_mem_take hv)) ?_
     . intro j v hv
       refine hc ad rfl j v ?_
       rw [List.getElem?_take] at hv
       split at hv
       . exact hv
       . cases hv
     . rw [hcl]
       refine h _ ?_ (setRow_blk hb).2
       have:=(setRow_blk (cs:=(cur.toList.take off ++ (xs.take dLen ++ cur.toList.drop (off+min n dLen))).toArray) hb).1
       unfold splice
       rw [hcl]
       exact this
end
section
open Go.RowKit
def dec (n:Nat):List UInt8:=Lib.decDigits n
theorem dec_small{n:Nat}(h:n < 10):dec n=[UInt8.ofNat (48+n)]:=by unfold dec;rw [Lib.decDigits,dif_pos h]
theorem dec_big{n:Nat}(h:¬ n < 10):dec n=dec (n / 10) ++ [UInt8.ofNat (48+n % 10)]:=by
 unfold dec
 conv=>lhs;rw [Lib.decDigits,dif_neg h]
theorem dec_length_le:∀ (k n:Nat),n < 10 ^ (k+1)->(dec n).length<=k+1
 |0,n,h=>by rw [dec_small (by simpa using h)];simp
 |k+1,n,h=>by
  by_cases h2:n < 10
  . rw [dec_small h2];simp
  . rw [dec_big h2,List.length_append]
    have:=dec_length_le k (n / 10) (by rw [Nat.pow_succ] at h;omega)
    simp;omega
theorem dec_19{n:Nat}(h:n < 9223372036854775808):(dec n).length<=19:=dec_length_le 18 n (by omega)
def titleL:List UInt8:=[110,111,116,97,114,121]
def told (n:Nat) (h:Bs):List UInt8:=titleL ++ 10 :: (dec n ++ 10 :: (hexS h ++ [10]))
theorem told_length(n:Nat)(h:Bs):(told n h).length=9+(dec n).length+(hexS h).length:=by
 simp [told,titleL];omega
end
section
open Go.RowKit Go.Shelf
structure LD (w:World):Prop where
 tab : Lib.TabIs Tryz.prog w "internal/strconv.uint64pow10" .u64 Lib.pow10Tab
theorem Tryz.named1 : (Tryz.prog.globalNamed "internal/strconv.uint64pow10").isSome = true := by kernel_rfl
theorem LD.kp{w w':World}(h:LD w)(k:Kp [] w w'):LD w':=by
 have hb:Below w.heap.size w w':=k.below (Nat.le_refl _) (by simp)
 obtain ⟨g1,h1⟩:=Option.isSome_iff_exists.1 Tryz.named1
 exact ⟨Joins.tab_stays h1 h.tab hb (Nat.le_refl _)⟩
theorem Kp.grew{w:World}(n:Nat)(os:Array Obj):Kp [] w (Sort.grow (w.drewN n) os):=
 ⟨rfl,rfl,rfl,by simp [Sort.grow],fun k hk _=>by
  show ((w.drewN n).heap ++ os)[k]?=_
  rw [Array.getElem?_append_left (by simpa using hk)];rfl⟩
theorem fmt_any(n:Nat)(hn:n < 9223372036854775808)(w:World)(h:LD w):Calls Tryz.prog 102 #[.int .i64 n,.int .i64 10] w fun e w'=>e=.returned (.string ⟨(dec n).toArray⟩) ∧ Kp [] w w':=by
 refine (Tryz.strconv_FormatInt_10 n (by omega) (by omega) w h.tab).mono ?_
 rintro e w' ⟨rfl,k,os,rfl⟩
 refine ⟨?_,Kp.grew k os⟩
 unfold dec Lib.itoa
 rw [if_neg (by omega),Int.toNat_natCast]
theorem str_add(a b:Bs):(ByteArray.mk a.toArray) ++ (ByteArray.mk b.toArray)=⟨(a ++ b).toArray⟩:=by
 apply ByteArray.ext
 rw [ByteArray.data_append]
 simp
theorem rdigits_any(n:Nat)(hn:n < 9223372036854775808)(w:World):Calls Tryz.prog 126 #[.int .i64 n] w fun e w'=>e=.returned (.string ⟨(dec n).toArray⟩) ∧ Kp [] w w':=by
 go_enter Tryz.func126,Tryz.ntmps126
 go_wp2
 go_loopw [0,3] (fun a s wr=>∃ (m:Nat) (t:Bs),a=.int .i64 m ∧ s=.string ⟨t.toArray⟩ ∧ m<=n ∧ dec m ++ t=dec n ∧ Kp [] w wr) (fun a _ _=>(intOf a).toNat)
 case atStart=>exact ⟨n,[],rfl,rfl,Nat.le_refl _,by simp,Kp.refl _ _⟩
 case round=>
  obtain ⟨m,t,rfl,rfl,hm,ht,kw⟩:=hrel
  have HT:=LH ht
  have KW:=LH kw
  clear ht kw
  by_cases h9:9 < m
  . have h9':(9:Int) < m:=by omega
    obtain ⟨c,hc⟩:∃ c:UInt8,c.toNat=48+m % 10:=⟨UInt8.ofNat (48+m % 10),by rw [UInt8.toNat_ofNat'];omega⟩
    have kv:=strB (rd_lit wr 5 #[.int .u8 (48+(m:Int) % 10)] [c] (by simp [bv,hc]) (by simp))
    simp only [List.length_cons,List.length_nil] at kv
    have Hc:=LH hc
    clear hc
    have htl:t.length<=19:=by
     have h1:=congrArg List.length HT.out
     have h2:=dec_19 hn
     rw [List.length_append] at h1
     omega
    have K2:=LH (KW.out.alloc (.cells #[.int .u8 (48+(m:Int) % 10)] 5))
    go_wp2
    go_roundw
    case rel=>
     refine ⟨m / 10,c :: t,by go_num,?_,by omega,?_,K2.out⟩
     . have:=str_add [c] t
       rw [show ({ data:=#[c] }:ByteArray) ++ { data:=t.toArray }=⟨(c :: t).toArray⟩ from this]
     . have h9'':¬ m < 10:=by omega
       have hcc:c=UInt8.ofNat (48+m % 10):=UInt8.toNat_inj.1 (by rw [Hc.out,UInt8.toNat_ofNat'];omega)
       have h1:=HT.out
       rw [dec_big h9'',<- hcc,List.append_assoc] at h1
       exact h1
    case measure=>simp [intOf];omega
  . have h9':¬ (9:Int) < m:=by omega
    obtain ⟨c,hc⟩:∃ c:UInt8,c.toNat=48+m:=⟨UInt8.ofNat (48+m),by rw [UInt8.toNat_ofNat'];omega⟩
    have kv:=strB (rd_lit wr 5 #[.int .u8 (48+(m:Int))] [c] (by simp [bv,hc]) (by simp))
    simp only [List.length_cons,List.length_nil] at kv
    have Hc:=LH hc
    clear hc
    have htl:t.length<=19:=by
     have h1:=congrArg List.length HT.out
     have h2:=dec_19 hn
     rw [List.length_append] at h1
     omega
    have K2:=LH (KW.out.alloc (.cells #[.int .u8 (48+(m:Int))] 5))
    have HE:Hid (({ data:=#[c] }:ByteArray) ++ { data:=t.toArray }=⟨(dec n).toArray⟩):=LH (by
     have h9'':m < 10:=by omega
     have hcc:c=UInt8.ofNat (48+m):=UInt8.toNat_inj.1 (by rw [Hc.out,UInt8.toNat_ofNat'];omega)
     have h1:=HT.out
     rw [dec_small h9'',<- hcc] at h1
     rw [<- h1]
     exact str_add [c] t)
    go_wp2
    go_ret
    exact ⟨by rw [<- HE.out];rfl,K2.out⟩
end
section
open Go.RowKit
def ptA (s:Int) (h:Bs):Array Value:=(Value.int .i64 s :: bv h).toArray
theorem ptA_size{s:Int}{h:List UInt8}(hh:h.length=32):(ptA s h).size=33:=by simp [ptA,bv_length,hh]
theorem pt_c0{w:World}{g:Nat}{t:TypeId}{s:Int}{h:List UInt8}(b:Blk w g t (ptA s h)):w.cell? ⟨g,0,none⟩=some (.int .i64 s):=b.cell 0
theorem pt_root{w:World}{g:Nat}{t:TypeId}{s:Int}{h:List UInt8}(b:Blk w g t (ptA s h)):∀ j u,(bv h)[j]?=some u->w.cell? ((⟨g,1,none⟩:Addr).add j)=some u:=by
 intro j u hu
 have h1:=b.cell (1+j)
 have h2:(ptA s h)[1+j]?=some u:=by
  unfold ptA
  rw [List.getElem?_toArray,Nat.add_comm,List.getElem?_cons_succ]
  exact hu
 rw [h2] at h1
 by_cases hj:j=0
 . subst hj;exact h1
 . simpa [Addr.add,hj] using h1
theorem run_pt_root{w:World}{g:Nat}{t:TypeId}{s:Int}{h:List UInt8}(b:Blk w g t (ptA s h))(hh:h.length=32):(Instr.loadAt 23 (Pq g 1)).run Tryz.prog w=.ok (.agg (hashA h)) w:=
 run_loadAt_agg w ⟨g,1,none⟩ 23 (bv h) _ (pt_root b) Tryz.underlying23 rfl (by rw [bv_length,hh];exact Tryz.infoHashP)
def txt (s:Int) (h:Bs):List UInt8:=if s < 0 then [] else told s.toNat h
def txE (s:Int):Int:=if s < 0 then 2 else 0
def TextPost (s:Int) (h:Bs) (w:World) (e:Ending) (w':World):Prop:=e=.returned (.tuple #[.string ⟨(txt s h).toArray⟩,.int .i64 (txE s)]) ∧ Kp [] w w'
theorem told_str(n:Nat)(h:Bs):((({ data:=#[110,111,116,97,114,121,10] }:ByteArray) ++ ⟨(dec n).toArray⟩ ++ { data:=#[10] }) ++ ⟨(hexS h).toArray⟩ ++ { data:=#[10] })=⟨(told n h).toArray⟩:=by
 rw [show ({ data:=#[110,111,116,97,114,121,10] }:ByteArray)=⟨([110,111,116,97,114,121,10]:Bs).toArray⟩ from rfl,show ({ data:=#[10] }:ByteArray)=⟨([10]:Bs).toArray⟩ from rfl]
 rw [str_add,str_add,str_add,str_add]
 congr 2
 simp [told,titleL]
theorem ptext_any(s:Int)(hs:-9223372036854775808<=s ∧ s<=9223372036854775807)(h:Bs)(hh:h.length=32)(w:World)(L:LD w):Calls Tryz.prog 70 #[.agg (ptA s h)] w (TextPost s h w):=by
 have B0:=LH (Blk.new w 25 (ptA s h))
 have K0:=LH ((Kp.refl [] w).alloc (.cells (ptA s h) 25))
 have HL:=LH L
 have HH:=LH hh
 clear L hh
 by_cases h0:s < 0
 . have HT:Hid (txt s h=[] ∧ txE s=2):=LH ⟨if_pos h0,if_pos h0⟩
   have c0:=pt_c0 B0.out
   obtain ⟨cs,HC⟩:∃ cs,Hid (ptA s h=cs):=⟨_,LH rfl⟩
   rw [HC.out] at B0 K0 c0 ⊢
   go_enter Tryz.func70,Tryz.ntmps70
   go_wp2
   go_ret2
   exact ⟨by rw [HT.out.1,HT.out.2];rfl,K0.out⟩
 . obtain ⟨n,rfl⟩:∃ n:Nat,s=n:=⟨s.toNat,by omega⟩
   have HT:Hid (txt n h=told n h ∧ txE n=0):=LH ⟨by unfold txt;rw [if_neg h0,Int.toNat_natCast],if_neg h0⟩
   have hl1:(dec n).length<=19:=dec_19 (by omega)
   have hl2:(hexS h).length<=64:=by rw [hexS_length,HH.out];omega
   have c0:=pt_c0 B0.out
   have T0:=LH ((K0.out).drew)
   have BF:=LH (fun V (kk:Kp [] (w.alloc (.cells (ptA n h) 25)) V)=>B0.out.kp kk (by simp))
   have HF:=LH (fun V (LV:LD V)=>fmt_any n (by omega) V LV)
   have HX:=LH (fun V=>hex_any h HH.out V)
   have HLD:=LH (fun V (kk:Kp [] (w.alloc (.cells (ptA n h) 25)) V)=>HL.out.kp (K0.out.trans kk (by simp)))
   obtain ⟨cs,HC⟩:∃ cs,Hid (ptA n h=cs):=⟨_,LH rfl⟩
   rw [HC.out] at B0 K0 c0 BF T0 HLD ⊢
   go_enter Tryz.func70,Tryz.ntmps70
   go_wp2
   generalize hW1:w.alloc (.cells cs 25)=w1 at *
   generalize hg1:w.heap.size=g1 at *
   have T1:=LH ((Kp.refl [] w1).drew)
   refine wp_region_lexf [2,7] [] (fun V:World=>Kp [] w1 V) (by kernel_rfl) (by kernel_rfl) T1.out (fun σ hne fw hf hsur=>?_);have Hsur:=LH hsur;clear hsur
   have q0:=fun y=>pt_c0 (HC.out ▸ BF.out _ (hf y))
   clear hf
   have hld:∀ V,Kp [] w1 V->(Instr.loadAt 23 (Pq g1 1)).run Tryz.prog V=.ok (.agg (hashA h)) V:=fun V kk=>run_pt_root (HC.out ▸ BF.out V kk) HH.out
   have HLoad:=LH hld
   clear hld
   go_wp2_with (first
    |(refine lex_qk (.agg (hashA h)) rfl rfl (fun V hV=>exec_load rfl rfl (HLoad.out V hV)) ?_;intro K hK;go_simp;refine hK _ _ ?_;clear hK K)
    |(refine lex_qq Hsur.out rfl rfl rfl ?_;intro K hK;go_big_quiet_op;go_big_quiet_on)|(refine lex_skipk rfl ?_;intro K hK;go_simp;refine hK _ _ ?_;clear hK K)|(refine lex_e rfl rfl ?_;intro K hK;go_step)|(refine lex_nil ?_)
    |(go_at_call 102;((with_reducible refine (HF.out _ (HLD.out _ T1.out)).mono ?_);rintro r w2 ⟨rfl,k2⟩;have T2:=LH (T1.out.trans k2 (by simp));clear k2))
    |(go_at_call 103;((with_reducible refine (HX.out _).mono ?_);rintro r w3 ⟨rfl,k3⟩;have T3:=LH (T2.out.trans k3 (by simp));clear k3))
    |((with_reducible apply And.intro);· (intro hl;first|(exact ls_absurd hl rfl)|exact T3.out))
    |((with_reducible apply And.intro);· (intro hl;first|(exact ls_absurd hl rfl)|exact T2.out)))
   go_ret2
   exact ⟨by rw [HT.out.1,HT.out.2,<- told_str];rfl,K0.out.trans T3.out (by simp)⟩
theorem rtold_any(n:Nat)(hn:n < 9223372036854775808)(h:Bs)(hh:h.length=32)(w:World):Calls Tryz.prog 115 #[.agg (ptA n h)] w fun e w'=>e=.returned (.string ⟨(told n h).toArray⟩) ∧ Kp [] w w':=by
 have B0:=LH (Blk.new w 25 (ptA n h))
 have K0:=LH ((Kp.refl [] w).alloc (.cells (ptA n h) 25))
 have HH:=LH hh
 clear hh
 have hl1:(dec n).length<=19:=dec_19 (by omega)
 have hl2:(hexS h).length<=64:=by rw [hexS_length,HH.out];omega
 have T0:=LH ((K0.out).drew)
 have BF:=LH (fun V (kk:Kp [] (w.alloc (.cells (ptA n h) 25)) V)=>B0.out.kp kk (by simp))
 have HF:=LH (fun V=>rdigits_any n (by omega) V)
 have HX:=LH (fun V=>rhex_any h HH.out V)
 obtain ⟨cs,HC⟩:∃ cs,Hid (ptA n h=cs):=⟨_,LH rfl⟩
 rw [HC.out] at B0 K0 BF T0 ⊢
 go_enter Tryz.func115,Tryz.ntmps115
 go_wp2
 generalize hW1:w.alloc (.cells cs 25)=w1 at *
 generalize hg1:w.heap.size=g1 at *
 have T1:=LH ((Kp.refl [] w1).drew)
 refine wp_region_lexf [2,7] [] (fun V:World=>Kp [] w1 V) (by kernel_rfl) (by kernel_rfl) T1.out (fun σ hne fw hf hsur=>?_);have Hsur:=LH hsur;clear hsur
 have q0:=fun y=>pt_c0 (HC.out ▸ BF.out _ (hf y))
 clear hf
 have hld:∀ V,Kp [] w1 V->(Instr.loadAt 23 (Pq g1 1)).run Tryz.prog V=.ok (.agg (hashA h)) V:=fun V kk=>run_pt_root (HC.out ▸ BF.out V kk) HH.out
 have HLoad:=LH hld
 clear hld
 go_wp2_with (first
  |(refine lex_qk (.agg (hashA h)) rfl rfl (fun V hV=>exec_load rfl rfl (HLoad.out V hV)) ?_;intro K hK;go_simp;refine hK _ _ ?_;clear hK K)
  |(refine lex_qq Hsur.out rfl rfl rfl ?_;intro K hK;go_big_quiet_op;go_big_quiet_on)|(refine lex_skipk rfl ?_;intro K hK;go_simp;refine hK _ _ ?_;clear hK K)|(refine lex_e rfl rfl ?_;intro K hK;go_step)|(refine lex_nil ?_)
  |(go_at_call 126;((with_reducible refine (HF.out _).mono ?_);rintro r w2 ⟨rfl,k2⟩;have T2:=LH (T1.out.trans k2 (by simp));clear k2))
  |(go_at_call 127;((with_reducible refine (HX.out _).mono ?_);rintro r w3 ⟨rfl,k3⟩;have T3:=LH (T2.out.trans k3 (by simp));clear k3))
  |((with_reducible apply And.intro);· (intro hl;first|(exact ls_absurd hl rfl)|exact T3.out))
  |((with_reducible apply And.intro);· (intro hl;first|(exact ls_absurd hl rfl)|exact T2.out)))
 go_ret
 exact ⟨by rw [<- told_str];rfl,K0.out.trans T3.out (by simp)⟩
end
section
open Go.RowKit
def zeroP:Array Value:=ptA 0 (List.replicate 32 0)
theorem op_store_part{P:Program}{o:Oper}{a:Act}{w:World}{K:Act->World->Prop}{Q:Exit->Act->World->Prop}(x y:Operand)(ty:TypeId)(ho:o.op=.store ty x y)(g off:Nat)(hx:a.eval x=.pointer (some ⟨g,off,none⟩))(xs:Array Value)(hy:a.eval y=.agg xs)
 (t:TypeId) (cur:Array Value) (hb:Blk w g t cur) (hi:(P.info? ty).map (·.size)=some xs.size) (hfit:off+xs.size<=cur.size) (h1:∀ u,u ∈ xs.toList->u.oneCell'=true)
 (hK:∀ w',Blk w' g t (cur.toList.take off ++ xs.toList ++ cur.toList.drop (off+xs.size)).toArray->Kp [g] w w'->K (a.put o.dst undef) w'):o.wp P a w K Q:=by
 unfold Oper.wp
 rw [exec_store ho hx hy (run_storeAt_agg w g off t ty xs cur hb hi hfit h1)]
 exact hK _ (setRow_blk hb).1 (setRow_blk hb).2
theorem pt_lay(z:Int)(h0 h:Bs)(hh:h.length=32)(h0l:h0.length=32):((ptA z h0).toList.take 1 ++ (hashA h).toList ++ (ptA z h0).toList.drop (1+(hashA h).size)).toArray=ptA z h:=by
 rw [hashA_size,hh]
 unfold ptA
 rw [List.toList_toArray]
 simp [hashA_list,bv_length,h0l]
end
section
variable {Q:Exit->Act->World->Prop} {a:Act} {w:World}
open Go.RowKit
theorem stk_r0(A:Option Addr)(n c:Nat)(hsz:a.tmps.size=48)(o1:Sl a 1 (.slice A n c)):RG0 0 Tryz.f134 Q a w fun a' q'=>Sl a' 8 (.bool (decide (0 < n)))->q':=rO
theorem stk_r1(w0:World)(g n:Nat)(st:List Nat)(blk:Bs)(hs:st.length=8)(hb:blk.length=64)(L:List Res)(S:Held w0 w (blkR g 214 (shaC st blk n) :: L))(hsz:a.tmps.size=48)(o0:Sl a 0 (Pq g 0)):RG0 1 Tryz.f134 Q a w fun a' q'=>Sl a' 4 (Nq (n % 64))->q':=by
 have c1:w.cell? ⟨g,72,none⟩=some (.int .i64 (n:Int)):=by rw [(S.at_ (l1:=[])).cell];exact shaC_len hs hb
 have ht:Int.tmod (n:Int) 64=((n % 64:Nat):Int):=rfl
 clear S hs hb
 exact rO
theorem stk_r2(w0:World)(g n:Nat)(st:List Nat)(blk:Bs)(hs:st.length=8)(hb:blk.length=64)(L:List Res)(S:Held w0 w (blkR g 214 (shaC st blk n) :: L))(k:Nat)(hk:k < 64)(y:Value)(l:Bs)(hy:Rd w 1 y l.length (bv l))(A:Option Addr)(c:Nat)(hyf:y=.slice A l.length c)(hsz:a.tmps.size=48)(o0:Sl a 0 (Pq g 0))(o1:Sl a 1 (.slice A l.length c))(o4:Sl a 4 (.int .i64 (k:Int))):RG1 false 2 Tryz.f134 Q a w fun a' W q'=>Sl a' 5 (.int .i64 ((min l.length (64 - k):Nat):Int))->(Kp [g] w W)->(Held w0 W (blkR g 214 (shaC st (lay blk k (l.take (64 - k))) n) :: L))->q':=by
 intro hend
 refine wp_region_lit ?_
 (conv=>arg 4;whnf)
 unfold Sl at o0 o1 o4
 subst hyf
 have hsl:=Tryz.slice64at g 8 w k (k:Int) rfl hk
 have HB:=LH hb
 have HS:=LH hs
 have S:=LH S
 have Hy:=LH hy
 clear hb hs hy
 obtain ⟨ll,hll⟩:∃ ll,l.length=ll:=⟨_,rfl⟩
 have HLL:=LH hll
 rw [hll] at o1 Hy
 clear hll
 obtain ⟨mm,hmm⟩:∃ mm,min ll (64 - k)=mm:=⟨_,rfl⟩
 have HM:=LH hmm
 clear hmm
 go_wp2_with (refine wpList_copy_blk rfl (.tmp 18) (.tmp 19) 32 32 rfl 5 Tryz.underlying32 (by kernel_rfl) g (8+k) (64 - k) (64 - k) aE _ aE ll (bv l) Hy.out 214 _ (S.out.at_ (l1:=[])) (by rw [shaC_size HS.out HB.out];omega) (bv_one l) mm HM.out ?_;intro w2 b2 k2;have S2:=LH (Held.setBlk (l1:=[]) S.out b2 k2);have K2:=LH k2;clear b2 k2)
 rw [show (bv l).take (64 - k)=bv (l.take (64 - k)) from by simp [bv,List.map_take],shaC_splice HS.out HB.out k _ (by rw [List.length_take];omega)] at S2
 have e5:min l.length (64 - k)=mm:=by rw [HLL.out];exact HM.out
 rw [e5] at hend
 try simp only [Act.put]
 exact hend _ _ tS sP (K2.out) (S2.out)
theorem stk_r3(A A1:Option Addr)(n m c c1 k:Nat)(hr:∀ w,(Instr.sliceAt 32 (.slice A n c) (some (.int .i64 (k:Int))) none none).run Tryz.prog w=.ok (.slice A1 m c1) w)(hsz:a.tmps.size=48)(o1:Sl a 1 (.slice A n c))(o5:Sl a 5 (.int .i64 (k:Int))):RG0 3 Tryz.f134 Q a w fun a' q'=>Sl a' 1 (.slice A1 m c1)->q':=rO
theorem stk_r4(w0:World)(g n:Nat)(st:List Nat)(blk:Bs)(hs:st.length=8)(hb:blk.length=64)(L:List Res)(S:Held w0 w (blkR g 214 (shaC st blk n) :: L))(k:Nat)(hn:n+k < 9223372036854775808)(hsz:a.tmps.size=48)(o0:Sl a 0 (Pq g 0))(o5:Sl a 5 (.int .i64 (k:Int))):RG1 false 4 Tryz.f134 Q a w fun a' W q'=>(Kp [g] w W)->(Held w0 W (blkR g 214 (shaC st blk (n+k)) :: L))->q':=by
 intro hend
 refine wp_region_lit ?_
 (conv=>arg 4;whnf)
 unfold Sl at o0 o5
 have c1:w.cell? ⟨g,72,none⟩=some (.int .i64 (n:Int)):=by rw [(S.at_ (l1:=[])).cell];exact shaC_len hs hb
 have c2:=(S.at_ (l1:=[])).frozen 72
 have S2:Hid (Held w0 (w.setCell ⟨g,72,none⟩ (Nq (n+k))) _):=LH (S.set (l1:=[]) 72 (Nq (n+k)))
 rw [shaC_setLen hs hb] at S2
 have hw:=LH (show wrap64 ((n:Int)+(k:Int))=((n+k:Nat):Int) from by unfold wrap64;omega)
 have K2:=LH ((Kp.refl [g] w).setCell (p:=⟨g,72,none⟩) (.inl (by simp)) (Nq (n+k)))
 clear S hs hb hn
 go_wp2
 rw [hw.out]
 try simp only [Act.put]
 exact hend _ _ tS (K2.out) (S2.out)
theorem stk_r5(k j:Nat)(hk:k+j<=64)(hsz:a.tmps.size=48)(o4:Sl a 4 (.int .i64 (k:Int)))(o5:Sl a 5 (.int .i64 (j:Int))):RG0 5 Tryz.f134 Q a w fun a' q'=>Sl a' 35 (.bool ((k:Int)+(j:Int) == 64))->q':=by
 have hw:wrap64 ((k:Int)+(j:Int))=((k+j:Nat):Int):=by unfold wrap64;omega
 exact rO
theorem stk_r6(w0:World)(g n:Nat)(st:List Nat)(blk:Bs)(hs:st.length=8)(hst:Ws st)(hb:blk.length=64)(L:List Res)(hsz:a.tmps.size=48)(o0:Sl a 0 (Pq g 0))
 (S0:Held w0 w (blkR g 214 (shaC st blk n) :: L)):RG1 true 6 Tryz.f134 Q a w fun a' W q'=>Held w0 W (blkR g 214 (shaC (blkF st blk) blk n) :: L)->q':=by
 intro hend
 have hap:=pa 6 Tryz.f134
 refine wp_region_sep (Γ:=Unit) (l:=(opsOf 6 Tryz.f134)) 2 [0,1,2,3,4,5,6,7,8,9,10,11,12,14]
  (fun i vs gs=>match i with|0=>vs 0=Pq g 0|1=>vs 1=Pq g 0|2=>vs 2=Pq g 0|3=>vs 3=Pq g 0|4=>vs 4=.agg (u32A st)|5=>vs 5=Pq g 0|6=>vs 6=Pq g 0|7=>vs 7=Pq g 8|8=>vs 8=.agg (hashA blk)|9=>vs 9=.agg (u32A (blkF st blk))|10=>vs 10=Pq g 0|11=>vs 11=Pq g 0|_=>True)
  (fun i vs gs=>match i with|12=>[blkR g 214 (shaC (blkF st blk) blk n)]|13=>[blkR g 214 (shaC st blk n)]|14=>L|_=>[])
  (fun i=>match i with|12=>[13]|_=>[]) (fun i=>match i with|4=>[13]|8=>[13]|_=>[]) S0 (by kernel_rfl) hap (by kernel_rfl) (by kernel_rfl) (fun i=>match i with|0=>[0]|1=>[1]|2=>[2]|3=>[3]|4=>[4]|5=>[5]|6=>[6]|7=>[7]|8=>[8]|9=>[9]|10=>[10]|11=>[11]|_=>[]) (by kernel_rfl) ?_ (by kernel_rfl) ?_ ?_ ?_
 . intro s vs vs' gs gs' h
   iterate 15 (rcases s with _|s;· (first|exact ⟨rfl,id⟩|(simp only [List.mem_cons,List.not_mem_nil,or_false,forall_eq] at h;simp [h])))
   exact ⟨rfl,id⟩
 . simp only [List.range,List.range.loop,List.flatMap_cons,List.flatMap_nil,List.append_nil]
   exact List.Perm.refl _
 . clear S0 hend
   and_intros <;> try intro vs gs A' W LF hA S hR hd hu K hK
   . exact qa1 (eO 0 o0)
   . exact qa1 (eO 0 o0)
   . exact qa1 (vD 37 1)
   . exact qa1 (vD 38 2)
   . exact ldA (u32A st) (vD 39 3) (sha_stateAt (show Blk W g 214 (shaC st blk n) from S.ok (blkR g 214 (shaC st blk n)) (hR 13 (List.mem_singleton.2 rfl) _ (List.mem_singleton.2 rfl))) hs) Tryz.underlying205 (by rw [u32A_size,hs];exact Tryz.info8w)
   . exact qa1 (eO 0 o0)
   . exact qa1 (vD 41 5)
   . exact qa1 (vD 42 6)
   . exact ldA (hashA blk) (vD 43 7) (sha_blockAt (show Blk W g 214 (shaC st blk n) from S.ok (blkR g 214 (shaC st blk n)) (hR 13 (List.mem_singleton.2 rfl) _ (List.mem_singleton.2 rfl))) hs hb) Tryz.underlying181 (by rw [hashA_size,hb];exact Tryz.info64u8s)
   . replace hK:=hK default;have e40:=vD 40 4;have e44:=vD 44 8;clear hA o0;generalize hca:u32A st=ca at *
     generalize hcb:hashA blk=cb at *
     go_step
     rw [<- hca,<- hcb]
     refine (sblock_any st hst hs blk hb _).mono ?_
     rintro e w' ⟨rfl,kq⟩
     exact hK _ _ (S.kp kq) rfl
   . exact qa1 (vD 36 0)
   . exact qa1 (vD 46 10)
   . replace hK:=hK default;have e47:=vD 47 11;have e45:=vD 45 9;clear hA o0
     have S1:Held w0 W (blkR g 214 (shaC st blk n) :: LF):=S
     refine op_store_part (.tmp 47) (.tmp 45) 205 rfl g 0 (by simpa [Act.eval] using e47) (u32A (blkF st blk)) (by simpa [Act.eval] using e45) 214 _ (S1.at_ (l1:=[])) (by rw [u32A_size,blkF_length,hs];exact Tryz.info8w) (by rw [u32A_size,blkF_length,hs,shaC_size hs hb];omega) (u32A_one _) (fun w' hbk k=>hK undef _ ?_ trivial)
     rw [shaC_state hs _ ((blkF_length _ _).trans hs)] at hbk
     exact Held.setBlk (l1:=[]) S1 hbk k
   . trivial
 . intro vs gs W S hp
   have S:Held w0 W (blkR g 214 (shaC (blkF st blk) blk n) :: L):=by simpa only [List.flatMap_cons,List.flatMap_nil,List.append_nil,List.nil_append,List.cons_append,List.append_assoc] using S
   rw [putAll_eq]
   exact hend _ W sQ  S
end
section
open Go.RowKit
def dsTk:List Nat:=[1,4,5,6,7,8,9,10,11,12,13,14,15,16,17,18,19,20,21,22,23,24,25,26,27,28,29,30,31,32,33,34,35,36,37,38,39,40,41,42,43,44,45,46,47]
def lenV:Value->Nat
 |.slice _ n _=>n
 |_=>0
theorem Und.len8{m:List UInt8}{st:List Nat}{blk:List UInt8}(h:Und m st blk):st.length=8:=by rw [h.st];exact shaN_length _ _
theorem Und.ws{m:List UInt8}{st:List Nat}{blk:List UInt8}(h:Und m st blk):Ws st:=by rw [h.st];exact shaN_lt _ _
theorem take_any(w0:World)(g:Nat)(m l:Bs)(st:List Nat)(blk:Bs)(hU:Und m st blk)(hml:m.length+l.length < 4611686018427387904)(x:Value)(L:List Res)(w:World)(HB:∀ V cs,Held w0 V (blkR g 214 cs :: L)->Rd V 1 x l.length (bv l))
 (S:Held w0 w (blkR g 214 (shaC st blk m.length) :: L)):
 Calls Tryz.prog 134 #[Pq g 0,x] w fun e w'=>e=.returned (.tuple #[]) ∧ ∃ st' blk',Und (m ++ l) st' blk' ∧ Held w0 w' (blkR g 214 (shaC st' blk' (m ++ l).length) :: L):=by
 obtain ⟨A0,c0,rfl⟩:=rd_form (HB w _ S)
 refine calls_fr Tryz.func134 rfl 48 rfl (fun a hsz hdf hAr=>?_)
 have hsz:a.tmps.size=48:=hsz
 have o0:=hAr 0 _ rfl
 have o1:=hAr 1 _ rfl
 refine wp_block ?_
 refine wp_loop (fun a' w'=>∃ (pre suf:Bs) (st:List Nat) (blk:Bs) (A:Option Addr) (c:Nat),pre ++ suf=l ∧ Und (m ++ pre) st blk ∧ Same a a' dsTk ∧ Sl a' 1 (.slice A suf.length c) ∧ (∀ V cs,Held w0 V (blkR g 214 cs :: L)->Rd V 1 (.slice A suf.length c) suf.length (bv suf)) ∧ Held w0 w' (blkR g 214 (shaC st blk (m ++ pre).length) :: L))
  (fun a' _=>lenV (a'.eval (.tmp 1))) ⟨[],l,st,blk,A0,c0,rfl,by rw [List.append_nil];exact hU,Same.refl _ _,o1,HB,by rw [List.append_nil];exact S⟩ ?_
 clear hU S HB o1
 rintro a1 w1 ⟨pre,suf,st,blk,A,c,hps,hU,T,o1,HB,S⟩
 have hz1:=T.size.trans hsz
 have o0:=T.keep 0 _ (by decide) o0
 have h8:=hU.len8
 have h64:=hU.len
 have hlen:(m ++ pre).length+suf.length=m.length+l.length:=by rw [<- hps];simp only [List.length_append];omega
 have eCtr:=o1.eval (by rw [hz1];decide)
 refine wp_seq (wp_seq (stk_r0 A suf.length c hz1 o1 (fun a2 hs2 o8=>?_)))
 obtain ⟨hz2,-,o0,o1⟩:=kq2 hs2 hz1 rfl o0 o1
 have T:=T.trans hs2
 by_cases hlt:0 < suf.length
 . refine wcT o8 (wp_skip ?_) (by rw [decide_eq_true hlt])
   generalize hnn:(m ++ pre).length=n at *
   refine wp_block ?_
   refine wp_seq (stk_r1 w0 g n st blk h8 h64 L S hz2 o0 (fun a3 hs3 o4=>?_))
   obtain ⟨hz3,-,o0,o1,o8⟩:=kq3 hs3 hz2 rfl o0 o1 o8
   have T:=T.trans hs3
   have hk:n % 64 < 64:=Nat.mod_lt _ (by decide)
   refine wp_seq (stk_r2 w0 g n st blk h8 h64 L S (n % 64) hk _ suf (HB w1 _ S) A c rfl hz3 o0 o1 o4 (fun a4 w2 hs4 o5 K2 S=>?_))
   obtain ⟨hz4,-,o0,o1,o8,o4⟩:=kq4 hs4 hz3 rfl o0 o1 o8 o4
   have T:=T.trans hs4
   have hb2:(lay blk (n % 64) (suf.take (64 - n % 64))).length=64:=by rw [lay_length (by rw [List.length_take];omega)];exact h64
   obtain ⟨q,hq⟩:∃ q,min suf.length (64 - n % 64)=q:=⟨_,rfl⟩
   rw [hq] at o5
   have hxl:(suf.take (64 - n % 64)).length=q:=by rw [List.length_take,Nat.min_comm];exact hq
   obtain ⟨A1,c1,run1,rd1,-⟩:=cut_lo A suf.length c q (suf.length - q) (q:Int) rfl (by omega)
   refine wp_seq (stk_r3 A A1 suf.length (suf.length - q) c c1 q run1 hz4 o1 o5 (fun a5 hs5 o1=>?_))
   obtain ⟨hz5,-,o0,o8,o4,o5⟩:=kq4 hs5 hz4 rfl o0 o8 o4 o5
   have T:=T.trans hs5
   refine wp_seq (stk_r4 w0 g n st _ h8 hb2 L S q (by omega) hz5 o0 o5 (fun a6 w3 hs6 K3 S=>?_))
   obtain ⟨hz6,-,o0,o1,o8,o4,o5⟩:=kq5 hs6 hz5 rfl o0 o1 o8 o4 o5
   have T:=T.trans hs6
   refine wp_seq (stk_r5 (n % 64) q (by omega) hz6 o4 o5 (fun a7 hs7 o35=>?_))
   obtain ⟨hz7,-,o0,o1,o8,o4,o5⟩:=kq5 hs7 hz6 rfl o0 o1 o8 o4 o5
   have T:=T.trans hs7
   have hsuf:suf.take (64 - n % 64) ++ suf.drop q=suf:=by
    by_cases hc:suf.length<=64 - n % 64
    . rw [List.take_of_length_le hc,List.drop_of_length_le (by omega),List.append_nil]
    . rw [show q=64 - n % 64 from by omega,List.take_append_drop]
   have hdl:(suf.drop q).length=suf.length - q:=List.length_drop
   have HB1:∀ V cs,Held w0 V (blkR g 214 cs :: L)->Rd V 1 (.slice A1 (suf.drop q).length c1) (suf.drop q).length (bv (suf.drop q)):=fun V cs kv=>by
    have:=rd1 V suf (HB V cs kv)
    rw [List.take_of_length_le (by omega)] at this
    rw [hdl];exact this
   have hpl:(m ++ (pre ++ suf.take (64 - n % 64))).length=n+q:=by rw [<- List.append_assoc,List.length_append,hnn,hxl]
   have hmu:∀ (a':Act),a'.tmps.size=48->Sl a' 1 (.slice A1 (suf.length - q) c1)->lenV (a'.eval (.tmp 1)) < lenV (a1.eval (.tmp 1)):=fun a' hz' h=>by
    rw [eCtr,h.eval (by rw [hz'];decide)]
    show suf.length - q < suf.length
    omega
   rw [<- hdl] at o1
   have hU0:=hU
   by_cases hfull:n % 64+q=64
   . refine wcT o35 ?_ (by rw [show ((((n % 64:Nat):Int)+(q:Int)) == 64)=true from by rw [beq_iff_eq];omega])
     refine stk_r6 w0 g (n+q) st _ h8 hU.ws hb2 L hz7 o0 S (fun a8 w4 hs8 S=>?_)
     obtain ⟨hz8,-,o0,o1,o8,o4,o5,o35⟩:=kq6 hs8 hz7 rfl o0 o1 o8 o4 o5 o35
     have T:=T.trans hs8
     have hU:=hU.full (x:=suf.take (64 - n % 64)) (by rw [hnn,hxl];exact hfull)
     rw [hnn,List.append_assoc] at hU
     exact ⟨⟨pre ++ suf.take (64 - n % 64),suf.drop q,_,_,A1,c1,by rw [List.append_assoc,hsuf,hps],hU,T.more (by decide +kernel),o1,HB1,by rw [hpl];exact S⟩,hmu _ hz8 (by rw [<- hdl];exact o1)⟩
   . refine wcF o35 (wp_skip ?_) (by rw [show ((((n % 64:Nat):Int)+(q:Int)) == 64)=false from by rw [beq_eq_false_iff_ne];omega])
     have hU:=hU.part (x:=suf.take (64 - n % 64)) (by rw [hnn,hxl];omega)
     rw [hnn,List.append_assoc] at hU
     exact ⟨⟨pre ++ suf.take (64 - n % 64),suf.drop q,_,_,A1,c1,by rw [List.append_assoc,hsuf,hps],hU,T.more (by decide +kernel),o1,HB1,by rw [hpl];exact S⟩,hmu _ hz7 (by rw [<- hdl];exact o1)⟩
 . obtain rfl:suf=[]:=List.eq_nil_of_length_eq_zero (by omega)
   refine wcF o8 (wp_exit ?_) (by rw [decide_eq_false hlt])
   rw [List.append_nil] at hps
   subst hps
   exact ⟨T.defers.trans hdf,.tuple #[],results_none rfl _ _ _,rfl,st,blk,hU,S⟩
end
section
open Go.RowKit
theorem none_any(g:Nat)(cs:Array Value)(hc:cs[73]?=some (.bool true))(w:World)(hb:Blk w g 214 cs):Calls Tryz.prog 148 #[Pq g 0] w fun e w'=>e=.returned (.bool false) ∧ w=w':=by
 have c1:w.cell? ⟨g,73,none⟩=some (.bool true):=by rw [hb.cell];exact hc
 clear hb hc
 go_enter Tryz.func148,Tryz.ntmps148
 go_wp2
 go_ret
 exact ⟨rfl,rfl⟩
theorem Tryz.built_sha:Tryz.prog.built 214 [(0,.agg (u32A hF)),(3,.bool true)]=some (shaC hF (List.replicate 64 0) 0):=by kernel_rfl
theorem snew_any(w0 w:World)(L:List Res)(S:Held w0 w L):Calls Tryz.prog 133 #[] w fun e w'=>∃ g,e=.returned (Pq g 0) ∧ Held w0 w' (blkR g 214 (shaC hF (List.replicate 64 0) 0) :: L):=by
 have S:=LH S
 have HB:=LH Tryz.built_sha
 obtain ⟨cs,hcs⟩:∃ cs,Hid (shaC hF (List.replicate 64 0) 0=cs):=⟨_,LH rfl⟩
 rw [hcs.out] at HB ⊢
 go_enter Tryz.func133,Tryz.ntmps133
 go_wp2_with fail
 refine (sfirst_any _).mono ?_
 rintro e w' ⟨rfl,k1⟩
 have S1:=LH ((S.out.kp k1).newBlk 214 cs)
 clear k1
 obtain ⟨ca,hca⟩:∃ ca,Hid (u32A hF=ca):=⟨_,LH rfl⟩
 rw [hca.out] at HB ⊢
 go_wp2_with (refine wpList_buildC rfl 214 _ rfl [(0,.agg ca),(3,.bool true)] (by simp [Act.eval]) _ HB.out ?_)
 go_ret
 exact ⟨_,rfl,S1.out⟩
theorem lay_snoc{cs x:List UInt8}{o:Nat}(c:UInt8)(h:o+x.length < cs.length):(lay cs o x).set (o+x.length) c=lay cs o (x ++ [c]):=by
 unfold lay
 have h1:(cs.take o ++ x).length=o+x.length:=by rw [List.length_append,List.length_take];omega
 rw [List.set_append_right _ _ (by omega),h1,Nat.sub_self,List.drop_eq_getElem_cons h,List.set_cons_zero,List.length_append,List.length_singleton]
 simp [Nat.add_assoc]
theorem be4_take(W k:Nat)(h:k < 4):(be 4 W).take (k+1)=(be 4 W).take k ++ [UInt8.ofNat (W / 2 ^ (24 - 8 * k))]:=by
 rcases (by omega:k=0 ∨ k=1 ∨ k=2 ∨ k=3) with rfl|rfl|rfl|rfl <;> rfl
theorem put_any(w0:World)(g:Nat)(t:TypeId)(cs:Bs)(o n c W:Nat)(hn:4<=n)(ho:o+4<=cs.length)(L:List Res)(w:World)(S:Held w0 w (blkR g t (hashA cs) :: L)):
 Calls Tryz.prog 149 #[.slice (some ⟨g,o,none⟩) n c,.int .u32 (W:Int)] w fun e w'=>e=.returned (.tuple #[]) ∧ Held w0 w' (blkR g t (hashA (lay cs o (be 4 W))) :: L):=by
 have S:=LH S
 go_enter Tryz.func149,Tryz.ntmps149
 go_wp2
 go_loopw [4,5] (fun _ i wr=>∃ k:Nat,k<=4 ∧ i=.int .i64 (k:Int) ∧ Held w0 wr (blkR g t (hashA (lay cs o ((be 4 W).take k))) :: L)) (fun _ i _=>4 - (intOf i).toNat)
 case atStart=>
  refine ⟨0,by omega,rfl,?_⟩
  have e:lay cs o ((be 4 W).take 0)=cs:=by unfold lay;simp
  rw [e]
  exact S.out
 case round=>
  clear S
  obtain ⟨k,hk,rfl,S⟩:=hrel
  have S:=LH S
  have hxl:((be 4 W).take k).length=k:=by rw [List.length_take,be_length];omega
  by_cases hlt:k < 4
  . have hw:(lay cs o ((be 4 W).take k)).length=cs.length:=lay_length (by omega)
    have hb:(lay cs o ((be 4 W).take k))[o+k]?=some ((lay cs o ((be 4 W).take k)).getD (o+k) 0):=by
     rw [List.getD_eq_getElem?_getD,List.getElem?_eq_getElem (by omega)];rfl
    have q1:wr.cell? ⟨g,o+k,none⟩=some (.int .u8 (((lay cs o ((be 4 W).take k)).getD (o+k) 0).toNat:Int)):=by
     rw [(S.out.at_ (l1:=[])).cell]
     simp only [hashA,List.getElem?_toArray]
     rw [bv_get,hb]
     rfl
    have q2:=(S.out.at_ (l1:=[])).frozen (o+k)
    have S2:Hid (Held w0 (wr.setCell ⟨g,o+k,none⟩ (.int .u8 ((UInt8.ofNat (W / 2 ^ (24 - 8 * k))).toNat:Int))) _):=LH (S.out.set (l1:=[]) (o+k) (.int .u8 ((UInt8.ofNat (W / 2 ^ (24 - 8 * k))).toNat:Int)))
    rw [hashA_set,show o+k=o+((be 4 W).take k).length from by rw [hxl],lay_snoc _ (by omega),<- be4_take W k hlt,hxl] at S2
    generalize (lay cs o ((be 4 W).take k)).getD (o+k) 0=old at *
    clear hw hb hxl S
    have hki:(k:Int) < n:=by omega
    generalize hv:(UInt8.ofNat (W / 2 ^ (24 - 8 * k))).toNat=v at *
    have hv2:Hid (v=W / 2 ^ (24 - 8 * k) % 256):=LH (by rw [<- hv];simp)
    clear hv
    have add0:((⟨g,o,none⟩:Addr).add k)=⟨g,o+k,none⟩:=by unfold Addr.add;split <;> simp_all
    have h0:0<=(24:Int) - 8 * (k:Int):=by omega
    rcases (by omega:k=0 ∨ k=1 ∨ k=2 ∨ k=3) with rfl|rfl|rfl|rfl
    all_goals
     simp only [Nat.add_zero,Nat.mul_zero,Nat.mul_one,Nat.reduceMul,Nat.reduceSub,Nat.reducePow,Nat.sub_self,Nat.pow_zero,Nat.div_one,Nat.sub_zero] at q1 q2 hv2 S2
     go_wp2
     first
      |rw [show (W:Int) / 16777216 % 256=(v:Int) from by have:=hv2.out;omega]
      |rw [show (W:Int) / 65536 % 256=(v:Int) from by have:=hv2.out;omega]
      |rw [show (W:Int) / 256 % 256=(v:Int) from by have:=hv2.out;omega]
      |rw [show (W:Int) % 256=(v:Int) from by have:=hv2.out;omega]
     go_roundw
     case rel=>exact ⟨_,(by omega:_+1<=4),by go_num,S2.out⟩
     case measure=>simp [intOf]
  . obtain rfl:k=4:=by omega
    go_wp2
    go_end0
    refine ⟨rfl,?_⟩
    have:=S.out
    rwa [List.take_of_length_le (by simp)] at this
end
section
variable {Q:Exit->Act->World->Prop} {a:Act} {w:World}
open Go.RowKit
theorem run_index_u32{P:Program}(w:World)(t e:TypeId)(n:Nat)(h:List Nat)(kd:IntKind)(z:Int)(k x:Nat)(hz:z=k)(hx:h[k]?=some x)(hn:h.length=n)(hu:P.underlying t=some (.array n e))(he:P.underlying e=some (.int .u32))(hc:(P.info? e).map (·.size)=some 1):
 (Instr.index t (.agg (u32A h)) (.int kd z)).run P w=.ok (.int .u32 (x:Int)) w:=by
 subst hz
 have hk:=(List.getElem?_eq_some_iff.1 hx).1
 have hag:(isAgg e).run P w=.ok false w:=by
  unfold isAgg
  rw [Sem.run_bind,run_underlying he w]
  rfl
 cases hq:P.info? e with
 |none=>simp [hq] at hc
 |some i=>
  have hs:i.size=1:=by simpa [hq] using hc
  have hg:(u32A h)[k]?=some (.int .u32 (x:Int)):=by rw [show (u32A h)[k]?=(u32L h)[k]? from by simp [u32A],u32L_get,hx];rfl
  have hb:¬ ((k:Int) < 0 ∨ (n:Int)<=k):=by omega
  have hb2:0<=(k:Int) ∧ (k:Int) < n:=by omega
  simp [Instr.index,Sem.run_bind,run_underlying hu w,asIntOf,part,hag,sizeOf,typeInfo,hq,hs,hg]
  intro;omega
theorem Tryz.len32u8:Tryz.prog.arrayLen 23=32:=by kernel_rfl
theorem Tryz.slice32at(g:Nat)(w:World)(k:Nat)(z:Int)(hz:z=k)(hk:k < 32):(Instr.sliceAt 23 (Pq g 0) (some (.int .i64 z)) none none).run Tryz.prog w=.ok (.slice (some ⟨g,k,none⟩) (32 - k) (32 - k)) w:=by
 subst hz
 obtain ⟨i0,hi,hz0,hz1,hz2⟩:=info_parts Tryz.infoU8
 rw [run_sliceAt_array_l w 23 ⟨g,0,none⟩ (by kernel_rfl) .i64 (k:Int) (by omega) (by rw [Tryz.len32u8];omega),Tryz.len32u8,show Tryz.prog.elem 23=5 from by kernel_rfl]
 have e:(⟨g,0,none⟩:Addr).add (k * 1)=⟨g,k,none⟩:=by unfold Addr.add;split <;> simp <;> omega
 simp only [sizeOf,typeInfo,hi,hz1,Sem.run_bind,Sem.run_pure,Result.andThen,run_program,slicedAt,Int.toNat_natCast,e]
 rw [if_neg (by omega)]
theorem ssm_r0(w0:World)(L:List Res)(S:Held w0 w L)(hsz:a.tmps.size=52):RG1 false 0 Tryz.f135 Q a w fun a' W q'=>(∃ g,Sl a' 2 (Pq g 0) ∧ Held w0 W (blkR g 23 (hashA (List.replicate 32 0)) :: L))->q':=by
 intro hend
 refine wp_region_lit ?_
 (conv=>arg 4;whnf)
 have S0:=LH (S.newBlk 23 (hashA (List.replicate 32 0)))
 go_wp2
 try simp only [Act.put]
 exact hend _ _ tS (⟨w.heap.size,sP0,S0.out⟩)
theorem ssm_r1(w0:World)(L:List Res)(S:Held w0 w L)(hsz:a.tmps.size=52):RG1 false 1 Tryz.f135 Q a w fun a' W q'=>(∃ g,Sl a' 3 (Pq g 0) ∧ Held w0 W (blkR g 23 (hashA (List.replicate 32 0)) :: L))->q':=by
 intro hend
 refine wp_region_lit ?_
 (conv=>arg 4;whnf)
 have S0:=LH (S.newBlk 23 (hashA (List.replicate 32 0)))
 go_wp2
 try simp only [Act.put]
 exact hend _ _ tS (⟨w.heap.size,sP0,S0.out⟩)
theorem ssm_r2(g:Nat)(cs:Array Value)(hc:cs[73]?=some (.bool true))(hb:Blk w g 214 cs)(hsz:a.tmps.size=52)(o0:Sl a 0 (Pq g 0)):RG0 2 Tryz.f135 Q a w fun a' q'=>Sl a' 10 (.bool false)->q':=by
 intro hend
 refine wp_region_lit ?_
 (conv=>arg 4;whnf)
 unfold Sl at o0
 have HR:=LH (none_any g cs hc w hb)
 clear hb hc
 go_wp2_with fail
 refine HR.out.mono ?_
 rintro e w' ⟨rfl,rfl⟩
 go_wp2
 try simp only [Act.put]
 exact hend _ tS sP
theorem ssm_r4(w0:World)(g n:Nat)(st:List Nat)(blk:Bs)(hs:st.length=8)(hb:blk.length=64)(L1 L2:List Res)(S:Held w0 w (L1 ++ blkR g 214 (shaC st blk n) :: L2))(hsz:a.tmps.size=52)(o0:Sl a 0 (Pq g 0)):RG1 false 4 Tryz.f135 Q a w fun a' W q'=>(∃ g4,Sl a' 4 (Pq g4 0) ∧ Held w0 W (blkR g4 214 (shaC st blk n) :: (L1 ++ blkR g 214 (shaC st blk n) :: L2)))->q':=by
 intro hend
 refine wp_region_lit ?_
 (conv=>arg 4;whnf)
 unfold Sl at o0
 have S:=LH S
 have HS:=LH hs
 have HB:=LH hb
 clear hs hb
 obtain ⟨cs,hcs⟩:∃ cs,Hid (shaC st blk n=cs):=⟨_,LH rfl⟩
 have hz:=LH (shaC_size (n:=n) HS.out HB.out)
 have h1:=LH (shaC_one st blk n)
 rw [hcs.out] at S hz h1
 go_wp2_with (first
  |(refine wpList_load_blk rfl 214 (.tmp 13) rfl g (aO o0) 214 _ S.out.at_ _ Tryz.underlying214 rfl (by rw [hz.out];exact Tryz.infoSha) ?_)
  |(refine wpList_store_blk rfl 214 (.tmp 4) (.tmp 14) rfl w.heap.size aE cs aE 214 _ (Blk.new w 214 _) (by rw [hz.out];exact Tryz.infoSha) (by rw [hz.out];rfl) h1.out ?_;intro w7 b7 k7;have S7:=LH (Held.setBlk (l1:=[]) (S.out.newBlk 214 _) b7 k7);clear b7 k7))
 rw [<- hcs.out] at S7
 try simp only [Act.put]
 exact hend _ _ tS (⟨_,sP0,S7.out⟩)
theorem ssm_r5(g n:Nat)(cs:Array Value)(hc:cs[72]?=some (.int .i64 (n:Int)))(hb:Blk w g 214 cs)(hn:n < 1152921504606846976)(hsz:a.tmps.size=52)(o0:Sl a 0 (Pq g 0)):RG0 5 Tryz.f135 Q a w fun a' q'=>Sl a' 5 (.int .u64 ((8 * n:Nat):Int))->q':=by
 intro hend
 refine wp_region_lit ?_
 (conv=>arg 4;whnf)
 unfold Sl at o0
 have c1:w.cell? ⟨g,72,none⟩=some (.int .i64 (n:Int)):=by rw [hb.cell];exact hc
 have hw:=LH (show ((n:Int) * 8) % 18446744073709551616=((8 * n:Nat):Int) from by omega)
 have hn:=LH hn
 clear hb hc
 go_wp2
 first|rw [hw.out]|skip
 try simp only [Act.put]
 exact hend _ tS sP
theorem ssm_r6(w0:World)(g4:Nat)(m:Bs)(st:List Nat)(blk:Bs)(hU:Und m st blk)(hm:m.length+1 < 4611686018427387904)(L:List Res)(S:Held w0 w (blkR g4 214 (shaC st blk m.length) :: L))(hsz:a.tmps.size=52)(o4:Sl a 4 (Pq g4 0)):RG1 false 6 Tryz.f135 Q a w fun a' W q'=>(∃ st' blk',Und (m ++ [128]) st' blk' ∧ Held w0 W (blkR g4 214 (shaC st' blk' (m ++ [128]).length) :: L))->q':=by
 intro hend
 refine wp_region_lit ?_
 (conv=>arg 4;whnf)
 unfold Sl at o4
 have S:=LH S
 have hU:=LH hU
 have Hm:=LH hm
 clear hm
 go_wp2_with fail
 refine (take_any w0 g4 m [128] st blk hU.out (by simp;exact Hm.out) _ (rowR 5 1 (.slice (some ⟨w.heap.size,0,none⟩) 1 1) 1 (bv [128]) :: L) _ (fun V cs SV=>Rd.of_own (SV.at_ (l1:=[_]))) ?_).mono ?_
 . refine (Held.perm ?_ (List.Perm.swap _ _ _))
   exact S.out.rownew (ow_new w 5 1 1 #[.int .u8 128] rfl (by decide)) ((Kp.refl [] w).alloc _) (fun g hg=>Nat.le_of_eq (Option.some.inj hg))
 rintro e w2 ⟨rfl,st2,blk2,U2,S2⟩
 have S2:=LH (S2.dropAt (l1:=[_]))
 go_wp2
 try simp only [Act.put]
 exact hend _ _ tS (⟨st2,blk2,U2,S2.out⟩)
theorem ssm_r8(w0:World)(g4:Nat)(m:Bs)(st:List Nat)(blk:Bs)(hU:Und m st blk)(hm:m.length+1 < 4611686018427387904)(L:List Res)(S:Held w0 w (blkR g4 214 (shaC st blk m.length) :: L))(hsz:a.tmps.size=52)(o4:Sl a 4 (Pq g4 0)):RG1 false 8 Tryz.f135 Q a w fun a' W q'=>(∃ st' blk',Und (m ++ [0]) st' blk' ∧ Held w0 W (blkR g4 214 (shaC st' blk' (m ++ [0]).length) :: L))->q':=by
 intro hend
 refine wp_region_lit ?_
 (conv=>arg 4;whnf)
 unfold Sl at o4
 have S:=LH S
 have hU:=LH hU
 have Hm:=LH hm
 clear hm
 go_wp2_with fail
 refine (take_any w0 g4 m [0] st blk hU.out (by simp;exact Hm.out) _ (rowR 5 1 (.slice (some ⟨w.heap.size,0,none⟩) 1 1) 1 (bv [0]) :: L) _ (fun V cs SV=>Rd.of_own (SV.at_ (l1:=[_]))) ?_).mono ?_
 . refine (Held.perm ?_ (List.Perm.swap _ _ _))
   exact S.out.rownew (ow_new w 5 1 1 #[.int .u8 0] rfl (by decide)) ((Kp.refl [] w).alloc _) (fun g hg=>Nat.le_of_eq (Option.some.inj hg))
 rintro e w2 ⟨rfl,st2,blk2,U2,S2⟩
 have S2:=LH (S2.dropAt (l1:=[_]))
 go_wp2
 try simp only [Act.put]
 exact hend _ _ tS (⟨st2,blk2,U2,S2.out⟩)
theorem ssm_r12(w0:World)(g4:Nat)(m:Bs)(st:List Nat)(blk:Bs)(b:UInt8)(hU:Und m st blk)(hm:m.length+1 < 4611686018427387904)(L:List Res)(S:Held w0 w (blkR g4 214 (shaC st blk m.length) :: L))(N i:Nat)(hi:i<=56)(hb:b=UInt8.ofNat (N / 2 ^ i))(hsz:a.tmps.size=52)(o4:Sl a 4 (Pq g4 0))(o5:Sl a 5 (.int .u64 (N:Int)))(o6:Sl a 6 (.int .i64 (i:Int))):RG1 false 12 Tryz.f135 Q a w fun a' W q'=>(∃ st' blk',Und (m ++ [b]) st' blk' ∧ Held w0 W (blkR g4 214 (shaC st' blk' (m ++ [b]).length) :: L))->q':=by
 intro hend
 refine wp_region_lit ?_
 (conv=>arg 4;whnf)
 unfold Sl at o4 o5 o6
 have S:=LH S
 have hU:=LH hU
 have Hm:=LH hm
 clear hm
 have hbv:Hid (((N:Int) / 2 ^ i) % 256=(b.toNat:Int)):=LH (by rw [hb,UInt8.toNat_ofNat',Int.natCast_emod,Int.natCast_ediv,Int.natCast_pow];rfl)
 clear hb
 go_wp2_with fail
 rw [hbv.out]
 refine (take_any w0 g4 m [b] st blk hU.out (by simp;exact Hm.out) _ (rowR 5 1 (.slice (some ⟨w.heap.size,0,none⟩) 1 1) 1 (bv [b]) :: L) _ (fun V cs SV=>Rd.of_own (SV.at_ (l1:=[_]))) ?_).mono ?_
 . refine (Held.perm ?_ (List.Perm.swap _ _ _))
   exact S.out.rownew (ow_new w 5 1 1 #[.int .u8 (b.toNat:Int)] rfl (by decide)) ((Kp.refl [] w).alloc _) (fun g hg=>Nat.le_of_eq (Option.some.inj hg))
 rintro e w2 ⟨rfl,st2,blk2,U2,S2⟩
 have S2:=LH (S2.dropAt (l1:=[_]))
 go_wp2
 try simp only [Act.put]
 exact hend _ _ tS (⟨st2,blk2,U2,S2.out⟩)
theorem ssm_r7(g4 n:Nat)(cs:Array Value)(hc:cs[72]?=some (.int .i64 (n:Int)))(hb:Blk w g4 214 cs)(hsz:a.tmps.size=52)(o4:Sl a 4 (Pq g4 0)):RG0 7 Tryz.f135 Q a w fun a' q'=>Sl a' 26 (.bool (((n % 64:Nat):Int) != 56))->q':=by
 intro hend
 refine wp_region_lit ?_
 (conv=>arg 4;whnf)
 unfold Sl at o4
 have c1:w.cell? ⟨g4,72,none⟩=some (.int .i64 (n:Int)):=by rw [hb.cell];exact hc
 have ht:Int.tmod (n:Int) 64=((n % 64:Nat):Int):=rfl
 have hd:(((n % 64:Nat):Int) == 56)=decide (n % 64=56):=by rw [Bool.eq_iff_iff,beq_iff_eq,decide_eq_true_iff];omega
 obtain ⟨q,hq⟩:∃ q,n % 64=q:=⟨_,rfl⟩
 rw [hq] at ht hd hend
 have hq:=LH hq
 clear hb hc
 go_wp2_with fail
 try simp only [Act.put]
 exact hend _ tS sP
theorem ssm_r9(hsz:a.tmps.size=52):RG0 9 Tryz.f135 Q a w fun a' q'=>Sl a' 6 (Nq 56)->q':=by
 intro hend
 refine wp_region_lit ?_
 (conv=>arg 4;whnf)
 go_wp2_with fail
 try simp only [Act.put]
 exact hend _ tS sP
theorem ssm_r10(z:Int)(hsz:a.tmps.size=52)(o6:Sl a 6 (.int .i64 z)):RG0 10 Tryz.f135 Q a w fun a' q'=>Sl a' 30 (.bool (decide (0<=z)))->q':=by
 intro hend
 refine wp_region_lit ?_
 (conv=>arg 4;whnf)
 unfold Sl at o6
 go_wp2_with fail
 try simp only [Act.put]
 exact hend _ tS sP
theorem ssm_r11(z:Int)(hz:-100<=z ∧ z<=100)(hsz:a.tmps.size=52)(o6:Sl a 6 (.int .i64 z)):RG0 11 Tryz.f135 Q a w fun a' q'=>Sl a' 6 (.int .i64 (z - 8))->q':=by
 intro hend
 refine wp_region_lit ?_
 (conv=>arg 4;whnf)
 unfold Sl at o6
 have hw:wrap64 (z - 8)=z - 8:=by unfold wrap64;omega
 go_wp2_with fail
 try simp only [Act.put]
 exact hend _ tS sP
theorem ssm_r13(w0:World)(g n:Nat)(st:List Nat)(blk:Bs)(hs:st.length=8)(hb:blk.length=64)(L:List Res)(S:Held w0 w (blkR g 214 (shaC st blk n) :: L))(hsz:a.tmps.size=52)(o4:Sl a 4 (Pq g 0)):RG0 13 Tryz.f135 Q a w fun a' q'=>Sl a' 40 (.agg (u32A st))->Sl a' 41 (Nq 0)->q':=by
 intro hend
 refine wp_region_lit ?_
 (conv=>arg 4;whnf)
 unfold Sl at o4
 have S:=LH S
 have HS:=LH hs
 clear hs hb
 go_wp2_with (refine wpList_load_agg rfl 205 (.tmp 39) rfl ⟨g,0,none⟩ aE (u32A st).toList _ (sha_stateAt (S.out.at_ (l1:=[])) HS.out) Tryz.underlying205 rfl (by rw [Array.length_toList,u32A_size,HS.out];exact Tryz.info8w) ?_)
 try simp only [Act.put]
 exact hend _ tS sP sP
theorem ssm_r14(k:Nat)(hsz:a.tmps.size=52)(o41:Sl a 41 (.int .i64 (k:Int))):RG0 14 Tryz.f135 Q a w fun a' q'=>Sl a' 42 (.bool (decide ((k:Int) < 8)))->q':=by
 intro hend
 refine wp_region_lit ?_
 (conv=>arg 4;whnf)
 unfold Sl at o41
 go_wp2_with fail
 try simp only [Act.put]
 exact hend _ tS sP
theorem ssm_r15(k x:Nat)(st:List Nat)(hk:k < 8)(hs:st.length=8)(hx:st[k]?=some x)(hsz:a.tmps.size=52)(o40:Sl a 40 (.agg (u32A st)))(o41:Sl a 41 (.int .i64 (k:Int))):RG0 15 Tryz.f135 Q a w fun a' q'=>Sl a' 7 (.int .i64 (k:Int))->Sl a' 8 (.int .u32 (x:Int))->q':=by
 intro hend
 refine wp_region_lit ?_
 (conv=>arg 4;whnf)
 unfold Sl at o40 o41
 have hr:(Instr.index 205 (.agg (u32A st)) (.int .i64 (k:Int))).run Tryz.prog w=.ok (.int .u32 (x:Int)) w:=run_index_u32 w 205 204 8 st .i64 (k:Int) k x rfl hx hs Tryz.underlying205 Tryz.underlying204 (by kernel_rfl)
 obtain ⟨ca,hca⟩:∃ ca,u32A st=ca:=⟨_,rfl⟩
 rw [hca] at hr o40
 clear hca
 go_wp2_with fail
 try simp only [Act.put]
 exact hend _ tS sP sP
theorem ssm_r16(w0:World)(g3:Nat)(cs:Bs)(hl:cs.length=32)(k x:Nat)(hk:k < 8)(L1 L:List Res)(S:Held w0 w (L1 ++ blkR g3 23 (hashA cs) :: L))(hsz:a.tmps.size=52)(o3:Sl a 3 (Pq g3 0))(o7:Sl a 7 (.int .i64 (k:Int)))(o8:Sl a 8 (.int .u32 (x:Int))):RG1 false 16 Tryz.f135 Q a w fun a' W q'=>(Held w0 W (L1 ++ blkR g3 23 (hashA (lay cs (4 * k) (be 4 x))) :: L))->q':=by
 intro hend
 refine wp_region_lit ?_
 (conv=>arg 4;whnf)
 unfold Sl at o3 o7 o8
 have hsl:=Tryz.slice32at g3 w (4 * k) (4 * (k:Int)) (by omega) (by omega)
 have HR:=LH (put_any w0 g3 23 cs (4 * k) (32 - 4 * k) (32 - 4 * k) x (by omega) (by omega) (L1 ++ L) w (S.perm List.perm_middle))
 clear S
 go_wp2_with fail
 refine HR.out.mono ?_
 rintro e w2 ⟨rfl,S2⟩
 have S2:=LH (S2.perm List.perm_middle.symm)
 go_wp2
 try simp only [Act.put]
 exact hend _ _ tS (S2.out)
theorem ssm_r17(k:Nat)(hk:k < 8)(hsz:a.tmps.size=52)(o41:Sl a 41 (.int .i64 (k:Int))):RG0 17 Tryz.f135 Q a w fun a' q'=>Sl a' 41 (Nq (k+1))->q':=by
 intro hend
 refine wp_region_lit ?_
 (conv=>arg 4;whnf)
 unfold Sl at o41
 go_wp2_with fail
 try simp only [Act.put]
 exact hend _ tS sP
theorem ssm_r18(w0:World)(g3 g2:Nat)(cs c2:Bs)(hl:cs.length=32)(h2:c2.length=32)(L1 L2 L3:List Res)(S:Held w0 w (L1 ++ blkR g3 23 (hashA cs) :: (L2 ++ blkR g2 23 (hashA c2) :: L3)))(hsz:a.tmps.size=52)(o2:Sl a 2 (Pq g2 0))(o3:Sl a 3 (Pq g3 0)):RG1 false 18 Tryz.f135 Q a w fun a' W q'=>(Held w0 W ((L1 ++ blkR g3 23 (hashA cs) :: L2) ++ blkR g2 23 (hashA cs) :: L3))->q':=by
 intro hend
 refine wp_region_lit ?_
 (conv=>arg 4;whnf)
 unfold Sl at o2 o3
 have S:=LH S
 have HL:=LH hl
 have H2:=LH h2
 clear hl h2
 have S':Hid (Held w0 w ((L1 ++ blkR g3 23 (hashA cs) :: L2) ++ blkR g2 23 (hashA c2) :: L3)):=LH (by have:=S.out;simpa [List.append_assoc] using this)
 go_wp2_with (first
  |(refine wpList_load_blk rfl 23 (.tmp 3) rfl g3 (aO o3) 23 _ S.out.at_ _ Tryz.underlying23 rfl (by rw [hashA_size,HL.out];exact Tryz.infoHashP) ?_)
  |(refine wpList_store_blk rfl 23 (.tmp 2) (.tmp 51) rfl g2 (aO o2) (hashA cs) aE 23 _ S'.out.at_ (by rw [hashA_size,HL.out];exact Tryz.infoHashP) (by rw [hashA_size,hashA_size,HL.out,H2.out]) (hashA_one cs) ?_;intro w7 b7 k7;have S7:=LH (Held.setBlk S'.out b7 k7);clear b7 k7))
 try simp only [Act.put]
 exact hend _ _ tS (S7.out)
end
section
open Go.RowKit
def dsSm0:List Nat:=[23,24,25,26,27,28]
def dsSm1:List Nat:=[6,29,30,31,32,33,34,35,36,37,38]
def dsSm2:List Nat:=[7,8,41,42,43,44,45,46,47,48,49,50]
theorem padZ_le(n j:Nat)(h:(n+1+j) % 64 ≠ 56)(hj:j<=padZ n):j < padZ n:=by
 unfold padZ at *
 omega
theorem padZ_end(n j:Nat)(h:(n+1+j) % 64=56)(hj:j<=padZ n):j=padZ n:=by
 unfold padZ at *
 omega
theorem ssm_l0{Q:Exit->Act->World->Prop}{a:Act}{w0 w:World}(g4:Nat)(m:Bs)(st:List Nat)(blk:Bs)(hU:Und (m ++ [128]) st blk)(hm:m.length < 1152921504606846976)(L:List Res)(hsz:a.tmps.size=52)(o4:Sl a 4 (Pq g4 0))
 (S:Held w0 w (blkR g4 214 (shaC st blk (m ++ [128]).length) :: L))
 (hend:∀ (a':Act) (W:World) (st:List Nat) (blk:Bs),Same a a' dsSm0->Und (m ++ [128] ++ List.replicate (padZ m.length) 0) st blk->Held w0 W (blkR g4 214 (shaC st blk (m ++ [128] ++ List.replicate (padZ m.length) 0).length) :: L)->Q .normal a' W):
 (Code.block 0 (blockOf 0 Tryz.f135)).wp Tryz.prog Q a w:=by
 refine wp_block ?_
 (conv=>arg 2;whnf)
 obtain ⟨M,hM⟩:∃ M:Act->World->Nat,M=fun _ w'=>padZ m.length - (match w'.cell? ⟨g4,72,none⟩ with|some v=>(intOf v).toNat - (m.length+1)|none=>0):=⟨_,rfl⟩
 refine wp_loop (fun a' w'=>∃ (j:Nat) (st:List Nat) (blk:Bs),j<=padZ m.length ∧ Same a a' dsSm0 ∧ Und (m ++ [128] ++ List.replicate j 0) st blk ∧ Held w0 w' (blkR g4 214 (shaC st blk (m ++ [128] ++ List.replicate j 0).length) :: L)) M ⟨0,st,blk,Nat.zero_le _,Same.refl _ _,by rw [List.replicate_zero,List.append_nil];exact hU,by rw [List.replicate_zero,List.append_nil];exact S⟩ ?_
 clear hU S
 rintro a1 w1 ⟨j,st,blk,hj,T,hU,S⟩
 have o4:=T.keep 4 _ (by decide) o4
 have hz1:=T.size.trans hsz
 have hpz:=(padZ_spec m.length).2
 have hl:(m ++ [128] ++ List.replicate j 0).length=m.length+1+j:=by simp;omega
 have hM1:∀ (a':Act) (W:World) (st:List Nat) (blk:Bs) (j:Nat),st.length=8->blk.length=64->Held w0 W (blkR g4 214 (shaC st blk (m ++ [128] ++ List.replicate j 0).length) :: L)->M a' W=padZ m.length - j:=by
  intro a' W st blk j h8 h64 S
  rw [hM]
  show padZ m.length - (match W.cell? ⟨g4,72,none⟩ with|some v=>(intOf v).toNat - (m.length+1)|none=>0)=_
  rw [(S.at_ (l1:=[])).cell,shaC_len h8 h64]
  simp [intOf]
  omega
 refine wp_seq (wp_seq (ssm_r7 g4 _ _ (shaC_len hU.len8 hU.len) (S.at_ (l1:=[])) hz1 o4 (fun a2 hs2 o26=>?_)))
 have hz2:=hs2.size.trans hz1;have o4:=hs2.q o4
 have T:=T.trans hs2
 rw [hl] at o26
 by_cases hlt:(m.length+1+j) % 64=56
 . refine wcF o26 (wp_exit ?_) (by rw [hlt];rfl)
   obtain rfl:=padZ_end _ _ hlt hj
   exact hend _ _ st blk (T.more (by decide +kernel)) hU S
 . refine wcT o26 (wp_skip ?_) (by rw [show ((((m.length+1+j) % 64:Nat):Int) != 56)=true from by rw [bne_iff_ne];omega])
   have hjl:=padZ_le _ _ hlt hj
   refine wp_block ?_
   refine ssm_r8 w0 g4 _ st blk hU (by rw [hl];omega) L S hz2 o4 (fun a3 w2 hs3 h=>?_)
   obtain ⟨hz3,-,o4,o26⟩:=kq2 hs3 hz2 rfl o4 o26
   have T:=T.trans hs3
   obtain ⟨st2,blk2,U2,S2⟩:=h
   have e:m ++ [128] ++ List.replicate j 0 ++ [0]=m ++ [128] ++ List.replicate (j+1) 0:=by rw [List.append_assoc,<- List.replicate_succ']
   rw [e] at U2 S2
   refine ⟨⟨j+1,st2,blk2,hjl,T.more (by decide +kernel),U2,S2⟩,?_⟩
   show M _ _ < M _ _
   rw [hM1 _ _ _ _ _ U2.len8 U2.len S2,hM1 a1 w1 _ _ _ hU.len8 hU.len S]
   omega
theorem be8_take(N r:Nat)(h:r < 8):(be 8 N).take (r+1)=(be 8 N).take r ++ [UInt8.ofNat (N / 2 ^ (56 - 8 * r))]:=by
 rcases (by omega:r=0 ∨ r=1 ∨ r=2 ∨ r=3 ∨ r=4 ∨ r=5 ∨ r=6 ∨ r=7) with rfl|rfl|rfl|rfl|rfl|rfl|rfl|rfl <;> rfl
theorem ssm_l1{Q:Exit->Act->World->Prop}{a:Act}{w0 w:World}(g4:Nat)(m:Bs)(N:Nat)(st:List Nat)(blk:Bs)(hU:Und m st blk)(hm:m.length+8 < 4611686018427387904)(L:List Res)(hsz:a.tmps.size=52)(o4:Sl a 4 (Pq g4 0))(o5:Sl a 5 (.int .u64 (N:Int)))(o6:Sl a 6 (Nq 56))
 (S:Held w0 w (blkR g4 214 (shaC st blk m.length) :: L))
 (hend:∀ (a':Act) (W:World) (st:List Nat) (blk:Bs),Same a a' dsSm1->Und (m ++ be 8 N) st blk->Held w0 W (blkR g4 214 (shaC st blk (m ++ be 8 N).length) :: L)->Q .normal a' W):
 (Code.block 2 (blockOf 2 Tryz.f135)).wp Tryz.prog Q a w:=by
 refine wp_block ?_
 (conv=>arg 2;whnf)
 refine wp_loop (fun a' w'=>∃ (r:Nat) (st:List Nat) (blk:Bs),r<=8 ∧ Same a a' dsSm1 ∧ Sl a' 6 (.int .i64 (56 - 8 * (r:Int))) ∧ Und (m ++ (be 8 N).take r) st blk ∧ Held w0 w' (blkR g4 214 (shaC st blk (m ++ (be 8 N).take r).length) :: L)) (fun a' _=>(intOf (a'.eval (.tmp 6))+8).toNat) ⟨0,st,blk,Nat.zero_le _,Same.refl _ _,o6,by rw [List.take_zero,List.append_nil];exact hU,by rw [List.take_zero,List.append_nil];exact S⟩ ?_
 clear hU S o6
 rintro a1 w1 ⟨r,st,blk,hr,T,o6,hU,S⟩
 have o4:=T.keep 4 _ (by decide) o4
 have o5:=T.keep 5 _ (by decide) o5
 have hz1:=T.size.trans hsz
 have eCtr:=o6.eval (by rw [hz1];decide)
 have hl:(m ++ (be 8 N).take r).length=m.length+r:=by rw [List.length_append,List.length_take,be_length];omega
 refine wp_seq (wp_seq (ssm_r10 _ hz1 o6 (fun a2 hs2 o30=>?_)))
 obtain ⟨hz2,-,o4,o5,o6⟩:=kq3 hs2 hz1 rfl o4 o5 o6
 have T:=T.trans hs2
 by_cases hlt:r < 8
 . refine wcT o30 (wp_skip ?_) (by rw [decide_eq_true (by omega)])
   have e6:(56 - 8 * (r:Int))=(((56 - 8 * r:Nat)):Int):=by omega
   have o6':=o6
   rw [e6] at o6'
   refine wp_seq (wp_block ?_)
   refine ssm_r12 w0 g4 _ st blk _ hU (by rw [hl];omega) L S N (56 - 8 * r) (by omega) rfl hz2 o4 o5 o6' (fun a3 w2 hs3 h=>?_)
   obtain ⟨hz3,-,o4,o5,o6,o30⟩:=kq4 hs3 hz2 rfl o4 o5 o6 o30
   have T:=T.trans hs3
   obtain ⟨st2,blk2,U2,S2⟩:=h
   rw [List.append_assoc,<- be8_take N r hlt] at U2 S2
   refine ssm_r11 _ (by omega) hz3 o6 (fun a4 hs4 o6=>?_)
   obtain ⟨hz4,-,o4,o5,o30⟩:=kq3 hs4 hz3 rfl o4 o5 o30
   have T:=T.trans hs4
   have e7:(56 - 8 * (r:Int)) - 8=56 - 8 * ((r+1:Nat):Int):=by omega
   rw [e7] at o6
   refine ⟨⟨r+1,st2,blk2,by omega,T.more (by decide +kernel),o6,U2,S2⟩,?_⟩
   show (intOf (_)+8).toNat < (intOf (_)+8).toNat
   rw [eCtr,o6.eval (by rw [hz4];decide)]
   show (56 - 8 * ((r+1:Nat):Int)+8).toNat < (56 - 8 * (r:Int)+8).toNat
   omega
 . obtain rfl:r=8:=by omega
   refine wcF o30 (wp_exit ?_) (by rw [decide_eq_false (by omega)])
   rw [List.take_of_length_le (by simp)] at hU S
   exact hend _ _ st blk (T.more (by decide +kernel)) hU S
def layW (st:List Nat) (k:Nat):List UInt8:=(st.take k).flatMap (be 4) ++ List.replicate (32 - 4 * k) 0
theorem flat4(l:List Nat):(l.flatMap (be 4)).length=4 * l.length:=by
 induction l with
 |nil=>rfl
 |cons a l ih=>rw [List.flatMap_cons,List.length_append,ih,be_length,List.length_cons];omega
theorem layW_length{st:List Nat}(hs:st.length=8){k:Nat}(hk:k<=8):(layW st k).length=32:=by
 unfold layW
 rw [List.length_append,flat4,List.length_take,List.length_replicate];omega
theorem layW_next{st:List Nat}(hs:st.length=8){k x:Nat}(hk:k < 8)(hx:st[k]?=some x):lay (layW st k) (4 * k) (be 4 x)=layW st (k+1):=by
 have h1:((st.take k).flatMap (be 4)).length=4 * k:=by rw [flat4,List.length_take];omega
 unfold lay layW
 rw [List.take_left' h1,List.drop_append,List.drop_of_length_le (by rw [h1,be_length];omega),List.nil_append,h1,be_length,List.drop_replicate,List.take_add_one,hx]
 simp only [Option.toList_some,List.flatMap_append,List.flatMap_cons,List.flatMap_nil,List.append_nil]
 congr 2
 omega
theorem ssm_l2{Q:Exit->Act->World->Prop}{a:Act}{w0 w:World}(g3:Nat)(st:List Nat)(hs:st.length=8)(L1 L:List Res)(hsz:a.tmps.size=52)(o3:Sl a 3 (Pq g3 0))(o40:Sl a 40 (.agg (u32A st)))(o41:Sl a 41 (Nq 0))
 (S:Held w0 w (L1 ++ blkR g3 23 (hashA (List.replicate 32 0)) :: L))
 (hend:∀ a' W,Same a a' dsSm2->Held w0 W (L1 ++ blkR g3 23 (hashA (st.flatMap (be 4))) :: L)->Q .normal a' W):
 (Code.block 4 (blockOf 4 Tryz.f135)).wp Tryz.prog Q a w:=by
 refine wp_block ?_
 (conv=>arg 2;whnf)
 refine wp_loop (fun a' w'=>∃ k:Nat,k<=8 ∧ Same a a' dsSm2 ∧ Sl a' 41 (.int .i64 (k:Int)) ∧ Held w0 w' (L1 ++ blkR g3 23 (hashA (layW st k)) :: L)) (fun a' _=>8 - (intOf (a'.eval (.tmp 41))).toNat) ⟨0,Nat.zero_le _,Same.refl _ _,o41,S⟩ ?_
 clear S o41
 rintro a1 w1 ⟨k,hk,T,o41,S⟩
 have o3:=T.keep 3 _ (by decide) o3
 have o40:=T.keep 40 _ (by decide) o40
 have hz1:=T.size.trans hsz
 have eCtr:=o41.eval (by rw [hz1];decide)
 refine wp_seq (ssm_r14 k hz1 o41 (fun a2 hs2 o42=>?_))
 obtain ⟨hz2,-,o3,o40,o41⟩:=kq3 hs2 hz1 rfl o3 o40 o41
 have T:=T.trans hs2
 by_cases hlt:k < 8
 . refine wp_seq (wcT o42 (wp_skip ?_) (by rw [decide_eq_true (by omega)]))
   obtain ⟨x,hx⟩:∃ x,st[k]?=some x:=⟨_,List.getElem?_eq_getElem (by omega)⟩
   refine wp_seq (wp_block ?_)
   refine wp_seq (ssm_r15 k x st hlt hs hx hz2 o40 o41 (fun a3 hs3 o7 o8=>?_))
   obtain ⟨hz3,-,o3,o40,o41,o42⟩:=kq4 hs3 hz2 rfl o3 o40 o41 o42
   have T:=T.trans hs3
   refine ssm_r16 w0 g3 _ (layW_length hs hk) k x hlt L1 L S hz3 o3 o7 o8 (fun a4 w2 hs4 S=>?_)
   obtain ⟨hz4,-,o3,o40,o41,o42,o7,o8⟩:=kq6 hs4 hz3 rfl o3 o40 o41 o42 o7 o8
   have T:=T.trans hs4
   rw [layW_next hs hlt hx] at S
   refine ssm_r17 k hlt hz4 o41 (fun a5 hs5 o41=>?_)
   obtain ⟨hz5,-,o3,o40,o42,o7,o8⟩:=kq5 hs5 hz4 rfl o3 o40 o42 o7 o8
   have T:=T.trans hs5
   refine ⟨⟨k+1,by omega,T.more (by decide +kernel),o41,S⟩,?_⟩
   show 8 - (intOf _).toNat < 8 - (intOf _).toNat
   rw [eCtr,o41.eval (by rw [hz5];decide)]
   simp [intOf];omega
 . obtain rfl:k=8:=by omega
   refine wp_seq (wcF o42 (wp_exit ?_) (by rw [decide_eq_false (by omega)]))
   have e:layW st 8=st.flatMap (be 4):=by unfold layW;rw [List.take_of_length_le (by omega)];simp
   rw [e] at S
   exact hend _ _ (T.more (by decide +kernel)) S
theorem ssum_any(w0:World)(g:Nat)(m:Bs)(st:List Nat)(blk:Bs)(hU:Und m st blk)(hm:m.length < 1152921504606846976)(L:List Res)(w:World)(S:Held w0 w (blkR g 214 (shaC st blk m.length) :: L)):
 Calls Tryz.prog 135 #[Pq g 0] w fun e w'=>e=.returned (.agg (hashA (shaF m))) ∧ Held w0 w' (blkR g 214 (shaC st blk m.length) :: L):=by
 refine calls_fr Tryz.func135 rfl 52 rfl (fun a0 hsz hdf hAr=>?_)
 have hz0:a0.tmps.size=52:=hsz
 have D:=hdf
 have o0:=hAr 0 _ rfl
 refine wp_seq (ssm_r0 w0 _ S hz0 (fun a1 w1 hs1 h=>?_))
 obtain ⟨hz1,D,o0⟩:=kq1 hs1 hz0 D o0
 obtain ⟨g2,o2,S⟩:=h
 refine wp_seq (ssm_r1 w0 _ S hz1 (fun a2 w2 hs2 h=>?_))
 obtain ⟨hz2,D,o0,o2⟩:=kq2 hs2 hz1 D o0 o2
 obtain ⟨g3,o3,S⟩:=h
 refine wp_seq (wp_seq (ssm_r2 g _ (shaC_made hU.len8 hU.len) (S.at_ (l1:=[_,_])) hz2 o0 (fun a3 hs3 o10=>?_)))
 obtain ⟨hz3,D,o0,o2,o3⟩:=kq3 hs3 hz2 D o0 o2 o3
 refine wcF o10 (wp_skip ?_)
 refine wp_seq (ssm_r4 w0 g _ st blk hU.len8 hU.len [_,_] _ S hz3 o0 (fun a4 w4 hs4 h=>?_))
 obtain ⟨hz4,D,o0,o2,o3⟩:=kq3 hs4 hz3 D o0 o2 o3
 obtain ⟨g4,o4,S⟩:=h
 refine wp_seq (ssm_r5 g _ _ (shaC_len hU.len8 hU.len) (S.at_ (l1:=[_,_,_])) hm hz4 o0 (fun a5 hs5 o5=>?_))
 obtain ⟨hz5,D,o0,o2,o3,o4⟩:=kq4 hs5 hz4 D o0 o2 o3 o4
 refine wp_seq (ssm_r6 w0 g4 m st blk hU (by omega) _ S hz5 o4 (fun a6 w6 hs6 h=>?_))
 obtain ⟨hz6,D,o0,o2,o3,o4,o5⟩:=kq5 hs6 hz5 D o0 o2 o3 o4 o5
 obtain ⟨st1,blk1,U1,S⟩:=h
 refine wp_seq (ssm_l0 g4 m st1 blk1 U1 hm _ hz6 o4 S (fun a7 w7 st2 blk2 hs7 U2 S=>?_))
 obtain ⟨hz7,D,o0,o2,o3,o4,o5⟩:=kq5 hs7 hz6 D o0 o2 o3 o4 o5
 have hpz:=(padZ_spec m.length).2
 have hl2:(m ++ [128] ++ List.replicate (padZ m.length) 0).length=m.length+1+padZ m.length:=by simp;omega
 refine wp_seq (wp_seq (ssm_r9 hz7 (fun a8 hs8 o6=>?_)))
 obtain ⟨hz8,D,o0,o2,o3,o4,o5⟩:=kq5 hs8 hz7 D o0 o2 o3 o4 o5
 refine ssm_l1 g4 _ (8 * m.length) st2 blk2 U2 (by omega) _ hz8 o4 o5 o6 S (fun a9 w9 st3 blk3 hs9 U3 S=>?_)
 obtain ⟨hz9,D,o0,o2,o3,o4,o5⟩:=kq5 hs9 hz8 D o0 o2 o3 o4 o5
 have ep:m ++ [128] ++ List.replicate (padZ m.length) 0 ++ be 8 (8 * m.length)=pad m:=by unfold pad;simp only [List.append_assoc,List.cons_append,List.nil_append]
 rw [ep] at U3 S
 have h8:=U3.len8
 have h64:=U3.len
 refine wp_seq (wp_seq (ssm_r13 w0 g4 _ st3 blk3 h8 h64 _ S hz9 o4 (fun a10 hs10 o40 o41=>?_)))
 obtain ⟨hz10,D,o0,o2,o3,o4,o5⟩:=kq5 hs10 hz9 D o0 o2 o3 o4 o5
 refine ssm_l2 g3 st3 h8 [_] _ hz10 o3 o40 o41 S (fun a11 w11 hs11 S=>?_)
 obtain ⟨hz11,D,o0,o2,o3,o4,o5,o40⟩:=kq6 hs11 hz10 D o0 o2 o3 o4 o5 o40
 have ef:st3.flatMap (be 4)=shaF m:=by unfold shaF;rw [U3.st]
 rw [ef] at S
 refine wp_seq (ssm_r18 w0 g3 g2 _ (List.replicate 32 0) (shaF_length m) rfl [_] [] _ S hz11 o2 o3 (fun a12 w12 hs12 S=>?_))
 obtain ⟨hz12,D,o0,o2,o3,o4,o5,o40⟩:=kq6 hs12 hz11 D o0 o2 o3 o4 o5 o40
 refine wp_ret (bodyPost_ret (results_cell1 (by rfl) (o2.eval (by rw [hz12];decide)) (S.at_ (l1:=[_,_])) Tryz.underlying23 rfl (by rw [hashA_size,shaF_length];exact Tryz.infoHashP)) D ⟨rfl,?_⟩)
 exact S.drop.drop.drop
end
section
def le4 (y:Nat):List UInt8:=[UInt8.ofNat y,UInt8.ofNat (y / 256),UInt8.ofNat (y / 65536),UInt8.ofNat (y / 16777216)]
end
section
open Go.RowKit
theorem rd_txt(w:World)(e:TypeId)(cs:Array Value)(l:Bs)(fr:Nat × Nat)(h:cs.toList=bv l)(hn:l.length<=4096){g:Nat}(hg:g=w.heap.size):Rd (w.alloc (.cells cs e fr)) 1 (.slice (some ⟨g,0,none⟩) l.length l.length) l.length (bv l):=by
 subst hg
 refine ⟨by rw [bv_length];omega,_,_,rfl,Nat.le_refl _,by unfold maxLen;omega,(fun h=>by cases h),fun ad had j u hu=>?_⟩
 cases had
 have h1:=World.cell?_alloc_mark w cs e fr j
 rw [<- h,Array.getElem?_toList] at hu
 rw [hu] at h1
 by_cases hj:j=0
 . subst hj;simpa [Addr.add] using h1
 . simpa [Addr.add,hj] using h1
theorem conv_txt(w:World)(C:Array Value)(n c g:Nat)(hg:g=w.heap.size):(convert 32 32 (.slice (some ⟨g,0,none⟩) n c)).run Tryz.prog (w.alloc (.cells C 5))=.ok (.slice (some ⟨g,0,none⟩) n c) (w.alloc (.cells C 5 (C.size,C.size+1))):=by
 subst hg
 exact Lib.run_convert_bytes_const (P:=Tryz.prog) w 32 5 C n c Tryz.underlying32 Tryz.underlying5
def rdR (v:Value) (n:Nat) (xs:List Value):Res where
 fp:=v.ownBlock.toList
 ok:=fun w=>Rd w 1 v n xs ∧ ∀ g,v.ownBlock=some g->g < w.heap.size
 keep:=fun _ _ _ h hk hn=>⟨h.1.kp hk (fun g hg=>hn g (by simp [hg])),fun g hg=>Nat.lt_of_lt_of_le (h.2 g hg) hk.size⟩
 lt:=fun _ h b hb=>h.2 b (by simpa using hb)
end
section
open Go.RowKit
def ntry:List UInt8:=[78,84,82,89]
def headL (s:Int) (h:Bs):List UInt8:=ntry ++ be 8 (tou64 s) ++ h
def formL (s:Int) (h:Bs):List UInt8:=headL s h ++ le4 (crc (headL s h))
end
section
open Go.RowKit
theorem foldl_place(off:Nat):∀ (xs:List Value) (k:Nat) (cs:Array Value),(xs.zipIdx k).foldl (fun cs (x:Value × Nat)=>cs.setIfInBounds (off+x.2) x.1) cs=(cs.toList.take (off+k) ++ (xs.take (cs.size - (off+k))) ++ cs.toList.drop (off+k+xs.length)).toArray
 |[],k,cs=>by simp
 |x :: xs,k,cs=>by
  rw [List.zipIdx_cons,List.foldl_cons,foldl_place off xs (k+1)]
  congr 1
  simp only [Array.toList_setIfInBounds,Array.size_setIfInBounds]
  by_cases h:off+k < cs.size
  . have e1:(cs.toList.set (off+k) x).take (off+(k+1))=cs.toList.take (off+k) ++ [x]:=by
     rw [List.set_eq_take_append_cons_drop,if_pos (by simpa using h),List.take_append,List.take_take,List.length_take]
     simp [show min (off+k) cs.size=off+k from by omega,show off+(k+1) - (off+k)=1 from by omega]
    have e2:(cs.toList.set (off+k) x).drop (off+(k+1)+xs.length)=cs.toList.drop (off+k+(x :: xs).length):=by
     rw [List.drop_set,if_pos (by omega)]
     congr 1
     simp only [List.length_cons]
     omega
    rw [e1,e2,show cs.size - (off+k)=(cs.size - (off+(k+1)))+1 from by omega,List.take_succ_cons]
    simp
  . rw [List.set_eq_of_length_le (by simpa using h)]
    rw [show cs.size - (off+(k+1))=0 from by omega,show cs.size - (off+k)=0 from by omega]
    have hl:cs.toList.length<=off+k:=by simpa using h
    rw [List.take_of_length_le (by omega),List.take_of_length_le hl,List.drop_of_length_le (by omega),List.drop_of_length_le (by omega)]
    simp
theorem Tryz.built_is(ps:List (Nat × Value)):Tryz.prog.built 25 ps=Instr.fill (#[(0,1),(1,32)][·]?) zeroP ps:=by
 unfold Program.built
 kernel_rfl
theorem Tryz.built_pt(z:Int)(hh:Bs)(hl:hh.length=32):Tryz.prog.built 25 [(0,.int .i64 z),(1,.agg (hashA hh))]=some (ptA z hh):=by
 rw [Tryz.built_is]
 have e:∀ (z:Int),(zeroP.setIfInBounds 0 (.int .i64 z))=ptA z (List.replicate 32 0):=fun z=>rfl
 have h:((hashA hh).zipIdx.foldl (fun cs (x:Value × Nat)=>cs.setIfInBounds (1+x.2) x.1) (ptA z (List.replicate 32 0)))=ptA z hh:=by
  have h1:=foldl_place 1 (hashA hh).toList 0 (ptA z (List.replicate 32 0))
  have h2:=pt_lay z (List.replicate 32 0) hh hl rfl
  rw [show (hashA hh).zipIdx.foldl (fun cs (x:Value × Nat)=>cs.setIfInBounds (1+x.2) x.1) (ptA z (List.replicate 32 0))=((hashA hh).toList.zipIdx 0).foldl (fun cs (x:Value × Nat)=>cs.setIfInBounds (1+x.2) x.1) (ptA z (List.replicate 32 0)) from by rw [<- Array.foldl_toList,Array.toList_zipIdx],h1,<- h2]
  congr 1
  rw [List.take_of_length_le (l:=(hashA hh).toList) (by rw [ptA_size (by simp),Array.length_toList,hashA_size,hl];decide)]
  simp
 have hs:(hashA hh).size=32:=by rw [hashA_size,hl]
 have hs0:zeroP.size=33:=rfl
 have hs1:(ptA z (List.replicate 32 0)).size=33:=ptA_size (by simp)
 have f1:Instr.fill (#[(0,1),(1,32)][·]?) (ptA z (List.replicate 32 0)) [(1,.agg (hashA hh))]=some (ptA z hh):=by
  unfold Instr.fill
  show (if (decide ((hashA hh).size ≠ 32) || decide (1+(hashA hh).size > (ptA z (List.replicate 32 0)).size))=true then none else Instr.fill (#[(0,1),(1,32)][·]?) ((hashA hh).zipIdx.foldl (fun cs (x:Value × Nat)=>cs.setIfInBounds (1+x.2) x.1) (ptA z (List.replicate 32 0))) [])=some (ptA z hh)
  rw [hs,hs1,h]
  rfl
 unfold Instr.fill
 exact f1
end
section
open Go.RowKit
theorem Txs.len_le{w:World}{v:Value}{L:List (List UInt8)}(h:Txs w v L):L.length<=9223372036854775807:=by
 obtain ⟨vs,⟨_,A',c',_,h1,h2,_⟩,_⟩:=h
 unfold maxLen at h2
 omega
theorem Txs.at_{w:World}{ad:Addr}{n c:Nat}{L:List (List UInt8)}(h:Txs w (.slice (some ad) n c) L){k:Nat}(hk:k < L.length):∃ A c,w.cell? (ad.add k)=some (.slice A L[k].length c) ∧ Rd w 1 (.slice A L[k].length c) L[k].length (bv L[k]):=by
 obtain ⟨A',c',e,_,h2⟩:=h.open_
 cases e
 obtain ⟨u,h3,h4⟩:=h2 ad rfl k hk
 obtain ⟨A,c,rfl,_⟩:=rd_get2 h4
 exact ⟨A,c,h3,h4⟩
end
section
open Go.RowKit
def NewB (bs:Bs) (w:World) (v:Value) (w':World):Prop:=Ow w' 5 1 v bs.length (bv bs) ∧ Kp [] w w' ∧ ∀ g,v.ownBlock=some g->w.heap.size<=g
theorem NewB.nil(w w':World)(h:Kp [] w w'):NewB [] w (.slice none 0 0) w':=⟨World.ownsRow_nil _ _ _ _,h,by simp [Value.ownBlock]⟩
theorem app_newB{ops:Array Oper}{rest:List Oper}{o:Oper}{a:Act}{w:World}{Q:Exit->Act->World->Prop}(hgd:o.guard=none)(s x:Operand)
 (ho:o.op=.call { callee:=.builtin .append,args:=#[s,x],argTypes:=#[32,32] })
 (v:Value) (xs:Bs) (hs:a.eval s=v) {w0:World} (hown:NewB xs w0 v w)
 (y:Value) (ys:Bs) (hx:a.eval x=y) (hr:Rd w 1 y ys.length (bv ys)) (hb:xs.length+ys.length<=140737488355328)
 (h:∀ v' w',NewB (xs ++ ys) w0 v' w'->wpList Tryz.prog ops Q rest (a.put o.dst v') w'):wpList Tryz.prog ops Q (o :: rest) a w:=
 app_bytes hgd s x ho v xs hs hown.1 y ys hx hr w0 hown.2.1 hown.2.2 hb (fun v' w' h1 h2 _ h4 _=>h v' w' ⟨h1,h2,h4⟩)
end
section
open Go.RowKit
def rdS (bs:Bs):Int:=wrap64 (num ((bs.drop 4).take 8))
def rdH (bs:Bs):List UInt8:=(bs.drop 12).take 32
def RVok (bs:Bs):Prop:=bs.length=48 ∧ 0<=rdS bs ∧ formL (rdS bs) (rdH bs)=bs
instance (bs:Bs):Decidable (RVok bs):=by unfold RVok;exact inferInstance
end
section
open Go.RowKit
theorem Held.grown{w0 w w':World}{l1 l2:List Res}{e:TypeId}{s n n':Nat}{v v':Value}{xs xs':List Value}(h:Held w0 w (l1 ++ rowR e s v n xs :: l2))(ho:Ow w' e s v' n' xs')(hg:Kp v.ownBlock.toList w w')(hv:v'.ownBlock=v.ownBlock ∨ v'.ownBlock=some w.heap.size):
 Held w0 w' (l1 ++ rowR e s v' n' xs' :: l2):=
 h.turnAt (rowR e s v' n' xs') hg ho (fun b hb=>by
  rcases hv with e|e
  . exact .inl (by simpa [rowR,e] using hb)
  . simp only [rowR,e,Option.toList_some,List.mem_singleton] at hb;exact .inr (by omega))
section
variable {ops:Array Oper} {rest:List Oper} {o:Oper} {a:Act} {w:World} {Q:Exit->Act->World->Prop}
theorem app_held(l1:List Res){w0:World}{l2:List Res}(hgd:o.guard=none)(s x:Operand)
 (ho:o.op=.call { callee:=.builtin .append,args:=#[s,x],argTypes:=#[32,32] })
 (v:Value) (xs:Bs) (hs:a.eval s=v) (S:Held w0 w (l1 ++ rowR 5 1 v xs.length (bv xs) :: l2))
 (y:Value) (ys:Bs) (hx:a.eval x=y) (hr:Rd w 1 y ys.length (bv ys)) (hb:xs.length+ys.length<=140737488355328)
 (h:∀ v' w',Held w0 w' (l1 ++ rowR 5 1 v' (xs ++ ys).length (bv (xs ++ ys)) :: l2)->wpList Tryz.prog ops Q rest (a.put o.dst v') w'):wpList Tryz.prog ops Q (o :: rest) a w:=
 app_bytes hgd s x ho v xs hs (S.at_) y ys hx hr w0 S.k (fun g hg=>S.base (rowR 5 1 v xs.length (bv xs)) (by simp) g (by simp [rowR,hg])) hb (fun v' w' o' _ k' _ h'=>h v' w' (S.grown o' k' h'))
theorem app_new{w0:World}{L:List Res}(hgd:o.guard=none)(s x:Operand)
 (ho:o.op=.call { callee:=.builtin .append,args:=#[s,x],argTypes:=#[32,32] })
 (hs:a.eval s=.slice none 0 0) (S:Held w0 w L)
 (y:Value) (ys:Bs) (hx:a.eval x=y) (hr:Rd w 1 y ys.length (bv ys)) (hb:ys.length<=140737488355328)
 (h:∀ v' w',Held w0 w' (rowR 5 1 v' ys.length (bv ys) :: L)->wpList Tryz.prog ops Q rest (a.put o.dst v') w'):wpList Tryz.prog ops Q (o :: rest) a w:=
 app_bytes hgd s x ho (.slice none 0 0) [] hs (World.ownsRow_nil _ _ _ _) y ys hx hr w0 S.k (by simp [Value.ownBlock]) (by simpa using hb) (fun v' w' o' _ k' _ h'=>h v' w' (S.rownew (by simpa using o') (by simpa [Value.ownBlock] using k') (fun g hg=>by
  rcases h' with e|e
  . rw [e] at hg;simp [Value.ownBlock] at hg
  . rw [e] at hg;cases hg;exact Nat.le_refl _)))
end
end
section
open Go.RowKit
section
variable {P:Program} {ops:Array Oper} {rest:List Oper} {o:Oper} {a:Act} {w:World} {Q:Exit->Act->World->Prop}
theorem wpList_met(j d:Nat)(b:Bool)(hg:o.guard=some (j,b))(hj:(ops[j]?).bind (·.dst)=some d)(hd:a.tmps[d]?.getD undef=.bool b)
 (h:∀ K:Act->World->Prop,(∀ a w,wpList P ops Q rest a w->K a w)->o.wp P a w K Q):wpList P ops Q (o :: rest) a w:=
 wpList_step fun K hK=>by
  rw [if_pos (by simp [Region.wanted,hg,yielded_of hj hd])]
  exact h K hK
theorem wpList_load_blkG(j d:Nat)(b:Bool)(hg:o.guard=some (j,b))(hj:(ops[j]?).bind (·.dst)=some d)(hd:a.tmps[d]?.getD undef=.bool b)
 (ty:TypeId) (x:Operand) (ho:o.op=.load ty x) (g:Nat) (hx:a.eval x=Pq g 0)
 (t:TypeId) (cs:Array Value) (hb:Blk w g t cs) (ds:TypeDesc) (hu:P.underlying ty=some ds) (hds:aggB ds=true) (hi:(P.info? ty).map (·.size)=some cs.size)
 (h:wpList P ops Q rest (a.put o.dst (.agg cs)) w):wpList P ops Q (o :: rest) a w:=
 wpList_met j d b hg hj hd fun K hK=>by
  unfold Oper.wp
  rw [exec_load ho hx (run_loadAt_agg w ⟨g,0,none⟩ ty cs.toList ds hb.agg hu hds (by rw [hi,Array.length_toList]))]
  exact hK _ _ h
end
end
section
open Go.RowKit
theorem items_eq(w:World)(d:Nat)(a b:Bs):∀ (m k:Nat),a.length=k+m->b.length=k+m->
 (Op.eqItems (d+1) 5 1 (hashA a) (hashA b) (List.range' k m)).run Tryz.prog w=.ok (a.drop k == b.drop k) w
 |0,k,ha,hb=>by
  rw [List.drop_of_length_le (by omega),List.drop_of_length_le (by omega)]
  simp [Op.eqItems]
 |m+1,k,ha,hb=>by
  have h1:k < a.length:=by omega
  have h2:k < b.length:=by omega
  have p1:(part 5 (hashA a) (k * 1)).run Tryz.prog w=.ok (.int .u8 (a[k].toNat:Int)) w:=run_part_plain w (by kernel_rfl) (by
   rw [Nat.mul_one];simp [hashA,bv,h1])
  have p2:(part 5 (hashA b) (k * 1)).run Tryz.prog w=.ok (.int .u8 (b[k].toNat:Int)) w:=run_part_plain w (by kernel_rfl) (by
   rw [Nat.mul_one];simp [hashA,bv,h2])
  have p3:=run_equalIn_int (P:=Tryz.prog) w d 5 .u8 .u8 (a[k].toNat:Int) (b[k].toNat:Int) Tryz.underlying5
  rw [List.range'_succ,List.drop_eq_getElem_cons h1,List.drop_eq_getElem_cons h2,List.cons_beq_cons]
  simp only [Op.eqItems,Sem.run_bind,p1,p2,p3,Result.andThen_ok]
  by_cases e:a[k]=b[k]
  . rw [e]
    simp only [beq_self_eq_true,Bool.not_true,Bool.false_eq_true,if_false]
    rw [items_eq w d a b m (k+1) (by omega) (by omega),Bool.true_and]
  . have e1:((a[k].toNat:Int) == (b[k].toNat:Int))=false:=beq_false_of_ne (fun h=>e (UInt8.toNat.inj (by omega)))
    rw [e1,beq_false_of_ne e]
    rfl
theorem run_hash_eq(w:World)(d:Nat)(a b:Bs)(ha:a.length=32)(hb:b.length=32):(Op.equalIn (d+2) 23 (.agg (hashA a)) (.agg (hashA b))).run Tryz.prog w=.ok (a == b) w:=by
 obtain ⟨i0,hi,-,-,-⟩:=info_parts Tryz.infoU8
 rw [run_equalIn_array w (d+1) (hashA a) (hashA b) Tryz.underlying23 hi,show Tryz.prog.cellsOf 5=1 from by kernel_rfl,List.range_eq_range',items_eq w d a b 32 0 (by omega) (by omega)]
 rfl
theorem ptA_root(s:Int)(h:Bs)(hh:h.length=32):(ptA s h).extract 1 33=hashA h:=by
 apply Array.ext'
 rw [Array.toList_extract,List.extract_eq_take_drop]
 show ((Value.int .i64 s :: bv h).drop 1).take 32=bv h
 rw [List.drop_succ_cons,List.drop_zero,List.take_of_length_le (by rw [bv_length,hh];omega)]
theorem eq_fields2 {P : Program} (w : World) (D : Nat) (xs ys : Array Value) (f g : Field) (n1 : f.name ≠ "_") (n2 : g.name ≠ "_") (a b c e : Value) (r1 r2 : Bool)
 (h1:(part f.type xs f.offset).run P w=.ok a w) (h2:(part f.type ys f.offset).run P w=.ok b w) (h3:(Op.equalIn D f.type a b).run P w=.ok r1 w)
 (h4:(part g.type xs g.offset).run P w=.ok c w) (h5:(part g.type ys g.offset).run P w=.ok e w) (h6:(Op.equalIn D g.type c e).run P w=.ok r2 w):(Op.eqFields D xs ys [f,g]).run P w=.ok (r1 && r2) w:=by
 simp only [Op.eqFields,n1,n2,ne_eq,not_false_eq_true,if_true,Sem.run_bind,h1,h2,h3,Result.andThen_ok]
 cases r1
 . simp
 . simp only [Bool.not_true,Bool.false_eq_true,if_false,Sem.run_bind,h4,h5,h6,Result.andThen_ok]
   cases r2 <;> simp
theorem run_pt_eq(w:World)(d:Nat)(s t:Int)(a b:Bs)(ha:a.length=32)(hb:b.length=32):(Op.equalIn (d+3) 25 (.agg (ptA s a)) (.agg (ptA t b))).run Tryz.prog w=.ok (decide (s=t) && (a == b)) w:=by
 have hu : ∃ f g : Field, Tryz.prog.underlying 25 = some (.struct #[f, g]) ∧ f.name = "Size" ∧ f.type = 2 ∧ f.offset = 0 ∧ g.name = "Root" ∧ g.type = 23 ∧ g.offset = 1 := ⟨_, _, Tryz.underlying25, rfl, rfl, rfl, rfl, rfl, rfl⟩
 obtain ⟨f,g,hu,f1,f2,f3,g1,g2,g3⟩:=hu
 have hf:Tryz.prog.fieldsOf 25=#[f,g]:=by unfold Program.fieldsOf;rw [hu]
 rw [run_equalIn_agg (P:=Tryz.prog) w (d+2) 25 (ptA s a) (ptA t b) (by rw [hf];exact hu) Tryz.stoodInHeld25,hf]
 have n1 : ¬ ("Size" = "_") := by decide
 have n2 : ¬ ("Root" = "_") := by decide
 have p1:(part 2 (ptA s a) 0).run Tryz.prog w=.ok (.int .i64 s) w:=run_part_plain w (by kernel_rfl) rfl
 have p2:(part 2 (ptA t b) 0).run Tryz.prog w=.ok (.int .i64 t) w:=run_part_plain w (by kernel_rfl) rfl
 have p3:=run_equalIn_int (P:=Tryz.prog) w (d+1) 2 .i64 .i64 s t Tryz.underlying2
 have q:∀ s a,a.length=32->(part 23 (ptA s a) 1).run Tryz.prog w=.ok (.agg (hashA a)) w:=by
  intro s a ha
  obtain ⟨i0,hi,hz⟩:∃ i,Tryz.prog.info? 23=some i ∧ i.size=32:=by
   have:=Tryz.infoHashP
   cases h:Tryz.prog.info? 23 with
   |none=>rw [h] at this;cases this
   |some i=>rw [h] at this;exact ⟨i,rfl,Option.some.inj this⟩
  have hS:(sizeOf 23).run Tryz.prog w=.ok 32 w:=by rw [<- hz];simp only [sizeOf,typeInfo];simp [hi,go_sem]
  have hA:(isAgg 23).run Tryz.prog w=.ok true w:=by simp [isAgg,run_underlying Tryz.underlying23]
  simp only [part,Sem.run_bind,hA,hS,Result.andThen_ok,if_true,Sem.run_pure]
  rw [show 1+32=33 from rfl,ptA_root s a ha]
 have q3:=run_hash_eq w d a b ha hb
 have e1:decide (s=t)=(s == t):=by by_cases e:s=t <;> simp [e]
 rw [e1]
 exact eq_fields2 w (d+2) _ _ f g (by rw [f1];exact n1) (by rw [g1];exact n2) (.int .i64 s) (.int .i64 t) (.agg (hashA a)) (.agg (hashA b)) _ _ (by rw [f2,f3];exact p1) (by rw [f2,f3];exact p2) (by rw [f2];exact p3) (by rw [g2,g3];exact q s a ha) (by rw [g2,g3];exact q t b hb) (by rw [g2];exact q3)
theorem hash_eq_top(w:World)(a b:Bs)(ha:a.length=32)(hb:b.length=32):(Op.equalIn 10000 23 (.agg (hashA a)) (.agg (hashA b))).run Tryz.prog w=.ok (a == b) w:=by
 have h:=fun n (e:n+2=10000)=>e ▸ run_hash_eq w n a b ha hb
 exact h 9998 (by decide)
theorem pt_eq_top(w:World)(s t:Int)(a b:Bs)(ha:a.length=32)(hb:b.length=32):(Op.equalIn 10000 25 (.agg (ptA s a)) (.agg (ptA t b))).run Tryz.prog w=.ok (decide (s=t) && (a == b)) w:=by
 have h:=fun n (e:n+3=10000)=>e ▸ run_pt_eq w n s t a b ha hb
 exact h 9997 (by decide)
theorem eql_hash(w:World)(a b:Bs)(ha:a.length=32)(hb:b.length=32):(binOp .eql 23 (.agg (hashA a)) (.agg (hashA b))).run Tryz.prog w=.ok (.bool (a == b)) w:=by
 rw [run_eql_struct,hash_eq_top w a b ha hb,Result.andThen_ok]
theorem neq_hash(w:World)(a b:Bs)(ha:a.length=32)(hb:b.length=32):(binOp .neq 23 (.agg (hashA a)) (.agg (hashA b))).run Tryz.prog w=.ok (.bool (!(a == b))) w:=by
 rw [run_neq_struct,hash_eq_top w a b ha hb,Result.andThen_ok]
theorem neq_pt(w:World)(s t:Int)(a b:Bs)(ha:a.length=32)(hb:b.length=32):(binOp .neq 25 (.agg (ptA s a)) (.agg (ptA t b))).run Tryz.prog w=.ok (.bool (!(decide (s=t) && (a == b)))) w:=by
 rw [run_neq_struct,pt_eq_top w s t a b ha hb,Result.andThen_ok]
end
section
open Go.RowKit
theorem u8_xor_nat'(a b:Nat)(ha:a < 256)(hb:b < 256):bits .xor .u8 (a:Int) (b:Int)=((a ^^^ b:Nat):Int):=by
 show IntKind.u8.wrap ((BitVec.ofInt 8 (a:Int) ^^^ BitVec.ofInt 8 (b:Int)).toNat:Int)=_
 have h:∀ x:Nat,x < 256->(BitVec.ofInt 8 (x:Int)).toNat=x:=fun x hx=>by rw [BitVec.ofInt_natCast,BitVec.toNat_ofNat];exact Nat.mod_eq_of_lt (by omega)
 rw [BitVec.toNat_xor,h a ha,h b hb,wrap_u8_nat,Nat.mod_eq_of_lt (show a ^^^ b < 256 from Nat.xor_lt_two_pow (n:=8) ha hb)]
end
section
open Go.RowKit
theorem exec_bin_agg{P:Program}{w:World}{ρ:Operand->Value}{o:Oper}{op:BinOp}{t t2:TypeId}{x y:Operand}{xs ys:Array Value}{r:Value}(ho:o.op=.binOp op t x y t2)(hx:ρ x=.agg xs)(hy:ρ y=.agg ys)(hm:P.eqGuardType P.depth t=false)(h:(binOp op t (.agg xs) (.agg ys)).run P w=.ok r w):(execOp ρ o).run P w=.ok (.value r) w:=by
 unfold execOp
 simp only [ho,hx,hy,Sem.run_bind,run_eqGuard_agg w op t x y xs ys hm,h,Result.andThen_ok,Sem.run_pure]
end
section
open Go.RowKit
def cmpB (a b:Bs):Int:=Lib.compareBytes a b
theorem cmpB_cons(x y:UInt8)(a b:Bs):cmpB (x :: a) (y :: b)=if x.toNat < y.toNat then -1 else if y.toNat < x.toNat then 1 else cmpB a b:=by
 simp only [cmpB,Lib.compareBytes,UInt8.lt_iff_toNat_lt]
theorem cmpB_range:∀ (a b:Bs),-1<=cmpB a b ∧ cmpB a b<=1
 |[],[]=>by simp [cmpB,Lib.compareBytes]
 |[],_ :: _=>by simp [cmpB,Lib.compareBytes]
 |_ :: _,[]=>by simp [cmpB,Lib.compareBytes]
 |x :: a,y :: b=>by
  rw [cmpB_cons]
  have:=cmpB_range a b
  split
  . omega
  . split <;> omega
theorem cmpB_neg:∀ (a b:Bs),cmpB b a=- cmpB a b
 |[],[]=>rfl
 |[],_ :: _=>rfl
 |_ :: _,[]=>rfl
 |x :: a,y :: b=>by
  rw [cmpB_cons,cmpB_cons,cmpB_neg a b]
  split <;> split <;> omega
theorem cmpB_zero:∀ {a b:List UInt8},cmpB a b=0->a=b
 |[],[],_=>rfl
 |[],_ :: _,h=>by simp [cmpB,Lib.compareBytes] at h
 |_ :: _,[],h=>by simp [cmpB,Lib.compareBytes] at h
 |x :: a,y :: b,h=>by
  rw [cmpB_cons] at h
  split at h
  . omega
  . split at h
    . omega
    . rw [cmpB_zero h,UInt8.toNat_inj.1 (by omega:x.toNat=y.toNat)]
theorem cmpB_self:∀ (a:Bs),cmpB a a=0
 |[]=>rfl
 |x :: a=>by rw [cmpB_cons,cmpB_self a];split <;> omega
end
section
def nmOk (s:Bs):Bool:=decide (0 < s.length) && decide (s.length<=64) && s.all fun c=>decide (33<=c.toNat) && decide (c.toNat<=126)
abbrev SigD:=List UInt8 × List UInt8
def rising:List UInt8->List SigD->Bool
 |_,[]=>true
 |last,s :: l=>nmOk s.1 && decide (0 < cmpB s.1 last) && rising s.1 l
def mayN (z:Int) (l:List SigD):Bool:=decide (0<=z) && decide (l.length<=64) && rising [] l
def keyOk (nm sec:Bs):Bool:=nmOk nm && decide (0 < sec.length) && decide (sec.length<=256)
def key64 (sec:Bs):List UInt8:=(if 64 < sec.length then shaF sec else sec) ++ List.replicate (64 - (if 64 < sec.length then shaF sec else sec).length) 0
def turned (k:Bs) (t:UInt8):List UInt8:=k.map (· ^^^ t)
def macF (sec msg:Bs):List UInt8:=shaF (turned (key64 sec) 92 ++ shaF (turned (key64 sec) 54 ++ msg))
theorem key64_length(sec:Bs):(key64 sec).length=64:=by
 unfold key64
 rw [List.length_append,List.length_replicate]
 split
 . rw [shaF_length]
 . omega
theorem macF_length(sec msg:Bs):(macF sec msg).length=32:=shaF_length _
end
section
open Go.RowKit
theorem swrite_any(w0:World)(g:Nat)(m l:Bs)(st:List Nat)(blk:Bs)(hU:Und m st blk)(hml:m.length+l.length<=1152921504606846976)(x:Value)(L:List Res)(w:World)(HB:∀ V cs,Held w0 V (blkR g 214 cs :: L)->Rd V 1 x l.length (bv l))
 (S:Held w0 w (blkR g 214 (shaC st blk m.length) :: L)):
 Calls Tryz.prog 136 #[Pq g 0,x] w fun e w'=>e=.returned (.int .i64 0) ∧ ∃ st' blk',Und (m ++ l) st' blk' ∧ Held w0 w' (blkR g 214 (shaC st' blk' (m ++ l).length) :: L):=by
 obtain ⟨A,c,rfl⟩:=rd_form (HB w _ S)
 have HR:=LH (take_any w0 g m l st blk hU (by omega) _ L w HB S)
 have HN:=LH (none_any g _ (shaC_made hU.len8 hU.len) w (S.at_ (l1:=[])))
 have c1:w.cell? ⟨g,72,none⟩=some (.int .i64 (m.length:Int)):=by rw [(S.at_ (l1:=[])).cell];exact shaC_len hU.len8 hU.len
 generalize l.length=ll at *
 generalize m.length=ml at *
 have hw:wrap64 (1152921504606846976 - (ml:Int))=1152921504606846976 - (ml:Int):=by unfold wrap64;omega
 have hd:decide (1152921504606846976 - (ml:Int) < (ll:Int))=false:=by rw [decide_eq_false_iff_not];omega
 clear hU HB S hml
 go_enter Tryz.func136,Tryz.ntmps136
 go_wp2_with fail
 refine HN.out.mono ?_
 rintro e w' ⟨rfl,rfl⟩
 go_wp2_with fail
 refine HR.out.mono ?_
 rintro e w2 ⟨rfl,h⟩
 have h:=LH h
 go_wp2
 go_ret
 exact ⟨rfl,h.out⟩
theorem xor_byte(a b:UInt8):bits .xor .u8 (a.toNat:Int) (b.toNat:Int)=((a ^^^ b).toNat:Int):=by
 rw [UInt8.toNat_xor]
 exact u8_xor_nat' _ _ a.toNat_lt b.toNat_lt
def turnK (key:Bs) (t:UInt8) (k:Nat):List UInt8:=turned (key.take k) t ++ key.drop k
theorem turnK_at{key:List UInt8}{t:UInt8}{k:Nat}(h:k < key.length):(turnK key t k)[k]?=some key[k]:=by
 unfold turnK turned
 rw [List.getElem?_append_right (by simp;omega)]
 simp [Nat.min_eq_left (Nat.le_of_lt h)]
theorem turnK_next{key:List UInt8}{t:UInt8}{k:Nat}(h:k < key.length):(turnK key t k).set k (key[k] ^^^ t)=turnK key t (k+1):=by
 unfold turnK turned
 rw [List.set_append_right _ _ (by simp;omega),List.drop_eq_getElem_cons h]
 simp only [List.length_map,List.length_take,Nat.min_eq_left (Nat.le_of_lt h),Nat.sub_self,List.set_cons_zero,List.take_add_one,List.getElem?_eq_getElem h,Option.toList_some,List.map_append,List.map_cons,List.map_nil,List.append_assoc,List.cons_append,List.nil_append]
theorem hash_cell{w:World}{g:Nat}{t:TypeId}{l:List UInt8}(h:Blk w g t (hashA l))(i:Nat)(c:UInt8)(hx:l[i]?=some c):w.cell? ⟨g,i,none⟩=some (.int .u8 (c.toNat:Int)):=by
 rw [h.cell i,show (hashA l)[i]?=(bv l)[i]? from by simp [hashA],bv_get,hx]
 rfl
def TxF (W:World) (v:Value) (vs:List Value) (L:List (List UInt8)):Prop:=Rd W 1 v L.length vs ∧ ∀ i (hi:i < L.length),∃ u,vs[i]?=some u ∧ Rd W 1 u L[i].length (bv L[i])
theorem TxF.kp0{W W':World}{v:Value}{vs:List Value}{L:List (List UInt8)}(h:TxF W v vs L)(k:Kp [] W W'):TxF W' v vs L:=⟨rd_old h.1 k,fun i hi=>by obtain ⟨u,h1,h2⟩:=h.2 i hi;exact ⟨u,h1,rd_old h2 k⟩⟩
theorem Txs.f{W:World}{v:Value}{L:List (List UInt8)}(h:Txs W v L):∃ vs,TxF W v vs L:=h
theorem TxF.at_{W:World}{ad:Addr}{n c:Nat}{vs:List Value}{L:List (List UInt8)}(h:TxF W (.slice (some ad) n c) vs L){k:Nat}{u:Value}(hu:vs[k]?=some u):W.cell? (ad.add k)=some u:=by
 obtain ⟨-,A',c',he,-,-,-,hc⟩:=h.1
 cases he
 exact hc ad rfl k u hu
end
section
variable {Q:Exit->Act->World->Prop} {a:Act} {w:World}
open Go.RowKit
theorem shd_r10(k n:Nat)(hsz:a.tmps.size=40)(o29:Sl a 29 (.int .i64 (n:Int)))(o30:Sl a 30 (.int .i64 (k:Int))):RG0 10 Tryz.f121 Q a w fun a' q'=>Sl a' 31 (.bool (decide (k < n)))->q':=rO
theorem shd_r11(k n c:Nat)(ad:Addr)(u:Value)(hk:k < n)(hc:w.cell? (ad.add k)=some u)(Ax:Option Addr)(nx cx:Nat)(hu:u=.slice Ax nx cx)(hsz:a.tmps.size=40)(o28:Sl a 28 (.slice (some ad) n c))(o30:Sl a 30 (.int .i64 (k:Int))):RG0 11 Tryz.f121 Q a w fun a' q'=>Sl a' 11 (.slice Ax nx cx)->q':=by
 subst hu
 have hkn:(k:Int) < n:=by omega
 exact rO
theorem shd_r12(g:Nat)(y:Value)(Ax:Option Addr)(nx cx:Nat)(hy:y=.slice Ax nx cx)(R:World->Prop)(HR:Hid (Calls Tryz.prog 136 #[Pq g 0,y] w fun e w'=>e=.returned (.int .i64 0) ∧ R w'))(hsz:a.tmps.size=40)(o9:Sl a 9 (.func (.func 136) #[Pq g 0] #[]))(o11:Sl a 11 (.slice Ax nx cx)):RG1 false 12 Tryz.f121 Q a w fun a' W q'=>(R W)->q':=by
 intro hend
 refine wp_region_lit ?_
 (conv=>arg 4;whnf)
 unfold Sl at o9 o11
 subst hy
 go_wp2_with fail
 refine HR.out.mono ?_
 rintro e w4 ⟨rfl,S4⟩
 have S4:=LH S4
 go_wp2
 try simp only [Act.put]
 exact hend _ _ tS (S4.out)
theorem shd_r13(k:Nat)(hk:k < 9223372036854775807)(hsz:a.tmps.size=40)(o30:Sl a 30 (.int .i64 (k:Int))):RG0 13 Tryz.f121 Q a w fun a' q'=>Sl a' 30 (Nq (k+1))->q':=by
 have hw:wrap64 ((k:Int)+1)=(k:Int)+1:=by unfold wrap64;omega
 exact rO
theorem shd_r14(w0:World)(g g6:Nat)(hh c6:Bs)(hl:hh.length=32)(h6:c6.length=32)(L:List Res)(HR:Hid (Calls Tryz.prog 135 #[Pq g 0] w fun e w'=>e=.returned (.agg (hashA hh)) ∧ ∃ cs,Held w0 w' (blkR g 214 cs :: blkR g6 23 (hashA c6) :: L)))(hsz:a.tmps.size=40)(o6:Sl a 6 (Pq g6 0))(o8:Sl a 8 (Pq g 0)):RG1 false 14 Tryz.f121 Q a w fun a' W q'=>(∃ cs,Held w0 W (blkR g 214 cs :: blkR g6 23 (hashA hh) :: L))->q':=by
 intro hend
 refine wp_region_lit ?_
 (conv=>arg 4;whnf)
 unfold Sl at o6 o8
 have hO:=LH (hashA_one hh)
 have hsz1:Hid ((hashA hh).size=32):=LH (by rw [hashA_size,hl])
 have hsz6:Hid ((hashA c6).size=32):=LH (by rw [hashA_size,h6])
 obtain ⟨ch,hch⟩:∃ ch,Hid (hashA hh=ch):=⟨_,LH rfl⟩
 rw [hch.out] at HR hO hsz1
 go_wp2_with fail
 refine HR.out.mono ?_
 rintro e w4 ⟨rfl,cs,S4⟩
 have S4:=LH S4
 go_wp2_with (refine wpList_store_blk rfl 23 (.tmp 6) (.tmp 39) rfl g6 (aO o6) ch aE 23 _ (S4.out.at_ (l1:=[_])) (by rw [hsz1.out];exact Tryz.infoHashP) (by rw [hsz1.out,hsz6.out]) hO.out ?_;intro w5 b5 k5;have S5:=LH (Held.setBlk (l1:=[_]) S4.out b5 k5);clear b5 k5)
 rw [<- hch.out] at S5
 try simp only [Act.put]
 exact hend _ _ tS (⟨_,S5.out⟩)
def dsHd:List Nat:=[11,30,31,32,33,34,35,36,37]
theorem shd_l1{Q:Exit->Act->World->Prop}{a:Act}{w0 w:World}(g:Nat)(kt:Bs)(A:Option Addr)(c:Nat)(vs:List Value)(ls:List (List UInt8))(hsum:kt.length+ls.flatten.length<=1152921504606846976)(L:List Res)(HX:∀ V cs,Held w0 V (blkR g 214 cs :: L)->TxF V (.slice A ls.length c) vs ls)(hll:ls.length<=9223372036854775807)
 (st:List Nat) (blk:Bs) (hU:Und kt st blk) (hsz:a.tmps.size=40) (o9:Sl a 9 (.func (.func 136) #[Pq g 0] #[])) (o28:Sl a 28 (.slice A ls.length c)) (o29:Sl a 29 (.int .i64 (ls.length:Int))) (o30:Sl a 30 (.int .i64 0))
 (S:Held w0 w (blkR g 214 (shaC st blk kt.length) :: L))
 (hend:∀ (a':Act) (W:World) (st:List Nat) (blk:Bs),Same a a' dsHd->Und (kt ++ ls.flatten) st blk->Held w0 W (blkR g 214 (shaC st blk (kt ++ ls.flatten).length) :: L)->Q (.exit 2) a' W):
 (blockOf 2 Tryz.f121).wp Tryz.prog Q a w:=by
 (conv=>arg 2;whnf)
 refine wp_loop (fun a' w'=>∃ (k:Nat) (st:List Nat) (blk:Bs),k<=ls.length ∧ Same a a' dsHd ∧ Sl a' 30 (.int .i64 (k:Int)) ∧ Und (kt ++ (ls.take k).flatten) st blk ∧ Held w0 w' (blkR g 214 (shaC st blk (kt ++ (ls.take k).flatten).length) :: L)) (fun a' _=>ls.length - (intOf (a'.eval (.tmp 30))).toNat) ⟨0,st,blk,Nat.zero_le _,Same.refl _ _,o30,by rw [List.take_zero,List.flatten_nil,List.append_nil];exact hU,by rw [List.take_zero,List.flatten_nil,List.append_nil];exact S⟩ ?_
 clear hU S o30
 rintro a1 w1 ⟨k,st,blk,hk,T,o30,hU,S⟩
 have o9:=T.keep 9 _ (by decide) o9
 have o28:=T.keep 28 _ (by decide) o28
 have o29:=T.keep 29 _ (by decide) o29
 have hz1:=T.size.trans hsz
 have eCtr:=o30.eval (by rw [hz1];decide)
 refine wp_seq (shd_r10 k ls.length hz1 o29 o30 (fun a2 hs2 o31=>?_))
 obtain ⟨hz2,-,o9,o28,o29,o30⟩:=kq4 hs2 hz1 rfl o9 o28 o29 o30
 have T:=T.trans hs2
 by_cases hlt:k < ls.length
 . refine wp_seq (wcT o31 (wp_skip ?_) (by rw [decide_eq_true hlt]))
   obtain ⟨ad,rfl⟩:∃ ad,A=some ad:=by
    obtain ⟨A',c',he,h1,-⟩:=(show Txs w1 _ ls from ⟨vs,HX w1 _ S⟩).open_
    cases he
    exact h1 (by omega)
   obtain ⟨u,hu,hru⟩:=(HX w1 _ S).2 k hlt
   have hc:=(HX w1 _ S).at_ hu
   obtain ⟨Ax,cx,hform⟩:=rd_form hru
   have HB:∀ V cs,Held w0 V (blkR g 214 cs :: L)->Rd V 1 u ls[k].length (bv ls[k]):=fun V cs SV=>by
    obtain ⟨u',hu',hr'⟩:=(HX V cs SV).2 k hlt
    rw [hu] at hu'
    cases hu'
    exact hr'
   have hfl:(ls.take (k+1)).flatten=(ls.take k).flatten ++ ls[k]:=by rw [List.take_add_one,List.getElem?_eq_getElem hlt];simp only [Option.toList_some,List.flatten_append,List.flatten_cons,List.flatten_nil,List.append_nil]
   have hle:((ls.take (k+1)).flatten).length<=ls.flatten.length:=by
    conv=>rhs;rw [<- List.take_append_drop (k+1) ls,List.flatten_append,List.length_append]
    omega
   have hbd:(kt ++ (ls.take k).flatten).length+ls[k].length<=1152921504606846976:=by
    rw [hfl,List.length_append] at hle
    rw [List.length_append]
    omega
   have HR:=LH (swrite_any w0 g (kt ++ (ls.take k).flatten) ls[k] st blk hU hbd u L w1 HB S)
   rw [List.append_assoc,<- hfl] at HR
   refine wp_seq (wp_block ?_)
   refine wp_seq (shd_r11 k ls.length c ad u hlt hc Ax ls[k].length cx hform hz2 o28 o30 (fun a3 hs3 o11=>?_))
   obtain ⟨hz3,-,o9,o28,o29,o30,o31⟩:=kq5 hs3 hz2 rfl o9 o28 o29 o30 o31
   have T:=T.trans hs3
   refine shd_r12 g u Ax ls[k].length cx hform _ HR hz3 o9 o11 (fun a4 w2 hs4 h=>?_)
   obtain ⟨hz4,-,o9,o28,o29,o30,o31,o11⟩:=kq6 hs4 hz3 rfl o9 o28 o29 o30 o31 o11
   have T:=T.trans hs4
   obtain ⟨st2,blk2,U2,S2⟩:=h
   refine shd_r13 k (by omega) hz4 o30 (fun a5 hs5 o30=>?_)
   obtain ⟨hz5,-,o9,o28,o29,o31,o11⟩:=kq5 hs5 hz4 rfl o9 o28 o29 o31 o11
   have T:=T.trans hs5
   refine ⟨⟨k+1,st2,blk2,hlt,T.more (by decide +kernel),o30,U2,S2⟩,?_⟩
   show ls.length - (intOf _).toNat < ls.length - (intOf _).toNat
   rw [eCtr,o30.eval (by rw [hz5];decide)]
   show ls.length - (k+1) < ls.length - k
   omega
 . obtain rfl:k=ls.length:=by omega
   refine wp_seq (wcF o31 (wp_exit ?_) (by rw [decide_eq_false hlt]))
   rw [List.take_length] at hU S
   exact hend _ _ st blk (T.more (by decide +kernel)) hU S
theorem hashed_any(w0:World)(L:List Res)(key:Bs)(hk:key.length=64)(t:UInt8)(x:Value)(vs:List Value)(ls:List (List UInt8))(hsum:64+ls.flatten.length < 1152921504606846976)(w:World)(S:Held w0 w L)(HX:∀ V,Held w0 V L->TxF V x vs ls):
 Calls Tryz.prog 121 #[.agg (hashA key),.int .u8 (t.toNat:Int),x] w fun e w'=>e=.returned (.agg (hashA (shaF (turned key t ++ ls.flatten)))) ∧ Held w0 w' L:=by
 obtain ⟨A,c,rfl,-,-⟩:=(show Txs w x ls from ⟨vs,HX w S⟩).open_
 have S0:=LH ((S.newBlk 181 (hashA key)).newBlk 23 (hashA (List.replicate 32 0)))
 simp only [World.size_alloc] at S0
 have HX:=LH HX
 have Hk:=LH hk
 have hsum:=LH hsum
 obtain ⟨ck,hck⟩:∃ ck,Hid (hashA key=ck):=⟨_,LH rfl⟩
 rw [hck.out] at S0 ⊢
 clear S hk
 go_enter Tryz.func121,Tryz.ntmps121
 go_wp2
 change Code.wp _ _ _ _ ((w.alloc (.cells ck 181)).alloc (.cells (hashA (List.replicate 32 0)) 23))
 generalize (w.alloc (.cells ck 181)).alloc (.cells (hashA (List.replicate 32 0)) 23)=w1 at *
 generalize w.heap.size=g3 at *
 obtain ⟨g6,hg6⟩:∃ g6,g3+1=g6:=⟨_,rfl⟩
 rw [hg6] at S0 ⊢
 rw [<- hck.out] at S0
 clear hg6
 go_loopw [7,12] (fun _ i wr=>∃ k:Nat,k<=64 ∧ i=.int .i64 (k:Int) ∧ Held w0 wr (blkR g6 23 (hashA (List.replicate 32 0)) :: blkR g3 181 (hashA (turnK key t k)) :: L)) (fun _ i _=>64 - (intOf i).toNat)
 case atStart=>exact ⟨0,by omega,rfl,S0.out⟩
 case round=>
  clear S0
  obtain ⟨k,hk,rfl,S⟩:=hrel
  have S:=LH S
  by_cases hlt:k < 64
  . have hkl:k < key.length:=by rw [Hk.out];exact hlt
    have q1:=hash_cell (S.out.at_ (l1:=[_])) k _ (turnK_at hkl)
    have q2:=(S.out.at_ (l1:=[_])).frozen k
    have hx:=xor_byte key[k] t
    have S2:Hid (Held w0 (wr.setCell ⟨g3,k,none⟩ (.int .u8 ((key[k] ^^^ t).toNat:Int))) _):=LH (S.out.set (l1:=[_]) k (.int .u8 ((key[k] ^^^ t).toNat:Int)))
    rw [hashA_set,turnK_next hkl] at S2
    generalize key[k] ^^^ t=y at *
    generalize key[k]=z at *
    clear hkl
    go_wp2
    go_roundw
    case rel=>exact ⟨k+1,by omega,by go_num,S2.out⟩
    case measure=>simp [intOf];omega
  . obtain rfl:k=64:=by omega
    have e:turnK key t 64=turned key t:=by
     unfold turnK
     rw [List.take_of_length_le (by rw [Hk.out];omega),List.drop_of_length_le (by rw [Hk.out];omega),List.append_nil]
    rw [e] at S
    obtain ⟨kt,Hkt0⟩:∃ kt,Hid (turned key t=kt):=⟨_,LH rfl⟩
    have Hkt:Hid (kt.length=64):=LH (by rw [<- Hkt0.out];unfold turned;rw [List.length_map];exact Hk.out)
    rw [Hkt0.out] at S
    clear e
    go_wp2_with fail
    refine (snew_any w0 _ _ S.out).mono ?_
    rintro e w2 ⟨g,rfl,S2⟩
    have S2:=LH S2
    go_wp2_with fail
    refine (swrite_any w0 g [] kt hF (List.replicate 64 0) Und.new (by rw [Hkt.out];simp) _ _ w2 (fun V cs SV=>?_) S2.out).mono ?_
    . have:=bytes_rd (SV.at_ (l1:=[_,_])) 0 (Nat.zero_le _) (by rw [Hkt.out];omega)
      rw [Hkt.out] at this ⊢
      exact this
    rintro e w3 ⟨rfl,st,blk,U3,S3⟩
    rw [List.nil_append] at U3 S3
    have U3:=LH U3
    have S3:=LH S3
    have hll:=LH (show Txs w3 _ ls from ⟨vs,HX.out w3 S3.out.drop.drop.drop⟩).len_le
    go_wp2_with fail
    have HU3:=U3
    have hsum2:kt.length+ls.flatten.length<=1152921504606846976:=by have:=hsum.out;have:=Hkt.out;omega
    refine shd_l1 g kt A c vs ls hsum2 (blkR g6 23 (hashA (List.replicate 32 0)) :: blkR g3 181 (hashA kt) :: L) (fun V cs SV=>HX.out V SV.drop.drop.drop) hll.out st blk U3.out rfl (sl_of rfl) (sl_of rfl) (sl_of rfl) (sl_of rfl) S3.out (fun a' w4 st2 blk2 hs4 U4 S4=>?_)
    simp only [Exit.inBlock,if_true]
    have hz4:a'.tmps.size=40:=hs4.size
    have o6:Sl a' 6 (Pq g6 0):=hs4.q (sl_of rfl)
    have o8:Sl a' 8 (Pq g 0):=hs4.q (sl_of rfl)
    have hbd:(kt ++ ls.flatten).length < 1152921504606846976:=by
     have h1:=hsum.out
     have h2:=Hkt.out
     rw [List.length_append]
     omega
    have HR0:=ssum_any w0 g (kt ++ ls.flatten) st2 blk2 U4 hbd _ w4 S4
    go_step;go_step
    refine wp_seq (shd_r14 w0 g g6 _ (List.replicate 32 0) (shaF_length _) rfl _ (LH (HR0.mono (fun e w' h=>⟨h.1,⟨_,h.2⟩⟩))) hz4 o6 o8 (fun a5 w5 hs5 h5=>?_))
    obtain ⟨cs5,S5⟩:=h5
    have hz5:=hs5.size.trans hz4;have o6:=hs5.q o6
    refine wp_ret (bodyPost_ret (results_cell1 (by rfl) (o6.eval (by rw [hz5];decide)) (S5.at_ (l1:=[_])) Tryz.underlying23 rfl (by rw [hashA_size,shaF_length];exact Tryz.infoHashP)) (hs5.defers.trans hs4.defers) ?_)
    exact ⟨by rw [Hkt0.out],S5.drop.drop.drop⟩
end
end Go.Proofs.YtmkfopmdingaoaaGreatDoor
