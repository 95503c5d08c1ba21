/- Several texts in one: ConK, ProA, RangeS, ProB, InLd, ProC, EntF, EntG, EntH, EntI, EntJ, EntK, EntL, EntS, EntT, Open, TxOpen, EntOpen, EntU, EntV, EntW, ProD, ProE, ProF, ProG, ProH, MirA. -/
import Derived.ScopeJumps
import Derived.WalkMore
import Derived.ProofKit
import Derived.OpenShut
import Derived.Deep.Slices
import Derived.JoinedCond
import Derived.Carry
import Derived.Lib.SmallJoins
import Derived.Test.YtmkfopmdingaoaaGreatDoorP6
set_option linter.unusedVariables false
set_option linter.unusedSimpArgs false
set_option maxRecDepth 100000
set_option maxHeartbeats 8000000
open Go.Proofs.Tryz
namespace Go.Proofs.YtmkfopmdingaoaaGreatDoor
section
variable {Q:Exit->Act->World->Prop} {a:Act} {w:World}
open Go.RowKit Go.Shelf
theorem aCp(m n:Int)(first:Bs)(pf:List (List UInt8))(hf:first.length=32)(hok:dP pf)(hn:n < 9223372036854775808):(tA m n first pf).1.length=32 ∧ (tA m n first pf).2.length=32:=by
 by_cases h:rR m n pf.length=0
 . rw [mT h];unfold rR at h
   by_cases h1:m < 1 ∨ n < m
   . rw [if_pos h1] at h;cases h
   . rw [if_neg h1] at h
     by_cases h2:(oB m n).length ≠ pf.length
     . rw [if_pos h2] at h;cases h
     . obtain ⟨mN,rfl⟩:=Int.eq_ofNat_of_zero_le (show 0<=m by omega);obtain ⟨nN,rfl⟩:=Int.eq_ofNat_of_zero_le (show 0<=n by omega);have h3:(oB (mN:Int) (nN:Int)).length=pf.length:=by simpa using h2
       unfold nI;simp only [Int.toNat_natCast]
       by_cases hb:nN<=2 ^ 64
       . rw [lE (by omega) (by omega)] at h3;exact iH 64 0 mN nN true first pf hf hok h3.symm (by omega) (by omega) hb
       . exact absurd hn (by omega)
 . rw [aAh h];exact ⟨List.length_replicate,List.length_replicate⟩
theorem tT{a b:List UInt8}(h:(a == b)=false):(b == a)=false:=by
 rw [beq_eq_false_iff_ne] at h ⊢;exact fun e=>h e.symm
theorem uY{a b:List UInt8}(h:(a == b)=true):(b == a)=true:=by
 rw [beq_iff_eq] at h ⊢;exact h.symm
section
variable {m n:Int} {first second:List UInt8} {pf:List (List UInt8)}
theorem rQ(h:m < 0 ∨ n < m):eL m n first second pf=4:=by unfold eL;rw [if_pos h]
theorem kK(hno:¬ ((0:Int) < 0 ∨ n < 0))(h:(first == cI)=false ∨ pf.length ≠ 0 ∨ (n=0 ∧ (second == first)=false)):eL 0 n first second pf=220:=by
 unfold eL;rw [if_neg hno,if_pos rfl,if_pos];rcases h with h|h|⟨h1,h2⟩
 . exact .inl (beq_eq_false_iff_ne.1 h)
 . exact .inr (.inl h)
 . exact .inr (.inr ⟨h1,beq_eq_false_iff_ne.1 h2⟩)
theorem pE(hno:¬ ((0:Int) < 0 ∨ n < 0))(hf:(first == cI)=true)(hl:pf.length=0)(h:¬ n=0 ∨ (second == first)=true):eL 0 n first second pf=0:=by
 unfold eL;rw [if_neg hno,if_pos rfl,if_neg];rintro (h1|h1|⟨h1,h2⟩)
 . exact h1 (eq_of_beq hf)
 . exact h1 hl
 . rcases h with h|h
   . exact h h1
   . exact h2 (eq_of_beq h)
theorem rW(hno:¬ (m < 0 ∨ n < m))(h0:¬ m=0):eL m n first second pf=if (kS m.toNat n.toNat).length ≠ pf.length then 220 else if (nI m.toNat n.toNat first pf).1 ≠ first ∨ (nI m.toNat n.toNat first pf).2 ≠ second then 220 else 0:=by
 unfold eL;rw [if_neg hno,if_neg h0]
theorem aUj(hno:¬ (m < 0 ∨ n < m))(h0:¬ m=0):oB m n=kS m.toNat n.toNat:=by unfold oB;rw [if_neg (by omega)]
theorem oR(hno:¬ (m < 0 ∨ n < m))(h0:¬ m=0):rR m n pf.length=0 ↔ (kS m.toNat n.toNat).length=pf.length:=by
 unfold rR;rw [if_neg (by omega),aUj hno h0]
 by_cases h:(kS m.toNat n.toNat).length=pf.length
 . rw [if_neg (by omega)];simp [h]
 . rw [if_pos h];simp [h]
theorem aD1(hno:¬ (m < 0 ∨ n < m))(h0:¬ m=0)(hb:¬ rR m n pf.length=0):eL m n first second pf=220:=by
 rw [rW hno h0,if_pos (fun e=>hb ((oR hno h0).2 e))]
theorem aCz(hno:¬ (m < 0 ∨ n < m))(h0:¬ m=0)(hb:rR m n pf.length=0)(hx:((tA m n first pf).1 == first)=false):eL m n first second pf=220:=by
 rw [mT hb] at hx;rw [rW hno h0,if_neg (by rw [(oR hno h0).1 hb];simp),if_pos (.inl (beq_eq_false_iff_ne.1 hx))]
theorem aCj(hno:¬ (m < 0 ∨ n < m))(h0:¬ m=0)(hb:rR m n pf.length=0)(_hx:((tA m n first pf).1 == first)=true)(hy:((tA m n first pf).2 == second)=false):eL m n first second pf=220:=by
 rw [mT hb] at hy;rw [rW hno h0,if_neg (by rw [(oR hno h0).1 hb];simp),if_pos (.inr (beq_eq_false_iff_ne.1 hy))]
theorem aCg(hno:¬ (m < 0 ∨ n < m))(h0:¬ m=0)(hb:rR m n pf.length=0)(hx:((tA m n first pf).1 == first)=true)(hy:((tA m n first pf).2 == second)=true):eL m n first second pf=0:=by
 rw [mT hb] at hx hy;rw [rW hno h0,if_neg (by rw [(oR hno h0).1 hb];simp),if_neg];rintro (h|h)
 . exact h (eq_of_beq hx)
 . exact h (eq_of_beq hy)
end
theorem aPp(w0:World)(xa xb:Array Value)(L:List Res)(S:Held w0 w L)(hsz:a.tmps.size=61)(o2:Sl a 2 (.agg xa))(o3:Sl a 3 (.agg xb)):bC false 0 f33 Q a w fun a' W q'=>Sl a' 10 (.int .i64 (0:Int))->(∃ g7 g8,Sl a' 7 (Pq g7 0) ∧ Sl a' 8 (Pq g8 0) ∧ Held w0 W (aB g8 23 xb :: aB g7 23 xa :: L))->q':=by
 refine bU fun hend=>?_;unfold Sl at o2 o3;have S1:=LH ((S.newBlk 23 xa).newBlkN 23 xb (g:=w.heap.size+1) (by simp));go_wp2
 try simp only [Act.put]
 exact hend _ _ tS sP (⟨w.heap.size,w.heap.size+1,cH,cH,S1.out⟩)
theorem aLy(z y:Int)(hz:z < 0)(hsz:a.tmps.size=61)(o0:Sl a 0 (.int .i64 z))(o1:Sl a 1 (.int .i64 y)):bC false 1 f33 Q a w fun a' W q'=>Kp [] w W->Sl a' 20 (.bool true)->q':=by
 intro hend;have hap:=pa 1 f33;refine aH (l:=(aK 1 f33)) (fun i v W=>match i with|0=>v=.int .i64 z|1=>v=.bool true|2=>v=.bool true|6=>v=.bool true|_=>True) hap ?_ ?_ ?_
 . exact fun _ _ _ _ h _=>h
 . and_intros <;> try (intro vs A' W hA hW hd hu K hK;try (refine aL _ rfl rfl ?_;conv=>arg 2;whnf))
   . exact aJ (eO 0 o0)
   . have e14:=vD 14 0;clear hA hd hu o0 o1;go_step;exact hK _ _ kR (by first|rfl|(refine congrArg Value.bool ?_;simp;omega)|(refine congrArg Value.bool ?_;simp [hz];done))
   . exact aJ (vD 15 1)
   . exact sk
   . exact sk
   . exact sk
   . exact cM (vD 16 2) (eU 19 5)
   . trivial
 . intro vs W hW hp;rw [aF];exact hend _ W sQ hW (sW (hp 6 sB))
theorem aLh(z y:Int)(hz:¬ z < 0)(hsz:a.tmps.size=61)(o0:Sl a 0 (.int .i64 z))(o1:Sl a 1 (.int .i64 y)):bC false 1 f33 Q a w fun a' W q'=>Kp [] w W->Sl a' 20 (.bool (decide (y < z)))->q':=by
 intro hend;have hap:=pa 1 f33;refine aH (l:=(aK 1 f33)) (fun i v W=>match i with|0=>v=.int .i64 z|1=>v=.bool false|2=>v=.bool false|3=>v=.int .i64 z|4=>v=.int .i64 y|5=>v=.bool (decide (y < z))|6=>v=.bool (decide (y < z))|_=>True) hap ?_ ?_ ?_
 . exact fun _ _ _ _ h _=>h
 . and_intros <;> try (intro vs A' W hA hW hd hu K hK;try (refine aL _ rfl rfl ?_;conv=>arg 2;whnf))
   . exact aJ (eO 0 o0)
   . have e14:=vD 14 0;clear hA hd hu o0 o1;go_step;exact hK _ _ kR (by first|rfl|(refine congrArg Value.bool ?_;simp;omega)|(refine congrArg Value.bool ?_;simp [hz];done))
   . exact aJ (vD 15 1)
   . exact cC (eO 0 o0)
   . exact cC (eO 1 o1)
   . exact xZ (vD 17 3) (vD 18 4)
   . exact cM (vD 16 2) (vD 19 5)
   . trivial
 . intro vs W hW hp;rw [aF];exact hend _ W sQ hW (sW (hp 6 sB))
theorem aEy(hsz:a.tmps.size=61):bK 2 f33 Q a w fun a' q'=>Sl a' 10 (.int .i64 (4:Int))->q':=rO
theorem aBh(hsz:a.tmps.size=61):bK 5 f33 Q a w fun a' q'=>Sl a' 10 (.int .i64 (220:Int))->q':=rO
theorem aGk(hsz:a.tmps.size=61):bK 6 f33 Q a w fun a' q'=>Sl a' 10 (.int .i64 (0:Int))->q':=rO
theorem aBg(hsz:a.tmps.size=61):bK 9 f33 Q a w fun a' q'=>Sl a' 10 (.int .i64 (220:Int))->q':=rO
theorem aL2(hsz:a.tmps.size=61):bK 10 f33 Q a w fun a' q'=>Sl a' 10 (.int .i64 (0:Int))->q':=rO
theorem aOv(z:Int)(hsz:a.tmps.size=61)(o0:Sl a 0 (.int .i64 z)):bK 3 f33 Q a w fun a' q'=>Sl a' 22 (.bool (z == 0))->q':=rO
theorem aJ9(g7 g8:Nat)(f s:Bs)(hf:f.length=32)(hs:s.length=32)(hb7:aM w g7 23 (aA f))(hb8:aM w g8 23 (aA s))(A:Option Addr)(n c:Nat)(y:Int)(hfe:(f == cI)=false)(hsz:a.tmps.size=61)(o1:Sl a 1 (.int .i64 y))(o4:Sl a 4 (.slice A n c))(o7:Sl a 7 (Pq g7 0))(o8:Sl a 8 (Pq g8 0)):bC true 4 f33 Q a w fun a' W q'=>Kp [] w.drew W->Sl a' 39 (.bool true)->q':=by
 intro hend;have hap:=pa 4 f33;refine cO (l:=(aK 4 f33)) (fun i v W=>match i with|0=>v=.agg (aA f)|1=>v=.agg (aA cI)|2=>v=.bool true|3=>v=.bool true|7=>v=.bool true|8=>v=.bool true|11=>v=undef|16=>v=.bool true|_=>True) (by kernel_rfl) hap (by kernel_rfl) ?_ ?_ ?_
 . exact fun _ _ _ _ h _=>h
 . and_intros <;> try (intro vs A' W hA hW hd K hK;try (refine aL _ rfl rfl ?_;conv=>arg 2;whnf))
   . exact dC (aA f) (eO 7 o7) (aM.agg (hb7.drew.kp hW (by simp))) underlying23 (by rw [aC,hf];exact bBy)
   . clear hA hd o1 o4 o7 o8;go_step;refine (jA W).mono ?_;rintro e w' ⟨rfl,k⟩;exact hK _ _ k rfl
   . have e23:=vD 23 0;have e24:=vD 24 1;clear hA hd o1 o4 o7 o8;refine bQ (v:=.bool true) (w':=W) (bH rfl (by simpa [Act.eval] using e23) (by simpa [Act.eval] using e24) eqGuardType23 ((dJ W f cI hf cQ).trans (by rw [hfe];rfl))) ?_;exact hK _ _ kR rfl
   . exact aJ (vD 25 2)
   . exact sk
   . exact sk
   . exact sk
   . exact cM (vD 26 3) (eU 29 6)
   . exact aJ (vD 30 7)
   . exact sk
   . exact sk
   . exact sk
   . exact qT 11 true (vD 34 11)
   . exact qT 11 true (vD 34 11)
   . exact qT 11 true (vD 34 11)
   . exact sk
   . exact cM (vD 31 8) (eU 38 15)
   . trivial
 . intro vs W hW hp;rw [aF];exact hend _ W sQ hW (sW (hp 16 sB))
theorem aKr(g7 g8:Nat)(f s:Bs)(hf:f.length=32)(hs:s.length=32)(hb7:aM w g7 23 (aA f))(hb8:aM w g8 23 (aA s))(A:Option Addr)(n c:Nat)(y:Int)(hfe:(f == cI)=true)(hn:Hid (n ≠ 0))(hsz:a.tmps.size=61)(o1:Sl a 1 (.int .i64 y))(o4:Sl a 4 (.slice A n c))(o7:Sl a 7 (Pq g7 0))(o8:Sl a 8 (Pq g8 0)):bC true 4 f33 Q a w fun a' W q'=>Kp [] w.drew W->Sl a' 39 (.bool true)->q':=by
 intro hend;have hap:=pa 4 f33;refine cO (l:=(aK 4 f33)) (fun i v W=>match i with|0=>v=.agg (aA f)|1=>v=.agg (aA cI)|2=>v=.bool false|3=>v=.bool false|4=>v=.slice A n c|5=>v=Nq n|6=>v=.bool true|7=>v=.bool true|8=>v=.bool true|11=>v=undef|16=>v=.bool true|_=>True) (by kernel_rfl) hap (by kernel_rfl) ?_ ?_ ?_
 . exact fun _ _ _ _ h _=>h
 . and_intros <;> try (intro vs A' W hA hW hd K hK;try (refine aL _ rfl rfl ?_;conv=>arg 2;whnf))
   . exact dC (aA f) (eO 7 o7) (aM.agg (hb7.drew.kp hW (by simp))) underlying23 (by rw [aC,hf];exact bBy)
   . clear hA hd o1 o4 o7 o8;go_step;refine (jA W).mono ?_;rintro e w' ⟨rfl,k⟩;exact hK _ _ k rfl
   . have e23:=vD 23 0;have e24:=vD 24 1;clear hA hd o1 o4 o7 o8;refine bQ (v:=.bool false) (w':=W) (bH rfl (by simpa [Act.eval] using e23) (by simpa [Act.eval] using e24) eqGuardType23 ((dJ W f cI hf cQ).trans (by rw [hfe];rfl))) ?_;exact hK _ _ kR rfl
   . exact aJ (vD 25 2)
   . exact cC (eO 4 o4)
   . exact cC (vD 27 4)
   . refine qH ?_;(conv=>arg 2;whnf);have hn0:¬ (n:Int)=0:=by have:=hn.out;omega
     have hn1:0 < (n:Int):=by have:=hn.out;omega
     exact aJ (vD 28 5)
   . exact cM (vD 26 3) (vD 29 6)
   . exact aJ (vD 30 7)
   . exact sk
   . exact sk
   . exact sk
   . exact qT 11 true (vD 34 11)
   . exact qT 11 true (vD 34 11)
   . exact qT 11 true (vD 34 11)
   . exact sk
   . exact cM (vD 31 8) (eU 38 15)
   . trivial
 . intro vs W hW hp;rw [aF];exact hend _ W sQ hW (sW (hp 16 sB))
theorem aM6(g7 g8:Nat)(f s:Bs)(hf:f.length=32)(hs:s.length=32)(hb7:aM w g7 23 (aA f))(hb8:aM w g8 23 (aA s))(A:Option Addr)(n c:Nat)(y:Int)(hfe:(f == cI)=true)(hn:Hid (n=0))(hy:Hid (¬ y=0))(hsz:a.tmps.size=61)(o1:Sl a 1 (.int .i64 y))(o4:Sl a 4 (.slice A n c))(o7:Sl a 7 (Pq g7 0))(o8:Sl a 8 (Pq g8 0)):bC true 4 f33 Q a w fun a' W q'=>Kp [] w.drew W->Sl a' 39 (.bool false)->q':=by
 intro hend;have hap:=pa 4 f33;refine cO (l:=(aK 4 f33)) (fun i v W=>match i with|0=>v=.agg (aA f)|1=>v=.agg (aA cI)|2=>v=.bool false|3=>v=.bool false|4=>v=.slice A n c|5=>v=Nq n|6=>v=.bool false|7=>v=.bool false|8=>v=.bool false|9=>v=.int .i64 y|10=>v=.bool false|11=>v=.bool false|15=>v=.bool false|16=>v=.bool false|_=>True) (by kernel_rfl) hap (by kernel_rfl) ?_ ?_ ?_
 . exact fun _ _ _ _ h _=>h
 . and_intros <;> try (intro vs A' W hA hW hd K hK;try (refine aL _ rfl rfl ?_;conv=>arg 2;whnf))
   . exact dC (aA f) (eO 7 o7) (aM.agg (hb7.drew.kp hW (by simp))) underlying23 (by rw [aC,hf];exact bBy)
   . clear hA hd o1 o4 o7 o8;go_step;refine (jA W).mono ?_;rintro e w' ⟨rfl,k⟩;exact hK _ _ k rfl
   . have e23:=vD 23 0;have e24:=vD 24 1;clear hA hd o1 o4 o7 o8;refine bQ (v:=.bool false) (w':=W) (bH rfl (by simpa [Act.eval] using e23) (by simpa [Act.eval] using e24) eqGuardType23 ((dJ W f cI hf cQ).trans (by rw [hfe];rfl))) ?_;exact hK _ _ kR rfl
   . exact aJ (vD 25 2)
   . exact cC (eO 4 o4)
   . exact cC (vD 27 4)
   . refine qH ?_;(conv=>arg 2;whnf);have hn0:(n:Int)=0:=by have:=hn.out;omega
     have hn1:¬ 0 < (n:Int):=by have:=hn.out;omega
     exact aJ (vD 28 5)
   . exact cM (vD 26 3) (vD 29 6)
   . exact aJ (vD 30 7)
   . exact cC (eO 1 o1)
   . refine qH ?_;(conv=>arg 2;whnf);have hyy:¬ y=0:=hy.out;exact aJ (vD 32 9)
   . exact cC (vD 33 10)
   . exact sk
   . exact sk
   . exact sk
   . exact xZ (vD 34 11) (eU 37 14)
   . exact cM (vD 31 8) (vD 38 15)
   . trivial
 . intro vs W hW hp;rw [aF];exact hend _ W sQ hW (sW (hp 16 sB))
theorem aM3(g7 g8:Nat)(f s:Bs)(hf:f.length=32)(hs:s.length=32)(hb7:aM w g7 23 (aA f))(hb8:aM w g8 23 (aA s))(A:Option Addr)(n c:Nat)(y:Int)(hfe:(f == cI)=true)(hn:Hid (n=0))(hy:Hid (y=0))(hsz:a.tmps.size=61)(o1:Sl a 1 (.int .i64 y))(o4:Sl a 4 (.slice A n c))(o7:Sl a 7 (Pq g7 0))(o8:Sl a 8 (Pq g8 0)):bC true 4 f33 Q a w fun a' W q'=>Kp [] w.drew W->Sl a' 39 (.bool (!(s == f)))->q':=by
 intro hend;have hap:=pa 4 f33;refine cO (l:=(aK 4 f33)) (fun i v W=>match i with|0=>v=.agg (aA f)|1=>v=.agg (aA cI)|2=>v=.bool false|3=>v=.bool false|4=>v=.slice A n c|5=>v=Nq n|6=>v=.bool false|7=>v=.bool false|8=>v=.bool false|9=>v=.int .i64 y|10=>v=.bool true|11=>v=.bool true|12=>v=.agg (aA s)|13=>v=.agg (aA f)|14=>v=.bool (!(s == f))|15=>v=.bool (!(s == f))|16=>v=.bool (!(s == f))|_=>True) (by kernel_rfl) hap (by kernel_rfl) ?_ ?_ ?_
 . exact fun _ _ _ _ h _=>h
 . and_intros <;> try (intro vs A' W hA hW hd K hK;try (refine aL _ rfl rfl ?_;conv=>arg 2;whnf))
   . exact dC (aA f) (eO 7 o7) (aM.agg (hb7.drew.kp hW (by simp))) underlying23 (by rw [aC,hf];exact bBy)
   . clear hA hd o1 o4 o7 o8;go_step;refine (jA W).mono ?_;rintro e w' ⟨rfl,k⟩;exact hK _ _ k rfl
   . have e23:=vD 23 0;have e24:=vD 24 1;clear hA hd o1 o4 o7 o8;refine bQ (v:=.bool false) (w':=W) (bH rfl (by simpa [Act.eval] using e23) (by simpa [Act.eval] using e24) eqGuardType23 ((dJ W f cI hf cQ).trans (by rw [hfe];rfl))) ?_;exact hK _ _ kR rfl
   . exact aJ (vD 25 2)
   . exact cC (eO 4 o4)
   . exact cC (vD 27 4)
   . refine qH ?_;(conv=>arg 2;whnf);have hn0:(n:Int)=0:=by have:=hn.out;omega
     have hn1:¬ 0 < (n:Int):=by have:=hn.out;omega
     exact aJ (vD 28 5)
   . exact cM (vD 26 3) (vD 29 6)
   . exact aJ (vD 30 7)
   . exact cC (eO 1 o1)
   . refine qH ?_;(conv=>arg 2;whnf);have hyy:y=0:=hy.out;exact aJ (vD 32 9)
   . exact cC (vD 33 10)
   . refine qH ?_;(conv=>arg 2;whnf);exact dC (aA s) (eO 8 o8) (aM.agg (hb8.drew.kp hW (by simp))) underlying23 (by rw [aC,hs];exact bBy)
   . refine qH ?_;(conv=>arg 2;whnf);exact dC (aA f) (eO 7 o7) (aM.agg (hb7.drew.kp hW (by simp))) underlying23 (by rw [aC,hf];exact bBy)
   . refine qH ?_;(conv=>arg 2;whnf);have e35:=vD 35 12;have e36:=vD 36 13;clear hA hd o1 o4 o7 o8;refine bQ (v:=.bool (!(s == f))) (w':=W) (bH rfl (by simpa [Act.eval] using e35) (by simpa [Act.eval] using e36) eqGuardType23 ((dJ W s f hs hf))) ?_;exact hK _ _ kR rfl
   . exact xZ (vD 34 11) (vD 37 14)
   . exact cM (vD 31 8) (vD 38 15)
   . trivial
 . intro vs W hW hp;rw [aF];exact hend _ W sQ hW (sW (hp 16 sB))
theorem aT2(w0:World)(g7:Nat)(z y2 xe:Int)(f:Bs)(hf32:f.length=32)(sl:Value)(hb:aM w g7 23 (aA f))(x y:Bs)(hx32:x.length=32)(hy32:y.length=32)(L:List Res)(HC0:Calls prog 75 #[.int .i64 z,.int .i64 y2,.agg (aA f),sl] w fun e w'=>e=.returned (.tuple #[.agg (aA x),.agg (aA y),.int .i64 xe]) ∧ Held w0 w' L)(hsz:a.tmps.size=61)(o0:Sl a 0 (.int .i64 z))(o1:Sl a 1 (.int .i64 y2))(o4:Sl a 4 (sl))(o7:Sl a 7 (Pq g7 0)):bC false 7 f33 Q a w fun a' W q'=>Sl a' 13 (.int .i64 xe)->(∃ g9 g10,Sl a' 11 (Pq g9 0) ∧ Sl a' 12 (Pq g10 0) ∧ Held w0 W (aB g10 23 (aA y) :: aB g9 23 (aA x) :: L))->q':=by
 refine bU fun hend=>?_;unfold Sl at o0 o1 o4 o7;have hca:Hid ((aA (x)).size=32):=LH (by rw [aC,hx32]);have Oca:=LH (aI (x));obtain ⟨ca,Eca⟩:∃ cs,Hid (aA (x)=cs):=⟨_,LH rfl⟩;rw [Eca.out] at hca Oca;have hcb:Hid ((aA (y)).size=32):=LH (by rw [aC,hy32]);have Ocb:=LH (aI (y));obtain ⟨cb,Ecb⟩:∃ cs,Hid (aA (y)=cs):=⟨_,LH rfl⟩;rw [Ecb.out] at hcb Ocb;have hcf:Hid ((aA (f)).size=32):=LH (by rw [aC,hf32]);have Ocf:=LH (aI (f));obtain ⟨cf,Ecf⟩:∃ cs,Hid (aA (f)=cs):=⟨_,LH rfl⟩;rw [Ecf.out] at hcf Ocf;rw [Eca.out,Ecb.out,Ecf.out] at HC0;rw [Ecf.out] at hb;have HC:=LH HC0;clear HC0;have HB:=LH hb;clear hb;go_wp2_with (refine aQ rfl 23 (.tmp 7) rfl g7 (aO o7) 23 _ HB.out _ underlying23 rfl (by rw [hcf.out];exact bBy) ?_)
 refine HC.out.mono ?_;rintro e w1 ⟨rfl,S1⟩;have S2:=LH ((S1.newBlk 23 (aA (List.replicate 32 0))).newBlkN 23 (aA (List.replicate 32 0)) (g:=w1.heap.size+1) (by simp));clear S1;go_wp2_with (first|(refine aD rfl 23 (.tmp 11) (.tmp 46) rfl w1.heap.size aE ca aE 23 _ (S2.out.at_ (l1:=[_])) (by rw [hca.out];exact bBy) (by rw [hca.out];rfl) Oca.out ?_;intro w7 b7 k7;have S7:=LH (Held.setBlk (l1:=[_]) S2.out b7 k7);clear b7 k7)|(refine aD rfl 23 (.tmp 12) (.tmp 47) rfl (w1.heap.size+1) aE cb aE 23 _ (S7.out.at_ (l1:=[])) (by rw [hcb.out];exact bBy) (by rw [hcb.out];rfl) Ocb.out ?_;intro w7 b7 k7;have S8:=LH (Held.setBlk (l1:=[]) S7.out b7 k7);clear b7 k7))
 rw [<- Eca.out,<- Ecb.out] at S8
 try simp only [Act.put]
 exact hend _ _ tS sP (⟨_,_,cH,cH,S8.out⟩)
theorem aLo(g7 g8 g11 g12:Nat)(xe:Int)(f s x y:Bs)(hf:f.length=32)(hs:s.length=32)(hx:x.length=32)(hy:y.length=32)(hb7:aM w g7 23 (aA f))(hb8:aM w g8 23 (aA s))(hb11:aM w g11 23 (aA x))(hb12:aM w g12 23 (aA y))(he:Hid (¬ xe=0))(hsz:a.tmps.size=61)(o7:Sl a 7 (Pq g7 0))(o8:Sl a 8 (Pq g8 0))(o11:Sl a 11 (Pq g11 0))(o12:Sl a 12 (Pq g12 0))(o13:Sl a 13 (.int .i64 xe)):bC false 8 f33 Q a w fun a' W q'=>Kp [] w W->Sl a' 60 (.bool true)->q':=by
 intro hend;have hap:=pa 8 f33;refine aH (l:=(aK 8 f33)) (fun i v W=>match i with|0=>v=.int .i64 xe|1=>v=.bool true|2=>v=.bool true|6=>v=.bool true|7=>v=.bool true|11=>v=.bool true|_=>True) hap ?_ ?_ ?_
 . exact fun _ _ _ _ h _=>h
 . and_intros <;> try (intro vs A' W hA hW hd hu K hK;try (refine aL _ rfl rfl ?_;conv=>arg 2;whnf))
   . exact aJ (eO 13 o13)
   . have hxx:¬ xe=0:=he.out;exact aJ (vD 49 0)
   . exact aJ (vD 50 1)
   . exact sk
   . exact sk
   . exact sk
   . exact cM (vD 51 2) (eU 54 5)
   . exact aJ (vD 55 6)
   . exact sk
   . exact sk
   . exact sk
   . exact cM (vD 56 7) (eU 59 10)
   . trivial
 . intro vs W hW hp;rw [aF];exact hend _ W sQ hW (sW (hp 11 sB))
theorem aJg(g7 g8 g11 g12:Nat)(xe:Int)(f s x y:Bs)(hf:f.length=32)(hs:s.length=32)(hx:x.length=32)(hy:y.length=32)(hb7:aM w g7 23 (aA f))(hb8:aM w g8 23 (aA s))(hb11:aM w g11 23 (aA x))(hb12:aM w g12 23 (aA y))(he:Hid (xe=0))(hxf:(x == f)=false)(hsz:a.tmps.size=61)(o7:Sl a 7 (Pq g7 0))(o8:Sl a 8 (Pq g8 0))(o11:Sl a 11 (Pq g11 0))(o12:Sl a 12 (Pq g12 0))(o13:Sl a 13 (.int .i64 xe)):bC false 8 f33 Q a w fun a' W q'=>Kp [] w W->Sl a' 60 (.bool true)->q':=by
 intro hend;have hap:=pa 8 f33;refine aH (l:=(aK 8 f33)) (fun i v W=>match i with|0=>v=.int .i64 xe|1=>v=.bool false|2=>v=.bool false|3=>v=.agg (aA x)|4=>v=.agg (aA f)|5=>v=.bool true|6=>v=.bool true|7=>v=.bool true|11=>v=.bool true|_=>True) hap ?_ ?_ ?_
 . exact fun _ _ _ _ h _=>h
 . and_intros <;> try (intro vs A' W hA hW hd hu K hK;try (refine aL _ rfl rfl ?_;conv=>arg 2;whnf))
   . exact aJ (eO 13 o13)
   . have hxx:xe=0:=he.out;exact aJ (vD 49 0)
   . exact aJ (vD 50 1)
   . refine qH ?_;(conv=>arg 2;whnf);exact dC (aA x) (eO 11 o11) (aM.agg (hb11.k0 hW)) underlying23 (by rw [aC,hx];exact bBy)
   . refine qH ?_;(conv=>arg 2;whnf);exact dC (aA f) (eO 7 o7) (aM.agg (hb7.k0 hW)) underlying23 (by rw [aC,hf];exact bBy)
   . refine qH ?_;(conv=>arg 2;whnf);have e52:=vD 52 3;have e53:=vD 53 4;clear hA hd hu o7 o8 o11 o12 o13;refine bQ (v:=.bool true) (w':=W) (bH rfl (by simpa [Act.eval] using e52) (by simpa [Act.eval] using e53) eqGuardType23 ((dJ W x f hx hf).trans (by rw [hxf];rfl))) ?_;exact hK _ _ kR rfl
   . exact cM (vD 51 2) (vD 54 5)
   . exact aJ (vD 55 6)
   . exact sk
   . exact sk
   . exact sk
   . exact cM (vD 56 7) (eU 59 10)
   . trivial
 . intro vs W hW hp;rw [aF];exact hend _ W sQ hW (sW (hp 11 sB))
theorem aM2(g7 g8 g11 g12:Nat)(xe:Int)(f s x y:Bs)(hf:f.length=32)(hs:s.length=32)(hx:x.length=32)(hy:y.length=32)(hb7:aM w g7 23 (aA f))(hb8:aM w g8 23 (aA s))(hb11:aM w g11 23 (aA x))(hb12:aM w g12 23 (aA y))(he:Hid (xe=0))(hxf:(x == f)=true)(hsz:a.tmps.size=61)(o7:Sl a 7 (Pq g7 0))(o8:Sl a 8 (Pq g8 0))(o11:Sl a 11 (Pq g11 0))(o12:Sl a 12 (Pq g12 0))(o13:Sl a 13 (.int .i64 xe)):bC false 8 f33 Q a w fun a' W q'=>Kp [] w W->Sl a' 60 (.bool (!(y == s)))->q':=by
 intro hend;have hap:=pa 8 f33;refine aH (l:=(aK 8 f33)) (fun i v W=>match i with|0=>v=.int .i64 xe|1=>v=.bool false|2=>v=.bool false|3=>v=.agg (aA x)|4=>v=.agg (aA f)|5=>v=.bool false|6=>v=.bool false|7=>v=.bool false|8=>v=.agg (aA y)|9=>v=.agg (aA s)|10=>v=.bool (!(y == s))|11=>v=.bool (!(y == s))|_=>True) hap ?_ ?_ ?_
 . exact fun _ _ _ _ h _=>h
 . and_intros <;> try (intro vs A' W hA hW hd hu K hK;try (refine aL _ rfl rfl ?_;conv=>arg 2;whnf))
   . exact aJ (eO 13 o13)
   . have hxx:xe=0:=he.out;exact aJ (vD 49 0)
   . exact aJ (vD 50 1)
   . refine qH ?_;(conv=>arg 2;whnf);exact dC (aA x) (eO 11 o11) (aM.agg (hb11.k0 hW)) underlying23 (by rw [aC,hx];exact bBy)
   . refine qH ?_;(conv=>arg 2;whnf);exact dC (aA f) (eO 7 o7) (aM.agg (hb7.k0 hW)) underlying23 (by rw [aC,hf];exact bBy)
   . refine qH ?_;(conv=>arg 2;whnf);have e52:=vD 52 3;have e53:=vD 53 4;clear hA hd hu o7 o8 o11 o12 o13;refine bQ (v:=.bool false) (w':=W) (bH rfl (by simpa [Act.eval] using e52) (by simpa [Act.eval] using e53) eqGuardType23 ((dJ W x f hx hf).trans (by rw [hxf];rfl))) ?_;exact hK _ _ kR rfl
   . exact cM (vD 51 2) (vD 54 5)
   . exact aJ (vD 55 6)
   . refine qH ?_;(conv=>arg 2;whnf);exact dC (aA y) (eO 12 o12) (aM.agg (hb12.k0 hW)) underlying23 (by rw [aC,hy];exact bBy)
   . refine qH ?_;(conv=>arg 2;whnf);exact dC (aA s) (eO 8 o8) (aM.agg (hb8.k0 hW)) underlying23 (by rw [aC,hs];exact bBy)
   . refine qH ?_;(conv=>arg 2;whnf);have e57:=vD 57 8;have e58:=vD 58 9;clear hA hd hu o7 o8 o11 o12 o13;refine bQ (v:=.bool (!(y == s))) (w':=W) (bH rfl (by simpa [Act.eval] using e57) (by simpa [Act.eval] using e58) eqGuardType23 ((dJ W y s hy hs))) ?_;exact hK _ _ kR rfl
   . exact cM (vD 56 7) (vD 59 10)
   . trivial
 . intro vs W hW hp;rw [aF];exact hend _ W sQ hW (sW (hp 11 sB))
theorem tZ(m n:Int)(hn:n < 9223372036854775808)(first second:Bs)(hf:first.length=32)(hs:second.length=32)(A:Option Addr)(c:Nat)(pf:List (List UInt8))(hok:dP pf)(w:World)(hv:Rd w 32 (.slice A pf.length c) pf.length (dA pf)):
 Calls prog 33 #[.int .i64 m,.int .i64 n,.agg (aA first),.agg (aA second),.slice A pf.length c] w fun e w'=>e=.returned (Nq (eL m n first second pf)) ∧ Kp [] w w':=by
 refine aR func33 rfl 61 rfl (fun a0 hsz hdf hAr=>?_);have hz0:a0.tmps.size=61:=hsz;have D:=hdf;have o0:=hAr 0 _ rfl;have o1:=hAr 1 _ rfl;have o2:=hAr 2 _ rfl;have o3:=hAr 3 _ rfl;have o4:=hAr 4 _ rfl;refine wp_seq (aPp w _ _ [] (Held.start w) hz0 o2 o3 (fun a1 w1 hs1 o10 h1=>?_));obtain ⟨hz1,D,o0,o1,o4⟩:=dF hs1 hz0 D o0 o1 o4;obtain ⟨g7,g8,o7,o8,S⟩:=h1
 by_cases hm:m < 0
 . skip
   refine wp_seq (wp_seq (aLy m n hm hz1 o0 o1 (fun a2 w2 hs2 k2 o20=>?_)));obtain ⟨hz2,D,o0,o1,o4,o7,o8⟩:=jJ hs2 hz1 D o0 o1 o4 o7 o8;refine cS o20 ?_;refine wp_seq (aEy hz2 (fun a3 hs3 o10=>?_));obtain ⟨hz3,D,o0,o1,o4,o7,o8,o20⟩:=jF hs3 hz2 D o0 o1 o4 o7 o8 o20;refine wp_ret ?_
   try simp only [Exit.then]
   exact bodyPost_ret (bA (by rfl) (o10.eval (by rw [hz3];decide))) D ⟨by rw [rQ (.inl hm)];rfl,(S.k.trans k2 (by simp))⟩
 . skip
   refine wp_seq (wp_seq (aLh m n hm hz1 o0 o1 (fun a2 w2 hs2 k2 o20=>?_)));obtain ⟨hz2,D,o0,o1,o4,o7,o8⟩:=jJ hs2 hz1 D o0 o1 o4 o7 o8;have S:=S.kp k2
   by_cases hmn:n < m
   . refine cS o20 ?_ (by rw [decide_eq_true hmn]);refine wp_seq (aEy hz2 (fun a3 hs3 o10=>?_));obtain ⟨hz3,D,o0,o1,o4,o7,o8,o20⟩:=jF hs3 hz2 D o0 o1 o4 o7 o8 o20;refine wp_ret ?_
     try simp only [Exit.then]
     exact bodyPost_ret (bA (by rfl) (o10.eval (by rw [hz3];decide))) D ⟨by rw [rQ (.inr hmn)];rfl,S.k⟩
   . refine dD o20 (wp_skip ?_) (by rw [decide_eq_false hmn]);simp only [Exit.then];have hno:¬ (m < 0 ∨ n < m):=by omega
     have hb7:=S.at_ (l1:=[_]);have hb8:=S.at_ (l1:=[]);refine wp_seq (wp_seq (aOv m hz2 o0 (fun a3 hs3 o22=>?_)));obtain ⟨hz3,D,o0,o1,o4,o7,o8⟩:=jJ hs3 hz2 D o0 o1 o4 o7 o8
     by_cases h0:m=0
     . refine cS o22 ?_ (by rw [h0];rfl);subst h0
       cases hfe:(first == cI)
       . skip
         refine wp_seq (wp_seq (aJ9 g7 g8 first second hf hs hb7 hb8 A pf.length c n hfe hz3 o1 o4 o7 o8 (fun a4 w4 hs4 k4 o39=>?_)));obtain ⟨hz4,D,o0,o1,o4,o7,o8,o22⟩:=jF hs4 hz3 D o0 o1 o4 o7 o8 o22;refine cS o39 ?_;refine wp_seq (aBh hz4 (fun a5 hs5 o10=>?_));obtain ⟨hz5,D,o0,o1,o4,o7,o8,o22,o39⟩:=vQ hs5 hz4 D o0 o1 o4 o7 o8 o22 o39;refine wp_ret ?_
         try simp only [Exit.then]
         exact bodyPost_ret (bA (by rfl) (o10.eval (by rw [hz5];decide))) D ⟨by rw [kK hno (.inl hfe)];rfl,(S.k.trans (((Kp.refl [] w2).drew).trans k4 (by simp)) (by simp))⟩
       . by_cases hl:pf.length=0
         . by_cases hy:n=0
           . skip
             refine wp_seq (wp_seq (aM3 g7 g8 first second hf hs hb7 hb8 A pf.length c n hfe (LH hl) (LH hy) hz3 o1 o4 o7 o8 (fun a4 w4 hs4 k4 o39=>?_)));obtain ⟨hz4,D,o0,o1,o4,o7,o8,o22⟩:=jF hs4 hz3 D o0 o1 o4 o7 o8 o22
             cases hsf:(second == first)
             . rw [hsf] at o39;refine cS o39 ?_;refine wp_seq (aBh hz4 (fun a5 hs5 o10=>?_));obtain ⟨hz5,D,o0,o1,o4,o7,o8,o22,o39⟩:=vQ hs5 hz4 D o0 o1 o4 o7 o8 o22 o39;refine wp_ret ?_
               try simp only [Exit.then]
               exact bodyPost_ret (bA (by rfl) (o10.eval (by rw [hz5];decide))) D ⟨by rw [kK hno (.inr (.inr ⟨hy,hsf⟩))];rfl,(S.k.trans (((Kp.refl [] w2).drew).trans k4 (by simp)) (by simp))⟩
             . rw [hsf] at o39;refine dD o39 (wp_skip ?_);simp only [Exit.then];refine wp_seq (aGk hz4 (fun a5 hs5 o10=>?_));obtain ⟨hz5,D,o0,o1,o4,o7,o8,o22,o39⟩:=vQ hs5 hz4 D o0 o1 o4 o7 o8 o22 o39;refine wp_ret ?_
               try simp only [Exit.then]
               exact bodyPost_ret (bA (by rfl) (o10.eval (by rw [hz5];decide))) D ⟨by rw [pE hno hfe hl (.inr hsf)];rfl,(S.k.trans (((Kp.refl [] w2).drew).trans k4 (by simp)) (by simp))⟩
           . skip
             refine wp_seq (wp_seq (aM6 g7 g8 first second hf hs hb7 hb8 A pf.length c n hfe (LH hl) (LH hy) hz3 o1 o4 o7 o8 (fun a4 w4 hs4 k4 o39=>?_)));obtain ⟨hz4,D,o0,o1,o4,o7,o8,o22⟩:=jF hs4 hz3 D o0 o1 o4 o7 o8 o22;refine dD o39 (wp_skip ?_);simp only [Exit.then];refine wp_seq (aGk hz4 (fun a5 hs5 o10=>?_));obtain ⟨hz5,D,o0,o1,o4,o7,o8,o22,o39⟩:=vQ hs5 hz4 D o0 o1 o4 o7 o8 o22 o39;refine wp_ret ?_
             try simp only [Exit.then]
             exact bodyPost_ret (bA (by rfl) (o10.eval (by rw [hz5];decide))) D ⟨by rw [pE hno hfe hl (.inl hy)];rfl,(S.k.trans (((Kp.refl [] w2).drew).trans k4 (by simp)) (by simp))⟩
         . skip
           refine wp_seq (wp_seq (aKr g7 g8 first second hf hs hb7 hb8 A pf.length c n hfe (LH hl) hz3 o1 o4 o7 o8 (fun a4 w4 hs4 k4 o39=>?_)));obtain ⟨hz4,D,o0,o1,o4,o7,o8,o22⟩:=jF hs4 hz3 D o0 o1 o4 o7 o8 o22;refine cS o39 ?_;refine wp_seq (aBh hz4 (fun a5 hs5 o10=>?_));obtain ⟨hz5,D,o0,o1,o4,o7,o8,o22⟩:=jF hs5 hz4 D o0 o1 o4 o7 o8 o22;refine wp_ret ?_
           try simp only [Exit.then]
           exact bodyPost_ret (bA (by rfl) (o10.eval (by rw [hz5];decide))) D ⟨by rw [kK hno (.inr (.inl hl))];rfl,(S.k.trans (((Kp.refl [] w2).drew).trans k4 (by simp)) (by simp))⟩
     . have hq:(m == 0)=false:=by rw [beq_eq_false_iff_ne];exact h0
       refine dD o22 (wp_skip ?_) (by rw [hq]);simp only [Exit.then];have hbv:=aCp m n first pf hf hok hn;have HB:=(aDn m n hn first hf A c pf hok w2 (aT hv S.k)).mono (fun e w' h=>(⟨h.1,S.kp h.2⟩:e=_ ∧ Held w w' _));refine wp_seq (aT2 w g7 m n _ first hf _ hb7 _ _ hbv.1 hbv.2 _ HB hz3 o0 o1 o4 o7 (fun a4 w5 hs4 o13 h5=>?_));obtain ⟨hz4,D,o7,o8⟩:=dU hs4 hz3 D o7 o8;obtain ⟨g11,g12,o11,o12,S⟩:=h5;have hb7:=S.at_ (l1:=[_,_,_]);have hb8:=S.at_ (l1:=[_,_]);have hb11:=S.at_ (l1:=[_]);have hb12:=S.at_ (l1:=[])
       by_cases hbc:rR m n pf.length=0
       . cases hxf:((tA m n first pf).1 == first)
         . skip
           refine wp_seq (wp_seq (aJg g7 g8 g11 g12 _ first second _ _ hf hs hbv.1 hbv.2 hb7 hb8 hb11 hb12 (LH (by rw [hbc];rfl)) hxf hz4 o7 o8 o11 o12 o13 (fun a5 w6 hs5 k6 o60=>?_)));obtain ⟨hz5,D,o7,o8,o11,o12,o13⟩:=jJ hs5 hz4 D o7 o8 o11 o12 o13;refine cS o60 ?_;refine wp_seq (aBg hz5 (fun a6 hs6 o10=>?_));obtain ⟨hz6,D,o7,o8,o11,o12,o13,o60⟩:=jF hs6 hz5 D o7 o8 o11 o12 o13 o60;refine wp_ret ?_
           try simp only [Exit.then]
           exact bodyPost_ret (bA (by rfl) (o10.eval (by rw [hz6];decide))) D ⟨by rw [aCz hno h0 hbc hxf];rfl,(S.k.trans k6 (by simp))⟩
         . skip
           refine wp_seq (wp_seq (aM2 g7 g8 g11 g12 _ first second _ _ hf hs hbv.1 hbv.2 hb7 hb8 hb11 hb12 (LH (by rw [hbc];rfl)) hxf hz4 o7 o8 o11 o12 o13 (fun a5 w6 hs5 k6 o60=>?_)));obtain ⟨hz5,D,o7,o8,o11,o12,o13⟩:=jJ hs5 hz4 D o7 o8 o11 o12 o13
           cases hsf:((tA m n first pf).2 == second)
           . rw [hsf] at o60;refine cS o60 ?_;refine wp_seq (aBg hz5 (fun a6 hs6 o10=>?_));obtain ⟨hz6,D,o7,o8,o11,o12,o13,o60⟩:=jF hs6 hz5 D o7 o8 o11 o12 o13 o60;refine wp_ret ?_
             try simp only [Exit.then]
             exact bodyPost_ret (bA (by rfl) (o10.eval (by rw [hz6];decide))) D ⟨by rw [aCj hno h0 hbc hxf hsf];rfl,(S.k.trans k6 (by simp))⟩
           . rw [hsf] at o60;refine dD o60 (wp_skip ?_);simp only [Exit.then];refine wp_seq (aL2 hz5 (fun a6 hs6 o10=>?_));obtain ⟨hz6,D,o7,o8,o11,o12,o13,o60⟩:=jF hs6 hz5 D o7 o8 o11 o12 o13 o60;refine wp_ret ?_
             try simp only [Exit.then]
             exact bodyPost_ret (bA (by rfl) (o10.eval (by rw [hz6];decide))) D ⟨by rw [aCg hno h0 hbc hxf hsf];rfl,(S.k.trans k6 (by simp))⟩
       . skip
         refine wp_seq (wp_seq (aLo g7 g8 g11 g12 _ first second _ _ hf hs hbv.1 hbv.2 hb7 hb8 hb11 hb12 (LH (by omega)) hz4 o7 o8 o11 o12 o13 (fun a5 w6 hs5 k6 o60=>?_)));obtain ⟨hz5,D⟩:=dS hs5 hz4 D;refine cS o60 ?_;refine wp_seq (aBg hz5 (fun a6 hs6 o10=>?_));obtain ⟨hz6,D⟩:=dS hs6 hz5 D;refine wp_ret ?_
         try simp only [Exit.then]
         exact bodyPost_ret (bA (by rfl) (o10.eval (by rw [hz6];decide))) D ⟨by rw [aD1 hno h0 hbc];rfl,(S.k.trans k6 (by simp))⟩
theorem aQ3(w0:World)(xa xb:Array Value)(L:List Res)(S:Held w0 w L)(hsz:a.tmps.size=61)(o2:Sl a 2 (.agg xa))(o3:Sl a 3 (.agg xb)):bC false 0 f37 Q a w fun a' W q'=>Sl a' 10 (.int .i64 (0:Int))->(∃ g7 g8,Sl a' 7 (Pq g7 0) ∧ Sl a' 8 (Pq g8 0) ∧ Held w0 W (aB g8 23 xb :: aB g7 23 xa :: L))->q':=by
 refine bU fun hend=>?_;unfold Sl at o2 o3;have S1:=LH ((S.newBlk 23 xa).newBlkN 23 xb (g:=w.heap.size+1) (by simp));go_wp2
 try simp only [Act.put]
 exact hend _ _ tS sP (⟨w.heap.size,w.heap.size+1,cH,cH,S1.out⟩)
theorem aO1(z y:Int)(hz:z < 0)(hsz:a.tmps.size=61)(o0:Sl a 0 (.int .i64 z))(o1:Sl a 1 (.int .i64 y)):bC false 1 f37 Q a w fun a' W q'=>Kp [] w W->Sl a' 20 (.bool true)->q':=by
 intro hend;have hap:=pa 1 f37;refine aH (l:=(aK 1 f37)) (fun i v W=>match i with|0=>v=.int .i64 z|1=>v=.bool true|2=>v=.bool true|6=>v=.bool true|_=>True) hap ?_ ?_ ?_
 . exact fun _ _ _ _ h _=>h
 . and_intros <;> try (intro vs A' W hA hW hd hu K hK;try (refine aL _ rfl rfl ?_;conv=>arg 2;whnf))
   . exact aJ (eO 0 o0)
   . have e14:=vD 14 0;clear hA hd hu o0 o1;go_step;exact hK _ _ kR (by first|rfl|(refine congrArg Value.bool ?_;simp;omega)|(refine congrArg Value.bool ?_;simp [hz];done))
   . exact aJ (vD 15 1)
   . exact sk
   . exact sk
   . exact sk
   . exact cM (vD 16 2) (eU 19 5)
   . trivial
 . intro vs W hW hp;rw [aF];exact hend _ W sQ hW (sW (hp 6 sB))
theorem aNf(z y:Int)(hz:¬ z < 0)(hsz:a.tmps.size=61)(o0:Sl a 0 (.int .i64 z))(o1:Sl a 1 (.int .i64 y)):bC false 1 f37 Q a w fun a' W q'=>Kp [] w W->Sl a' 20 (.bool (decide (y < z)))->q':=by
 intro hend;have hap:=pa 1 f37;refine aH (l:=(aK 1 f37)) (fun i v W=>match i with|0=>v=.int .i64 z|1=>v=.bool false|2=>v=.bool false|3=>v=.int .i64 z|4=>v=.int .i64 y|5=>v=.bool (decide (y < z))|6=>v=.bool (decide (y < z))|_=>True) hap ?_ ?_ ?_
 . exact fun _ _ _ _ h _=>h
 . and_intros <;> try (intro vs A' W hA hW hd hu K hK;try (refine aL _ rfl rfl ?_;conv=>arg 2;whnf))
   . exact aJ (eO 0 o0)
   . have e14:=vD 14 0;clear hA hd hu o0 o1;go_step;exact hK _ _ kR (by first|rfl|(refine congrArg Value.bool ?_;simp;omega)|(refine congrArg Value.bool ?_;simp [hz];done))
   . exact aJ (vD 15 1)
   . exact cC (eO 0 o0)
   . exact cC (eO 1 o1)
   . exact xZ (vD 17 3) (vD 18 4)
   . exact cM (vD 16 2) (vD 19 5)
   . trivial
 . intro vs W hW hp;rw [aF];exact hend _ W sQ hW (sW (hp 6 sB))
theorem aFa(hsz:a.tmps.size=61):bK 2 f37 Q a w fun a' q'=>Sl a' 10 (.int .i64 (4:Int))->q':=rO
theorem aBf(hsz:a.tmps.size=61):bK 5 f37 Q a w fun a' q'=>Sl a' 10 (.int .i64 (220:Int))->q':=rO
theorem aGg(hsz:a.tmps.size=61):bK 6 f37 Q a w fun a' q'=>Sl a' 10 (.int .i64 (0:Int))->q':=rO
theorem aBp(hsz:a.tmps.size=61):bK 9 f37 Q a w fun a' q'=>Sl a' 10 (.int .i64 (220:Int))->q':=rO
theorem aL0(hsz:a.tmps.size=61):bK 10 f37 Q a w fun a' q'=>Sl a' 10 (.int .i64 (0:Int))->q':=rO
theorem aY4(z:Int)(hsz:a.tmps.size=61)(o0:Sl a 0 (.int .i64 z)):bK 3 f37 Q a w fun a' q'=>Sl a' 22 (.bool (z == 0))->q':=rO
theorem aJ2(g7 g8:Nat)(f s:Bs)(hf:f.length=32)(hs:s.length=32)(hb7:aM w g7 23 (aA f))(hb8:aM w g8 23 (aA s))(A:Option Addr)(n c:Nat)(y:Int)(hfe:(f == cI)=false)(hsz:a.tmps.size=61)(o1:Sl a 1 (.int .i64 y))(o4:Sl a 4 (.slice A n c))(o7:Sl a 7 (Pq g7 0))(o8:Sl a 8 (Pq g8 0)):bC true 4 f37 Q a w fun a' W q'=>Kp [] w.drew W->Sl a' 39 (.bool true)->q':=by
 intro hend;have hap:=pa 4 f37;refine cO (l:=(aK 4 f37)) (fun i v W=>match i with|0=>v=.agg (aA f)|1=>v=.agg (aA cI)|2=>v=.bool true|3=>v=.bool true|7=>v=.bool true|8=>v=.bool true|11=>v=undef|16=>v=.bool true|_=>True) (by kernel_rfl) hap (by kernel_rfl) ?_ ?_ ?_
 . exact fun _ _ _ _ h _=>h
 . and_intros <;> try (intro vs A' W hA hW hd K hK;try (refine aL _ rfl rfl ?_;conv=>arg 2;whnf))
   . exact dC (aA f) (eO 7 o7) (aM.agg (hb7.drew.kp hW (by simp))) underlying23 (by rw [aC,hf];exact bBy)
   . clear hA hd o1 o4 o7 o8;go_step;refine (iU W).mono ?_;rintro e w' ⟨rfl,k⟩;exact hK _ _ k rfl
   . have e23:=vD 23 0;have e24:=vD 24 1;clear hA hd o1 o4 o7 o8;refine bQ (v:=.bool true) (w':=W) (bH rfl (by simpa [Act.eval] using e23) (by simpa [Act.eval] using e24) eqGuardType23 ((dJ W f cI hf cQ).trans (by rw [hfe];rfl))) ?_;exact hK _ _ kR rfl
   . exact aJ (vD 25 2)
   . exact sk
   . exact sk
   . exact sk
   . exact cM (vD 26 3) (eU 29 6)
   . exact aJ (vD 30 7)
   . exact sk
   . exact sk
   . exact sk
   . exact qT 11 true (vD 34 11)
   . exact qT 11 true (vD 34 11)
   . exact qT 11 true (vD 34 11)
   . exact sk
   . exact cM (vD 31 8) (eU 38 15)
   . trivial
 . intro vs W hW hp;rw [aF];exact hend _ W sQ hW (sW (hp 16 sB))
theorem aLb(g7 g8:Nat)(f s:Bs)(hf:f.length=32)(hs:s.length=32)(hb7:aM w g7 23 (aA f))(hb8:aM w g8 23 (aA s))(A:Option Addr)(n c:Nat)(y:Int)(hfe:(f == cI)=true)(hn:Hid (n ≠ 0))(hsz:a.tmps.size=61)(o1:Sl a 1 (.int .i64 y))(o4:Sl a 4 (.slice A n c))(o7:Sl a 7 (Pq g7 0))(o8:Sl a 8 (Pq g8 0)):bC true 4 f37 Q a w fun a' W q'=>Kp [] w.drew W->Sl a' 39 (.bool true)->q':=by
 intro hend;have hap:=pa 4 f37;refine cO (l:=(aK 4 f37)) (fun i v W=>match i with|0=>v=.agg (aA f)|1=>v=.agg (aA cI)|2=>v=.bool false|3=>v=.bool false|4=>v=.slice A n c|5=>v=Nq n|6=>v=.bool true|7=>v=.bool true|8=>v=.bool true|11=>v=undef|16=>v=.bool true|_=>True) (by kernel_rfl) hap (by kernel_rfl) ?_ ?_ ?_
 . exact fun _ _ _ _ h _=>h
 . and_intros <;> try (intro vs A' W hA hW hd K hK;try (refine aL _ rfl rfl ?_;conv=>arg 2;whnf))
   . exact dC (aA f) (eO 7 o7) (aM.agg (hb7.drew.kp hW (by simp))) underlying23 (by rw [aC,hf];exact bBy)
   . clear hA hd o1 o4 o7 o8;go_step;refine (iU W).mono ?_;rintro e w' ⟨rfl,k⟩;exact hK _ _ k rfl
   . have e23:=vD 23 0;have e24:=vD 24 1;clear hA hd o1 o4 o7 o8;refine bQ (v:=.bool false) (w':=W) (bH rfl (by simpa [Act.eval] using e23) (by simpa [Act.eval] using e24) eqGuardType23 ((dJ W f cI hf cQ).trans (by rw [hfe];rfl))) ?_;exact hK _ _ kR rfl
   . exact aJ (vD 25 2)
   . exact cC (eO 4 o4)
   . exact cC (vD 27 4)
   . refine qH ?_;(conv=>arg 2;whnf);have hn0:¬ (n:Int)=0:=by have:=hn.out;omega
     have hn1:0 < (n:Int):=by have:=hn.out;omega
     exact aJ (vD 28 5)
   . exact cM (vD 26 3) (vD 29 6)
   . exact aJ (vD 30 7)
   . exact sk
   . exact sk
   . exact sk
   . exact qT 11 true (vD 34 11)
   . exact qT 11 true (vD 34 11)
   . exact qT 11 true (vD 34 11)
   . exact sk
   . exact cM (vD 31 8) (eU 38 15)
   . trivial
 . intro vs W hW hp;rw [aF];exact hend _ W sQ hW (sW (hp 16 sB))
theorem aLf(g7 g8:Nat)(f s:Bs)(hf:f.length=32)(hs:s.length=32)(hb7:aM w g7 23 (aA f))(hb8:aM w g8 23 (aA s))(A:Option Addr)(n c:Nat)(y:Int)(hfe:(f == cI)=true)(hn:Hid (n=0))(hy:Hid (¬ y=0))(hsz:a.tmps.size=61)(o1:Sl a 1 (.int .i64 y))(o4:Sl a 4 (.slice A n c))(o7:Sl a 7 (Pq g7 0))(o8:Sl a 8 (Pq g8 0)):bC true 4 f37 Q a w fun a' W q'=>Kp [] w.drew W->Sl a' 39 (.bool false)->q':=by
 intro hend;have hap:=pa 4 f37;refine cO (l:=(aK 4 f37)) (fun i v W=>match i with|0=>v=.agg (aA f)|1=>v=.agg (aA cI)|2=>v=.bool false|3=>v=.bool false|4=>v=.slice A n c|5=>v=Nq n|6=>v=.bool false|7=>v=.bool false|8=>v=.bool false|9=>v=.int .i64 y|10=>v=.bool false|11=>v=.bool false|15=>v=.bool false|16=>v=.bool false|_=>True) (by kernel_rfl) hap (by kernel_rfl) ?_ ?_ ?_
 . exact fun _ _ _ _ h _=>h
 . and_intros <;> try (intro vs A' W hA hW hd K hK;try (refine aL _ rfl rfl ?_;conv=>arg 2;whnf))
   . exact dC (aA f) (eO 7 o7) (aM.agg (hb7.drew.kp hW (by simp))) underlying23 (by rw [aC,hf];exact bBy)
   . clear hA hd o1 o4 o7 o8;go_step;refine (iU W).mono ?_;rintro e w' ⟨rfl,k⟩;exact hK _ _ k rfl
   . have e23:=vD 23 0;have e24:=vD 24 1;clear hA hd o1 o4 o7 o8;refine bQ (v:=.bool false) (w':=W) (bH rfl (by simpa [Act.eval] using e23) (by simpa [Act.eval] using e24) eqGuardType23 ((dJ W f cI hf cQ).trans (by rw [hfe];rfl))) ?_;exact hK _ _ kR rfl
   . exact aJ (vD 25 2)
   . exact cC (eO 4 o4)
   . exact cC (vD 27 4)
   . refine qH ?_;(conv=>arg 2;whnf);have hn0:(n:Int)=0:=by have:=hn.out;omega
     have hn1:¬ 0 < (n:Int):=by have:=hn.out;omega
     exact aJ (vD 28 5)
   . exact cM (vD 26 3) (vD 29 6)
   . exact aJ (vD 30 7)
   . exact cC (eO 1 o1)
   . refine qH ?_;(conv=>arg 2;whnf);have hyy:¬ y=0:=hy.out;exact aJ (vD 32 9)
   . exact cC (vD 33 10)
   . exact sk
   . exact sk
   . exact sk
   . exact xZ (vD 34 11) (eU 37 14)
   . exact cM (vD 31 8) (vD 38 15)
   . trivial
 . intro vs W hW hp;rw [aF];exact hend _ W sQ hW (sW (hp 16 sB))
theorem aKk(g7 g8:Nat)(f s:Bs)(hf:f.length=32)(hs:s.length=32)(hb7:aM w g7 23 (aA f))(hb8:aM w g8 23 (aA s))(A:Option Addr)(n c:Nat)(y:Int)(hfe:(f == cI)=true)(hn:Hid (n=0))(hy:Hid (y=0))(hsz:a.tmps.size=61)(o1:Sl a 1 (.int .i64 y))(o4:Sl a 4 (.slice A n c))(o7:Sl a 7 (Pq g7 0))(o8:Sl a 8 (Pq g8 0)):bC true 4 f37 Q a w fun a' W q'=>Kp [] w.drew W->Sl a' 39 (.bool (!(f == s)))->q':=by
 intro hend;have hap:=pa 4 f37;refine cO (l:=(aK 4 f37)) (fun i v W=>match i with|0=>v=.agg (aA f)|1=>v=.agg (aA cI)|2=>v=.bool false|3=>v=.bool false|4=>v=.slice A n c|5=>v=Nq n|6=>v=.bool false|7=>v=.bool false|8=>v=.bool false|9=>v=.int .i64 y|10=>v=.bool true|11=>v=.bool true|12=>v=.agg (aA f)|13=>v=.agg (aA s)|14=>v=.bool (!(f == s))|15=>v=.bool (!(f == s))|16=>v=.bool (!(f == s))|_=>True) (by kernel_rfl) hap (by kernel_rfl) ?_ ?_ ?_
 . exact fun _ _ _ _ h _=>h
 . and_intros <;> try (intro vs A' W hA hW hd K hK;try (refine aL _ rfl rfl ?_;conv=>arg 2;whnf))
   . exact dC (aA f) (eO 7 o7) (aM.agg (hb7.drew.kp hW (by simp))) underlying23 (by rw [aC,hf];exact bBy)
   . clear hA hd o1 o4 o7 o8;go_step;refine (iU W).mono ?_;rintro e w' ⟨rfl,k⟩;exact hK _ _ k rfl
   . have e23:=vD 23 0;have e24:=vD 24 1;clear hA hd o1 o4 o7 o8;refine bQ (v:=.bool false) (w':=W) (bH rfl (by simpa [Act.eval] using e23) (by simpa [Act.eval] using e24) eqGuardType23 ((dJ W f cI hf cQ).trans (by rw [hfe];rfl))) ?_;exact hK _ _ kR rfl
   . exact aJ (vD 25 2)
   . exact cC (eO 4 o4)
   . exact cC (vD 27 4)
   . refine qH ?_;(conv=>arg 2;whnf);have hn0:(n:Int)=0:=by have:=hn.out;omega
     have hn1:¬ 0 < (n:Int):=by have:=hn.out;omega
     exact aJ (vD 28 5)
   . exact cM (vD 26 3) (vD 29 6)
   . exact aJ (vD 30 7)
   . exact cC (eO 1 o1)
   . refine qH ?_;(conv=>arg 2;whnf);have hyy:y=0:=hy.out;exact aJ (vD 32 9)
   . exact cC (vD 33 10)
   . refine qH ?_;(conv=>arg 2;whnf);exact dC (aA f) (eO 7 o7) (aM.agg (hb7.drew.kp hW (by simp))) underlying23 (by rw [aC,hf];exact bBy)
   . refine qH ?_;(conv=>arg 2;whnf);exact dC (aA s) (eO 8 o8) (aM.agg (hb8.drew.kp hW (by simp))) underlying23 (by rw [aC,hs];exact bBy)
   . refine qH ?_;(conv=>arg 2;whnf);have e35:=vD 35 12;have e36:=vD 36 13;clear hA hd o1 o4 o7 o8;refine bQ (v:=.bool (!(f == s))) (w':=W) (bH rfl (by simpa [Act.eval] using e35) (by simpa [Act.eval] using e36) eqGuardType23 ((dJ W f s hf hs))) ?_;exact hK _ _ kR rfl
   . exact xZ (vD 34 11) (vD 37 14)
   . exact cM (vD 31 8) (vD 38 15)
   . trivial
 . intro vs W hW hp;rw [aF];exact hend _ W sQ hW (sW (hp 16 sB))
theorem aRn(w0:World)(g7:Nat)(z y2 xe:Int)(f:Bs)(hf32:f.length=32)(sl:Value)(hb:aM w g7 23 (aA f))(x y:Bs)(hx32:x.length=32)(hy32:y.length=32)(L:List Res)(HC0:Calls prog 80 #[.int .i64 z,.int .i64 y2,.agg (aA f),sl] w fun e w'=>e=.returned (.tuple #[.agg (aA x),.agg (aA y),.int .i64 xe]) ∧ Held w0 w' L)(hsz:a.tmps.size=61)(o0:Sl a 0 (.int .i64 z))(o1:Sl a 1 (.int .i64 y2))(o4:Sl a 4 (sl))(o7:Sl a 7 (Pq g7 0)):bC false 7 f37 Q a w fun a' W q'=>Sl a' 13 (.int .i64 xe)->(∃ g9 g10,Sl a' 11 (Pq g9 0) ∧ Sl a' 12 (Pq g10 0) ∧ Held w0 W (aB g10 23 (aA y) :: aB g9 23 (aA x) :: L))->q':=by
 refine bU fun hend=>?_;unfold Sl at o0 o1 o4 o7;have hca:Hid ((aA (x)).size=32):=LH (by rw [aC,hx32]);have Oca:=LH (aI (x));obtain ⟨ca,Eca⟩:∃ cs,Hid (aA (x)=cs):=⟨_,LH rfl⟩;rw [Eca.out] at hca Oca;have hcb:Hid ((aA (y)).size=32):=LH (by rw [aC,hy32]);have Ocb:=LH (aI (y));obtain ⟨cb,Ecb⟩:∃ cs,Hid (aA (y)=cs):=⟨_,LH rfl⟩;rw [Ecb.out] at hcb Ocb;have hcf:Hid ((aA (f)).size=32):=LH (by rw [aC,hf32]);have Ocf:=LH (aI (f));obtain ⟨cf,Ecf⟩:∃ cs,Hid (aA (f)=cs):=⟨_,LH rfl⟩;rw [Ecf.out] at hcf Ocf;rw [Eca.out,Ecb.out,Ecf.out] at HC0;rw [Ecf.out] at hb;have HC:=LH HC0;clear HC0;have HB:=LH hb;clear hb;go_wp2_with (refine aQ rfl 23 (.tmp 7) rfl g7 (aO o7) 23 _ HB.out _ underlying23 rfl (by rw [hcf.out];exact bBy) ?_)
 refine HC.out.mono ?_;rintro e w1 ⟨rfl,S1⟩;have S2:=LH ((S1.newBlk 23 (aA (List.replicate 32 0))).newBlkN 23 (aA (List.replicate 32 0)) (g:=w1.heap.size+1) (by simp));clear S1;go_wp2_with (first|(refine aD rfl 23 (.tmp 11) (.tmp 46) rfl w1.heap.size aE ca aE 23 _ (S2.out.at_ (l1:=[_])) (by rw [hca.out];exact bBy) (by rw [hca.out];rfl) Oca.out ?_;intro w7 b7 k7;have S7:=LH (Held.setBlk (l1:=[_]) S2.out b7 k7);clear b7 k7)|(refine aD rfl 23 (.tmp 12) (.tmp 47) rfl (w1.heap.size+1) aE cb aE 23 _ (S7.out.at_ (l1:=[])) (by rw [hcb.out];exact bBy) (by rw [hcb.out];rfl) Ocb.out ?_;intro w7 b7 k7;have S8:=LH (Held.setBlk (l1:=[]) S7.out b7 k7);clear b7 k7))
 rw [<- Eca.out,<- Ecb.out] at S8
 try simp only [Act.put]
 exact hend _ _ tS sP (⟨_,_,cH,cH,S8.out⟩)
theorem aIm(g7 g8 g11 g12:Nat)(xe:Int)(f s x y:Bs)(hf:f.length=32)(hs:s.length=32)(hx:x.length=32)(hy:y.length=32)(hb7:aM w g7 23 (aA f))(hb8:aM w g8 23 (aA s))(hb11:aM w g11 23 (aA x))(hb12:aM w g12 23 (aA y))(he:Hid (¬ xe=0))(hsz:a.tmps.size=61)(o7:Sl a 7 (Pq g7 0))(o8:Sl a 8 (Pq g8 0))(o11:Sl a 11 (Pq g11 0))(o12:Sl a 12 (Pq g12 0))(o13:Sl a 13 (.int .i64 xe)):bC false 8 f37 Q a w fun a' W q'=>Kp [] w W->Sl a' 60 (.bool true)->q':=by
 intro hend;have hap:=pa 8 f37;refine aH (l:=(aK 8 f37)) (fun i v W=>match i with|0=>v=.int .i64 xe|1=>v=.bool true|2=>v=.bool true|6=>v=.bool true|7=>v=.bool true|11=>v=.bool true|_=>True) hap ?_ ?_ ?_
 . exact fun _ _ _ _ h _=>h
 . and_intros <;> try (intro vs A' W hA hW hd hu K hK;try (refine aL _ rfl rfl ?_;conv=>arg 2;whnf))
   . exact aJ (eO 13 o13)
   . have hxx:¬ xe=0:=he.out;exact aJ (vD 49 0)
   . exact aJ (vD 50 1)
   . exact sk
   . exact sk
   . exact sk
   . exact cM (vD 51 2) (eU 54 5)
   . exact aJ (vD 55 6)
   . exact sk
   . exact sk
   . exact sk
   . exact cM (vD 56 7) (eU 59 10)
   . trivial
 . intro vs W hW hp;rw [aF];exact hend _ W sQ hW (sW (hp 11 sB))
theorem aJm(g7 g8 g11 g12:Nat)(xe:Int)(f s x y:Bs)(hf:f.length=32)(hs:s.length=32)(hx:x.length=32)(hy:y.length=32)(hb7:aM w g7 23 (aA f))(hb8:aM w g8 23 (aA s))(hb11:aM w g11 23 (aA x))(hb12:aM w g12 23 (aA y))(he:Hid (xe=0))(hxf:(x == f)=false)(hsz:a.tmps.size=61)(o7:Sl a 7 (Pq g7 0))(o8:Sl a 8 (Pq g8 0))(o11:Sl a 11 (Pq g11 0))(o12:Sl a 12 (Pq g12 0))(o13:Sl a 13 (.int .i64 xe)):bC false 8 f37 Q a w fun a' W q'=>Kp [] w W->Sl a' 60 (.bool true)->q':=by
 intro hend;have hap:=pa 8 f37;refine aH (l:=(aK 8 f37)) (fun i v W=>match i with|0=>v=.int .i64 xe|1=>v=.bool false|2=>v=.bool false|3=>v=.agg (aA x)|4=>v=.agg (aA f)|5=>v=.bool true|6=>v=.bool true|7=>v=.bool true|11=>v=.bool true|_=>True) hap ?_ ?_ ?_
 . exact fun _ _ _ _ h _=>h
 . and_intros <;> try (intro vs A' W hA hW hd hu K hK;try (refine aL _ rfl rfl ?_;conv=>arg 2;whnf))
   . exact aJ (eO 13 o13)
   . have hxx:xe=0:=he.out;exact aJ (vD 49 0)
   . exact aJ (vD 50 1)
   . refine qH ?_;(conv=>arg 2;whnf);exact dC (aA x) (eO 11 o11) (aM.agg (hb11.k0 hW)) underlying23 (by rw [aC,hx];exact bBy)
   . refine qH ?_;(conv=>arg 2;whnf);exact dC (aA f) (eO 7 o7) (aM.agg (hb7.k0 hW)) underlying23 (by rw [aC,hf];exact bBy)
   . refine qH ?_;(conv=>arg 2;whnf);have e52:=vD 52 3;have e53:=vD 53 4;clear hA hd hu o7 o8 o11 o12 o13;refine bQ (v:=.bool true) (w':=W) (bH rfl (by simpa [Act.eval] using e52) (by simpa [Act.eval] using e53) eqGuardType23 ((dJ W x f hx hf).trans (by rw [hxf];rfl))) ?_;exact hK _ _ kR rfl
   . exact cM (vD 51 2) (vD 54 5)
   . exact aJ (vD 55 6)
   . exact sk
   . exact sk
   . exact sk
   . exact cM (vD 56 7) (eU 59 10)
   . trivial
 . intro vs W hW hp;rw [aF];exact hend _ W sQ hW (sW (hp 11 sB))
theorem aKq(g7 g8 g11 g12:Nat)(xe:Int)(f s x y:Bs)(hf:f.length=32)(hs:s.length=32)(hx:x.length=32)(hy:y.length=32)(hb7:aM w g7 23 (aA f))(hb8:aM w g8 23 (aA s))(hb11:aM w g11 23 (aA x))(hb12:aM w g12 23 (aA y))(he:Hid (xe=0))(hxf:(x == f)=true)(hsz:a.tmps.size=61)(o7:Sl a 7 (Pq g7 0))(o8:Sl a 8 (Pq g8 0))(o11:Sl a 11 (Pq g11 0))(o12:Sl a 12 (Pq g12 0))(o13:Sl a 13 (.int .i64 xe)):bC false 8 f37 Q a w fun a' W q'=>Kp [] w W->Sl a' 60 (.bool (!(y == s)))->q':=by
 intro hend;have hap:=pa 8 f37;refine aH (l:=(aK 8 f37)) (fun i v W=>match i with|0=>v=.int .i64 xe|1=>v=.bool false|2=>v=.bool false|3=>v=.agg (aA x)|4=>v=.agg (aA f)|5=>v=.bool false|6=>v=.bool false|7=>v=.bool false|8=>v=.agg (aA y)|9=>v=.agg (aA s)|10=>v=.bool (!(y == s))|11=>v=.bool (!(y == s))|_=>True) hap ?_ ?_ ?_
 . exact fun _ _ _ _ h _=>h
 . and_intros <;> try (intro vs A' W hA hW hd hu K hK;try (refine aL _ rfl rfl ?_;conv=>arg 2;whnf))
   . exact aJ (eO 13 o13)
   . have hxx:xe=0:=he.out;exact aJ (vD 49 0)
   . exact aJ (vD 50 1)
   . refine qH ?_;(conv=>arg 2;whnf);exact dC (aA x) (eO 11 o11) (aM.agg (hb11.k0 hW)) underlying23 (by rw [aC,hx];exact bBy)
   . refine qH ?_;(conv=>arg 2;whnf);exact dC (aA f) (eO 7 o7) (aM.agg (hb7.k0 hW)) underlying23 (by rw [aC,hf];exact bBy)
   . refine qH ?_;(conv=>arg 2;whnf);have e52:=vD 52 3;have e53:=vD 53 4;clear hA hd hu o7 o8 o11 o12 o13;refine bQ (v:=.bool false) (w':=W) (bH rfl (by simpa [Act.eval] using e52) (by simpa [Act.eval] using e53) eqGuardType23 ((dJ W x f hx hf).trans (by rw [hxf];rfl))) ?_;exact hK _ _ kR rfl
   . exact cM (vD 51 2) (vD 54 5)
   . exact aJ (vD 55 6)
   . refine qH ?_;(conv=>arg 2;whnf);exact dC (aA y) (eO 12 o12) (aM.agg (hb12.k0 hW)) underlying23 (by rw [aC,hy];exact bBy)
   . refine qH ?_;(conv=>arg 2;whnf);exact dC (aA s) (eO 8 o8) (aM.agg (hb8.k0 hW)) underlying23 (by rw [aC,hs];exact bBy)
   . refine qH ?_;(conv=>arg 2;whnf);have e57:=vD 57 8;have e58:=vD 58 9;clear hA hd hu o7 o8 o11 o12 o13;refine bQ (v:=.bool (!(y == s))) (w':=W) (bH rfl (by simpa [Act.eval] using e57) (by simpa [Act.eval] using e58) eqGuardType23 ((dJ W y s hy hs))) ?_;exact hK _ _ kR rfl
   . exact cM (vD 56 7) (vD 59 10)
   . trivial
 . intro vs W hW hp;rw [aF];exact hend _ W sQ hW (sW (hp 11 sB))
theorem zC(m n:Int)(hn:n < 9223372036854775808)(first second:Bs)(hf:first.length=32)(hs:second.length=32)(A:Option Addr)(c:Nat)(pf:List (List UInt8))(hok:dP pf)(w:World)(hv:Rd w 32 (.slice A pf.length c) pf.length (dA pf)):
 Calls prog 37 #[.int .i64 m,.int .i64 n,.agg (aA first),.agg (aA second),.slice A pf.length c] w fun e w'=>e=.returned (Nq (eL m n first second pf)) ∧ Kp [] w w':=by
 refine aR func37 rfl 61 rfl (fun a0 hsz hdf hAr=>?_);have hz0:a0.tmps.size=61:=hsz;have D:=hdf;have o0:=hAr 0 _ rfl;have o1:=hAr 1 _ rfl;have o2:=hAr 2 _ rfl;have o3:=hAr 3 _ rfl;have o4:=hAr 4 _ rfl;refine wp_seq (aQ3 w _ _ [] (Held.start w) hz0 o2 o3 (fun a1 w1 hs1 o10 h1=>?_));obtain ⟨hz1,D,o0,o1,o4⟩:=dF hs1 hz0 D o0 o1 o4;obtain ⟨g7,g8,o7,o8,S⟩:=h1
 by_cases hm:m < 0
 . skip
   refine wp_seq (wp_seq (aO1 m n hm hz1 o0 o1 (fun a2 w2 hs2 k2 o20=>?_)));obtain ⟨hz2,D,o0,o1,o4,o7,o8⟩:=jJ hs2 hz1 D o0 o1 o4 o7 o8;refine cS o20 ?_;refine wp_seq (aFa hz2 (fun a3 hs3 o10=>?_));obtain ⟨hz3,D,o0,o1,o4,o7,o8,o20⟩:=jF hs3 hz2 D o0 o1 o4 o7 o8 o20;refine wp_ret ?_
   try simp only [Exit.then]
   exact bodyPost_ret (bA (by rfl) (o10.eval (by rw [hz3];decide))) D ⟨by rw [rQ (.inl hm)];rfl,(S.k.trans k2 (by simp))⟩
 . skip
   refine wp_seq (wp_seq (aNf m n hm hz1 o0 o1 (fun a2 w2 hs2 k2 o20=>?_)));obtain ⟨hz2,D,o0,o1,o4,o7,o8⟩:=jJ hs2 hz1 D o0 o1 o4 o7 o8;have S:=S.kp k2
   by_cases hmn:n < m
   . refine cS o20 ?_ (by rw [decide_eq_true hmn]);refine wp_seq (aFa hz2 (fun a3 hs3 o10=>?_));obtain ⟨hz3,D,o0,o1,o4,o7,o8,o20⟩:=jF hs3 hz2 D o0 o1 o4 o7 o8 o20;refine wp_ret ?_
     try simp only [Exit.then]
     exact bodyPost_ret (bA (by rfl) (o10.eval (by rw [hz3];decide))) D ⟨by rw [rQ (.inr hmn)];rfl,S.k⟩
   . refine dD o20 (wp_skip ?_) (by rw [decide_eq_false hmn]);simp only [Exit.then];have hno:¬ (m < 0 ∨ n < m):=by omega
     have hb7:=S.at_ (l1:=[_]);have hb8:=S.at_ (l1:=[]);refine wp_seq (wp_seq (aY4 m hz2 o0 (fun a3 hs3 o22=>?_)));obtain ⟨hz3,D,o0,o1,o4,o7,o8⟩:=jJ hs3 hz2 D o0 o1 o4 o7 o8
     by_cases h0:m=0
     . refine cS o22 ?_ (by rw [h0];rfl);subst h0
       cases hfe:(first == cI)
       . skip
         refine wp_seq (wp_seq (aJ2 g7 g8 first second hf hs hb7 hb8 A pf.length c n hfe hz3 o1 o4 o7 o8 (fun a4 w4 hs4 k4 o39=>?_)));obtain ⟨hz4,D,o0,o1,o4,o7,o8,o22⟩:=jF hs4 hz3 D o0 o1 o4 o7 o8 o22;refine cS o39 ?_;refine wp_seq (aBf hz4 (fun a5 hs5 o10=>?_));obtain ⟨hz5,D,o0,o1,o4,o7,o8,o22,o39⟩:=vQ hs5 hz4 D o0 o1 o4 o7 o8 o22 o39;refine wp_ret ?_
         try simp only [Exit.then]
         exact bodyPost_ret (bA (by rfl) (o10.eval (by rw [hz5];decide))) D ⟨by rw [kK hno (.inl hfe)];rfl,(S.k.trans (((Kp.refl [] w2).drew).trans k4 (by simp)) (by simp))⟩
       . by_cases hl:pf.length=0
         . by_cases hy:n=0
           . skip
             refine wp_seq (wp_seq (aKk g7 g8 first second hf hs hb7 hb8 A pf.length c n hfe (LH hl) (LH hy) hz3 o1 o4 o7 o8 (fun a4 w4 hs4 k4 o39=>?_)));obtain ⟨hz4,D,o0,o1,o4,o7,o8,o22⟩:=jF hs4 hz3 D o0 o1 o4 o7 o8 o22
             cases hsf:(first == second)
             . rw [hsf] at o39;refine cS o39 ?_;refine wp_seq (aBf hz4 (fun a5 hs5 o10=>?_));obtain ⟨hz5,D,o0,o1,o4,o7,o8,o22,o39⟩:=vQ hs5 hz4 D o0 o1 o4 o7 o8 o22 o39;refine wp_ret ?_
               try simp only [Exit.then]
               exact bodyPost_ret (bA (by rfl) (o10.eval (by rw [hz5];decide))) D ⟨by rw [kK hno (.inr (.inr ⟨hy,(tT hsf)⟩))];rfl,(S.k.trans (((Kp.refl [] w2).drew).trans k4 (by simp)) (by simp))⟩
             . rw [hsf] at o39;refine dD o39 (wp_skip ?_);simp only [Exit.then];refine wp_seq (aGg hz4 (fun a5 hs5 o10=>?_));obtain ⟨hz5,D,o0,o1,o4,o7,o8,o22,o39⟩:=vQ hs5 hz4 D o0 o1 o4 o7 o8 o22 o39;refine wp_ret ?_
               try simp only [Exit.then]
               exact bodyPost_ret (bA (by rfl) (o10.eval (by rw [hz5];decide))) D ⟨by rw [pE hno hfe hl (.inr (uY hsf))];rfl,(S.k.trans (((Kp.refl [] w2).drew).trans k4 (by simp)) (by simp))⟩
           . skip
             refine wp_seq (wp_seq (aLf g7 g8 first second hf hs hb7 hb8 A pf.length c n hfe (LH hl) (LH hy) hz3 o1 o4 o7 o8 (fun a4 w4 hs4 k4 o39=>?_)));obtain ⟨hz4,D,o0,o1,o4,o7,o8,o22⟩:=jF hs4 hz3 D o0 o1 o4 o7 o8 o22;refine dD o39 (wp_skip ?_);simp only [Exit.then];refine wp_seq (aGg hz4 (fun a5 hs5 o10=>?_));obtain ⟨hz5,D,o0,o1,o4,o7,o8,o22,o39⟩:=vQ hs5 hz4 D o0 o1 o4 o7 o8 o22 o39;refine wp_ret ?_
             try simp only [Exit.then]
             exact bodyPost_ret (bA (by rfl) (o10.eval (by rw [hz5];decide))) D ⟨by rw [pE hno hfe hl (.inl hy)];rfl,(S.k.trans (((Kp.refl [] w2).drew).trans k4 (by simp)) (by simp))⟩
         . skip
           refine wp_seq (wp_seq (aLb g7 g8 first second hf hs hb7 hb8 A pf.length c n hfe (LH hl) hz3 o1 o4 o7 o8 (fun a4 w4 hs4 k4 o39=>?_)));obtain ⟨hz4,D,o0,o1,o4,o7,o8,o22⟩:=jF hs4 hz3 D o0 o1 o4 o7 o8 o22;refine cS o39 ?_;refine wp_seq (aBf hz4 (fun a5 hs5 o10=>?_));obtain ⟨hz5,D,o0,o1,o4,o7,o8,o22⟩:=jF hs5 hz4 D o0 o1 o4 o7 o8 o22;refine wp_ret ?_
           try simp only [Exit.then]
           exact bodyPost_ret (bA (by rfl) (o10.eval (by rw [hz5];decide))) D ⟨by rw [kK hno (.inr (.inl hl))];rfl,(S.k.trans (((Kp.refl [] w2).drew).trans k4 (by simp)) (by simp))⟩
     . have hq:(m == 0)=false:=by rw [beq_eq_false_iff_ne];exact h0
       refine dD o22 (wp_skip ?_) (by rw [hq]);simp only [Exit.then];have hbv:=aCp m n first pf hf hok hn;have HB:=(aBm m n hn first hf A c pf hok w2 (aT hv S.k)).mono (fun e w' h=>(⟨h.1,S.kp h.2⟩:e=_ ∧ Held w w' _));refine wp_seq (aRn w g7 m n _ first hf _ hb7 _ _ hbv.1 hbv.2 _ HB hz3 o0 o1 o4 o7 (fun a4 w5 hs4 o13 h5=>?_));obtain ⟨hz4,D,o7,o8⟩:=dU hs4 hz3 D o7 o8;obtain ⟨g11,g12,o11,o12,S⟩:=h5;have hb7:=S.at_ (l1:=[_,_,_]);have hb8:=S.at_ (l1:=[_,_]);have hb11:=S.at_ (l1:=[_]);have hb12:=S.at_ (l1:=[])
       by_cases hbc:rR m n pf.length=0
       . cases hxf:((tA m n first pf).1 == first)
         . skip
           refine wp_seq (wp_seq (aJm g7 g8 g11 g12 _ first second _ _ hf hs hbv.1 hbv.2 hb7 hb8 hb11 hb12 (LH (by rw [hbc];rfl)) hxf hz4 o7 o8 o11 o12 o13 (fun a5 w6 hs5 k6 o60=>?_)));obtain ⟨hz5,D,o7,o8,o11,o12,o13⟩:=jJ hs5 hz4 D o7 o8 o11 o12 o13;refine cS o60 ?_;refine wp_seq (aBp hz5 (fun a6 hs6 o10=>?_));obtain ⟨hz6,D,o7,o8,o11,o12,o13,o60⟩:=jF hs6 hz5 D o7 o8 o11 o12 o13 o60;refine wp_ret ?_
           try simp only [Exit.then]
           exact bodyPost_ret (bA (by rfl) (o10.eval (by rw [hz6];decide))) D ⟨by rw [aCz hno h0 hbc hxf];rfl,(S.k.trans k6 (by simp))⟩
         . skip
           refine wp_seq (wp_seq (aKq g7 g8 g11 g12 _ first second _ _ hf hs hbv.1 hbv.2 hb7 hb8 hb11 hb12 (LH (by rw [hbc];rfl)) hxf hz4 o7 o8 o11 o12 o13 (fun a5 w6 hs5 k6 o60=>?_)));obtain ⟨hz5,D,o7,o8,o11,o12,o13⟩:=jJ hs5 hz4 D o7 o8 o11 o12 o13
           cases hsf:((tA m n first pf).2 == second)
           . rw [hsf] at o60;refine cS o60 ?_;refine wp_seq (aBp hz5 (fun a6 hs6 o10=>?_));obtain ⟨hz6,D,o7,o8,o11,o12,o13,o60⟩:=jF hs6 hz5 D o7 o8 o11 o12 o13 o60;refine wp_ret ?_
             try simp only [Exit.then]
             exact bodyPost_ret (bA (by rfl) (o10.eval (by rw [hz6];decide))) D ⟨by rw [aCj hno h0 hbc hxf hsf];rfl,(S.k.trans k6 (by simp))⟩
           . rw [hsf] at o60;refine dD o60 (wp_skip ?_);simp only [Exit.then];refine wp_seq (aL0 hz5 (fun a6 hs6 o10=>?_));obtain ⟨hz6,D,o7,o8,o11,o12,o13,o60⟩:=jF hs6 hz5 D o7 o8 o11 o12 o13 o60;refine wp_ret ?_
             try simp only [Exit.then]
             exact bodyPost_ret (bA (by rfl) (o10.eval (by rw [hz6];decide))) D ⟨by rw [aCg hno h0 hbc hxf hsf];rfl,(S.k.trans k6 (by simp))⟩
       . skip
         refine wp_seq (wp_seq (aIm g7 g8 g11 g12 _ first second _ _ hf hs hbv.1 hbv.2 hb7 hb8 hb11 hb12 (LH (by omega)) hz4 o7 o8 o11 o12 o13 (fun a5 w6 hs5 k6 o60=>?_)));obtain ⟨hz5,D⟩:=dS hs5 hz4 D;refine cS o60 ?_;refine wp_seq (aBp hz5 (fun a6 hs6 o10=>?_));obtain ⟨hz6,D⟩:=dS hs6 hz5 D;refine wp_ret ?_
         try simp only [Exit.then]
         exact bodyPost_ret (bA (by rfl) (o10.eval (by rw [hz6];decide))) D ⟨by rw [aD1 hno h0 hbc];rfl,(S.k.trans k6 (by simp))⟩
end
section
open Go.RowKit Go.Shelf
theorem vL(w:World)(a:Option Addr)(n c:Nat):(binOp .eql 29 (.slice a n c) (.slice none 0 0)).run prog w=.ok (.bool a.isNone) w:=
 Lib.run_eql_slice_nil (P:=prog) w 29 23 a n c 0 0 underlying29
theorem qP(w0:World)(L:List Res)(A:Option Addr)(c:Nat)(l:List (List UInt8))(hll:l.length<=1000000)(w:World)(S:Held w0 w L)(HV:∀ V,Held w0 V L->Rd V 32 (.slice A l.length c) l.length (dA l)):
 Calls prog 94 #[.slice A l.length c] w fun e w'=>∃ v,e=.returned v ∧ Held w0 w' (aG 23 32 v l.length (dA l) :: L):=by
 have HV:=LH HV;have S:=LH S;have HO:=LH (wH (l:=l));rcases A with _|ad
 . have h0:l.length=0 ∧ c=0:=by
    obtain ⟨-,A',c',he,-,-,hA,-⟩:=HV.out w S.out
    cases he;exact hA rfl
   obtain rfl:l=[]:=List.eq_nil_of_length_eq_zero h0.1
   obtain rfl:=h0.2
   clear h0;have hq:=fun V=>vL V none 0 0
   simp only [Option.isNone_none] at hq;go_enter func94,ntmps94;go_wp2
   go_ret
   exact ⟨_,rfl,S.out.rownew (World.ownsRow_nil _ _ _ _) (Kp.refl [] w) (by simp [Value.ownBlock])⟩
 . have hq:=fun V n=>vL V (some ad) n c
   simp only [Option.isNone_some] at hq;have S1:=LH (S.out.rownew (oH 23 32 (g:=w.heap.size) rfl) ((Kp.refl [] w).alloc _) (by simp [Value.ownBlock]));obtain ⟨i0,hi,hz,hsize,hby⟩:=info_parts bC8;have Hz:=LH hz;clear hz;have hle:Hid (l.length<=maxLen ∧ l.length * 32<=140737488355328):=LH ⟨by unfold maxLen;omega,by omega⟩;generalize hcs:dA l=cs at *;generalize l.length=n at *;go_enter func94,ntmps94;go_wp2_with (at_builtin;refine gR _ rfl (.tmp 5) (.tmp 6) 29 rfl 23 i0 _ 32 32 underlying29 hi Hz.out hsize hby rfl (by decide) _ 0 [] (by simp [Act.eval,Act.put]) (S1.out.at_ (l1:=[])) _ n cs (by simp [Act.eval,Act.put]) (HV.out _ S1.out.drop) HO.out (by rw [Nat.zero_add];exact hle.out.1) (by rw [Nat.zero_add];exact hle.out.2) ?_;intro v' w' o2 g2 b2;have S2:=LH (Held.grow (l1:=[]) S1.out o2 g2 b2);clear o2 g2 b2)
   rw [Nat.zero_add,List.nil_append] at S2
   go_ret
   exact ⟨_,rfl,S2.out⟩
theorem wD(w:World)(a:Option Addr)(n c:Nat):(binOp .eql 164 (.slice a n c) (.slice none 0 0)).run prog w=.ok (.bool a.isNone) w:=
 Lib.run_eql_slice_nil (P:=prog) w 164 176 a n c 0 0 underlying164
theorem aA2(w0:World)(L:List Res)(A:Option Addr)(c:Nat)(l:List (Nat × Nat))(hll:l.length<=1000000)(w:World)(S:Held w0 w L)(HV:∀ V,Held w0 V L->Rd V 2 (.slice A l.length c) l.length (kU l)):
 Calls prog 129 #[.slice A l.length c] w fun e w'=>∃ v,e=.returned v ∧ Held w0 w' (aG 176 2 v l.length (kU l) :: L):=by
 have HV:=LH HV;have S:=LH S;have HO:=LH (aLr l);rcases A with _|ad
 . have h0:l.length=0 ∧ c=0:=by
    obtain ⟨-,A',c',he,-,-,hA,-⟩:=HV.out w S.out
    cases he;exact hA rfl
   obtain rfl:l=[]:=List.eq_nil_of_length_eq_zero h0.1
   obtain rfl:=h0.2
   clear h0;have hq:=fun V=>wD V none 0 0
   simp only [Option.isNone_none] at hq;go_enter func129,ntmps129;go_wp2
   go_ret
   exact ⟨_,rfl,S.out.rownew (World.ownsRow_nil _ _ _ _) (Kp.refl [] w) (by simp [Value.ownBlock])⟩
 . have hq:=fun V n=>wD V (some ad) n c
   simp only [Option.isNone_some] at hq;have S1:=LH (S.out.rownew (oH 176 2 (g:=w.heap.size) rfl) ((Kp.refl [] w).alloc _) (by simp [Value.ownBlock]));obtain ⟨i0,hi,hz,hsize,hby⟩:=info_parts bCa;have Hz:=LH hz;clear hz;have hle:Hid (l.length<=maxLen ∧ l.length * 16<=140737488355328):=LH ⟨by unfold maxLen;omega,by omega⟩;generalize hcs:kU l=cs at *;generalize l.length=n at *;go_enter func129,ntmps129;go_wp2_with (at_builtin;refine gR _ rfl (.tmp 5) (.tmp 6) 164 rfl 176 i0 _ 2 16 underlying164 hi Hz.out hsize hby rfl (by decide) _ 0 [] (by simp [Act.eval,Act.put]) (S1.out.at_ (l1:=[])) _ n cs (by simp [Act.eval,Act.put]) (HV.out _ S1.out.drop) HO.out (by rw [Nat.zero_add];exact hle.out.1) (by rw [Nat.zero_add];exact hle.out.2) ?_;intro v' w' o2 g2 b2;have S2:=LH (Held.grow (l1:=[]) S1.out o2 g2 b2);clear o2 g2 b2)
   rw [Nat.zero_add,List.nil_append] at S2
   go_ret
   exact ⟨_,rfl,S2.out⟩
end
section
open Go.RowKit Go.Shelf
theorem cW.up{B B':Nat}{p:World->Prop}(h:cW B p)(hB:B<=B'):cW B' p:=fun W W' hp hk=>h W W' hp (by
 rcases hk with hk|⟨l,o,o',hl,h1,h2,h3⟩
 . exact .inl hk
 . exact .inr ⟨l,o,o',by omega,h1,h2,h3⟩)
theorem kB{B k:Nat}{o:Obj}(hk:k < B):cW B (fun W=>W.heap[k]?=some o):=by
 intro W W' h hkp;rcases hkp with hkp|⟨l,o1,o2,hl,h1,-,rfl⟩
 . exact (hkp.block k (Array.getElem?_eq_some_iff.1 h).1 (by simp)).trans h
 . exact (World.putObj_heap_other (by omega)).trans h
def bAz {α:Type} (P:Program) (n g:Nat) (lb:Array Value) (encs:α->Array Value) (Z:α->World->Prop) (X:List α->α->World->World->Prop) (S Sp:List α->Prop) (N:Nat) (w:World):Prop:=
 ∀ (l:Nat) (J Jx:List α->World->Prop) (W:World),Kp [] w W->(∀ s,cW W.heap.size (J s))->(∀ s,cW W.heap.size (Jx s))->aCq P n l encs Z X N J Jx->J [] W->
  CallsIn Fence.wide n P g (#[.func (.yield l) #[] #[]] ++ lb) W fun e W'=>(∃ v,e=.returned v) ∧ ((∃ xs,S xs ∧ J xs W') ∨ (∃ pre,Sp pre ∧ Jx pre W'))
theorem aJ8.s{α:Type}{P:Program}{n g:Nat}{lb:Array Value}{encs:α->Array Value}{Z:α->World->Prop}{X:List α->α->World->World->Prop}{S Sp:List α->Prop}{N:Nat}{w:World}(h:aJ8 P n g lb encs Z X S Sp N w):bAz P n g lb encs Z X S Sp N w:=
 fun l J Jx W hk hJ hJx hY h0=>h l J Jx W hk (fun s A B hA hAB=>(hJ s).kp hA hAB) (fun s A B hA hAB=>(hJx s).kp hA hAB) hY h0
variable {P:Program} {n:Nat}
theorem aDq{α:Type}{g:Operand}{ps:Array Tmp}{assign body:Code}{Q:Exit->Act->World->Prop}{a:Act}{w:World}{gf:Nat}{lb:Array Value}(hg:a.eval g=.func (.func gf) #[] lb)
 (eg:∀ args w,(callFunc gf args).run P w=.ok (.enter gf args) w) {encs:α->Array Value} {Z:α->World->Prop} {X:List α->α->World->World->Prop} {S Sp:List α->Prop} {N:Nat} (hseq:bAz P (n - 1) gf lb encs Z X S Sp N w) (hZ:∀ x,cW w.heap.size (Z x))
 (hps:∀ x,(encs x).size=ps.size)
 (I:List α->World->Prop) (Ix:Code->List α->World->Prop) (hI:∀ pre,cW w.heap.size (I pre)) (hIx:∀ c pre,cW w.heap.size (Ix c pre)) (h0:I [] w)
 (I':List α->α->World->Prop) (hI':∀ pre x,cW w.heap.size (I' pre x)) (hprep:∀ (pre:List α) (x:α) (W0 W1:World),I pre W0->Kp [] W0 W1->X pre x W0 W1->pre.length < N->I' pre x W1)
 (A:Array Value->List α->α->Act->World->Prop) (hA:∀ pre x a',cW w.heap.size (A a.tmps pre x a'))
 (hassign:∀ (pre:List α) (x:α) (W:World),I' pre x W->∀ K:Act->World->Prop,(∀ a' W',Kp [] W W'->A a.tmps pre x a' W'->K a' W')->
  assign.wpIn (Fence.wide.inRound (w.heap.size+1)) (n - 1 - 1) P (Exit.then K (fun _ _ _=>False)) { tmps:=(ps.zip (encs x)).foldl (fun t (p,v)=>t.setIfInBounds p v) a.tmps,defers:=[] } W)
 (hbody:∀ (pre:List α) (x:α) (a':Act) (W:World),I' pre x W->A a.tmps pre x a' W->pre.length < N->(∃ o,W.heap[w.heap.size+1]?=some o ∧ o.isCells=false)->(∃ o,W.heap[w.heap.size]?=some o ∧ o.isCells=false)->
  body.wpIn (Fence.wide.inRound (w.heap.size+1)) (n - 1 - 1) P (yK (w.heap.size+1) w.heap.size (Z x) I Ix (pre ++ [x]) W) a' W)
 (hdone:∀ (xs:List α) (W:World),S xs->I xs W->W.heap[w.heap.size]?=some (.deferred (some []))->Q .normal { a with defers:=gV w.heap.size :: a.defers } W)
 (hstop:∀ (c:Code) (pre:List α) (W:World),Sp pre->Ix c pre W->W.heap[w.heap.size]?=some (.deferred (some []))->c.wp P Q { a with defers:=gV w.heap.size :: a.defers } W):
 (Code.rangeFunc g ps assign body).wp P Q a w:=by
 refine (wpIn_wide (n:=n)).1 (wpIn_rangeFunc ?_);intro fn hfn
 show ∃ (l:Nat) (mark:List Deferred) (w₁:World) (d:Deferred) (w₁':World) (f:FuncId) (args:Array Value) (w₂:World),(Instr.enterLoop fn a.tmps ps assign body none).run P w=.ok (l,mark) w₁ ∧ _
 obtain ⟨rec,hrec⟩:∃ rec:LoopState->Option Code->Loop,rec=fun st pe=>{ state:=st,pending:=pe,fn,tmps:=a.tmps,params:=ps,assign,body,defers:=w.heap.size }:=⟨_,rfl⟩
 obtain ⟨W1,hW1⟩:∃ W1,(w.alloc (.deferred (some []))).alloc (.loop (rec .ready none))=W1:=⟨_,rfl⟩;have hk1:Kp [] w W1:=by rw [<- hW1];exact ((Kp.refl [] w).alloc _).alloc _
 have hL1:W1.heap[w.heap.size+1]?=some (.loop (rec .ready none)):=by
  rw [<- hW1];have:=World.alloc_heap_new (w.alloc (.deferred (some []))) (.loop (rec .ready none));rwa [World.size_alloc] at this
 have hD1:W1.heap[w.heap.size]?=some (.deferred (some [])):=by
  rw [<- hW1];exact (Below.heap_alloc _ _ _ (by simp)).trans (World.alloc_heap_new w _)
 have kept:∀ {A B:World} {k:Nat} {o:Obj},Kp [] A B->A.heap[k]?=some o->B.heap[k]?=some o:=fun hk h=>(hk.block _ (Array.getElem?_eq_some_iff.1 h).1 (by simp)).trans h
 have hlt1:w.heap.size+1 < W1.heap.size:=(Array.getElem?_eq_some_iff.1 hL1).1;have hlt0:w.heap.size < W1.heap.size:=by omega
 refine ⟨w.heap.size+1,[gV w.heap.size],W1,{ target:=.fn (.func gf) lb,args:=#[.func (.yield (w.heap.size+1)) #[] #[]] },W1,gf,#[.func (.yield (w.heap.size+1)) #[] #[]] ++ lb,W1,?_,?_,fun _ _=>trivial,?_,fun h=>by simp [Fence.wide] at h,?_⟩
 . rw [<- hW1,hrec];exact run_enterLoop_outer _ _ _ _ _
 . simp only [resolve,hg];simp [go_sem]
 . simp [invoke,go_sem,eg]
 . refine (hseq (w.heap.size+1)
    (fun pre W=>I pre W ∧ W.heap[w.heap.size+1]?=some (.loop (rec .ready none)) ∧ W.heap[w.heap.size]?=some (.deferred (some [])))
    (fun pre W=>∃ c,Ix c pre W ∧ W.heap[w.heap.size+1]?=some (.loop (rec .done (some c))) ∧ W.heap[w.heap.size]?=some (.deferred (some [])))
    W1 hk1 (fun s=>((hI s).up hk1.size).and ((kB hlt1).and (kB hlt0))) (fun s=>cW.ex fun c=>((hIx c s).up hk1.size).and ((kB hlt1).and (kB hlt0))) ?_ ⟨(hI []).kp h0 hk1,hL1,hD1⟩).mono ?_
   . rintro pre x W0 W ⟨hi0,hl0,hd0⟩ hk0 hx hlen;have hi:=hprep pre x W0 W hi0 hk0 hx hlen;have hl:=kept hk0 hl0;have hd:=kept hk0 hd0;have hlt:w.heap.size+1 < W.heap.size:=(Array.getElem?_eq_some_iff.1 hl).1;have hy:=run_yield (P:=P) (args:=encs x) hl (by rw [hrec];exact hps x);rw [hrec] at hy;refine ⟨fn,_,assign,body,hy,roundIn_of_wpIn hfn (hassign pre x W hi _ fun a' Wa hka hAa=>?_)⟩;have hla:=kept hka hl;have hda:=kept hka hd;refine ⟨Wa.putObj (w.heap.size+1) (.loop { rec .ready none with state:=.busy }),by have:=run_beginRound (P:=P) hla (by rw [hrec]);exact this,?_⟩;have hlta:w.heap.size+1 < Wa.heap.size:=(Array.getElem?_eq_some_iff.1 hla).1;have hl2:(Wa.putObj (w.heap.size+1) (.loop { rec .ready none with state:=.busy })).heap[w.heap.size+1]?=some (.loop { rec .ready none with state:=.busy }):=World.putObj_heap_same hlta;have hd2:(Wa.putObj (w.heap.size+1) (.loop { rec .ready none with state:=.busy })).heap[w.heap.size]?=some (.deferred (some [])):=(World.putObj_heap_other (by omega)).trans hda;refine wpIn_mono (hbody pre x a' _ ((hI' pre x).put ((hI' pre x).kp hi hka) _ (by omega) hla rfl) ((hA pre x a').put hAa _ (by omega) hla rfl) hlen ⟨_,hl2,rfl⟩ ⟨_,hd2,rfl⟩) ?_
     have fin:∀ (jump:Option Code) (W3:World),uL (w.heap.size+1) w.heap.size (Wa.putObj (w.heap.size+1) (.loop { rec .ready none with state:=.busy })) W3->
      (Instr.endRound (w.heap.size+1) jump).run P W3=.ok (.bool jump.isNone) (W3.putObj (w.heap.size+1) (.loop (rec (if jump.isNone then .ready else .done) jump))) ∧
      W3.heap[w.heap.size+1]?=some (.loop { rec .ready none with state:=.busy }) ∧
      (W3.putObj (w.heap.size+1) (.loop (rec (if jump.isNone then .ready else .done) jump))).heap[w.heap.size+1]?=some (.loop (rec (if jump.isNone then .ready else .done) jump)) ∧
      (W3.putObj (w.heap.size+1) (.loop (rec (if jump.isNone then .ready else .done) jump))).heap[w.heap.size]?=some (.deferred (some [])):=fun jump W3 hs=>by
      have hl3:=hs.1.trans hl2;have hd3:=hs.2.trans hd2;have:=run_endRound (P:=P) jump hl3
      rw [hrec] at this ⊢;exact ⟨this,by rw [hrec] at hl3;exact hl3,World.putObj_heap_same (Array.getElem?_eq_some_iff.1 hl3).1,(World.putObj_heap_other (by omega)).trans hd3⟩
     rintro e a3 W3 hp
     cases e with
     |normal=>
      obtain ⟨hs,hk3,hi3⟩:=hp;obtain ⟨hr,hl3,hl4,hd4⟩:=fin none W3 hs;exact ⟨_,_,hr,.inl ⟨rfl,⟨(hI _).put hi3 _ (by omega) hl3 rfl,hl4,hd4⟩,(hZ x).put hk3 _ (by omega) hl3 rfl⟩⟩
     |ret=>
      obtain ⟨hs,hi3⟩:=hp;obtain ⟨hr,hl3,hl4,hd4⟩:=fin (some .ret) W3 hs;exact ⟨_,_,hr,.inr ⟨rfl,.ret,(hIx _ _).put hi3 _ (by omega) hl3 rfl,hl4,hd4⟩⟩
     |exit id=>
      obtain ⟨hs,hi3⟩:=hp;obtain ⟨hr,hl3,hl4,hd4⟩:=fin (some (.exit id)) W3 hs;exact ⟨_,_,hr,.inr ⟨rfl,.exit id,(hIx _ _).put hi3 _ (by omega) hl3 rfl,hl4,hd4⟩⟩
     |goto t=>
      obtain ⟨hs,hi3⟩:=hp;obtain ⟨hr,hl3,hl4,hd4⟩:=fin (some (.goto t)) W3 hs;exact ⟨_,_,hr,.inr ⟨rfl,.goto t,(hIx _ _).put hi3 _ (by omega) hl3 rfl,hl4,hd4⟩⟩
     |panic ch=>exact hp.elim
     |outgrown=>exact hp.elim
   . rintro e W2 ⟨⟨v,rfl⟩,(⟨xs,hS,hi,hl,hd⟩|⟨pre,hSp,c,hi,hl,hd⟩)⟩
     . exact ⟨none,_,by have:=run_endLoop (P:=P) hl (by rw [hrec];simp);rw [hrec] at this;exact this,hdone _ _ hS ((hI _).put hi _ (by omega) hl rfl) ((World.putObj_heap_other (by omega)).trans hd)⟩
     . exact ⟨some c,_,by have:=run_endLoop (P:=P) hl (by rw [hrec];simp);rw [hrec] at this;exact this,wpIn_wide.2 (hstop c pre _ hSp ((hIx c pre).put hi _ (by omega) hl rfl) ((World.putObj_heap_other (by omega)).trans hd))⟩
def kQ (l:Nat) (p:World->Prop):Prop:=∀ W W',p W->(Kp [] W W' ∨ ∃ (o o':Obj),W.heap[l]?=some o ∧ o.isCells=false ∧ W'=W.putObj l o')->p W'
theorem kQ.kp{l:Nat}{p:World->Prop}(h:kQ l p){W W':World}(hp:p W)(hk:Kp [] W W'):p W':=h W W' hp (.inl hk)
theorem kQ.put{l:Nat}{p:World->Prop}(h:kQ l p){W:World}(hp:p W){o:Obj}(o':Obj)(hl:W.heap[l]?=some o)(ho:o.isCells=false):p (W.putObj l o'):=h W _ hp (.inr ⟨o,o',hl,ho,rfl⟩)
def aQw {α:Type} (P:Program) (n l:Nat) (encs:α->Array Value) (Z:Nat->α->World->Prop) (X:Nat->List α->α->World->World->Prop) (N:Nat) (J:List α->World->Prop):Prop:=
 ∀ pre x W0 W1,J pre W0->Kp [] W0 W1->X l pre x W0 W1->pre.length < N->YieldAt Fence.wide (n - 1) P l (encs x) W1 fun e W'=>e=.returned (.bool true) ∧ J (pre ++ [x]) W' ∧ Z l x W'
def bAd {α:Type} (P:Program) (n g:Nat) (lb:Array Value) (encs:α->Array Value) (Z:Nat->α->World->Prop) (X:Nat->List α->α->World->World->Prop) (S:List α->Prop) (N:Nat) (w:World):Prop:=
 ∀ (l:Nat) (J:List α->World->Prop) (W:World),l < W.heap.size->w.heap.size<=l->Kp [] w W->(∀ s,cW W.heap.size (J s))->aQw P n l encs Z X N J->J [] W->
  CallsIn Fence.wide n P g (#[.func (.yield l) #[] #[]] ++ lb) W fun e W'=>(∃ v,e=.returned v) ∧ ∃ xs,S xs ∧ J xs W'
theorem aD6{α:Type}{g:Operand}{ps:Array Tmp}{assign body:Code}{Q:Exit->Act->World->Prop}{a:Act}{w:World}{gf:Nat}{lb:Array Value}(hg:a.eval g=.func (.func gf) #[] lb)
 (eg:∀ args w,(callFunc gf args).run P w=.ok (.enter gf args) w) {encs:α->Array Value} {Z:Nat->α->World->Prop} {X:Nat->List α->α->World->World->Prop} {S:List α->Prop} {N:Nat} (hseq:bAd P (n - 1) gf lb encs Z X S N w) (hZ:∀ x,kQ (w.heap.size+1) (Z (w.heap.size+1) x))
 (hps:∀ x,(encs x).size=ps.size)
 (I:List α->World->Prop) (hI:∀ pre,cW w.heap.size (I pre)) (h0:I [] w)
 (I':List α->α->World->Prop) (hI':∀ pre x,kQ (w.heap.size+1) (I' pre x)) (hprep:∀ (pre:List α) (x:α) (W0 W1:World),I pre W0->Kp [] W0 W1->X (w.heap.size+1) pre x W0 W1->pre.length < N->I' pre x W1)
 (A:Array Value->List α->α->Act->World->Prop) (hA:∀ pre x a',kQ (w.heap.size+1) (A a.tmps pre x a'))
 (hassign:∀ (pre:List α) (x:α) (W:World),I' pre x W->∀ K:Act->World->Prop,(∀ a' W',Kp [] W W'->A a.tmps pre x a' W'->K a' W')->
  assign.wpIn (Fence.wide.inRound (w.heap.size+1)) (n - 1 - 1) P (Exit.then K (fun _ _ _=>False)) { tmps:=(ps.zip (encs x)).foldl (fun t (p,v)=>t.setIfInBounds p v) a.tmps,defers:=[] } W)
 (hbody:∀ (pre:List α) (x:α) (a':Act) (W:World),I' pre x W->A a.tmps pre x a' W->pre.length < N->(∃ o,W.heap[w.heap.size+1]?=some o ∧ o.isCells=false)->(∃ o,W.heap[w.heap.size]?=some o ∧ o.isCells=false)->
  body.wpIn (Fence.wide.inRound (w.heap.size+1)) (n - 1 - 1) P (yK (w.heap.size+1) w.heap.size (Z (w.heap.size+1) x) I (fun _ _ _=>False) (pre ++ [x]) W) a' W)
 (hdone:∀ (xs:List α) (W:World),S xs->I xs W->W.heap[w.heap.size]?=some (.deferred (some []))->Q .normal { a with defers:=gV w.heap.size :: a.defers } W):
 (Code.rangeFunc g ps assign body).wp P Q a w:=by
 refine (wpIn_wide (n:=n)).1 (wpIn_rangeFunc ?_);intro fn hfn
 show ∃ (l:Nat) (mark:List Deferred) (w₁:World) (d:Deferred) (w₁':World) (f:FuncId) (args:Array Value) (w₂:World),(Instr.enterLoop fn a.tmps ps assign body none).run P w=.ok (l,mark) w₁ ∧ _
 obtain ⟨rec,hrec⟩:∃ rec:LoopState->Option Code->Loop,rec=fun st pe=>{ state:=st,pending:=pe,fn,tmps:=a.tmps,params:=ps,assign,body,defers:=w.heap.size }:=⟨_,rfl⟩
 obtain ⟨W1,hW1⟩:∃ W1,(w.alloc (.deferred (some []))).alloc (.loop (rec .ready none))=W1:=⟨_,rfl⟩;have hk1:Kp [] w W1:=by rw [<- hW1];exact ((Kp.refl [] w).alloc _).alloc _
 have hL1:W1.heap[w.heap.size+1]?=some (.loop (rec .ready none)):=by
  rw [<- hW1];have:=World.alloc_heap_new (w.alloc (.deferred (some []))) (.loop (rec .ready none));rwa [World.size_alloc] at this
 have hD1:W1.heap[w.heap.size]?=some (.deferred (some [])):=by
  rw [<- hW1];exact (Below.heap_alloc _ _ _ (by simp)).trans (World.alloc_heap_new w _)
 have kept:∀ {A B:World} {k:Nat} {o:Obj},Kp [] A B->A.heap[k]?=some o->B.heap[k]?=some o:=fun hk h=>(hk.block _ (Array.getElem?_eq_some_iff.1 h).1 (by simp)).trans h
 have hlt1:w.heap.size+1 < W1.heap.size:=(Array.getElem?_eq_some_iff.1 hL1).1;have hlt0:w.heap.size < W1.heap.size:=by omega
 refine ⟨w.heap.size+1,[gV w.heap.size],W1,{ target:=.fn (.func gf) lb,args:=#[.func (.yield (w.heap.size+1)) #[] #[]] },W1,gf,#[.func (.yield (w.heap.size+1)) #[] #[]] ++ lb,W1,?_,?_,fun _ _=>trivial,?_,fun h=>by simp [Fence.wide] at h,?_⟩
 . rw [<- hW1,hrec];exact run_enterLoop_outer _ _ _ _ _
 . simp only [resolve,hg];simp [go_sem]
 . simp [invoke,go_sem,eg]
 . refine (hseq (w.heap.size+1)
    (fun pre W=>I pre W ∧ W.heap[w.heap.size+1]?=some (.loop (rec .ready none)) ∧ W.heap[w.heap.size]?=some (.deferred (some [])))
    W1 hlt1 (by omega) hk1 (fun s=>((hI s).up hk1.size).and ((kB hlt1).and (kB hlt0))) ?_ ⟨(hI []).kp h0 hk1,hL1,hD1⟩).mono ?_
   . rintro pre x W0 W ⟨hi0,hl0,hd0⟩ hk0 hx hlen;have hi:=hprep pre x W0 W hi0 hk0 hx hlen;have hl:=kept hk0 hl0;have hd:=kept hk0 hd0;have hlt:w.heap.size+1 < W.heap.size:=(Array.getElem?_eq_some_iff.1 hl).1;have hy:=run_yield (P:=P) (args:=encs x) hl (by rw [hrec];exact hps x);rw [hrec] at hy;refine ⟨fn,_,assign,body,hy,roundIn_of_wpIn hfn (hassign pre x W hi _ fun a' Wa hka hAa=>?_)⟩;have hla:=kept hka hl;have hda:=kept hka hd;refine ⟨Wa.putObj (w.heap.size+1) (.loop { rec .ready none with state:=.busy }),by have:=run_beginRound (P:=P) hla (by rw [hrec]);exact this,?_⟩;have hlta:w.heap.size+1 < Wa.heap.size:=(Array.getElem?_eq_some_iff.1 hla).1;have hl2:(Wa.putObj (w.heap.size+1) (.loop { rec .ready none with state:=.busy })).heap[w.heap.size+1]?=some (.loop { rec .ready none with state:=.busy }):=World.putObj_heap_same hlta;have hd2:(Wa.putObj (w.heap.size+1) (.loop { rec .ready none with state:=.busy })).heap[w.heap.size]?=some (.deferred (some [])):=(World.putObj_heap_other (by omega)).trans hda;refine wpIn_mono (hbody pre x a' _ ((hI' pre x).put ((hI' pre x).kp hi hka) _ hla rfl) ((hA pre x a').put hAa _ hla rfl) hlen ⟨_,hl2,rfl⟩ ⟨_,hd2,rfl⟩) ?_
     have fin:∀ (jump:Option Code) (W3:World),uL (w.heap.size+1) w.heap.size (Wa.putObj (w.heap.size+1) (.loop { rec .ready none with state:=.busy })) W3->
      (Instr.endRound (w.heap.size+1) jump).run P W3=.ok (.bool jump.isNone) (W3.putObj (w.heap.size+1) (.loop (rec (if jump.isNone then .ready else .done) jump))) ∧
      W3.heap[w.heap.size+1]?=some (.loop { rec .ready none with state:=.busy }) ∧
      (W3.putObj (w.heap.size+1) (.loop (rec (if jump.isNone then .ready else .done) jump))).heap[w.heap.size+1]?=some (.loop (rec (if jump.isNone then .ready else .done) jump)) ∧
      (W3.putObj (w.heap.size+1) (.loop (rec (if jump.isNone then .ready else .done) jump))).heap[w.heap.size]?=some (.deferred (some [])):=fun jump W3 hs=>by
      have hl3:=hs.1.trans hl2;have hd3:=hs.2.trans hd2;have:=run_endRound (P:=P) jump hl3
      rw [hrec] at this ⊢;exact ⟨this,by rw [hrec] at hl3;exact hl3,World.putObj_heap_same (Array.getElem?_eq_some_iff.1 hl3).1,(World.putObj_heap_other (by omega)).trans hd3⟩
     rintro e a3 W3 hp
     cases e with
     |normal=>
      obtain ⟨hs,hk3,hi3⟩:=hp;obtain ⟨hr,hl3,hl4,hd4⟩:=fin none W3 hs;exact ⟨_,_,hr,⟨rfl,⟨(hI _).put hi3 _ (by omega) hl3 rfl,hl4,hd4⟩,(hZ x).put hk3 _ hl3 rfl⟩⟩
     |ret=>exact hp.2.elim
     |exit id=>exact hp.2.elim
     |goto t=>exact hp.2.elim
     |panic ch=>exact hp.elim
     |outgrown=>exact hp.elim
   . rintro e W2 ⟨⟨v,rfl⟩,xs,hS,hi,hl,hd⟩;exact ⟨none,_,by have:=run_endLoop (P:=P) hl (by rw [hrec];simp);rw [hrec] at this;exact this,hdone _ _ hS ((hI _).put hi _ (by omega) hl rfl) ((World.putObj_heap_other (by omega)).trans hd)⟩
end
section
variable {Q:Exit->Act->World->Prop} {a:Act} {w:World}
open Go.RowKit Go.Shelf
attribute [local go_sem] Oper.semAt_some
theorem aSa(l m g4:Nat)(za zb:Int)(hb4:aM w g4 176 #[.int .i64 za,.int .i64 zb])(R:Ending->World->Prop)(HY:∃ fn tmps assign body,(Instr.yield l #[.agg #[.int .i64 za,.int .i64 zb]]).run prog w=.ok (.round l fn tmps assign body) w ∧ RoundIn Fence.wide m prog l fn tmps assign body w R)
 (hR:∀ e W,R e W->∃ b,e=.returned (.bool b)) (hsz:a.tmps.size=16) (o0:Sl a 0 (.func (.yield l) #[] #[])) (o4:Sl a 4 (Pq g4 0))
 (hend:∀ (a':Act) (W:World) (b:Bool),Same a a' [11,12,13,14]->Sl a' 14 (.bool (!b))->R (.returned (.bool b)) W->Q .normal a' W):(Code.region 3 (aK 3 f145).toArray false).wp prog Q a w:=by
 refine (wpIn_wide (n:=m+1)).1 ?_;obtain ⟨fn,tmps,assign,body,hy,hRd⟩:=HY;have hrun:(Instr.loadAt 176 (Pq g4 0)).run prog w=.ok (.agg #[.int .i64 za,.int .i64 zb]) w:=bY w ⟨g4,0,none⟩ 176 (#[.int .i64 za,.int .i64 zb]:Array Value).toList _ hb4.agg underlying176 rfl bCk;obtain ⟨q1,q2,q3,q4⟩:=aM.c2 hb4;refine wpIn_region_lit ?_
 (conv=>arg 6;whnf)
 unfold Sl at o0 o4
 gi_wp2
 refine hRd.mono ?_;intro e W h;obtain ⟨b,rfl⟩:=hR e W h
 gi_wp2
 try simp only [Act.put]
 exact hend _ _ b sS sP h
theorem aRb(w0:World)(A:Option Addr)(n c:Nat)(L:List Res)(S:Held w0 w L)(hsz:a.tmps.size=4)(o0:Sl a 0 (.slice A n c)):bC false 0 f131 Q a w fun a' W q'=>(∃ g,Sl a' 1 (Pq g 0) ∧ Held w0 W (aB g 164 #[.slice A n c] :: L))->q':=by
 refine bU fun hend=>?_;unfold Sl at o0;have S1:=LH (S.newBlk 164 #[.slice A n c]);go_wp2
 try simp only [Act.put]
 exact hend _ _ tS (⟨w.heap.size,cH,S1.out⟩)
theorem aSx(g:Nat)(hsz:a.tmps.size=4)(o1:Sl a 1 (Pq g 0)):bK 1 f131 Q a w fun a' q'=>Sl a' 2 (.func (.func 145) #[] #[Pq g 0])->q':=rO
theorem aE9(A:Option Addr)(n c:Nat)(w:World):Calls prog 131 #[.slice A n c] w fun e w'=>∃ g,e=.returned (.func (.func 145) #[] #[Pq g 0]) ∧ Held w w' [aB g 164 #[.slice A n c]]:=by
 refine aR func131 rfl 4 rfl (fun a0 hsz hdf hAr=>?_);have hz0:a0.tmps.size=4:=hsz;have D:=hdf;have o0:=hAr 0 _ rfl;refine wp_seq (aRb w A n c [] (Held.start w) hz0 o0 (fun a1 w1 hs1 h1=>?_));obtain ⟨hz1,D⟩:=dS hs1 hz0 D;obtain ⟨g1,o1,S⟩:=h1;refine wp_seq (aSx g1 hz1 o1 (fun a2 hs2 o2=>?_));obtain ⟨hz2,D⟩:=dS hs2 hz1 D;refine wp_ret ?_;exact bodyPost_ret (bA (by rfl) (o2.eval (by rw [hz2];decide))) D ⟨g1,rfl,S⟩
theorem aXm(g:Nat)(A:Option Addr)(n c:Nat)(hb:aM w g 164 #[.slice A n c])(hsz:a.tmps.size=16)(o1:Sl a 1 (Pq g 0)):bK 0 f145 Q a w fun a' q'=>Sl a' 5 (.slice A n c)->Sl a' 6 (Nq n)->Sl a' 7 (Nq 0)->q':=by
 have c0:w.cell? ⟨g,0,none⟩=some (.slice A n c):=hb.cell 0;exact rO
theorem aTv(k n:Nat)(hsz:a.tmps.size=16)(o6:Sl a 6 (Nq n))(o7:Sl a 7 (Nq k)):bK 1 f145 Q a w fun a' q'=>Sl a' 8 (.bool (decide (k < n)))->q':=rO
theorem aPt(k:Nat)(hk:k < 9223372036854775807)(hsz:a.tmps.size=16)(o7:Sl a 7 (Nq k)):bK 4 f145 Q a w fun a' q'=>Sl a' 7 (Nq (k+1))->q':=by
 have hw:wrap64 ((k:Int)+1)=(k:Int)+1:=by unfold wrap64;omega
 exact rO
theorem aWz(w0:World)(ad:Addr)(k n c:Nat)(hk:k < n)(za zb:Int)(hc:∀ j u,(#[.int .i64 za,.int .i64 zb]:Array Value).toList[j]?=some u->w.cell? ((ad.add (k * 2)).add j)=some u)(L:List Res)(S:Held w0 w L)(hsz:a.tmps.size=16)(o5:Sl a 5 (.slice (some ad) n c))(o7:Sl a 7 (Nq k)):bC false 2 f145 Q a w fun a' W q'=>(∃ g4,Sl a' 4 (Pq g4 0) ∧ Held w0 W (aB g4 176 #[.int .i64 za,.int .i64 zb] :: L))->q':=by
 refine bU fun hend=>?_;unfold Sl at o5 o7;have h0:0<=(k:Int):=by omega
 have h1:(k:Int) < (n:Int):=by omega
 have HC:=LH hc;clear hc;have S7:=LH (S.newBlk 176 #[.int .i64 za,.int .i64 zb]);go_wp2_with (refine bW rfl 176 (.tmp 9) rfl (ad.add (k * 2)) aE (#[.int .i64 za,.int .i64 zb]:Array Value).toList _ HC.out underlying176 rfl (by rw [Array.length_toList];exact bCk) ?_)
 try simp only [Act.put]
 exact hend _ _ tS (⟨_,cH,S7.out⟩)
theorem yE{w:World}{ad:Addr}{n c:Nat}{l:List (Nat × Nat)}(h:Rd w 2 (.slice (some ad) n c) n (kU l)){k:Nat}{r:Nat × Nat}(hx:l[k]?=some r):∀ j u,(#[.int .i64 (r.1:Int),.int .i64 (r.2:Int)]:Array Value).toList[j]?=some u->w.cell? ((ad.add (k * 2)).add j)=some u:=fun j u hu=>by
 obtain ⟨-,A',c',e,-,-,-,h5⟩:=h
 cases e;obtain ⟨h1,h2⟩:=aCs hx;rw [dZ];refine h5 ad rfl _ _ ?_;rcases j with _|j
 . cases hu;exact h1
 rcases j with _|j
 . cases hu;exact h2
 . cases hu
def VR.encs (x:Nat × Nat):Array Value:=#[.agg #[.int .i64 (x.1:Int),.int .i64 (x.2:Int)]]
theorem aKu(g:Nat)(A:Option Addr)(c:Nat)(l:List (Nat × Nat))(hl:l.length<=1000000)(w:World)(hb:aM w g 164 #[.slice A l.length c])(hv:Rd w 2 (.slice A l.length c) l.length (kU l))(n:Nat):
 aJ8 prog n 145 #[Pq g 0] VR.encs (fun _ W=>Rd W 2 (.slice A l.length c) l.length (kU l)) (fun pre x _ _=>l[pre.length]?=some x) (fun xs=>xs.length=l.length) (fun _=>True) l.length w:=by
 intro ll J Jx W hk hJ hJx hY h0;have hvW:=aT hv hk;refine callsIn_wide.2 ?_;refine aR func145 rfl 16 rfl (fun a0 hsz hdf hAr=>?_);have hz0:a0.tmps.size=16:=hsz;have D:=hdf;have o0:=hAr 0 _ rfl;have o1:=hAr 1 _ rfl;refine wp_seq (aXm g A l.length c (hb.kp hk (by simp)) hz0 o1 (fun a1 hs1 o5 o6 o7=>?_));obtain ⟨hz1,D,o0⟩:=eY hs1 hz0 D o0;refine wp_block ?_
 (conv=>arg 2;whnf)
 refine wp_loop (fun a' w'=>∃ (pre:List (Nat × Nat)),pre.length<=l.length ∧ a'.tmps.size=16 ∧ a'.defers=[] ∧ Sl a' 0 (.func (.yield ll) #[] #[]) ∧ Sl a' 5 (.slice A l.length c) ∧ Sl a' 6 (Nq (l.length)) ∧ Sl a' 7 (Nq (pre.length)) ∧ J pre w' ∧ Rd w' 2 (.slice A l.length c) l.length (kU l)) (fun a' _=>l.length - (intOf (a'.eval (.tmp 7))).toNat) ⟨[],Nat.zero_le _,hz1,D,o0,o5,o6,o7,h0,hvW⟩ ?_
 iterate 9 (try clear o0)
 iterate 9 (try clear o5)
 iterate 9 (try clear o6)
 iterate 9 (try clear o7)
 iterate 9 (try clear D)
 clear hvW;rintro a2 w2 ⟨pre,hpl,hz2,D,o0,o5,o6,o7,hJ2,hv2⟩;have e7:=o7.eval (by rw [hz2];decide);refine wp_seq (aTv pre.length l.length hz2 o6 o7 (fun a3 hs3 o8=>?_));obtain ⟨hz3,D,o0,o5,o6,o7⟩:=fH hs3 hz2 D o0 o5 o6 o7
 by_cases hlt:pre.length < l.length
 . refine wp_seq (cS o8 (wp_skip ?_) (by rw [decide_eq_true hlt]));simp only [Exit.then];obtain ⟨r,hr⟩:∃ r,l[pre.length]?=some r:=⟨_,List.getElem?_eq_getElem hlt⟩;obtain ⟨ad,rfl⟩:=gD hv2 (by omega);refine wp_seq (wp_block ?_);refine wp_seq (aWz w2 ad pre.length l.length c hlt (r.1:Int) (r.2:Int) (yE hv2 hr) [] (Held.start w2) hz3 o5 o7 (fun a4 w4 hs4 h4=>?_));obtain ⟨hz4,D,o0,o5,o6,o7,o8⟩:=jJ hs4 hz3 D o0 o5 o6 o7 o8;obtain ⟨g4,o4,S⟩:=h4;refine wp_seq (aSa ll (n - 1) g4 (r.1:Int) (r.2:Int) (S.at_ (l1:=[])) _ (hY pre r w2 w4 hJ2 S.k hr hlt) (fun e V h=>by rcases h with ⟨rfl,-⟩|⟨rfl,-⟩ <;> exact ⟨_,rfl⟩) hz4 o0 o4 (fun a5 w5 b hs5 o14 h5=>?_));obtain ⟨hz5,D,o0,o5,o6,o7⟩:=fH hs5 hz4 D o0 o5 o6 o7;rcases h5 with ⟨e,hJ5,hZ5⟩|⟨e,hJx5⟩
   . cases e;refine dD o14 (wp_skip ?_);simp only [Exit.inBlock,Exit.then];refine aPt pre.length (by omega) hz5 o7 (fun a6 hs6 o7=>?_);have hz6:=hs6.size.trans hz5;refine ⟨⟨pre ++ [r],by rw [List.length_append,List.length_singleton];omega,hz6,hs6.defers.trans D,hs6.q o0,hs6.q o5,hs6.q o6,by rw [List.length_append,List.length_singleton];exact o7,hJ5,hZ5⟩,?_⟩
     show l.length - (intOf _).toNat < l.length - (intOf _).toNat
     rw [e7,o7.eval (by rw [hz6];decide)];simp only [intOf];omega
   . cases e;refine cS o14 ?_;refine wp_ret ?_;simp only [Exit.then,Exit.inBlock];exact ⟨D,_,nT (by rfl),⟨_,rfl⟩,.inr ⟨_,trivial,hJx5⟩⟩
 . refine wp_seq (dD o8 (wp_exit ?_) (by rw [decide_eq_false hlt]));simp only [Exit.then,Exit.inBlock];exact ⟨D,_,nT (by rfl),⟨_,rfl⟩,.inl ⟨pre,by omega,hJ2⟩⟩
end
section
open Go.RowKit
section
variable {F:Fence} {nF:Nat} {P:Program} {ops:Array Oper} {rest:List Oper} {o:Oper} {a:Act} {w:World} {Q:Exit->Act->World->Prop}
theorem xU(j d:Nat)(b:Bool)(hg:o.guard=some (j,b))(hj:(ops[j]?).bind (·.dst)=some d)(hd:a.tmps[d]?.getD undef=.bool b)
 (h:∀ K:Act->World->Prop,(∀ a w,wpListIn F nF P ops Q rest a w->K a w)->o.wpIn F nF P a w K Q):wpListIn F nF P ops Q (o :: rest) a w:=
 BigFrame.wpListIn_want (by simp [Region.wanted,hg,gY hj hd]) h
theorem nY(j d:Nat)(b:Bool)(hg:o.guard=some (j,b))(hj:(ops[j]?).bind (·.dst)=some d)(hd:a.tmps[d]?.getD undef=.bool b)
 (ty:TypeId) (x:Operand) (ho:o.op=.load ty x) (g:Nat) (hx:a.eval x=Pq g 0)
 (t:TypeId) (cs:Array Value) (hb:aM w g t cs) (ds:TypeDesc) (hu:P.underlying ty=some ds) (hds:nW ds=true) (hi:(P.info? ty).map (·.size)=some cs.size)
 (h:wpListIn F nF P ops Q rest (a.put o.dst (.agg cs)) w):wpListIn F nF P ops Q (o :: rest) a w:=
 BigFrame.wpListIn_want (by simp [Region.wanted,hg,gY hj hd]) fun K hK=>by
  refine ⟨fun f hf=>?_,?_⟩
  . simp [Oper.about,ho] at hf
  . rw [Oper.semAt_eq _ _ _ (by simp [ho]),dK ho hx (bY w ⟨g,0,none⟩ ty cs.toList ds hb.agg hu hds (by rw [hi,Array.length_toList]))];exact hK _ _ h
end
end
section
variable {Q:Exit->Act->World->Prop} {a:Act} {w:World}
open Go.RowKit Go.Shelf
attribute [local go_sem] Oper.semAt_some
theorem aP7{w:World}{A:Option Addr}{n c lo m:Nat}{l:List (List UInt8)}(hok:dP l)(h:Rd w 32 (.slice A n c) n (dA l))(hn:n=l.length)(hm:lo+m<=n):Rd w 32 (.slice (loH A lo c) m (c - lo)) m (dA ((l.drop lo).take m)):=
 uA (hok.drop lo) (aBc hok h hn (by omega)) (by rw [List.length_drop];omega) (by omega)
theorem aT5(w0:World)(r1 r2:Nat)(L:List Res)(S:Held w0 w L)(hsz:a.tmps.size=31)(o1:Sl a 1 (.agg #[.int .i64 (r1:Int),.int .i64 (r2:Int)])):bC false 0 f132 Q a w fun a' W q'=>Sl a' 5 (.int .i64 (0:Int))->(∃ g3 g4,Sl a' 3 (Pq g3 0) ∧ Sl a' 4 (Pq g4 0) ∧ Held w0 W (aB g4 23 (aA (List.replicate 32 0)) :: aB g3 176 #[.int .i64 (r1:Int),.int .i64 (r2:Int)] :: L))->q':=by
 refine bU fun hend=>?_;unfold Sl at o1;have S1:=LH ((S.newBlk 176 #[.int .i64 (r1:Int),.int .i64 (r2:Int)]).newBlkN 23 (aA (List.replicate 32 0)) (g:=w.heap.size+1) (by simp));go_wp2
 try simp only [Act.put]
 exact hend _ _ tS sP (⟨w.heap.size,w.heap.size+1,cH,cH,S1.out⟩)
theorem aRd(g3 r1 r2 n c:Nat)(A:Option Addr)(hr:Hid (r1 < r2 ∧ r2<=n))(hb:aM w g3 176 #[.int .i64 (r1:Int),.int .i64 (r2:Int)])(hsz:a.tmps.size=31)(o0:Sl a 0 (.slice A n c))(o3:Sl a 3 (Pq g3 0)):bC false 1 f132 Q a w fun a' W q'=>Kp [] w W->Sl a' 22 (.bool false)->q':=by
 intro hend;have hap:=pa 1 f132;refine aH (l:=(aK 1 f132)) (fun i v W=>match i with|0=>v=Pq g3 0|1=>v=.int .i64 (r1:Int)|2=>v=.bool false|3=>v=.bool false|4=>v=Pq g3 0|5=>v=.int .i64 (r1:Int)|6=>v=Pq g3 1|7=>v=.int .i64 (r2:Int)|8=>v=.bool false|9=>v=.bool false|10=>v=.bool false|11=>v=Pq g3 1|12=>v=.int .i64 (r2:Int)|13=>v=.slice A n c|14=>v=Nq n|15=>v=.bool false|16=>v=.bool false|_=>True) hap ?_ ?_ ?_
 . exact fun _ _ _ _ h _=>h
 . and_intros <;> try (intro vs A' W hA hW hd hu K hK;try (refine aL _ rfl rfl ?_;conv=>arg 2;whnf))
   . exact aJ (eO 3 o3)
   . have c0:W.cell? ⟨g3,0,none⟩=some (.int .i64 (r1:Int)):=(hb.k0 hW).cell 0;exact aJ (vD 6 0)
   . have e7:=vD 7 1;clear hA hd hu o0 o3;go_step;exact hK _ _ kR (by first|rfl|(refine congrArg Value.bool ?_;simp;done)|(refine congrArg Value.bool ?_;simp;have:=hr.out;omega))
   . exact aJ (vD 8 2)
   . exact cC (eO 3 o3)
   . refine qH ?_;(conv=>arg 2;whnf);have c0:W.cell? ⟨g3,0,none⟩=some (.int .i64 (r1:Int)):=(hb.k0 hW).cell 0;exact aJ (vD 10 4)
   . exact cC (eO 3 o3)
   . refine qH ?_;(conv=>arg 2;whnf);have c1:W.cell? ⟨g3,1,none⟩=some (.int .i64 (r2:Int)):=(hb.k0 hW).cell 1;exact aJ (vD 12 6)
   . refine qH ?_;(conv=>arg 2;whnf);have e11:=vD 11 5;have e13:=vD 13 7;clear hA hd hu o0 o3;go_step;exact hK _ _ kR (by first|rfl|(refine congrArg Value.bool ?_;simp;done)|(refine congrArg Value.bool ?_;simp;have:=hr.out;omega))
   . exact cM (vD 9 3) (vD 14 8)
   . exact aJ (vD 15 9)
   . exact cC (eO 3 o3)
   . refine qH ?_;(conv=>arg 2;whnf);have c1:W.cell? ⟨g3,1,none⟩=some (.int .i64 (r2:Int)):=(hb.k0 hW).cell 1;exact aJ (vD 17 11)
   . exact cC (eO 0 o0)
   . exact cC (vD 19 13)
   . refine qH ?_;(conv=>arg 2;whnf);have e18:=vD 18 12;have e20:=vD 20 14;clear hA hd hu o0 o3;go_step;exact hK _ _ kR (by first|rfl|(refine congrArg Value.bool ?_;simp;done)|(refine congrArg Value.bool ?_;simp;have:=hr.out;omega))
   . exact cM (vD 16 10) (vD 21 15)
   . trivial
 . intro vs W hW hp;rw [aF];exact hend _ W sQ hW (sW (hp 16 sB))
theorem aQx(w0:World)(g3 g4 r1 r2 n c mm:Nat)(A:Option Addr)(hr:Hid (r1+mm=r2 ∧ r2<=n ∧ n<=c))(hb:aM w g3 176 #[.int .i64 (r1:Int),.int .i64 (r2:Int)])(x:Bs)(hx32:x.length=32)(HC0:Calls prog 49 #[.slice (loH A r1 c) mm (c - r1)] w fun e w'=>e=.returned (.agg (aA x)) ∧ Kp [] w w')(L:List Res)(S:Held w0 w (aB g4 23 (aA (List.replicate 32 0)) :: L))(hsz:a.tmps.size=31)(o0:Sl a 0 (.slice A n c))(o3:Sl a 3 (Pq g3 0))(o4:Sl a 4 (Pq g4 0)):bC false 3 f132 Q a w fun a' W q'=>Sl a' 5 (.int .i64 (0:Int))->(Held w0 W (aB g4 23 (aA x) :: L))->q':=by
 refine bU fun hend=>?_;unfold Sl at o0 o3 o4;have S:=LH S;have hch:Hid ((aA (x)).size=32):=LH (by rw [aC,hx32]);have Och:=LH (aI (x));obtain ⟨ch,Ech⟩:∃ cs,Hid (aA (x)=cs):=⟨_,LH rfl⟩;rw [Ech.out] at hch Och;rw [Ech.out] at HC0;have HC:=LH HC0;clear HC0;obtain ⟨q1,q2,q3,q4⟩:=aM.c2 hb;clear hb;have hcut:=aK3 A n c r1 mm (r1:Int) (r2:Int) rfl (by have:=hr.out;omega) (by have:=hr.out;omega) (by have:=hr.out;omega);go_wp2_with fail
 refine HC.out.mono ?_;rintro e w1 ⟨rfl,k1⟩;have S1:=LH (S.out.kp k1);clear k1;go_wp2_with (refine aD rfl 23 (.tmp 4) (.tmp 30) rfl g4 (aO o4) ch aE 23 _ (S1.out.at_ (l1:=[])) (by rw [hch.out];exact bBy) (by rw [hch.out];rfl) Och.out ?_;intro w7 b7 k7;have S7:=LH (Held.setBlk (l1:=[]) S1.out b7 k7);clear b7 k7)
 rw [<- Ech.out] at S7
 try simp only [Act.put]
 exact hend _ _ tS sP (S7.out)
theorem aKz(A:Option Addr)(c:Nat)(l:List (List UInt8))(hok:dP l)(r1 r2:Nat)(h1:r1 < r2)(h2:r2<=l.length)(w:World)(hv:Rd w 32 (.slice A l.length c) l.length (dA l)):
 Calls prog 132 #[.slice A l.length c,.agg #[.int .i64 (r1:Int),.int .i64 (r2:Int)]] w fun e w'=>e=.returned (.tuple #[.agg (aA (bJ ((l.drop r1).take (r2 - r1)))),.int .i64 0]) ∧ Kp [] w w':=by
 have hlc:l.length<=c:=by
  obtain ⟨-,A',c',e,h1,-,-,-⟩:=hv
  cases e;exact h1
 refine aR func132 rfl 31 rfl (fun a0 hsz hdf hAr=>?_);have hz0:a0.tmps.size=31:=hsz;have D:=hdf;have o0:=hAr 0 _ rfl;have o1:=hAr 1 _ rfl;refine wp_seq (aT5 w r1 r2 [] (Held.start w) hz0 o1 (fun a1 w1 hs1 o5 h1=>?_));obtain ⟨hz1,D,o0⟩:=eY hs1 hz0 D o0;obtain ⟨g3,g4,o3,o4,S⟩:=h1;refine wp_seq (wp_seq (aRd g3 r1 r2 l.length c A (LH ⟨h1,h2⟩) (S.at_ (l1:=[_])) hz1 o0 o3 (fun a2 w2 hs2 k2 o22=>?_)));obtain ⟨hz2,D,o0,o3,o4⟩:=dF hs2 hz1 D o0 o3 o4;refine dD o22 (wp_skip ?_);simp only [Exit.then];have S:=S.kp k2;have hlen:((l.drop r1).take (r2 - r1)).length=r2 - r1:=by rw [List.length_take,List.length_drop];omega
 have HC:=rS (loH A r1 c) (c - r1) ((l.drop r1).take (r2 - r1)) ((hok.drop r1).take _) w2 (by rw [hlen];exact aP7 hok (aT hv S.k) rfl (by omega));rw [hlen] at HC;refine wp_seq (aQx w g3 g4 r1 r2 l.length c (r2 - r1) A (LH ⟨by omega,h2,hlc⟩) (S.at_ (l1:=[_])) _ (bS ((hok.drop r1).take _)) HC _ S hz2 o0 o3 o4 (fun a3 w3 hs3 o5 S=>?_));obtain ⟨hz3,D,o4⟩:=eY hs3 hz2 D o4;refine wp_ret ?_;exact bodyPost_ret (cG (by rfl) (o4.eval (by rw [hz3];decide)) (S.at_ (l1:=[])) underlying23 rfl (by rw [aC,bS ((hok.drop r1).take _)];exact bBy)) D ⟨congrArg (fun x=>Ending.returned (.tuple #[.agg (aA (bJ ((l.drop r1).take (r2 - r1)))),x])) (o5.eval (by rw [hz3];decide)),S.k⟩
theorem aWk(w0:World)(A B:Option Addr)(n c m d:Nat)(L:List Res)(S:Held w0 w L)(hsz:a.tmps.size=10)(o0:Sl a 0 (.slice A n c))(o1:Sl a 1 (.slice B m d)):bC false 0 f117 Q a w fun a' W q'=>(∃ g2 g3,Sl a' 2 (Pq g2 0) ∧ Sl a' 3 (Pq g3 0) ∧ Held w0 W (aB g3 164 #[.slice B m d] :: aB g2 29 #[.slice A n c] :: L))->q':=by
 refine bU fun hend=>?_;unfold Sl at o0 o1;have S1:=LH ((S.newBlk 29 #[.slice A n c]).newBlkN 164 #[.slice B m d] (g:=w.heap.size+1) (by simp));go_wp2
 try simp only [Act.put]
 exact hend _ _ tS (⟨w.heap.size,w.heap.size+1,cH,cH,S1.out⟩)
theorem aW3(w0:World)(g2 g3:Nat)(A B:Option Addr)(c d:Nat)(l:List (List UInt8))(rs:List (Nat × Nat))(hll:l.length<=1000000)(hrl:rs.length<=1000000)(hva:∀ V,Kp [] w0 V->Rd V 32 (.slice A l.length c) l.length (dA l))(hvb:∀ V,Kp [] w0 V->Rd V 2 (.slice B rs.length d) rs.length (kU rs))(L:List Res)(hsz:a.tmps.size=10)(o2:Sl a 2 (Pq g2 0))(o3:Sl a 3 (Pq g3 0))
 (S0:Held w0 w (aB g2 29 #[.slice A l.length c] :: aB g3 164 #[.slice B rs.length d] :: L)):RG2 1 f117 Q a w fun a' vs gs W q'=>Held w0 W (aG 23 32 (vs 1) l.length (dA l) :: aG 176 2 (vs 3) rs.length (kU rs) :: aB g2 29 #[vs 1] :: aB g3 164 #[vs 3] :: L)->q':=by
 intro hend;have hap:=pa 1 f117
 refine aP (Γ:=Unit) (l:=(aK 1 f117)) 3 [0,1,2,3,4,5,8]
  (fun i vs gs=>match i with|0=>vs 0=.slice A l.length c|2=>vs 2=.slice B rs.length d|_=>True)
  (fun i vs gs=>match i with|1=>[aG 23 32 (vs 1) l.length (dA l)]|3=>[aG 176 2 (vs 3) rs.length (kU rs)]|4=>[aB g2 29 #[vs 1]]|5=>[aB g3 164 #[vs 3]]|6=>[aB g2 29 #[.slice A l.length c]]|7=>[aB g3 164 #[.slice B rs.length d]]|8=>L|_=>[])
  (fun i=>match i with|4=>[6]|5=>[7]|_=>[]) (fun i=>match i with|0=>[6]|2=>[7]|4=>[1]|5=>[3]|_=>[]) S0 (by kernel_rfl) hap (by kernel_rfl) (by kernel_rfl) (fun i=>match i with|0=>[0]|1=>[1]|2=>[2]|3=>[3]|4=>[1]|5=>[3]|_=>[]) (by kernel_rfl) ?_ (by kernel_rfl) ?_ ?_ ?_
 . exact lA
 . exact pA
 . clear S0 hend
   and_intros <;> try intro vs gs A' W LF hA S hR hd hu K hK
   . have c0:W.cell? ⟨g2,0,none⟩=some (.slice A l.length c):=(show aM W g2 29 #[.slice A l.length c] from S.ok (aB g2 29 #[.slice A l.length c]) (hR 6 (by simp) _ (List.mem_singleton.2 rfl))).cell 0;exact aJ (eO 2 o2)
   . replace hK:=hK default;have e5:=vD 5 0;clear hA o2 o3;go_step;refine (qP w0 _ A c l hll W S (fun V SV=>hva V SV.k)).mono ?_;rintro e w' ⟨v,rfl,S2⟩;exact hK v w' S2 trivial
   . have c0:W.cell? ⟨g3,0,none⟩=some (.slice B rs.length d):=(show aM W g3 164 #[.slice B rs.length d] from S.ok (aB g3 164 #[.slice B rs.length d]) (hR 7 (by simp) _ (List.mem_singleton.2 rfl))).cell 0;exact aJ (eO 3 o3)
   . replace hK:=hK default;have e7:=vD 7 2;clear hA o2 o3;go_step;refine (aA2 w0 _ B d rs hrl W S (fun V SV=>hvb V SV.k)).mono ?_;rintro e w' ⟨v,rfl,S2⟩;exact hK v w' S2 trivial
   . replace hK:=hK default;have e2:=eO 2 o2;have e6:=eU 6 1;clear hA o2 o3;have S1:Held w0 W (aB g2 29 #[.slice A l.length c] :: LF):=S;obtain ⟨A1,c1,hq,-,-⟩:=aS (show Ow W 23 32 (vs 1) l.length (dA l) from S.ok (aG 23 32 (vs 1) l.length (dA l)) (List.mem_cons_of_mem _ (hR 1 (by simp) _ (List.mem_singleton.2 rfl))));rw [hq] at e6;have S2:=S1.set (l1:=[]) 0 (vs 1);have c33:W.cell? ⟨g2,0,none⟩=some (.slice A l.length c):=(S1.at_ (l1:=[])).cell 0;have f33:=(show aM W g2 _ _ from S1.at_ (l1:=[])).frozen 0;rw [hq] at S2;have S3:Held w0 (W.setCell ⟨g2,0,none⟩ (.slice A1 l.length c1)) (aB g2 29 #[vs 1] :: LF):=by rw [hq];exact S2
     go_step;exact hK undef _ S3 trivial
   . replace hK:=hK default;have e3:=eO 3 o3;have e8:=eU 8 3;clear hA o2 o3;have S1:Held w0 W (aB g3 164 #[.slice B rs.length d] :: LF):=S;obtain ⟨A1,c1,hq,-,-⟩:=aS (show Ow W 176 2 (vs 3) rs.length (kU rs) from S.ok (aG 176 2 (vs 3) rs.length (kU rs)) (List.mem_cons_of_mem _ (hR 3 (by simp) _ (List.mem_singleton.2 rfl))));rw [hq] at e8;have S2:=S1.set (l1:=[]) 0 (vs 3);have c33:W.cell? ⟨g3,0,none⟩=some (.slice B rs.length d):=(S1.at_ (l1:=[])).cell 0;have f33:=(show aM W g3 _ _ from S1.at_ (l1:=[])).frozen 0;rw [hq] at S2;have S3:Held w0 (W.setCell ⟨g3,0,none⟩ (.slice A1 rs.length c1)) (aB g3 164 #[vs 3] :: LF):=by rw [hq];exact S2
     go_step;exact hK undef _ S3 trivial
   . trivial
 . intro vs gs W S hp;have S:Held w0 W (aG 23 32 (vs 1) l.length (dA l) :: aG 176 2 (vs 3) rs.length (kU rs) :: aB g2 29 #[vs 1] :: aB g3 164 #[vs 3] :: L):=by simpa only [List.flatMap_cons,List.flatMap_nil,List.append_nil,List.nil_append,List.cons_append,List.append_assoc] using S
   rw [aF];exact hend _ vs gs W sQ  S
theorem aWl(g2 g3:Nat)(hsz:a.tmps.size=10)(o2:Sl a 2 (Pq g2 0))(o3:Sl a 3 (Pq g3 0)):bK 2 f117 Q a w fun a' q'=>Sl a' 4 (.func (.func 130) #[] #[Pq g3 0,Pq g2 0])->q':=rO
theorem aDs(A B:Option Addr)(c d:Nat)(l:List (List UInt8))(rs:List (Nat × Nat))(hll:l.length<=1000000)(hrl:rs.length<=1000000)(w:World)(hva:Rd w 32 (.slice A l.length c) l.length (dA l))(hvb:Rd w 2 (.slice B rs.length d) rs.length (kU rs)):
 Calls prog 117 #[.slice A l.length c,.slice B rs.length d] w fun e w'=>∃ g2 g3 v u,e=.returned (.func (.func 130) #[] #[Pq g3 0,Pq g2 0]) ∧ Held w w' [aB g3 164 #[u],aB g2 29 #[v],aG 176 2 u rs.length (kU rs),aG 23 32 v l.length (dA l)]:=by
 refine aR func117 rfl 10 rfl (fun a0 hsz hdf hAr=>?_);have hz0:a0.tmps.size=10:=hsz;have D:=hdf;have o0:=hAr 0 _ rfl;have o1:=hAr 1 _ rfl;refine wp_seq (aWk w A B l.length c rs.length d [] (Held.start w) hz0 o0 o1 (fun a1 w1 hs1 h1=>?_));obtain ⟨hz1,D⟩:=dS hs1 hz0 D;obtain ⟨g2,g3,o2,o3,S⟩:=h1;have S:=S.pull 1 rfl;refine wp_seq (aW3 w g2 g3 A B c d l rs hll hrl (fun V kV=>aT hva kV) (fun V kV=>aT hvb kV) _ hz1 o2 o3 S (fun a2 vs gs w2 hs2 S=>?_));obtain ⟨hz2,D,o2,o3⟩:=dU hs2 hz1 D o2 o3;refine wp_seq (aWl g2 g3 hz2 o2 o3 (fun a3 hs3 o4=>?_));obtain ⟨hz3,D⟩:=dS hs3 hz2 D;refine wp_ret ?_;exact bodyPost_ret (bA (by rfl) (o4.eval (by rw [hz3];decide))) D ⟨g2,g3,vs 1,vs 3,rfl,((((S.pull 0 rfl).pull 1 rfl).pull 2 rfl).pull 3 rfl)⟩
theorem aPh(w0:World)(y:Nat)(L:List Res)(S:Held w0 w L)(hsz:a.tmps.size=25)(o0:Sl a 0 (.func (.yield y) #[] #[])):bC false 0 f130 Q a w fun a' W q'=>(∃ g3,Sl a' 3 (Pq g3 0) ∧ Held w0 W (aB g3 190 #[.func (.yield y) #[] #[]] :: L))->q':=by
 refine bU fun hend=>?_;unfold Sl at o0;have S1:=LH (S.newBlk 190 #[.func (.yield y) #[] #[]]);go_wp2
 try simp only [Act.put]
 exact hend _ _ tS (⟨w.heap.size,cH,S1.out⟩)
theorem aU0(gr:Nat)(A:Option Addr)(n c:Nat)(hb:aM w gr 164 #[.slice A n c])(hsz:a.tmps.size=25)(o1:Sl a 1 (Pq gr 0)):bC false 1 f130 Q a w fun a' W q'=>(∃ g,Sl a' 8 (.func (.func 145) #[] #[Pq g 0]) ∧ Held w W [aB g 164 #[.slice A n c]])->q':=by
 refine bU fun hend=>?_;unfold Sl at o1;have c0:w.cell? ⟨gr,0,none⟩=some (.slice A n c):=hb.cell 0;clear hb;have HC:=LH (aE9 A n c w);go_wp2_with fail
 refine HC.out.mono ?_;rintro e w1 ⟨g,rfl,S1⟩;have S1:=LH S1;go_wp2_with fail
 try simp only [Act.put]
 exact hend _ _ tS (⟨g,cH,S1.out⟩)
theorem aYa{rl nn:Nat}(w0:World)(r1 r2:Nat)(L:List Res)(S:Held w0 w L)(hsz:a.tmps.size=25)(o9:Sl a 9 (.agg #[.int .i64 (r1:Int),.int .i64 (r2:Int)]))
 (hend:∀ a' W,Same a a' [4]->(∃ g4,Sl a' 4 (Pq g4 0) ∧ Held w0 W (aB g4 176 #[.int .i64 (r1:Int),.int .i64 (r2:Int)] :: L))->(Kp [] w W)->Q .normal a' W):(Code.region 2 (aK 2 f130).toArray false).wpIn (Fence.wide.inRound rl) nn prog Q a w:=by
 refine mS (l:=(aK 2 f130)) (by kernel_rfl) ?_
 (conv=>arg 4;whnf)
 unfold Sl at o9;have S1:=LH (S.newBlk 176 #[.int .i64 (r1:Int),.int .i64 (r2:Int)]);have K1:=LH ((Kp.refl [] w).alloc (.cells #[.int .i64 (r1:Int),.int .i64 (r2:Int)] 176));go_wp2_with fail
 try simp only [Act.put]
 exact ⟨rfl,hend _ _ sS (⟨_,cH,S1.out⟩) (K1.out)⟩
theorem aV5{rl nn:Nat}(w0:World)(g2 g4 r1 r2:Nat)(A:Option Addr)(n c:Nat)(hb2:aM w g2 29 #[.slice A n c])(hb4:aM w g4 176 #[.int .i64 (r1:Int),.int .i64 (r2:Int)])(x:Bs)(hx32:x.length=32)(HC0:Calls prog 132 #[.slice A n c,.agg #[.int .i64 (r1:Int),.int .i64 (r2:Int)]] w fun e w'=>e=.returned (.tuple #[.agg (aA x),.int .i64 0]) ∧ Kp [] w w')(L:List Res)(S:Held w0 w L)(hsz:a.tmps.size=25)(o2:Sl a 2 (Pq g2 0))(o4:Sl a 4 (Pq g4 0))
 (hend:∀ a' W,Same a a' [11,12,13,10,14,15,5,6]->Sl a' 6 (.int .i64 (0:Int))->(∃ g5,Sl a' 5 (Pq g5 0) ∧ Held w0 W (aB g5 23 (aA x) :: L))->(Kp [] w W)->Q .normal a' W):(Code.region 3 (aK 3 f130).toArray false).wpIn (Fence.wide.inRound rl) nn prog Q a w:=by
 refine mS (l:=(aK 3 f130)) (by kernel_rfl) ?_
 (conv=>arg 4;whnf)
 unfold Sl at o2 o4;have hch:Hid ((aA (x)).size=32):=LH (by rw [aC,hx32]);have Och:=LH (aI (x));obtain ⟨ch,Ech⟩:∃ cs,Hid (aA (x)=cs):=⟨_,LH rfl⟩;rw [Ech.out] at hch Och;rw [Ech.out] at HC0;have HC:=LH HC0;clear HC0;have c2:w.cell? ⟨g2,0,none⟩=some (.slice A n c):=hb2.cell 0;obtain ⟨q1,q2,q3,q4⟩:=aM.c2 hb4;clear hb2 hb4;have S:=LH S;go_wp2_with fail
 refine HC.out.mono ?_;rintro e w1 ⟨rfl,k1⟩;have K1:=LH k1;have S1:=LH ((S.out.kp k1).newBlk 23 (aA (List.replicate 32 0)));have T1:=LH ((Held.start w1).newBlk 23 (aA (List.replicate 32 0)));clear k1;go_wp2_with (refine aD rfl 23 (.tmp 5) (.tmp 14) rfl w1.heap.size aE ch aE 23 _ (S1.out.at_ (l1:=[])) (by rw [hch.out];exact bBy) (by rw [hch.out];rfl) Och.out ?_;intro w7 b7 k7;have S7:=LH (Held.setBlk (l1:=[]) S1.out b7 k7);have T7:=LH (Held.setBlk (l1:=[]) T1.out b7 k7);clear b7 k7)
 rw [<- Ech.out] at S7
 try simp only [Act.put]
 exact ⟨rfl,hend _ _ sS sP (⟨_,cH,S7.out⟩) (K1.out.trans T7.out.k (by simp))⟩
theorem aX4{rl m:Nat}(y g3 g4 g5 r1 r2:Nat)(x:Bs)(hx32:x.length=32)(hb3:aM w g3 190 #[.func (.yield y) #[] #[]])(hb4:aM w g4 176 #[.int .i64 (r1:Int),.int .i64 (r2:Int)])(hb5:aM w g5 23 (aA x))(R:World->Prop)
 (HY:∃ fn tmps assign body,(Instr.yield y #[.agg #[.int .i64 (r1:Int),.int .i64 (r2:Int)],.agg (aA x)]).run prog w=.ok (.round y fn tmps assign body) w ∧ RoundIn Fence.wide m prog y fn tmps assign body w fun e W=>e=.returned (.bool true) ∧ R W)
 (hsz:a.tmps.size=25) (o3:Sl a 3 (Pq g3 0)) (o4:Sl a 4 (Pq g4 0)) (o5:Sl a 5 (Pq g5 0)) (o6:Sl a 6 (.int .i64 (0:Int)))
 (hend:∀ a' W,Same a a' [16,17,18,19,20,21,22,23,24]->Sl a' 24 (.bool false)->R W->Q .normal a' W):(Code.region 4 (aK 4 f130).toArray false).wpIn (Fence.wide.inRound rl) (m+1) prog Q a w:=by
 obtain ⟨fn,tmps,assign,body,hy,hRd⟩:=HY;have c3:w.cell? ⟨g3,0,none⟩=some (.func (.yield y) #[] #[]):=hb3.cell 0;obtain ⟨q1,q2,q3,q4⟩:=aM.c2 hb4;have hcs:(aA x).size=32:=by rw [aC,hx32]
 generalize aA x=ch at *;have hj:((aK 4 f130).toArray[2]?).bind (·.dst)=some 18:=by rfl
 refine wpIn_region_lit ?_
 (conv=>arg 6;whnf)
 generalize (aK 4 f130).toArray=OPS at hj ⊢;unfold Sl at o3 o4 o5 o6
 gi_wp2_with (first|(refine nY 2 18 true rfl hj (by simp [Act.put,hsz]) 23 (.tmp 5) rfl g5 (aO o5) 23 _ hb5 _ underlying23 rfl (by rw [hcs];exact bBy) ?_)|(refine xU 2 18 true rfl hj (by simp [Act.put,hsz]) (fun K hK=>?_)))
 refine hRd.mono ?_;rintro e W ⟨rfl,h⟩
 gi_wp2
 try simp only [Act.put]
 exact hend _ _ sS sP h
end
section
open Go.RowKit Go.WideShapes Go.ChangeShapes
section
variable {H:Type} {enc:TypeId × Value->H} {P:Program}
theorem aEn(d:DataW H):1<=Rows.uptoBulk d:=by
 cases d with
 |lit l=>cases l <;> simp [Rows.uptoBulk]
 |nil=>simp [Rows.uptoBulk]
 |ptr d=>simp [Rows.uptoBulk]
 |slice elems spare=>simp [Rows.uptoBulk]
 |agg parts=>simp [Rows.uptoBulk]
 |iface t d=>simp [Rows.uptoBulk]
 |map entries=>simp [Rows.uptoBulk]
 |held h=>simp [Rows.uptoBulk]
theorem yF(l:List (DataW H)):l.length<=Rows.uptoBulkAll l:=by
 induction l with
 |nil=>simp [Rows.uptoBulkAll]
 |cons x r ih=>have:=aEn x;simp only [Rows.uptoBulkAll,List.length_cons];omega
theorem aBi(l r:List (DataW H)):Rows.uptoBulk (.slice l r)=Rows.uptoBulkAll l+Rows.uptoBulkAll r+1:=by simp [Rows.uptoBulk]
theorem aH4{z:Int}(h:(Lit.int .u8 z).wf=true):0<=z ∧ z<=255:=by simpa [Lit.wf,IntKind.min,IntKind.max,IntKind.signed,IntKind.bits] using h
theorem aAp{W:World}{n:Nat}{t e:TypeId}{cs:List Value}{x:DataW H × List MemPlace}(ht:P.underlying t=some (.slice e))(he:P.underlying e=some (.int .u8))(hc:P.cellsOf e=1)
 (h:DataW.trod enc P W 0 (fun _=>true) true n t cs=some x):∃ B bs,cs=[B] ∧ Rd W 1 B bs.length (bv bs) ∧ bs.length+1<=Rows.uptoBulk x.1:=by
 rcases open_ints ht he hc h with ⟨rfl,rfl⟩|⟨a,len,cap,zs,rfl,_,hl,hm,hz,rfl,hcell,hwf⟩
 . exact ⟨_,[],rfl,Rd.nil _ _,by simp [Rows.uptoBulk]⟩
 . simp only [if_true] at hz;have hbl:((zs.take len).map fun z=>UInt8.ofNat z.toNat).length=len:=by rw [List.length_map,List.length_take];omega
   refine ⟨_,(zs.take len).map fun z=>UInt8.ofNat z.toNat,rfl,?_,?_⟩
   . rw [hbl];refine ⟨by rw [aX,hbl];omega,some a,cap,rfl,hl,hm,(fun h=>by cases h),fun ad had j u hu=>?_⟩
     cases had;rw [iA,List.getElem?_map] at hu
     cases hj:(zs.take len)[j]? with
     |none=>rw [hj] at hu;simp at hu
     |some z=>
      rw [hj] at hu
      have hz':zs[j]?=some z:=by
       rw [List.getElem?_take] at hj
       split at hj
       . exact hj
       . cases hj
      have hlt:j < zs.length:=(List.getElem?_eq_some_iff.1 hz').1;have hw:=aH4 (hwf z (List.mem_of_getElem? hz'));have hg:=hcell j hlt;rw [List.getD_eq_getElem?_getD,hz',Option.getD_some] at hg;rw [hg];simp only [Option.map_some,Option.some.injEq] at hu;rw [<- hu,UInt8.toNat_ofNat',Nat.mod_eq_of_lt (by omega)]
      congr 2
      omega
   . rw [aBi];have:=yF (lits (H:=H) .u8 (zs.take len))
     rw [hbl];have hll:(lits (H:=H) .u8 (zs.take len)).length=len:=by simp [lits];omega
     omega
theorem sN{W:World}{n:Nat}{t e:TypeId}{cs:List Value}{x:DataW H × List MemPlace}(ht:P.underlying t=some (.slice e))(he:P.underlying e=some (.int .u8))(hc:P.cellsOf e=1)
 (h:DataW.trod enc P W 0 (fun _=>true) true n t cs=some x):∃ B bs,cs=[B] ∧ Rd W 1 B bs.length (bv bs) ∧ bs.length+1<=Rows.uptoBulk x.1 ∧ (bs=[] ∨ ∃ elems spare,x.1=.slice elems spare ∧ elems.length=bs.length):=by
 obtain ⟨B,bs,h1,h2,h3⟩:=aAp ht he hc h;refine ⟨B,bs,h1,h2,h3,?_⟩;rcases open_ints ht he hc h with ⟨hB,_⟩|⟨a,len,cap,zs,hB,_,_,_,hz,hx,_,_⟩
 . left;obtain ⟨A,c,hv,_⟩:=h2.2;rw [h1,hv] at hB;simp only [List.cons.injEq,Value.slice.injEq,and_true] at hB;exact List.eq_nil_of_length_eq_zero hB.2.1
 . right;simp only [if_true] at hz;refine ⟨_,_,by rw [hx],?_⟩;obtain ⟨A,c,hv,_⟩:=h2.2;rw [h1,hv] at hB;simp only [List.cons.injEq,Value.slice.injEq,and_true] at hB;simp [lits]
   omega
end
end
section
open Go.RowKit Go.Shelf
attribute [local go_sem] Oper.semAt_some
theorem qW(x:Value)(l:Bs)(w:World)(hx:Rd w 1 x l.length (bv l))(hn:l.length<=140737488355200):
 Calls prog 39 #[x] w fun r w'=>∃ u,r=.returned u ∧ zY l w u w':=by
 obtain ⟨A,c,rfl,-,-,hA,-⟩:=aBz hx;have Hx:=LH hx
 cases A with
 |none=>
  have hl:=hA rfl;obtain rfl:l=[]:=List.eq_nil_of_length_eq_zero hl
  clear hx hA hl;go_enter func39,ntmps39;go_wp2
  go_ret
  exact ⟨_,rfl,zY.nil _ _ kR⟩
 |some ad=>
  clear hx hA;have N0:Hid (zY [] w (.slice (some ⟨w.heap.size,0,none⟩) 0 0) (w.alloc (.cells #[] 5))):=LH ⟨cZ w 5 1 0 #[] rfl (by decide),(Kp.refl [] w).alloc _,fun g hg=>by simp [Value.ownBlock] at hg;omega⟩;go_enter func39,ntmps39;go_wp2_with (at_builtin;refine aGe rfl (.tmp 5) (.tmp 6) rfl (.slice (some ⟨w.heap.size,0,none⟩) 0 0) [] rfl N0.out (.slice (some ad) l.length c) l rfl (Hx.out.alloc _) (by simp only [List.length_nil];omega) ?_;intro v3 w3 o3;rw [List.nil_append] at o3;have O3:=LH o3;clear o3)
  go_ret
  exact ⟨_,rfl,O3.out⟩
end
section
open Go.RowKit Go.Shelf
theorem vZ{P:Program}{fn:Func}{R:Ending->World->Prop}{a:Act}{w:World}(D:Nat)(ha:a.defers=[gV D])(hd:w.heap[D]?=some (.deferred (some [])))
 (h:∃ v,(results fn a.tmps).run P (w.putObj D (.deferred none))=.ok v (w.putObj D (.deferred none)) ∧ R (.returned v) (w.putObj D (.deferred none))):bodyPostM Fence.wide 3 P fn R .normal a w:=by
 show LeavesInM Fence.wide 3 P fn a.tmps R a.defers .returning w
 rw [ha];exact ⟨by simp,.inl ⟨D,_,rfl,run_takeDeferred hd,h⟩⟩
theorem aBl{P:Program}{fn:Func}{R:Ending->World->Prop}{a:Act}{w:World}(D:Nat)(ha:a.defers=[gV D])(hd:w.heap[D]?=some (.deferred (some [])))
 (h:∃ v,(results fn a.tmps).run P (w.putObj D (.deferred none))=.ok v (w.putObj D (.deferred none)) ∧ R (.returned v) (w.putObj D (.deferred none))):bodyPostM Fence.wide 3 P fn R .ret a w:=vZ D ha hd h
theorem Held.staysL{w0:World}{L:List Res}{l:Nat}(h0:w0.heap.size<=l)(hn:∀ W (o:Obj),Held w0 W L->W.heap[l]?=some o->o.isCells=false->∀ r ∈ L,l ∉ r.fp):kQ l (fun W=>Held w0 W L):=by
 intro W W' S h;rcases h with hk|⟨o,o',hlo,ho,rfl⟩
 . exact S.kp hk
 . have hn:=hn W o S hlo ho;exact ⟨S.k.trans (Kp.putObj l o') (fun g hg=>by simp at hg;right;omega),fun r hr=>r.keep W _ [l] (S.ok r hr) (Kp.putObj l o') (fun b hb hm=>by simp at hm;subst hm;exact hn r hr hb),S.base,S.apart⟩
structure DX where
 r:Nat × Nat
 h:List UInt8
 y:Nat
 g3:Nat
 lo:Nat
 o:Obj
 D:Nat
 d:Obj
def DX.encs (x:DX):Array Value:=#[.agg #[.int .i64 (x.r.1:Int),.int .i64 (x.r.2:Int)],.agg (aA x.h)]
abbrev rT (gr gh:Nat) (u v:Value) (l:List (List UInt8)) (rs:List (Nat × Nat)):List Res:=[aB gr 164 #[u],aB gh 29 #[v],aG 176 2 u rs.length (kU rs),aG 23 32 v l.length (dA l)]
def DX.lst (x:DX) (L:List Res):List Res:=jZ x.lo x.o :: jZ x.D x.d :: aB x.g3 190 #[.func (.yield x.y) #[] #[]] :: L
def DX.Z (w0:World) (L:List Res) (l:Nat) (x:DX) (W:World):Prop:=(l < x.lo ∧ l < x.D) ∧ Held w0 W (x.lst L)
def DX.X (w0:World) (hs:List (List UInt8)) (rs:List (Nat × Nat)) (L:List Res) (l:Nat) (pre:List DX) (x:DX) (W0 W1:World):Prop:=
 rs[pre.length]?=some x.r ∧ x.h=bJ ((hs.drop x.r.1).take (x.r.2 - x.r.1)) ∧ (x.o.isCells=false ∧ x.d.isCells=false) ∧ DX.Z w0 L l x W0
theorem aU7(w0:World)(gr gh:Nat)(A B:Option Addr)(c d:Nat)(l:List (List UInt8))(rs:List (Nat × Nat))(hok:dP l)(hrl:rs.length<=1000000)(hrs:∀ r ∈ rs,r.1 < r.2 ∧ r.2<=l.length)(w:World)(hw:Held w0 w (rT gr gh (.slice A rs.length c) (.slice B l.length d) l rs))(n:Nat):
 bAd prog n 130 #[Pq gr 0,Pq gh 0] DX.encs (DX.Z w0 (rT gr gh (.slice A rs.length c) (.slice B l.length d) l rs)) (DX.X w0 l rs (rT gr gh (.slice A rs.length c) (.slice B l.length d) l rs)) (fun xs=>xs.length=rs.length) rs.length w:=by
 obtain ⟨L,hL⟩:∃ L,rT gr gh (.slice A rs.length c) (.slice B l.length d) l rs=L:=⟨_,rfl⟩;intro y J W hyW hyw hk hJ hY h0;have HP:=hw.kp hk;refine callsIn_wide.2 ?_;refine vY func130 rfl 25 rfl (fun a0 hsz hdf hAr=>?_);have hz0:a0.tmps.size=25:=hsz;have D:=hdf;have o0:=hAr 0 _ rfl;have o1:=hAr 1 _ rfl;have o2:=hAr 2 _ rfl;clear hsz hdf hAr;refine wp_seq (aPh W y [] (Held.start W) hz0 o0 (fun a1 w1 hs1 h1=>?_));obtain ⟨g3,o3,T⟩:=h1;obtain ⟨hz1,D,o1,o2⟩:=dU hs1 hz0 D o1 o2;have S:Held w0 w1 (aB g3 190 #[.func (.yield y) #[] #[]] :: rT gr gh (.slice A rs.length c) (.slice B l.length d) l rs):=(HP.join T).perm List.perm_append_comm;have hg3:W.heap.size<=g3:=T.base _ (List.mem_cons_self ..) g3 (by simp [aB]);have hJ1:=(hJ _).kp h0 T.k;have hB1:=T.k.size;refine wp_seq (aU0 gr A rs.length c (S.at_ (l1:=[_])) hz1 o1 (fun a2 w2 hs2 h2=>?_));obtain ⟨g,o8,T2⟩:=h2;obtain ⟨hz2,D,o2,o3⟩:=dU hs2 hz1 D o2 o3;have S:=S.kp T2.k;have hJ2:=(hJ _).kp hJ1 T2.k;have hB2:=Nat.le_trans hB1 T2.k.size;have hwk:=hk.size;have hwb:=S.k.size;have HC:=LH (fD.of S);have hrd:∀ V L',Held w0 V (L' ++ rT gr gh (.slice A rs.length c) (.slice B l.length d) l rs)->Rd V 2 (.slice A rs.length c) rs.length (kU rs):=fun V L' SV=>Rd.of_own (show Ow V 176 2 (.slice A rs.length c) rs.length (kU rs) from SV.ok (aG 176 2 (.slice A rs.length c) rs.length (kU rs)) (by simp))
 have hhd:∀ V L',Held w0 V (L' ++ rT gr gh (.slice A rs.length c) (.slice B l.length d) l rs)->Rd V 32 (.slice B l.length d) l.length (dA l):=fun V L' SV=>Rd.of_own (show Ow V 23 32 (.slice B l.length d) l.length (dA l) from SV.ok (aG 23 32 (.slice B l.length d) l.length (dA l)) (by simp))
 refine wp_block ?_
 (conv=>arg 2;whnf)
 refine aDq (n:=(n - 1)+3) (ps:=#[9]) (gf:=145) (lb:=#[Pq g 0]) (o8.eval (by rw [hz2];decide)) (enters_of func145 (by kernel_rfl) rfl) (encs:=VR.encs) (Z:=fun _ W=>Rd W 2 (.slice A rs.length c) rs.length (kU rs)) (X:=fun pre x _ _=>rs[pre.length]?=some x) (S:=fun xs=>xs.length=rs.length) (Sp:=fun _=>True) (N:=rs.length) (aJ8.s (aKu g A c rs hrl w2 (T2.at_ (l1:=[])) (hrd w2 [_] S) _)) (fun _=>aGz _ 2 _ _ _) (fun _=>rfl)
  (fun pre W'=>∃ xs:List DX,xs.length=pre.length ∧ J xs W' ∧ Held w0 W' (aB g3 190 #[.func (.yield y) #[] #[]] :: rT gr gh (.slice A rs.length c) (.slice B l.length d) l rs))
  (fun _ _ _=>False) ?hI ?hIx ?h0
  (fun pre x W'=>∃ xs:List DX,xs.length=pre.length ∧ rs[pre.length]?=some x ∧ J xs W' ∧ Held w0 W' (aB g3 190 #[.func (.yield y) #[] #[]] :: rT gr gh (.slice A rs.length c) (.slice B l.length d) l rs)) ?hI' ?hprep
  (fun T pre x a' W'=>∃ (xs:List DX) (g4:Nat),xs.length=pre.length ∧ rs[pre.length]?=some x ∧ a'.tmps.size=25 ∧ a'.defers=[] ∧ Sl a' 2 (Pq gh 0) ∧ Sl a' 3 (Pq g3 0) ∧ Sl a' 4 (Pq g4 0) ∧ J xs W' ∧ Held w0 W' (aB g4 176 #[.int .i64 (x.1:Int),.int .i64 (x.2:Int)] :: aB g3 190 #[.func (.yield y) #[] #[]] :: rT gr gh (.slice A rs.length c) (.slice B l.length d) l rs)) ?hA ?assign ?body ?done ?stop
 case hI=>exact fun pre=>cW.ex fun xs=>(cW.pure _ _).and (((hJ xs).up hB2).and (Held.stays hwb HC.out))
 case hIx=>exact fun c pre=>cW.pure _ _
 case h0=>exact ⟨[],rfl,hJ2,S⟩
 case hI'=>exact fun pre x=>cW.ex fun xs=>(cW.pure _ _).and ((cW.pure _ _).and (((hJ xs).up hB2).and (Held.stays hwb HC.out)))
 case hprep=>
  rintro pre x W0 W1 ⟨xs,e,hj,S⟩ k hx _;exact ⟨xs,e,hx,(hJ xs).kp hj k,S.kp k⟩
 case hA=>exact fun pre x a'=>cW.ex fun xs=>cW.ex fun g4=>(cW.pure _ _).and ((cW.pure _ _).and ((cW.pure _ _).and ((cW.pure _ _).and ((cW.pure _ _).and ((cW.pure _ _).and ((cW.pure _ _).and (((hJ xs).up hB2).and (Held.stays hwb HC.out.blk))))))))
 case assign=>
  rintro pre x W' ⟨xs,e,hx,hj,S⟩ K hK
  have hfr:((#[9]:Array Nat).zip (VR.encs x)).foldl (fun t (p,v)=>t.setIfInBounds p v) a2.tmps=a2.tmps.setIfInBounds 9 (.agg #[.int .i64 (x.1:Int),.int .i64 (x.2:Int)]):=by
   rw [<- Array.foldl_toList,Array.toList_zip]
   rfl
  rw [hfr];clear hfr;obtain ⟨a5,ha5⟩:∃ a5:Act,({ tmps:=a2.tmps.setIfInBounds 9 (.agg #[.int .i64 (x.1:Int),.int .i64 (x.2:Int)]),defers:=[] }:Act)=a5:=⟨_,rfl⟩;rw [ha5];obtain ⟨hz5,D5,hkeep,o9⟩:=yC a5 ha5.symm;clear ha5;have hz5:=hz5.trans hz2;refine aYa w0 x.1 x.2 _ S hz5 o9 (fun a6 w6 hs6 h6 k6=>?_);obtain ⟨g4,o4,S6⟩:=h6;exact hK _ _ k6 ⟨xs,g4,e,hx,hs6.size.trans hz5,hs6.defers.trans D5,hs6.q (hkeep 2 _ (by decide) o2),hs6.q (hkeep 3 _ (by decide) o3),o4,(hJ xs).kp hj k6,S6⟩
 case body=>
  rintro pre x a5 W5 - ⟨xs,g4,e,hx,hz5,D5,o2,o3,o4,hj,S⟩ hlen ⟨o,ho,hoc⟩ ⟨d0,hd,hdc⟩;have hrx:=hrs x (List.mem_of_getElem? hx);have hx32:=bS ((hok.drop x.1).take (x.2 - x.1));have HCs:=aKz B d l hok x.1 x.2 hrx.1 hrx.2 W5 (hhd W5 [_,_] S);generalize hxh:bJ ((l.drop x.1).take (x.2 - x.1))=xh at *;refine wpIn_block ?_
  (conv=>arg 4;whnf)
  refine wpIn_seq (aV5 w0 gh g4 x.1 x.2 B l.length d (S.at_ (l1:=[_,_,_])) (S.at_ (l1:=[])) xh hx32 HCs _ S hz5 o2 o4 (fun a6 w6 hs6 o6 h6 k6=>?_));obtain ⟨g5,o5,S6⟩:=h6;obtain ⟨hz6,-,o3,o4⟩:=dU hs6 hz5 rfl o3 o4;have hj6:=(hJ xs).kp hj k6;have ho6:w6.heap[w2.heap.size+1]?=some o:=(k6.block _ (Array.getElem?_eq_some_iff.1 ho).1 (by simp)).trans ho;have hd6:w6.heap[w2.heap.size]?=some d0:=(k6.block _ (Array.getElem?_eq_some_iff.1 hd).1 (by simp)).trans hd
  have SZ:Held w0 w6 (DX.lst ⟨x,xh,y,g3,w2.heap.size+1,o,w2.heap.size,d0⟩ (rT gr gh (.slice A rs.length c) (.slice B l.length d) l rs)):=by
   have h:=S6.drop.drop.withTwo HC.out hwb (Nat.le_succ _) (Nat.le_refl _) (show w2.heap.size+1 ≠ w2.heap.size by omega) ho6 hoc hd6 hdc;exact h
  have hne:y < w2.heap.size+1 ∧ y < w2.heap.size:=⟨by omega,by omega⟩;refine wpIn_seq (aX4 y g3 g4 g5 x.1 x.2 xh hx32 (S6.at_ (l1:=[_,_])) (S6.at_ (l1:=[_])) (S6.at_ (l1:=[])) _ (hY xs ⟨x,xh,y,g3,w2.heap.size+1,o,w2.heap.size,d0⟩ w6 w6 hj6 kR ⟨by rw [e];exact hx,hxh.symm,⟨hoc,hdc⟩,hne,SZ⟩ (by omega)) hz6 o3 o4 o5 o6 (fun a7 w7 hs7 o24 h7=>?_));obtain ⟨hj7,-,hZ7⟩:=h7;have hz7:=hs7.size.trans hz6;refine wpIn_cond_false (o24.eval (by rw [hz7];decide)) (wpIn_skip ?_);simp only [Exit.inBlock,Exit.then];exact ⟨Held.same2 hZ7 ho hd,hrd w7 [_,_,_] hZ7,_,by rw [List.length_append,List.length_append,e];rfl,hj7,Held.drop (Held.drop hZ7)⟩
 case done=>
  rintro xs0 W' hS ⟨xs,e,hj,S'⟩ hD;simp only [Exit.inBlock,Exit.then];exact vZ w2.heap.size (by show gV _ :: a2.defers=_;rw [D]) hD ⟨_,nT (by rfl),⟨_,rfl⟩,xs,by omega,(hJ xs).put hj _ hB2 hD rfl⟩
 case stop=>
  rintro c pre W' _ h;exact h.elim
end
section
variable {Q:Exit->Act->World->Prop} {a:Act} {w:World}
open Go.RowKit Go.Shelf
attribute [local go_sem] Oper.semAt_some
theorem bB2(hsz:a.tmps.size=31):bK 0 f88 Q a w fun a' q'=>Sl a' 4 (.slice none 0 0)->Sl a' 5 (.int .i64 (0:Int))->q':=rO
theorem bAc(A:Option Addr)(n c:Nat)(hn:n < 9223372036854775808)(z:Int)(hsz:a.tmps.size=31)(o0:Sl a 0 (.slice A n c))(o1:Sl a 1 (.int .i64 z)):bC false 1 f88 Q a w fun a' W q'=>(∃ v,Sl a' 6 v ∧ Sl a' 7 (.int .i64 (if z < 0 ∨ (n:Int) < z then 4 else 0)) ∧ Held w W [aG 176 2 v (oB z (n:Int)).length (kU (oB z (n:Int)))])->q':=by
 refine bU fun hend=>?_;unfold Sl at o0 o1;have HC:=LH (tB z (n:Int) (by omega) w);clear hn;obtain ⟨cd,hcd⟩:∃ cd:Int,Hid ((if z < 0 ∨ (n:Int) < z then 4 else 0)=cd):=⟨_,LH rfl⟩;obtain ⟨st,hst⟩:∃ st,Hid (oB z (n:Int)=st):=⟨_,LH rfl⟩;rw [hcd.out,hst.out] at HC;go_wp2_with fail
 refine HC.out.mono ?_;rintro e w1 ⟨v,rfl,S1⟩;have S1:=LH S1;go_wp2_with fail
 rw [<- hst.out] at S1
 try simp only [Act.put]
 exact hend _ _ tS (⟨v,cH,(by unfold Sl;rw [hcd.out];simp [hsz]),S1.out⟩)
theorem bB0(z:Int)(hsz:a.tmps.size=31)(o7:Sl a 7 (.int .i64 z)):bK 2 f88 Q a w fun a' q'=>Sl a' 19 (.bool (z != 0))->q':=rO
theorem bAm(z:Int)(hsz:a.tmps.size=31)(o7:Sl a 7 (.int .i64 z)):bK 3 f88 Q a w fun a' q'=>Sl a' 4 (.slice none 0 0)->Sl a' 5 (.int .i64 z)->q':=rO
theorem bAi(w0:World)(L:List Res)(S:Held w0 w L)(hsz:a.tmps.size=31):bC false 4 f88 Q a w fun a' W q'=>(∃ g,Sl a' 8 (Pq g 0) ∧ Held w0 W (aB g 29 #[.slice none 0 0] :: L))->q':=by
 refine bU fun hend=>?_;have S1:=LH (S.newBlk 29 #[.slice none 0 0]);go_wp2
 try simp only [Act.put]
 exact hend _ _ tS (⟨w.heap.size,cH,S1.out⟩)
theorem bBe(A B:Option Addr)(c d:Nat)(l:List (List UInt8))(rs:List (Nat × Nat))(hll:l.length<=1000000)(hrl:rs.length<=1000000)(hva:Rd w 32 (.slice A l.length c) l.length (dA l))(hvb:Rd w 2 (.slice B rs.length d) rs.length (kU rs))(hsz:a.tmps.size=31)(o0:Sl a 0 (.slice A l.length c))(o6:Sl a 6 (.slice B rs.length d)):bC false 5 f88 Q a w fun a' W q'=>(∃ g2 g3 v u,Sl a' 23 (.func (.func 130) #[] #[Pq g3 0,Pq g2 0]) ∧ Held w W (rT g3 g2 u v l rs))->q':=by
 refine bU fun hend=>?_;unfold Sl at o0 o6;have HC:=LH (aDs A B c d l rs hll hrl w hva hvb);clear hva hvb hll hrl;obtain ⟨n,hn⟩:∃ n,Hid (l.length=n):=⟨_,LH rfl⟩;obtain ⟨m,hm⟩:∃ n,Hid (rs.length=n):=⟨_,LH rfl⟩;rw [hn.out] at o0 HC;rw [hm.out] at o6 HC;go_wp2_with fail
 refine HC.out.mono ?_;rintro e w1 ⟨g2,g3,v,u,rfl,S1⟩;have S1:=LH S1;go_wp2_with fail
 rw [<- hn.out,<- hm.out] at S1
 try simp only [Act.put]
 exact hend _ _ tS (⟨g2,g3,v,u,cH,S1.out⟩)
theorem bAf{rl nn:Nat}(w0:World)(x:Bs)(hx32:x.length=32)(L:List Res)(S:Held w0 w L)(hsz:a.tmps.size=31)(o25:Sl a 25 (.agg (aA x)))
 (hend:∀ a' W,Same a a' [10]->(∃ g,Sl a' 10 (Pq g 0) ∧ Held w0 W (aB g 23 (aA x) :: L))->(Kp [] w W)->Q .normal a' W):(Code.region 6 (aK 6 f88).toArray false).wpIn (Fence.wide.inRound rl) nn prog Q a w:=by
 refine mS (l:=(aK 6 f88)) (by kernel_rfl) ?_
 (conv=>arg 4;whnf)
 unfold Sl at o25;have hch:Hid ((aA (x)).size=32):=LH (by rw [aC,hx32]);have Och:=LH (aI (x));obtain ⟨ch,Ech⟩:∃ cs,Hid (aA (x)=cs):=⟨_,LH rfl⟩;rw [Ech.out] at hch Och;rw [Ech.out] at o25;have S1:=LH (S.newBlk 23 (aA (List.replicate 32 0)));have T1:=LH ((Held.start w).newBlk 23 (aA (List.replicate 32 0)));clear S;go_wp2_with (refine aD rfl 23 (.tmp 10) (.tmp 25) rfl w.heap.size aE ch (aO o25) 23 _ (S1.out.at_ (l1:=[])) (by rw [hch.out];exact bBy) (by rw [hch.out];rfl) Och.out ?_;intro w7 b7 k7;have S7:=LH (Held.setBlk (l1:=[]) S1.out b7 k7);have T7:=LH (Held.setBlk (l1:=[]) T1.out b7 k7);clear b7 k7)
 rw [<- Ech.out] at S7
 try simp only [Act.put]
 exact ⟨rfl,hend _ _ sS (⟨_,cH,S7.out⟩) (T7.out.k)⟩
theorem bAs{rl nn:Nat}(w0:World)(g8 g10 q:Nat)(hq:q<=1000000)(u:Value)(xs:List Value)(x:Bs)(hx32:x.length=32)(L:List Res)(S:Held w0 w (aG 23 32 u q xs :: aB g8 29 #[u] :: aB g10 23 (aA x) :: L))(hsz:a.tmps.size=31)(o8:Sl a 8 (Pq g8 0))(o10:Sl a 10 (Pq g10 0))
 (hend:∀ a' W,Same a a' [26,27,28,29]->(∃ v,Held w0 W (aG 23 32 v (q+1) (xs ++ bv x) :: aB g8 29 #[v] :: aB g10 23 (aA x) :: L))->Q .normal a' W):(Code.region 7 (aK 7 f88).toArray false).wpIn (Fence.wide.inRound rl) nn prog Q a w:=by
 refine mS (l:=(aK 7 f88)) (by kernel_rfl) ?_
 (conv=>arg 4;whnf)
 unfold Sl at o8 o10;have hch9:Hid ((aA x).toList=bv x):=LH rfl;have hch:Hid ((aA (x)).size=32):=LH (by rw [aC,hx32]);have Och:=LH (aI (x));obtain ⟨ch,Ech⟩:∃ cs,Hid (aA (x)=cs):=⟨_,LH rfl⟩;rw [Ech.out] at hch Och;rw [Ech.out] at hch9 S;obtain ⟨Au,cu,rfl,-,-⟩:=aS (show Ow w 23 32 u q xs from S.at_ (l1:=[]));have c0:w.cell? ⟨g8,0,none⟩=some (.slice Au q cu):=(show aM w g8 29 _ from S.at_ (l1:=[_])).cell 0;have HB:=LH (show aM w g10 23 ch from S.at_ (l1:=[_,_]));have S1:=LH (S.alloc (.cells ch 23));have HN:=LH (Rd.of_own (cZ w 23 32 1 ch (by rw [hch.out]) (by decide)));have hb1:Hid (q+1<=maxLen ∧ (q+1) * 32<=140737488355328):=LH (by unfold maxLen;omega);clear S hq
 go_wp2_with (first
  |(refine aQ rfl 23 (.tmp 10) rfl g10 (aO o10) 23 _ HB.out _ underlying23 rfl (by rw [hch.out];exact bBy) ?_)
  |(refine lC rfl (.tmp 27) rfl ch hch.out aE ?_)
  |(at_builtin;refine cY rfl (.tmp 26) (.tmp 28) 29 23 rfl bC8 underlying29 rfl (by decide) (.slice Au q cu) q xs aE S1.out (.slice (some ⟨w.heap.size,0,none⟩) 1 1) 1 ch.toList aE HN.out Och.out hb1.out.1 hb1.out.2 ?_;intro v2 w2 S3;obtain ⟨A2,c2,hv2,-,-⟩:=aS (show Ow w2 23 32 v2 (q+1) _ from S3.at_ (l1:=[]));subst hv2;have c33:w2.cell? ⟨g8,0,none⟩=some (.slice Au q cu):=(show aM w2 g8 29 _ from S3.at_ (l1:=[_])).cell 0;have f33:=(show aM w2 g8 29 _ from S3.at_ (l1:=[_])).frozen 0;have S4:=LH (S3.set (l1:=[_]) 0 (.slice A2 (q+1) c2));clear S3))
 rw [hch9.out] at S4;rw [<- Ech.out] at S4
 try simp only [Act.put]
 exact ⟨rfl,hend _ _ sS (⟨_,S4.out⟩)⟩
theorem bBi(g8:Nat)(u:Value)(hu:∃ A n c,u=.slice A n c)(hb:aM w g8 29 #[u])(hsz:a.tmps.size=31)(o8:Sl a 8 (Pq g8 0)):bK 8 f88 Q a w fun a' q'=>Sl a' 4 (u)->Sl a' 5 (.int .i64 (0:Int))->q':=by
 obtain ⟨A,n,c,rfl⟩:=hu;have c0:w.cell? ⟨g8,0,none⟩=some (.slice A n c):=hb.cell 0;clear hb;exact rO
end
section
open Go.RowKit Go.Shelf
theorem Held.meet{w0 W:World}{R L L':List Res}(S:Held w0 W L)(T:Held w0 W (R ++ L'))(h:∀ r ∈ R,∀ s ∈ L,∀ b,b ∈ r.fp->b ∉ s.fp):Held w0 W (R ++ L):=
 ⟨S.k,fun r hr=>(List.mem_append.1 hr).elim (fun h=>T.ok r (List.mem_append_left _ h)) (S.ok r),fun r hr=>(List.mem_append.1 hr).elim (fun h=>T.base r (List.mem_append_left _ h)) (S.base r),
  List.pairwise_append.2 ⟨(List.pairwise_append.1 T.apart).1,S.apart,fun r hr s hs b hb hb'=>h r hr s hs b hb hb'⟩⟩
theorem oN{W:World}{l:Nat}{o:Obj}(hl:W.heap[l]?=some o)(ho:o.isCells=false){s:Res}(hc:jU s)(hs:s.ok W):l ∉ s.fp:=fun hm=>by
 obtain ⟨o',h1,h2⟩:=hc W hs l hm;rw [hl] at h1
 cases h1;rw [ho] at h2
 cases h2
theorem blk_row{W:World}{g:Nat}{t e:TypeId}{cs:Array Value}{s n:Nat}{v:Value}{xs:List Value}(hb:(aB g t cs).ok W)(hr:(aG e s v n xs).ok W)(hne:e ≠ t):∀ b,b ∈ (aB g t cs).fp->b ∉ (aG e s v n xs).fp:=fun b hb1 hb2=>by
 have e1:b=g:=by simpa [aB] using hb1
 subst e1;have e2:v.ownBlock=some b:=by simpa [aG] using hb2
 rcases (show Ow W e s v n xs from hr).2 with ⟨rfl,_⟩|⟨g2,cap,cur,rfl,_,hg,_⟩
 . simp [Value.ownBlock] at e2
 . have e3:g2=b:=by simpa [Value.ownBlock] using e2
   subst e3;have h1:=(show W.heap[g2]?=some (.cells cs t) from hb).symm.trans hg
   injection h1 with h1
   injection h1 with h1 h2
   exact hne h2.symm
theorem aKd{W:World}{g g':Nat}{t t':TypeId}{cs cs':Array Value}(hb:(aB g t cs).ok W)(hr:(aB g' t' cs').ok W)(hne:t' ≠ t):∀ b,b ∈ (aB g t cs).fp->b ∉ (aB g' t' cs').fp:=fun b hb1 hb2=>by
 have e1:b=g:=by simpa [aB] using hb1
 have e2:b=g':=by simpa [aB] using hb2
 subst e1;subst e2;have h1:=(show W.heap[b]?=some (.cells cs t) from hb).symm.trans (show W.heap[b]?=some (.cells cs' t') from hr)
 injection h1 with h1
 injection h1 with h1 h2
 exact hne h2.symm
def AC (R:List Res):Prop:=∀ r ∈ R,jU r
theorem AC.nil:AC []:=fun r h=>by cases h
theorem AC.row{R:List Res}{e:TypeId}{s:Nat}{v:Value}{n:Nat}{xs:List Value}(h:AC R):AC (aG e s v n xs :: R):=fun r hr=>by
 rcases List.mem_cons.1 hr with rfl|hr
 . exact oK _ _ _ _ _
 . exact h r hr
theorem AC.blk{R:List Res}{g:Nat}{t:TypeId}{cs:Array Value}(h:AC R):AC (aB g t cs :: R):=fun r hr=>by
 rcases List.mem_cons.1 hr with rfl|hr
 . exact kZ _ _ _
 . exact h r hr
def dH (m:Int) (l:List (List UInt8)):List (List UInt8):=(oB m l.length).map fun r=>bJ ((l.drop r.1).take (r.2 - r.1))
theorem aZn{m:Int}{n:Nat}:∀ r ∈ oB m n,r.1 < r.2 ∧ r.2<=n:=by
 intro r hr
 by_cases h:m<=0 ∨ (n:Int) < m
 . rw [lF h] at hr
   cases hr
 . obtain ⟨k,rfl⟩:∃ k:Nat,m=k:=⟨m.toNat,by omega⟩;rw [lE (by omega) (by omega)] at hr;have:=qD 65 k 0 n true (by omega) (by omega) r hr
   omega
theorem zL(m:Int)(l:List (List UInt8)):(dH m l).length=(oB m l.length).length:=by simp [dH]
theorem xS{m:Int}{l:List (List UInt8)}(hok:dP l):dP (dH m l):=by
 intro h hh;obtain ⟨r,-,rfl⟩:=List.mem_map.1 hh;exact bS ((hok.drop r.1).take (r.2 - r.1))
abbrev pvL (g8:Nat) (u:Value) (hs:List (List UInt8)) (v:Value) (rs:List (Nat × Nat)) (R:List Res):List Res:=aG 23 32 u hs.length (dA hs) :: aB g8 29 #[u] :: aG 176 2 v rs.length (kU rs) :: R
theorem aGo(hs:List (List UInt8))(x:Bs):dA (hs ++ [x])=dA hs ++ bv x:=by simp [dA]
theorem aAl(A:Option Addr)(c:Nat)(l:List (List UInt8))(hok:dP l)(hl:l.length<=1000000)(m:Int)(w:World)(hv:Rd w 32 (.slice A l.length c) l.length (dA l)):
 Calls prog 88 #[.slice A l.length c,.int .i64 m] w fun e w'=>∃ v,e=.returned (.tuple #[v,.int .i64 (if m < 0 ∨ (l.length:Int) < m then 4 else 0)]) ∧ Held w w' [aG 23 32 v (dH m l).length (dA (dH m l))]:=by
 refine vY func88 rfl 31 rfl (fun a0 hsz hdf hAr=>?_);have hz0:a0.tmps.size=31:=hsz;have D:=hdf;have o0:=hAr 0 _ rfl;have o1:=hAr 1 _ rfl;refine wp_seq (bB2 hz0 (fun a1 hs1 o4 o5=>?_));obtain ⟨hz1,D,o0,o1⟩:=dU hs1 hz0 D o0 o1;refine wp_seq (bAc A l.length c (by omega) m hz1 o0 o1 (fun a2 w2 hs2 h2=>?_));obtain ⟨hz2,D,o0,o4,o5⟩:=dF hs2 hz1 D o0 o4 o5;obtain ⟨vs,o6,o7,S⟩:=h2;refine wp_seq (wp_seq (bB0 _ hz2 o7 (fun a3 hs3 o19=>?_)));obtain ⟨hz3,D,o0,o6,o7⟩:=dF hs3 hz2 D o0 o6 o7
 by_cases hbad:m < 0 ∨ (l.length:Int) < m
 . rw [if_pos hbad] at o7 o19 ⊢;refine cS o19 ?_;refine wp_seq (bAm _ hz3 o7 (fun a4 hs4 o4 o5=>?_));obtain ⟨hz4,D,o7⟩:=eY hs4 hz3 D o7;refine wp_ret ?_;simp only [Exit.then];have hno:dH m l=[]:=by unfold dH;rw [lF (by omega)];rfl
   refine aEa [] D List.nodup_nil (fun D hD=>by cases hD) (fun V kV=>?_);refine ⟨_,gH (by rfl) (o4.eval (by rw [hz4];decide)) (o5.eval (by rw [hz4];decide)),_,rfl,?_⟩;rw [hno];exact (Held.start w).rownew (World.ownsRow_nil _ _ _ _:Ow V 23 32 (.slice none 0 0) 0 []) (S.k.trans kV (by simp)) (fun g hg=>by cases hg)
 . rw [if_neg hbad] at o7 o19 ⊢;refine dD o19 (wp_skip ?_);simp only [Exit.then];refine wp_seq (bAi w _ S hz3 (fun a4 w4 hs4 h4=>?_));obtain ⟨hz4,D,o0,o6⟩:=dU hs4 hz3 D o0 o6;obtain ⟨g8,o8,S⟩:=h4;obtain ⟨st,hst⟩:∃ st,oB m (l.length:Int)=st:=⟨_,rfl⟩;have hstl:st.length<=65:=by rw [<- hst];exact tM m l.length
   have hsti:∀ r ∈ st,r.1 < r.2 ∧ r.2<=l.length:=by rw [<- hst];exact aZn
   have hprv:dH m l=st.map fun r=>bJ ((l.drop r.1).take (r.2 - r.1)):=by unfold dH;rw [hst]
   rw [hst] at S;obtain ⟨B,d,rfl,-,-⟩:=aS (show Ow w4 176 2 vs st.length (kU st) from S.at_ (l1:=[_]));refine wp_seq (wp_seq (bBe A B c d l st hl (by omega) (aT hv S.k) (Rd.of_own (S.at_ (l1:=[_]))) hz4 o0 o6 (fun a5 w5 hs5 h5=>?_)));obtain ⟨hz5,D,o8⟩:=eY hs5 hz4 D o8;obtain ⟨gh,gr,v,u,o23,T⟩:=h5;obtain ⟨A1,c1,rfl,-,-⟩:=aS (show Ow w5 176 2 u st.length (kU st) from T.at_ (l1:=[_,_]));obtain ⟨B1,d1,rfl,-,-⟩:=aS (show Ow w5 23 32 v l.length (dA l) from T.at_ (l1:=[_,_,_]));have S:=S.join T;have S:=S.rownew (World.ownsRow_nil _ _ _ _:Ow w5 23 32 (.slice none 0 0) 0 []) kR (fun g hg=>by cases hg);have HP:Held w w5 (rT gr gh (.slice A1 st.length c1) (.slice B1 l.length d1) l st):=S.drop.drop.drop;have S:Held w w5 (pvL g8 (.slice none 0 0) [] (.slice B st.length d) st (rT gr gh (.slice A1 st.length c1) (.slice B1 l.length d1) l st)):=S;clear T;have hwb:=S.k.size;have HC:=LH (fD.of S);have hcell:∀ (g8:Nat) (u:Value) (hs:List (List UInt8)),fD w5.heap.size (pvL g8 u hs (.slice B st.length d) st (rT gr gh (.slice A1 st.length c1) (.slice B1 l.length d1) l st)):=fun g8 u hs=>fD.nil.row.row.blk.blk.row.blk.row
   have hobj:∀ (x:DX) (R:List Res),w5.heap.size+1 < x.lo ∧ w5.heap.size+1 < x.D->AC R->kQ (w5.heap.size+1) (fun W=>Held w W (x.lst R)):=fun x R hne hR=>Held.staysL (by omega) (fun W o SW ho hoc r hr=>by
    rcases List.mem_cons.1 hr with rfl|hr
    . have:=hne.1
      simp [jZ]
      omega
    rcases List.mem_cons.1 hr with rfl|hr
    . have:=hne.2
      simp [jZ]
      omega
    . exact oN ho hoc (by rcases List.mem_cons.1 hr with rfl|hr;exact kZ _ _ _;exact hR r hr) (SW.ok r (by simp [DX.lst,hr])))
   refine wp_block ?_
   (conv=>arg 2;whnf)
   refine aD6 (n:=3) (ps:=#[24,25]) (gf:=130) (lb:=#[Pq gr 0,Pq gh 0]) (o23.eval (by rw [hz5];decide)) (enters_of func130 (by kernel_rfl) rfl) (encs:=DX.encs) (Z:=DX.Z w (rT gr gh (.slice A1 st.length c1) (.slice B1 l.length d1) l st)) (X:=DX.X w l st (rT gr gh (.slice A1 st.length c1) (.slice B1 l.length d1) l st)) (S:=fun xs=>xs.length=st.length) (N:=st.length) (aU7 w gr gh A1 B1 c1 d1 l st hok (by omega) hsti w5 HP _) ?hZ (fun _=>rfl)
    (fun pre W=>∃ u,Held w W (pvL g8 u ((dH m l).take pre.length) (.slice B st.length d) st (rT gr gh (.slice A1 st.length c1) (.slice B1 l.length d1) l st))) ?hI ?h0
    (fun pre x W=>(dH m l)[pre.length]?=some x.h ∧ (w5.heap.size+1 < x.lo ∧ w5.heap.size+1 < x.D) ∧ ∃ u,Held w W (x.lst (pvL g8 u ((dH m l).take pre.length) (.slice B st.length d) st (rT gr gh (.slice A1 st.length c1) (.slice B1 l.length d1) l st)))) ?hI' ?hprep
    (fun T pre x a' W=>(dH m l)[pre.length]?=some x.h ∧ (w5.heap.size+1 < x.lo ∧ w5.heap.size+1 < x.D) ∧ ∃ u g10,a'.tmps.size=31 ∧ a'.defers=[] ∧ Sl a' 8 (Pq g8 0) ∧ Sl a' 10 (Pq g10 0) ∧ Held w W (x.lst (aB g10 23 (aA x.h) :: pvL g8 u ((dH m l).take pre.length) (.slice B st.length d) st (rT gr gh (.slice A1 st.length c1) (.slice B1 l.length d1) l st)))) ?hA ?assign ?body ?done
   case hZ=>
    rintro x W W' ⟨hne,SW⟩ hk;exact ⟨hne,hobj x _ hne AC.nil.row.row.blk.blk W W' SW hk⟩
   case hI=>exact fun pre=>cW.ex fun u=>Held.stays hwb (hcell _ _ _)
   case h0=>exact ⟨_,S⟩
   case hI'=>
    rintro pre x W W' ⟨e,hne,u,SW⟩ hk;exact ⟨e,hne,u,hobj x _ hne AC.nil.row.row.blk.blk.row.blk.row W W' SW hk⟩
   case hprep=>
    rintro pre x W0 W1 ⟨u,S⟩ k ⟨hx,hxh,⟨hoc,hdc⟩,hne,T⟩ hlen;have hx':(dH m l)[pre.length]?=some x.h:=by rw [hprv,List.getElem?_map,hx,hxh];rfl
    refine ⟨hx',hne,u,?_⟩;refine Held.kp ?_ k;have hAC:AC (pvL g8 u ((dH m l).take pre.length) (.slice B st.length d) st (rT gr gh (.slice A1 st.length c1) (.slice B1 l.length d1) l st)):=AC.nil.row.row.blk.blk.row.blk.row;refine Held.meet (R:=[jZ x.lo x.o,jZ x.D x.d,aB x.g3 190 #[.func (.yield x.y) #[] #[]]]) S T (fun r hr s hs b hb=>?_);rcases List.mem_cons.1 hr with rfl|hr
    . obtain rfl:b=x.lo:=by simpa [jZ] using hb
      exact oN (T.ok (jZ x.lo x.o) (by simp [DX.lst])) hoc (hAC s hs) (S.ok s hs)
    rcases List.mem_cons.1 hr with rfl|hr
    . obtain rfl:b=x.D:=by simpa [jZ] using hb
      exact oN (T.ok (jZ x.D x.d) (by simp [DX.lst])) hdc (hAC s hs) (S.ok s hs)
    obtain rfl:=List.mem_singleton.1 hr
    have hg:=T.ok (aB x.g3 190 #[.func (.yield x.y) #[] #[]]) (by simp [DX.lst]);have hs0:=S.ok s hs;rcases List.mem_cons.1 hs with rfl|hs
    . exact blk_row hg hs0 (by decide) b hb
    rcases List.mem_cons.1 hs with rfl|hs
    . exact aKd hg hs0 (by decide) b hb
    rcases List.mem_cons.1 hs with rfl|hs
    . exact blk_row hg hs0 (by decide) b hb
    have T2:Held w W0 ([jZ x.lo x.o,jZ x.D x.d,aB x.g3 190 #[.func (.yield x.y) #[] #[]]] ++ rT gr gh (.slice A1 st.length c1) (.slice B1 l.length d1) l st):=T;exact (List.pairwise_append.1 T2.apart).2.2 _ (by simp) s hs b hb
   case hA=>
    rintro pre x a' W W' ⟨e,hne,u,g10,h1,h2,h3,h4,SW⟩ hk;exact ⟨e,hne,u,g10,h1,h2,h3,h4,hobj x _ hne AC.nil.row.row.blk.blk.row.blk.row.blk W W' SW hk⟩
   case assign=>
    rintro pre x W ⟨hx,hne,u,S⟩ K hK
    have hfr:((#[24,25]:Array Nat).zip (DX.encs x)).foldl (fun t (p,v)=>t.setIfInBounds p v) a5.tmps=(a5.tmps.setIfInBounds 24 (.agg #[.int .i64 (x.r.1:Int),.int .i64 (x.r.2:Int)])).setIfInBounds 25 (.agg (aA x.h)):=by
     rw [<- Array.foldl_toList,Array.toList_zip]
     rfl
    rw [hfr];clear hfr;obtain ⟨a6,ha6⟩:∃ a6:Act,({ tmps:=(a5.tmps.setIfInBounds 24 (.agg #[.int .i64 (x.r.1:Int),.int .i64 (x.r.2:Int)])).setIfInBounds 25 (.agg (aA x.h)),defers:=[] }:Act)=a6:=⟨_,rfl⟩;rw [ha6];obtain ⟨hz6,D6,hkeep,o24,o25⟩:=aA4 (by decide) a6 ha6.symm;clear ha6;have hz6:=hz6.trans hz5;refine bAf w x.h (xS hok _ (List.mem_of_getElem? hx)) _ S hz6 o25 (fun a7 w7 hs7 h7 k7=>?_);obtain ⟨g10,o10,S7⟩:=h7;unfold DX.lst at S7;exact hK _ _ k7 ⟨hx,hne,u,g10,hs7.size.trans hz6,hs7.defers.trans D6,hs7.q (hkeep 8 _ (by decide) o8),o10,((S7.pull 3 rfl).pull 3 rfl).pull 3 rfl⟩
   case body=>
    rintro pre x a6 W6 - ⟨hx,hne,u,g10,hz6,D6,o8,o10,S⟩ hlen ⟨o,ho,hoc⟩ ⟨d0,hd,hdc⟩;have hAC:AC (aB x.g3 190 #[.func (.yield x.y) #[] #[]] :: aB g10 23 (aA x.h) :: pvL g8 u ((dH m l).take pre.length) (.slice B st.length d) st (rT gr gh (.slice A1 st.length c1) (.slice B1 l.length d1) l st)):=AC.nil.row.row.blk.blk.row.blk.row.blk.blk
    have hno:∀ (k:Nat) (o:Obj),k < x.lo->k < x.D->W6.heap[k]?=some o->o.isCells=false->∀ r ∈ x.lst (aB g10 23 (aA x.h) :: pvL g8 u ((dH m l).take pre.length) (.slice B st.length d) st (rT gr gh (.slice A1 st.length c1) (.slice B1 l.length d1) l st)),k ∉ r.fp:=fun k o h1 h2 ho hoc r hr=>by
     have hr0:=hr;rcases List.mem_cons.1 hr with rfl|hr
     . exact fun hm=>by
        have:=List.mem_singleton.1 hm
        omega
     rcases List.mem_cons.1 hr with rfl|hr
     . exact fun hm=>by
        have:=List.mem_singleton.1 hm
        omega
     exact oN ho hoc (hAC r hr) (S.ok r hr0)
    have S1:=S.withObj (l:=w5.heap.size) (by omega) hd (hno _ _ (by omega) (by omega) hd hdc)
    have S2:=S1.withObj (l:=w5.heap.size+1) (by omega) ho (fun r hr=>by
     rcases List.mem_cons.1 hr with rfl|hr
     . exact fun hm=>by
        have:=List.mem_singleton.1 hm
        omega
     . exact hno _ _ (by omega) (by omega) ho hoc r hr)
    unfold DX.lst at S2;have S3:=((((((((S2.pull 4 rfl).pull 4 rfl).pull 4 rfl).pull 4 rfl).pull 4 rfl).pull 5 rfl).pull 7 rfl).pull 7 rfl);have hql:((dH m l).take pre.length).length<=1000000:=by rw [List.length_take];omega
    have hlen2:((dH m l).take pre.length) ++ [x.h]=(dH m l).take (pre ++ [x]).length:=by
     rw [List.length_append,List.length_singleton,List.take_add_one,hx]
     rfl
    refine wpIn_block ?_
    (conv=>arg 4;whnf)
    refine bAs w g8 g10 _ hql u _ x.h (xS hok _ (List.mem_of_getElem? hx)) _ S3 hz6 o8 o10 (fun a7 w7 hs7 h7=>?_);obtain ⟨v2,S7⟩:=h7;simp only [Exit.inBlock,Exit.then];have S8:=S7.drop.drop.drop;rw [<- aGo,show ((dH m l).take pre.length).length+1=((dH m l).take pre.length ++ [x.h]).length by simp,hlen2] at S7;refine ⟨S8.same2 ho hd,⟨hne,S8.drop.drop.sub ?_⟩,v2,S7.sub ?_⟩
    . exact .cons_cons _ (.cons_cons _ (.cons_cons _ (.cons _ (List.Sublist.refl _))))
    . exact .cons_cons _ (.cons_cons _ (.cons _ (.cons _ (.cons _ (.cons _ (.cons _ (.cons _ (List.Sublist.refl _))))))))
   case done=>
    rintro xs W hS ⟨u,S⟩ hD;simp only [Exit.inBlock,Exit.then];have hfull:(dH m l).take xs.length=dH m l:=List.take_of_length_le (by rw [hS,hprv,List.length_map];exact Nat.le_refl _);rw [hfull] at S;obtain ⟨Au,cu,rfl,-,-⟩:=aS (show Ow W 23 32 u (dH m l).length (dA (dH m l)) from S.at_ (l1:=[]));obtain ⟨a6,ha6⟩:∃ a6:Act,({ a5 with defers:=gV w5.heap.size :: a5.defers }:Act)=a6:=⟨_,rfl⟩;have hz6:a6.tmps.size=31:=by rw [<- ha6];exact hz5
    have D6:a6.defers=[gV w5.heap.size]:=by rw [<- ha6];show gV _ :: a5.defers=_;rw [D]
    have o86:Sl a6 8 (Pq g8 0):=by rw [<- ha6];exact o8
    rw [ha6];refine wp_seq (bBi g8 _ ⟨_,_,_,rfl⟩ (S.at_ (l1:=[_])) hz6 o86 (fun a7 hs7 o4 o5=>?_));have hz7:=hs7.size.trans hz6;refine wp_ret ?_;exact aBl w5.heap.size (hs7.defers.trans D6) hD ⟨_,gH (by rfl) (o4.eval (by rw [hz7];decide)) (o5.eval (by rw [hz7];decide)),_,rfl,(Held.stays hwb (fD.nil.row)).put (S.sub (.cons_cons _ (List.nil_sublist _))) _ (Nat.le_refl _) hD rfl⟩
end
section
open Go.RowKit Go.Shelf
attribute [local go_sem] Oper.semAt_some
end
section
variable {Q:Exit->Act->World->Prop} {a:Act} {w:World}
open Go.RowKit Go.Shelf
attribute [local go_sem] Oper.semAt_some
def dO (k0 k1 e h:Value) (la:List Value) (nd:Bool) (fk:List Value) (fd md:Bool):Array Value:=(k0 :: k1 :: e :: h :: (la ++ .bool nd :: (fk ++ [.bool fd,.bool md]))).toArray
section
variable {k0 k1 e h:Value} {la:List Value} {nd:Bool} {fk:List Value} {fd md:Bool}
theorem qF(h1:la.length=34)(h2:fk.length=101):(dO k0 k1 e h la nd fk fd md).size=142:=by simp [dO,h1,h2]
theorem pL:(dO k0 k1 e h la nd fk fd md)[2]?=some e:=by simp [dO]
theorem uR:(dO k0 k1 e h la nd fk fd md)[3]?=some h:=by simp [dO]
theorem aAf:(dO k0 k1 e h la nd fk fd md)[0]?=some k0:=by simp [dO]
theorem aAi:(dO k0 k1 e h la nd fk fd md)[1]?=some k1:=by simp [dO]
theorem aNu(h1:la.length=34){j:Nat}{u:Value}(hj:la[j]?=some u):(dO k0 k1 e h la nd fk fd md)[j+4]?=some u:=by
 have:=(List.getElem?_eq_some_iff.1 hj).1
 simp only [dO,List.getElem?_toArray,List.getElem?_cons_succ];rw [List.getElem?_append_left (by omega)];exact hj
theorem oX(h1:la.length=34):(dO k0 k1 e h la nd fk fd md)[38]?=some (.bool nd):=by
 simp only [dO,List.getElem?_toArray,List.getElem?_cons_succ];rw [List.getElem?_append_right (by omega),h1]
 rfl
theorem aJe(h1:la.length=34)(h2:fk.length=101){j:Nat}{u:Value}(hj:fk[j]?=some u):(dO k0 k1 e h la nd fk fd md)[j+39]?=some u:=by
 have:=(List.getElem?_eq_some_iff.1 hj).1
 simp only [dO,List.getElem?_toArray,List.getElem?_cons_succ];rw [List.getElem?_append_right (by omega),h1,show j+35 - 34=j+1 by omega,List.getElem?_cons_succ,List.getElem?_append_left (by omega)];exact hj
theorem oQ(h1:la.length=34)(h2:fk.length=101):(dO k0 k1 e h la nd fk fd md)[140]?=some (.bool fd):=by
 simp only [dO,List.getElem?_toArray,List.getElem?_cons_succ];rw [List.getElem?_append_right (by omega),h1,List.getElem?_cons_succ,List.getElem?_append_right (by omega),h2]
 rfl
theorem pC(h1:la.length=34)(h2:fk.length=101):(dO k0 k1 e h la nd fk fd md)[141]?=some (.bool md):=by
 simp only [dO,List.getElem?_toArray,List.getElem?_cons_succ];rw [List.getElem?_append_right (by omega),h1,List.getElem?_cons_succ,List.getElem?_append_right (by omega),h2]
 rfl
end
theorem bCv:prog.built 25 []=some (cL 0 (List.replicate 32 0)):=by kernel_rfl
theorem aY2(w0:World)(sv:Value)(A:Option Addr)(n c:Nat)(L:List Res)(S:Held w0 w L)(hsz:a.tmps.size=13)(o0:Sl a 0 (.agg #[sv,.slice A n c])):bC false 0 f30 Q a w fun a' W q'=>(∃ g,Sl a' 1 (Pq g 0) ∧ Held w0 W (aB g 34 #[sv,.slice A n c] :: L))->q':=by
 refine bU fun hend=>?_;unfold Sl at o0;have S1:=LH (S.newBlk 34 #[sv,.slice A n c]);go_wp2
 try simp only [Act.put]
 exact hend _ _ tS (⟨w.heap.size,cH,S1.out⟩)
theorem aYf(w0:World)(g1:Nat)(sv:Value)(hsv:∃ s,sv=.string s)(A:Option Addr)(n c:Nat)(x:Bs)(hx32:x.length=32)(cd:Int)(hb:aM w g1 34 #[sv,.slice A n c])(HC0:Calls prog 69 #[.agg (cL 0 (List.replicate 32 0)),.agg #[sv,.slice A n c]] w fun e w'=>e=.returned (.tuple #[.agg (aA x),.int .i64 cd]) ∧ Kp [] w w')(L:List Res)(S:Held w0 w L)(hsz:a.tmps.size=13)(o1:Sl a 1 (Pq g1 0)):bC false 1 f30 Q a w fun a' W q'=>Sl a' 4 (.int .i64 cd)->(Held w0 W L)->q':=by
 refine bU fun hend=>?_;unfold Sl at o1;have hch:Hid ((aA (x)).size=32):=LH (by rw [aC,hx32]);have Och:=LH (aI (x));obtain ⟨ch,Ech⟩:∃ cs,Hid (aA (x)=cs):=⟨_,LH rfl⟩;rw [Ech.out] at hch Och;rw [Ech.out] at HC0;have HB:=LH bCv;obtain ⟨cp,hcp⟩:∃ cp,Hid (cL 0 (List.replicate 32 0)=cp):=⟨_,LH rfl⟩;rw [hcp.out] at HC0 HB;have HC:=LH HC0;clear HC0;obtain ⟨s,rfl⟩:=hsv;obtain ⟨q1,q2,q3,q4⟩:=aM.c2 hb;clear hb;have S:=LH S;refine iB rfl 25 _ rfl [] (by simp) _ HB.out ?_;go_wp2_with fail
 refine HC.out.mono ?_;rintro e w1 ⟨rfl,k1⟩;have S1:=LH ((S.out.kp k1).newBlk 23 (aA (List.replicate 32 0)));clear k1;go_wp2_with (refine aD rfl 23 (.tmp 3) (.tmp 9) rfl w1.heap.size aE ch aE 23 _ (S1.out.at_ (l1:=[])) (by rw [hch.out];exact bBy) (by rw [hch.out];rfl) Och.out ?_;intro w7 b7 k7;have S7:=LH (Held.setBlk (l1:=[]) S1.out b7 k7);clear b7 k7)
 try simp only [Act.put]
 exact hend _ _ tS sP (S7.out.drop)
theorem aPa(cd:Int)(hsz:a.tmps.size=13)(o4:Sl a 4 (.int .i64 cd)):bK 2 f30 Q a w fun a' q'=>Sl a' 2 (.bool (cd == 0))->q':=rO
theorem tO(nm:Bs)(hnm:nm.length<=9223372036854775807)(A:Option Addr)(c:Nat)(sec:Bs)(w:World)(LDw:LD w)(hv:Rd w 1 (.slice A sec.length c) sec.length (bv sec)):
 Calls prog 30 #[.agg #[bX nm,.slice A sec.length c]] w fun e w'=>e=.returned (.bool (cR nm sec)) ∧ Kp [] w w':=by
 refine aR func30 rfl 13 rfl (fun a0 hsz hdf hAr=>?_);have hz0:a0.tmps.size=13:=hsz;have D:=hdf;have o0:=hAr 0 _ rfl;refine wp_seq (aY2 w _ A sec.length c [] (Held.start w) hz0 o0 (fun a1 w1 hs1 h1=>?_));obtain ⟨hz1,D⟩:=dS hs1 hz0 D;obtain ⟨g1,o1,S⟩:=h1;have HC:=aC2 0 (by omega) (List.replicate 32 0) (by simp) ⟨nm.toArray⟩ (by rw [iX];exact hnm) A c sec w1 (LDw.kp S.k) (aT hv S.k);refine wp_seq (aYf w g1 (bX nm) ⟨_,rfl⟩ A sec.length c _ (by unfold jQ;split;exact rE _ _;simp) _ (S.at_ (l1:=[])) HC _ S hz1 o1 (fun a2 w2 hs2 o4 S=>?_));obtain ⟨hz2,D⟩:=dS hs2 hz1 D;refine wp_seq (aPa _ hz2 o4 (fun a3 hs3 o2=>?_));obtain ⟨hz3,D⟩:=dS hs3 hz2 D;refine wp_ret ?_;refine bodyPost_ret (bA (by rfl) (o2.eval (by rw [hz3];decide))) D ⟨?_,S.k⟩;have e:dV 0 nm sec=cR nm sec:=by simp [dV]
 show Ending.returned (.bool ((if dV 0 (nm.toArray).toList sec then (0:Int) else 2) == 0))=_
 rw [List.toList_toArray,e]
 cases cR nm sec <;> rfl
end
end Go.Proofs.YtmkfopmdingaoaaGreatDoor
