/- Several texts in one: Sq, CrcM, CrcA, CrcB, CrcC, ShaM, TreM, ShaN, ShaA, CrcD, CrcE, SpM, PtM, Texts, Equal, WireA, WireB, WireC, WireD, WireR, WireS, Txt, Fence, Range, Marks, PtA, ShaB, ShaC, PtD, PtB, PtC, ShaD, ShaR, ShaF. -/
import Derived.Test.YtmkfopmdingaoaaGreatDoorRows
import Derived.Laws.BitsAllLaws
import Derived.RangeFuncNested
import Derived.RangeFuncBound
import Derived.RangeFuncCalls
import Derived.RangeFuncLeaves
import Derived.Shelf.Abstract
import Derived.Shelf.RegionOpen
import Derived.WalkKit
import Derived.OwnWalkIn
import Derived.TacticsInMore
import Derived.LoopNIn
import Derived.LoopN
import Derived.LoopIn
import Derived.Laws.Tables
import Derived.Great.BuildSlice
import Derived.Lib.Strings
import Derived.Test.YtmkfopmdingaoaaGreatDoorP1
set_option linter.unusedVariables false
set_option linter.unusedSimpArgs false
set_option maxRecDepth 100000
set_option maxHeartbeats 8000000
namespace Go.Proofs.YtmkfopmdingaoaaGreatDoor
section
section
variable {vs:Nat->Value} {l:List Oper} {a A:Act} {N j:Nat} {v:Value}
theorem eV(d:Nat)(f:vs j=v)(hA:(fun vs=>putAll vs l 0 a) vs=A:=by exact hA)(hB:apartB l=true:=by exact hap)(h:a.tmps.size=N:=by exact hsz)(hd:Nat.ble (d+1) N=true:=by rfl)(e:evA vs l 0 d=some (vs j):=by kernel_rfl):A.tmps[d]?.getD undef=v:=sV d f hA hB h hd e
theorem eO(d:Nat)(o:Sl a d v)(hA:(fun vs=>putAll vs l 0 a) vs=A:=by exact hA)(hB:apartB l=true:=by exact hap)(h:a.tmps.size=N:=by exact hsz)(hd:Nat.ble (d+1) N=true:=by rfl)(e:evA vs l 0 d=none:=by kernel_rfl):A.tmps[d]?.getD undef=v:=sO d o hA hB h hd e
theorem eU(d j:Nat)(hA:(fun vs=>putAll vs l 0 a) vs=A:=by exact hA)(hB:apartB l=true:=by exact hap)(h:a.tmps.size=N:=by exact hsz)(hd:Nat.ble (d+1) N=true:=by rfl)(e:evA vs l 0 d=some (vs j):=by kernel_rfl):A.tmps[d]?.getD undef=vs j:=sU d j hA hB h hd e
theorem vD(d j:Nat)(hA:(fun vs=>putAll vs l 0 a) vs=A:=by exact hA){H C:Nat->Prop}(h:∀ j,C j->H j:=by exact hd)(c:C j:=by kernel_rfl)(f:H j->vs j=v:=by exact id)(hB:apartB l=true:=by exact hap)(hz:a.tmps.size=N:=by exact hsz)(hd:Nat.ble (d+1) N=true:=by rfl)(e:evA vs l 0 d=some (vs j):=by kernel_rfl):A.tmps[d]?.getD undef=v:=sV d (f (h j c)) hA hB hz hd e
def GV (_:Nat) (p:Prop):Prop:=p
theorem vG{d j:Nat}(hA:(fun vs=>putAll vs l 0 a) vs=A:=by exact hA){H C:Nat->Prop}(h:∀ j,C j->H j:=by exact hd)(c:C j:=by kernel_rfl)(f:H j->vs j=v:=by exact id)(hB:apartB l=true:=by exact hap)(hz:a.tmps.size=N:=by exact hsz)(hd:Nat.ble (d+1) N=true:=by rfl)(e:evA vs l 0 d=some (vs j):=by kernel_rfl):GV j (A.tmps[d]?.getD undef=v):=sV d (f (h j c)) hA hB hz hd e
end
theorem kf{G:Prop}(h:G:=by kernel_rfl):G:=h
theorem qa0{G:Prop}(k:G:=by ((try clear hA);(try clear hd);(try clear hu);go_step;(first|exact hK _ _ kR rfl|exact hK _ _ kR trivial|exact hK _ _ S rfl|exact hK _ _ S trivial|exact hK default _ _ S rfl|exact hK default _ _ S trivial|exact hK _ _ rfl S|exact hK _ _ trivial S|exact hK _ _ kR (by first|(refine congrArg Value.bool ?_;simp;done)|(refine congrArg Value.bool ?_;simp;omega)|(refine congrArg Value.bool ?_;omega))))):G:=k
theorem qa1{P1 G:Prop}(e1:P1)(k:P1->G:=by (intro _;exact qa0)):G:=k e1
theorem qa2{P1 P2 G:Prop}(e1:P1)(e2:P2)(k:P1->P2->G:=by (intro _ _;exact qa0)):G:=k e1 e2
theorem qa3{P1 P2 P3 G:Prop}(e1:P1)(e2:P2)(e3:P3)(k:P1->P2->P3->G:=by (intro _ _ _;exact qa0)):G:=k e1 e2 e3
theorem qa4{P1 P2 P3 P4 G:Prop}(e1:P1)(e2:P2)(e3:P3)(e4:P4)(k:P1->P2->P3->P4->G:=by (intro _ _ _ _;exact qa0)):G:=k e1 e2 e3 e4
theorem qa5{P1 P2 P3 P4 P5 G:Prop}(e1:P1)(e2:P2)(e3:P3)(e4:P4)(e5:P5)(k:P1->P2->P3->P4->P5->G:=by (intro _ _ _ _ _;exact qa0)):G:=k e1 e2 e3 e4 e5
theorem qB{G:Prop}(k:G:=by first|exact hK _ _ kR rfl|exact hK _ _ S rfl|exact hK default _ _ S rfl|exact hK _ _ rfl S):G:=k
section
variable {P:Program} {ops:Array Oper} {Q:Exit->Act->World->Prop} {i:Nat} {K:Act->World->Prop} {a:Act} {w:World}
theorem qS(j:Nat){d:Nat}(b:Bool)(hd:a.tmps[d]?.getD undef=.bool (!b)){o:Oper}(h:K (a.put o.dst undef) w:=by first|exact hK _ _ kR trivial|exact hK _ _ kR rfl|exact hK _ _ trivial S|exact hK _ _ rfl S)(ho:ops[i]?=some o:=by rfl)(hg:o.guard=some (j,b):=by rfl)(hj:(ops[j]?).bind (·.dst)=some d:=by rfl):wpOp P ops Q i K a w:=wpOp_skip o ho j d b hg hj hd h
theorem qT(j:Nat){d:Nat}(b:Bool)(hd:a.tmps[d]?.getD undef=undef){o:Oper}(h:K (a.put o.dst undef) w:=by first|exact hK _ _ kR trivial|exact hK _ _ kR rfl|exact hK _ _ trivial S|exact hK _ _ rfl S)(ho:ops[i]?=some o:=by rfl)(hg:o.guard=some (j,b):=by rfl)(hj:(ops[j]?).bind (·.dst)=some d:=by rfl):wpOp P ops Q i K a w:=wpOp_skipU o ho j d b hg hj hd h
theorem qG(j:Nat){d:Nat}{b:Bool}(hd:a.tmps[d]?.getD undef=.bool b){o:Oper}(h:o.wp P a w K Q)(ho:ops[i]?=some o:=by rfl)(hg:o.guard=some (j,b):=by rfl)(hj:(ops[j]?).bind (·.dst)=some d:=by rfl):wpOp P ops Q i K a w:=wpOp_go o ho j d b hg hj hd h
theorem gq0(j:Nat){d:Nat}{b:Bool}(hd:a.tmps[d]?.getD undef=.bool b){o:Oper}(ho:ops[i]?=some o:=by rfl)(hg:o.guard=some (j,b):=by rfl)(hj:(ops[j]?).bind (·.dst)=some d:=by rfl)(h:o.wp P a w K Q:=by ((conv=>arg 2;whnf);exact qa0)):wpOp P ops Q i K a w:=wpOp_go o ho j d b hg hj hd (h)
theorem gq1{P1:Prop}(j:Nat){d:Nat}{b:Bool}(hd:a.tmps[d]?.getD undef=.bool b)(e1:P1){o:Oper}(ho:ops[i]?=some o:=by rfl)(hg:o.guard=some (j,b):=by rfl)(hj:(ops[j]?).bind (·.dst)=some d:=by rfl)(h:P1->o.wp P a w K Q:=by (intro _;(conv=>arg 2;whnf);exact qa0)):wpOp P ops Q i K a w:=wpOp_go o ho j d b hg hj hd (h e1)
theorem gq2{P1:Prop}{P2:Prop}(j:Nat){d:Nat}{b:Bool}(hd:a.tmps[d]?.getD undef=.bool b)(e1:P1)(e2:P2){o:Oper}(ho:ops[i]?=some o:=by rfl)(hg:o.guard=some (j,b):=by rfl)(hj:(ops[j]?).bind (·.dst)=some d:=by rfl)(h:P1->P2->o.wp P a w K Q:=by (intro _ _;(conv=>arg 2;whnf);exact qa0)):wpOp P ops Q i K a w:=wpOp_go o ho j d b hg hj hd (h e1 e2)
theorem gq3{P1:Prop}{P2:Prop}{P3:Prop}(j:Nat){d:Nat}{b:Bool}(hd:a.tmps[d]?.getD undef=.bool b)(e1:P1)(e2:P2)(e3:P3){o:Oper}(ho:ops[i]?=some o:=by rfl)(hg:o.guard=some (j,b):=by rfl)(hj:(ops[j]?).bind (·.dst)=some d:=by rfl)(h:P1->P2->P3->o.wp P a w K Q:=by (intro _ _ _;(conv=>arg 2;whnf);exact qa0)):wpOp P ops Q i K a w:=wpOp_go o ho j d b hg hj hd (h e1 e2 e3)
theorem gq4{P1:Prop}{P2:Prop}{P3:Prop}{P4:Prop}(j:Nat){d:Nat}{b:Bool}(hd:a.tmps[d]?.getD undef=.bool b)(e1:P1)(e2:P2)(e3:P3)(e4:P4){o:Oper}(ho:ops[i]?=some o:=by rfl)(hg:o.guard=some (j,b):=by rfl)(hj:(ops[j]?).bind (·.dst)=some d:=by rfl)(h:P1->P2->P3->P4->o.wp P a w K Q:=by (intro _ _ _ _;(conv=>arg 2;whnf);exact qa0)):wpOp P ops Q i K a w:=wpOp_go o ho j d b hg hj hd (h e1 e2 e3 e4)
theorem sk{j d:Nat}{b:Bool}{o:Oper}(ho:ops[i]?=some o:=by rfl)(hg:o.guard=some (j,b):=by rfl)(hj:(ops[j]?).bind (·.dst)=some d:=by rfl)(hd:GV j (a.tmps[d]?.getD undef=.bool (!b)):=by exact vG)(h:K (a.put o.dst undef) w:=by first|exact hK _ _ kR trivial|exact hK _ _ kR rfl|exact hK _ _ trivial S|exact hK _ _ rfl S):wpOp P ops Q i K a w:=wpOp_skip o ho j d b hg hj hd h
theorem qH{j d:Nat}{b:Bool}{o:Oper}(h:o.wp P a w K Q)(ho:ops[i]?=some o:=by rfl)(hg:o.guard=some (j,b):=by rfl)(hj:(ops[j]?).bind (·.dst)=some d:=by rfl)(hd:GV j (a.tmps[d]?.getD undef=.bool b):=by exact vG):wpOp P ops Q i K a w:=wpOp_go o ho j d b hg hj hd h
theorem g0'{j d:Nat}{b:Bool}{o:Oper}(ho:ops[i]?=some o:=by rfl)(hg:o.guard=some (j,b):=by rfl)(hj:(ops[j]?).bind (·.dst)=some d:=by rfl)(hd:GV j (a.tmps[d]?.getD undef=.bool b):=by exact vG)(h:o.wp P a w K Q:=by ((conv=>arg 2;whnf);exact qa0)):wpOp P ops Q i K a w:=wpOp_go o ho j d b hg hj hd (h)
theorem g1'{P1:Prop}{j d:Nat}{b:Bool}(e1:P1){o:Oper}(ho:ops[i]?=some o:=by rfl)(hg:o.guard=some (j,b):=by rfl)(hj:(ops[j]?).bind (·.dst)=some d:=by rfl)(hd:GV j (a.tmps[d]?.getD undef=.bool b):=by exact vG)(h:P1->o.wp P a w K Q:=by (intro _;(conv=>arg 2;whnf);exact qa0)):wpOp P ops Q i K a w:=wpOp_go o ho j d b hg hj hd (h e1)
theorem g2'{P1:Prop}{P2:Prop}{j d:Nat}{b:Bool}(e1:P1)(e2:P2){o:Oper}(ho:ops[i]?=some o:=by rfl)(hg:o.guard=some (j,b):=by rfl)(hj:(ops[j]?).bind (·.dst)=some d:=by rfl)(hd:GV j (a.tmps[d]?.getD undef=.bool b):=by exact vG)(h:P1->P2->o.wp P a w K Q:=by (intro _ _;(conv=>arg 2;whnf);exact qa0)):wpOp P ops Q i K a w:=wpOp_go o ho j d b hg hj hd (h e1 e2)
theorem g3'{P1:Prop}{P2:Prop}{P3:Prop}{j d:Nat}{b:Bool}(e1:P1)(e2:P2)(e3:P3){o:Oper}(ho:ops[i]?=some o:=by rfl)(hg:o.guard=some (j,b):=by rfl)(hj:(ops[j]?).bind (·.dst)=some d:=by rfl)(hd:GV j (a.tmps[d]?.getD undef=.bool b):=by exact vG)(h:P1->P2->P3->o.wp P a w K Q:=by (intro _ _ _;(conv=>arg 2;whnf);exact qa0)):wpOp P ops Q i K a w:=wpOp_go o ho j d b hg hj hd (h e1 e2 e3)
theorem g4'{P1:Prop}{P2:Prop}{P3:Prop}{P4:Prop}{j d:Nat}{b:Bool}(e1:P1)(e2:P2)(e3:P3)(e4:P4){o:Oper}(ho:ops[i]?=some o:=by rfl)(hg:o.guard=some (j,b):=by rfl)(hj:(ops[j]?).bind (·.dst)=some d:=by rfl)(hd:GV j (a.tmps[d]?.getD undef=.bool b):=by exact vG)(h:P1->P2->P3->P4->o.wp P a w K Q:=by (intro _ _ _ _;(conv=>arg 2;whnf);exact qa0)):wpOp P ops Q i K a w:=wpOp_go o ho j d b hg hj hd (h e1 e2 e3 e4)
theorem ldA(X:Array Value){d ty:Nat}{ad:Addr}{ds:TypeDesc}{o:Oper}(e:a.tmps[d]?.getD undef=.pointer (some ad))(hc:∀ j u,X.toList[j]?=some u->w.cell? (ad.add j)=some u)(hu:P.underlying ty=some ds)(hi:(P.info? ty).map (·.size)=some X.size)(hk:K (a.put o.dst (.agg X)) w:=by exact qB)(ho:o.op=.load ty (.tmp d):=by rfl)(hs:aggB ds=true:=by rfl):o.wp P a w K Q:=
  op_runs (v:=.agg X) (w':=w) (exec_load ho (by simpa [Act.eval] using e) (run_loadAt_agg w ad ty X.toList _ hc hu hs (by rw [hi,Array.length_toList]))) hk
theorem Blk.sub{g off:Nat}{t:TypeId}{cs:Array Value}{X:List Value}(hb:Blk w g t cs)(h:∀ j u,X[j]?=some u->cs[j+off]?=some u):∀ j u,X[j]?=some u->w.cell? ((⟨g,off,none⟩:Addr).add j)=some u:=fun j u hj=>by
  rw [Addr.add_lit,Nat.add_comm off j,hb.cell]
  exact h j u hj
theorem Blk.k0{w w':World}{g:Nat}{t:TypeId}{cs:Array Value}(hb:Blk w g t cs)(k:Kp [] w w'):Blk w' g t cs:=hb.kp k (by simp)
end
theorem pA{G:Prop}(k:G:=by (simp only [List.range,List.range.loop,List.flatMap_cons,List.flatMap_nil,List.append_nil,List.cons_append,List.nil_append];exact List.Perm.refl _)):G:=k
theorem lA{G:Prop}(k:G:=by (intro s vs vs' gs gs' h;(repeat (first|exact ⟨rfl,id⟩|(rcases s with _|s;· (first|exact ⟨rfl,id⟩|(simp only [List.mem_cons,List.not_mem_nil,or_false,forall_eq_or_imp,forall_eq] at h;simp [h]))))))):G:=k
abbrev Pq (g o:Nat):Value:=.pointer (some ⟨g,o,none⟩)
abbrev Nq (n:Nat):Value:=.int .i64 (n:Int)
def dsT (i:Nat) (f:Func):List Nat:=(opsOf i f).filterMap (·.dst)
theorem Same.q{a a':Act}{ds:List Nat}{d:Nat}{v:Value}(hs:Same a a' ds)(o:Sl a d v)(h:ds.contains d=false:=by kernel_rfl):Sl a' d v:=hs.keep d v h o
def RG0 (i:Nat) (f:Func) (Q:Exit->Act->World->Prop) (a:Act) (w:World) (R:Act->Prop->Prop):Prop:=(∀ a',Same a a' (dsT i f)->R a' (Q .normal a' w))->(Code.region i (opsOf i f).toArray false).wp Tryz.prog Q a w
def RG1 (b:Bool) (i:Nat) (f:Func) (Q:Exit->Act->World->Prop) (a:Act) (w:World) (R:Act->World->Prop->Prop):Prop:=(∀ a' W,Same a a' (dsT i f)->R a' W (Q .normal a' W))->(Code.region i (opsOf i f).toArray b).wp Tryz.prog Q a w
theorem rLq{i:Nat}{f:Func}{Q:Exit->Act->World->Prop}{a:Act}{w:World}{R:Act->World->Prop->Prop}{X:List Oper}(h:(∀ a' W,Same a a' (dsT i f)->R a' W (Q .normal a' W))->wpList Tryz.prog (opsOf i f).toArray Q X a w)(e:opsOf i f=X:=by (conv=>lhs;whnf);(try exact rfl)):RG1 false i f Q a w R:=fun he=>by subst e;exact wp_region_lit (h he)
theorem rLp{i:Nat}{f:Func}{Q:Exit->Act->World->Prop}{a:Act}{w:World}{R:Act->Prop->Prop}{X:List Oper}(h:(∀ a',Same a a' (dsT i f)->R a' (Q .normal a' w))->wpList Tryz.prog (opsOf i f).toArray Q X a w)(e:opsOf i f=X:=by (conv=>lhs;whnf);(try exact rfl)):RG0 i f Q a w R:=fun he=>by subst e;exact wp_region_lit (h he)
theorem tS{a a':Act}{ds:List Nat}(h:Same a a' ds:=by repeat (first|(with_reducible refine same_set (by kernel_rfl) ?_)|(with_reducible exact same_nil))):Same a a' ds:=h
theorem LH{p:Prop}(h:p):Go.RowKit.Hid p:=h
theorem pa(i:Nat)(f:Func)(h:apartB (opsOf i f)=true:=by kernel_rfl):apartB (opsOf i f)=true:=h
theorem aE{G:Prop}(k:G:=by simp [Act.eval,Act.put,hsz]):G:=k
theorem aO{p G:Prop}(o:p)(k:p->G:=by (intro o;simp [Act.eval,Act.put,hsz,o])):G:=k o
abbrev Bs:=List UInt8
theorem rO{G:Prop}(k:G:=by (intro hend;refine wp_region_lit ?_;(conv=>arg 4;whnf);(try unfold Sl at o0);(try unfold Sl at o1);(try unfold Sl at o2);(try unfold Sl at o3);(try unfold Sl at o4);(try unfold Sl at o5);(try unfold Sl at o6);(try unfold Sl at o7);(try unfold Sl at o8);(try unfold Sl at o9);(try unfold Sl at o10);(try unfold Sl at o11);(try unfold Sl at o12);(try unfold Sl at o13);(try unfold Sl at o14);(try unfold Sl at o15);(try unfold Sl at o16);(try unfold Sl at o17);(try unfold Sl at o18);(try unfold Sl at o19);(try unfold Sl at o20);(try unfold Sl at o21);(try unfold Sl at o22);(try unfold Sl at o23);(try unfold Sl at o24);(try unfold Sl at o25);(try unfold Sl at o26);(try unfold Sl at o27);(try unfold Sl at o28);(try unfold Sl at o29);(try unfold Sl at o30);(try unfold Sl at o31);(try unfold Sl at o32);(try unfold Sl at o33);(try unfold Sl at o34);(try unfold Sl at o35);(try unfold Sl at o36);(try unfold Sl at o37);(try unfold Sl at o38);(try unfold Sl at o39);(try unfold Sl at o40);go_wp2_with fail;(try simp only [Act.put]);(first|exact hend _ tS sP|exact hend _ tS sP sP|exact hend _ tS sP sP sP|exact hend _ tS sP sP sP sP|exact hend _ tS))):G:=k
def RG2 (i:Nat) (f:Func) (Q:Exit->Act->World->Prop) (a:Act) (w:World) (R:Act->(Nat->Value)->(Nat->Unit)->World->Prop->Prop):Prop:=(∀ a' vs gs W,Same a a' (dsT i f)->R a' vs gs W (Q .normal a' W))->(Code.region i (opsOf i f).toArray true).wp Tryz.prog Q a w
theorem wcT{P:Program}{Q:Exit->Act->World->Prop}{a:Act}{w:World}{d:Nat}{x:Value}{p q:Code}{N:Nat}(o:Sl a d x)(h:p.wp P Q a w)(e:x=.bool true:=by rfl)(hz:a.tmps.size=N:=by assumption)(hd:Nat.ble (d+1) N=true:=by rfl):(Code.cond (.tmp d) p q).wp P Q a w:=wp_cond_true ((o.eval (Nat.lt_of_lt_of_eq (Nat.le_of_ble_eq_true hd) hz.symm)).trans e) h
theorem wcF{P:Program}{Q:Exit->Act->World->Prop}{a:Act}{w:World}{d:Nat}{x:Value}{p q:Code}{N:Nat}(o:Sl a d x)(h:q.wp P Q a w)(e:x=.bool false:=by rfl)(hz:a.tmps.size=N:=by assumption)(hd:Nat.ble (d+1) N=true:=by rfl):(Code.cond (.tmp d) p q).wp P Q a w:=wp_cond_false ((o.eval (Nat.lt_of_lt_of_eq (Nat.le_of_ble_eq_true hd) hz.symm)).trans e) h
section
variable {a a':Act} {X:List Deferred} {N:Nat} {ds:List Nat} {x0 x1 x2 x3 x4 x5 x6 x7 x8 x9 x10 x11 x12 x13 x14:Value} {d0 d1 d2 d3 d4 d5 d6 d7 d8 d9 d10 d11 d12 d13 d14:Nat}
theorem kq0(h:Same a a' ds)(z:a.tmps.size=N)(D:a.defers=X):a'.tmps.size=N ∧ a'.defers=X:=⟨h.size.trans z,h.defers.trans D⟩
theorem kq1(h:Same a a' ds)(z:a.tmps.size=N)(D:a.defers=X)(o0:Sl a d0 x0)(c0:ds.contains d0=false:=by kernel_rfl):a'.tmps.size=N ∧ a'.defers=X ∧ Sl a' d0 x0:=⟨h.size.trans z,h.defers.trans D,h.keep _ _ c0 o0⟩
theorem kq2(h:Same a a' ds)(z:a.tmps.size=N)(D:a.defers=X)(o0:Sl a d0 x0)(o1:Sl a d1 x1)(c0:ds.contains d0=false:=by kernel_rfl)(c1:ds.contains d1=false:=by kernel_rfl):a'.tmps.size=N ∧ a'.defers=X ∧ Sl a' d0 x0 ∧ Sl a' d1 x1:=⟨h.size.trans z,h.defers.trans D,h.keep _ _ c0 o0,h.keep _ _ c1 o1⟩
theorem kq3(h:Same a a' ds)(z:a.tmps.size=N)(D:a.defers=X)(o0:Sl a d0 x0)(o1:Sl a d1 x1)(o2:Sl a d2 x2)(c0:ds.contains d0=false:=by kernel_rfl)(c1:ds.contains d1=false:=by kernel_rfl)(c2:ds.contains d2=false:=by kernel_rfl):a'.tmps.size=N ∧ a'.defers=X ∧ Sl a' d0 x0 ∧ Sl a' d1 x1 ∧ Sl a' d2 x2:=⟨h.size.trans z,h.defers.trans D,h.keep _ _ c0 o0,h.keep _ _ c1 o1,h.keep _ _ c2 o2⟩
theorem kq4(h:Same a a' ds)(z:a.tmps.size=N)(D:a.defers=X)(o0:Sl a d0 x0)(o1:Sl a d1 x1)(o2:Sl a d2 x2)(o3:Sl a d3 x3)(c0:ds.contains d0=false:=by kernel_rfl)(c1:ds.contains d1=false:=by kernel_rfl)(c2:ds.contains d2=false:=by kernel_rfl)(c3:ds.contains d3=false:=by kernel_rfl):a'.tmps.size=N ∧ a'.defers=X ∧ Sl a' d0 x0 ∧ Sl a' d1 x1 ∧ Sl a' d2 x2 ∧ Sl a' d3 x3:=⟨h.size.trans z,h.defers.trans D,h.keep _ _ c0 o0,h.keep _ _ c1 o1,h.keep _ _ c2 o2,h.keep _ _ c3 o3⟩
theorem kq5(h:Same a a' ds)(z:a.tmps.size=N)(D:a.defers=X)(o0:Sl a d0 x0)(o1:Sl a d1 x1)(o2:Sl a d2 x2)(o3:Sl a d3 x3)(o4:Sl a d4 x4)(c0:ds.contains d0=false:=by kernel_rfl)(c1:ds.contains d1=false:=by kernel_rfl)(c2:ds.contains d2=false:=by kernel_rfl)(c3:ds.contains d3=false:=by kernel_rfl)(c4:ds.contains d4=false:=by kernel_rfl):a'.tmps.size=N ∧ a'.defers=X ∧ Sl a' d0 x0 ∧ Sl a' d1 x1 ∧ Sl a' d2 x2 ∧ Sl a' d3 x3 ∧ Sl a' d4 x4:=⟨h.size.trans z,h.defers.trans D,h.keep _ _ c0 o0,h.keep _ _ c1 o1,h.keep _ _ c2 o2,h.keep _ _ c3 o3,h.keep _ _ c4 o4⟩
theorem kq6(h:Same a a' ds)(z:a.tmps.size=N)(D:a.defers=X)(o0:Sl a d0 x0)(o1:Sl a d1 x1)(o2:Sl a d2 x2)(o3:Sl a d3 x3)(o4:Sl a d4 x4)(o5:Sl a d5 x5)(c0:ds.contains d0=false:=by kernel_rfl)(c1:ds.contains d1=false:=by kernel_rfl)(c2:ds.contains d2=false:=by kernel_rfl)(c3:ds.contains d3=false:=by kernel_rfl)(c4:ds.contains d4=false:=by kernel_rfl)(c5:ds.contains d5=false:=by kernel_rfl):a'.tmps.size=N ∧ a'.defers=X ∧ Sl a' d0 x0 ∧ Sl a' d1 x1 ∧ Sl a' d2 x2 ∧ Sl a' d3 x3 ∧ Sl a' d4 x4 ∧ Sl a' d5 x5:=⟨h.size.trans z,h.defers.trans D,h.keep _ _ c0 o0,h.keep _ _ c1 o1,h.keep _ _ c2 o2,h.keep _ _ c3 o3,h.keep _ _ c4 o4,h.keep _ _ c5 o5⟩
theorem kq7(h:Same a a' ds)(z:a.tmps.size=N)(D:a.defers=X)(o0:Sl a d0 x0)(o1:Sl a d1 x1)(o2:Sl a d2 x2)(o3:Sl a d3 x3)(o4:Sl a d4 x4)(o5:Sl a d5 x5)(o6:Sl a d6 x6)(c0:ds.contains d0=false:=by kernel_rfl)(c1:ds.contains d1=false:=by kernel_rfl)(c2:ds.contains d2=false:=by kernel_rfl)(c3:ds.contains d3=false:=by kernel_rfl)(c4:ds.contains d4=false:=by kernel_rfl)(c5:ds.contains d5=false:=by kernel_rfl)(c6:ds.contains d6=false:=by kernel_rfl):a'.tmps.size=N ∧ a'.defers=X ∧ Sl a' d0 x0 ∧ Sl a' d1 x1 ∧ Sl a' d2 x2 ∧ Sl a' d3 x3 ∧ Sl a' d4 x4 ∧ Sl a' d5 x5 ∧ Sl a' d6 x6:=⟨h.size.trans z,h.defers.trans D,h.keep _ _ c0 o0,h.keep _ _ c1 o1,h.keep _ _ c2 o2,h.keep _ _ c3 o3,h.keep _ _ c4 o4,h.keep _ _ c5 o5,h.keep _ _ c6 o6⟩
theorem kq8(h:Same a a' ds)(z:a.tmps.size=N)(D:a.defers=X)(o0:Sl a d0 x0)(o1:Sl a d1 x1)(o2:Sl a d2 x2)(o3:Sl a d3 x3)(o4:Sl a d4 x4)(o5:Sl a d5 x5)(o6:Sl a d6 x6)(o7:Sl a d7 x7)(c0:ds.contains d0=false:=by kernel_rfl)(c1:ds.contains d1=false:=by kernel_rfl)(c2:ds.contains d2=false:=by kernel_rfl)(c3:ds.contains d3=false:=by kernel_rfl)(c4:ds.contains d4=false:=by kernel_rfl)(c5:ds.contains d5=false:=by kernel_rfl)(c6:ds.contains d6=false:=by kernel_rfl)(c7:ds.contains d7=false:=by kernel_rfl):a'.tmps.size=N ∧ a'.defers=X ∧ Sl a' d0 x0 ∧ Sl a' d1 x1 ∧ Sl a' d2 x2 ∧ Sl a' d3 x3 ∧ Sl a' d4 x4 ∧ Sl a' d5 x5 ∧ Sl a' d6 x6 ∧ Sl a' d7 x7:=⟨h.size.trans z,h.defers.trans D,h.keep _ _ c0 o0,h.keep _ _ c1 o1,h.keep _ _ c2 o2,h.keep _ _ c3 o3,h.keep _ _ c4 o4,h.keep _ _ c5 o5,h.keep _ _ c6 o6,h.keep _ _ c7 o7⟩
theorem kq9(h:Same a a' ds)(z:a.tmps.size=N)(D:a.defers=X)(o0:Sl a d0 x0)(o1:Sl a d1 x1)(o2:Sl a d2 x2)(o3:Sl a d3 x3)(o4:Sl a d4 x4)(o5:Sl a d5 x5)(o6:Sl a d6 x6)(o7:Sl a d7 x7)(o8:Sl a d8 x8)(c0:ds.contains d0=false:=by kernel_rfl)(c1:ds.contains d1=false:=by kernel_rfl)(c2:ds.contains d2=false:=by kernel_rfl)(c3:ds.contains d3=false:=by kernel_rfl)(c4:ds.contains d4=false:=by kernel_rfl)(c5:ds.contains d5=false:=by kernel_rfl)(c6:ds.contains d6=false:=by kernel_rfl)(c7:ds.contains d7=false:=by kernel_rfl)(c8:ds.contains d8=false:=by kernel_rfl):a'.tmps.size=N ∧ a'.defers=X ∧ Sl a' d0 x0 ∧ Sl a' d1 x1 ∧ Sl a' d2 x2 ∧ Sl a' d3 x3 ∧ Sl a' d4 x4 ∧ Sl a' d5 x5 ∧ Sl a' d6 x6 ∧ Sl a' d7 x7 ∧ Sl a' d8 x8:=⟨h.size.trans z,h.defers.trans D,h.keep _ _ c0 o0,h.keep _ _ c1 o1,h.keep _ _ c2 o2,h.keep _ _ c3 o3,h.keep _ _ c4 o4,h.keep _ _ c5 o5,h.keep _ _ c6 o6,h.keep _ _ c7 o7,h.keep _ _ c8 o8⟩
theorem kq10(h:Same a a' ds)(z:a.tmps.size=N)(D:a.defers=X)(o0:Sl a d0 x0)(o1:Sl a d1 x1)(o2:Sl a d2 x2)(o3:Sl a d3 x3)(o4:Sl a d4 x4)(o5:Sl a d5 x5)(o6:Sl a d6 x6)(o7:Sl a d7 x7)(o8:Sl a d8 x8)(o9:Sl a d9 x9)(c0:ds.contains d0=false:=by kernel_rfl)(c1:ds.contains d1=false:=by kernel_rfl)(c2:ds.contains d2=false:=by kernel_rfl)(c3:ds.contains d3=false:=by kernel_rfl)(c4:ds.contains d4=false:=by kernel_rfl)(c5:ds.contains d5=false:=by kernel_rfl)(c6:ds.contains d6=false:=by kernel_rfl)(c7:ds.contains d7=false:=by kernel_rfl)(c8:ds.contains d8=false:=by kernel_rfl)(c9:ds.contains d9=false:=by kernel_rfl):a'.tmps.size=N ∧ a'.defers=X ∧ Sl a' d0 x0 ∧ Sl a' d1 x1 ∧ Sl a' d2 x2 ∧ Sl a' d3 x3 ∧ Sl a' d4 x4 ∧ Sl a' d5 x5 ∧ Sl a' d6 x6 ∧ Sl a' d7 x7 ∧ Sl a' d8 x8 ∧ Sl a' d9 x9:=⟨h.size.trans z,h.defers.trans D,h.keep _ _ c0 o0,h.keep _ _ c1 o1,h.keep _ _ c2 o2,h.keep _ _ c3 o3,h.keep _ _ c4 o4,h.keep _ _ c5 o5,h.keep _ _ c6 o6,h.keep _ _ c7 o7,h.keep _ _ c8 o8,h.keep _ _ c9 o9⟩
theorem kq11(h:Same a a' ds)(z:a.tmps.size=N)(D:a.defers=X)(o0:Sl a d0 x0)(o1:Sl a d1 x1)(o2:Sl a d2 x2)(o3:Sl a d3 x3)(o4:Sl a d4 x4)(o5:Sl a d5 x5)(o6:Sl a d6 x6)(o7:Sl a d7 x7)(o8:Sl a d8 x8)(o9:Sl a d9 x9)(o10:Sl a d10 x10)(c0:ds.contains d0=false:=by kernel_rfl)(c1:ds.contains d1=false:=by kernel_rfl)(c2:ds.contains d2=false:=by kernel_rfl)(c3:ds.contains d3=false:=by kernel_rfl)(c4:ds.contains d4=false:=by kernel_rfl)(c5:ds.contains d5=false:=by kernel_rfl)(c6:ds.contains d6=false:=by kernel_rfl)(c7:ds.contains d7=false:=by kernel_rfl)(c8:ds.contains d8=false:=by kernel_rfl)(c9:ds.contains d9=false:=by kernel_rfl)(c10:ds.contains d10=false:=by kernel_rfl):a'.tmps.size=N ∧ a'.defers=X ∧ Sl a' d0 x0 ∧ Sl a' d1 x1 ∧ Sl a' d2 x2 ∧ Sl a' d3 x3 ∧ Sl a' d4 x4 ∧ Sl a' d5 x5 ∧ Sl a' d6 x6 ∧ Sl a' d7 x7 ∧ Sl a' d8 x8 ∧ Sl a' d9 x9 ∧ Sl a' d10 x10:=⟨h.size.trans z,h.defers.trans D,h.keep _ _ c0 o0,h.keep _ _ c1 o1,h.keep _ _ c2 o2,h.keep _ _ c3 o3,h.keep _ _ c4 o4,h.keep _ _ c5 o5,h.keep _ _ c6 o6,h.keep _ _ c7 o7,h.keep _ _ c8 o8,h.keep _ _ c9 o9,h.keep _ _ c10 o10⟩
theorem kq12(h:Same a a' ds)(z:a.tmps.size=N)(D:a.defers=X)(o0:Sl a d0 x0)(o1:Sl a d1 x1)(o2:Sl a d2 x2)(o3:Sl a d3 x3)(o4:Sl a d4 x4)(o5:Sl a d5 x5)(o6:Sl a d6 x6)(o7:Sl a d7 x7)(o8:Sl a d8 x8)(o9:Sl a d9 x9)(o10:Sl a d10 x10)(o11:Sl a d11 x11)(c0:ds.contains d0=false:=by kernel_rfl)(c1:ds.contains d1=false:=by kernel_rfl)(c2:ds.contains d2=false:=by kernel_rfl)(c3:ds.contains d3=false:=by kernel_rfl)(c4:ds.contains d4=false:=by kernel_rfl)(c5:ds.contains d5=false:=by kernel_rfl)(c6:ds.contains d6=false:=by kernel_rfl)(c7:ds.contains d7=false:=by kernel_rfl)(c8:ds.contains d8=false:=by kernel_rfl)(c9:ds.contains d9=false:=by kernel_rfl)(c10:ds.contains d10=false:=by kernel_rfl)(c11:ds.contains d11=false:=by kernel_rfl):a'.tmps.size=N ∧ a'.defers=X ∧ Sl a' d0 x0 ∧ Sl a' d1 x1 ∧ Sl a' d2 x2 ∧ Sl a' d3 x3 ∧ Sl a' d4 x4 ∧ Sl a' d5 x5 ∧ Sl a' d6 x6 ∧ Sl a' d7 x7 ∧ Sl a' d8 x8 ∧ Sl a' d9 x9 ∧ Sl a' d10 x10 ∧ Sl a' d11 x11:=⟨h.size.trans z,h.defers.trans D,h.keep _ _ c0 o0,h.keep _ _ c1 o1,h.keep _ _ c2 o2,h.keep _ _ c3 o3,h.keep _ _ c4 o4,h.keep _ _ c5 o5,h.keep _ _ c6 o6,h.keep _ _ c7 o7,h.keep _ _ c8 o8,h.keep _ _ c9 o9,h.keep _ _ c10 o10,h.keep _ _ c11 o11⟩
theorem kq13(h:Same a a' ds)(z:a.tmps.size=N)(D:a.defers=X)(o0:Sl a d0 x0)(o1:Sl a d1 x1)(o2:Sl a d2 x2)(o3:Sl a d3 x3)(o4:Sl a d4 x4)(o5:Sl a d5 x5)(o6:Sl a d6 x6)(o7:Sl a d7 x7)(o8:Sl a d8 x8)(o9:Sl a d9 x9)(o10:Sl a d10 x10)(o11:Sl a d11 x11)(o12:Sl a d12 x12)(c0:ds.contains d0=false:=by kernel_rfl)(c1:ds.contains d1=false:=by kernel_rfl)(c2:ds.contains d2=false:=by kernel_rfl)(c3:ds.contains d3=false:=by kernel_rfl)(c4:ds.contains d4=false:=by kernel_rfl)(c5:ds.contains d5=false:=by kernel_rfl)(c6:ds.contains d6=false:=by kernel_rfl)(c7:ds.contains d7=false:=by kernel_rfl)(c8:ds.contains d8=false:=by kernel_rfl)(c9:ds.contains d9=false:=by kernel_rfl)(c10:ds.contains d10=false:=by kernel_rfl)(c11:ds.contains d11=false:=by kernel_rfl)(c12:ds.contains d12=false:=by kernel_rfl):a'.tmps.size=N ∧ a'.defers=X ∧ Sl a' d0 x0 ∧ Sl a' d1 x1 ∧ Sl a' d2 x2 ∧ Sl a' d3 x3 ∧ Sl a' d4 x4 ∧ Sl a' d5 x5 ∧ Sl a' d6 x6 ∧ Sl a' d7 x7 ∧ Sl a' d8 x8 ∧ Sl a' d9 x9 ∧ Sl a' d10 x10 ∧ Sl a' d11 x11 ∧ Sl a' d12 x12:=⟨h.size.trans z,h.defers.trans D,h.keep _ _ c0 o0,h.keep _ _ c1 o1,h.keep _ _ c2 o2,h.keep _ _ c3 o3,h.keep _ _ c4 o4,h.keep _ _ c5 o5,h.keep _ _ c6 o6,h.keep _ _ c7 o7,h.keep _ _ c8 o8,h.keep _ _ c9 o9,h.keep _ _ c10 o10,h.keep _ _ c11 o11,h.keep _ _ c12 o12⟩
theorem kq14(h:Same a a' ds)(z:a.tmps.size=N)(D:a.defers=X)(o0:Sl a d0 x0)(o1:Sl a d1 x1)(o2:Sl a d2 x2)(o3:Sl a d3 x3)(o4:Sl a d4 x4)(o5:Sl a d5 x5)(o6:Sl a d6 x6)(o7:Sl a d7 x7)(o8:Sl a d8 x8)(o9:Sl a d9 x9)(o10:Sl a d10 x10)(o11:Sl a d11 x11)(o12:Sl a d12 x12)(o13:Sl a d13 x13)(c0:ds.contains d0=false:=by kernel_rfl)(c1:ds.contains d1=false:=by kernel_rfl)(c2:ds.contains d2=false:=by kernel_rfl)(c3:ds.contains d3=false:=by kernel_rfl)(c4:ds.contains d4=false:=by kernel_rfl)(c5:ds.contains d5=false:=by kernel_rfl)(c6:ds.contains d6=false:=by kernel_rfl)(c7:ds.contains d7=false:=by kernel_rfl)(c8:ds.contains d8=false:=by kernel_rfl)(c9:ds.contains d9=false:=by kernel_rfl)(c10:ds.contains d10=false:=by kernel_rfl)(c11:ds.contains d11=false:=by kernel_rfl)(c12:ds.contains d12=false:=by kernel_rfl)(c13:ds.contains d13=false:=by kernel_rfl):a'.tmps.size=N ∧ a'.defers=X ∧ Sl a' d0 x0 ∧ Sl a' d1 x1 ∧ Sl a' d2 x2 ∧ Sl a' d3 x3 ∧ Sl a' d4 x4 ∧ Sl a' d5 x5 ∧ Sl a' d6 x6 ∧ Sl a' d7 x7 ∧ Sl a' d8 x8 ∧ Sl a' d9 x9 ∧ Sl a' d10 x10 ∧ Sl a' d11 x11 ∧ Sl a' d12 x12 ∧ Sl a' d13 x13:=⟨h.size.trans z,h.defers.trans D,h.keep _ _ c0 o0,h.keep _ _ c1 o1,h.keep _ _ c2 o2,h.keep _ _ c3 o3,h.keep _ _ c4 o4,h.keep _ _ c5 o5,h.keep _ _ c6 o6,h.keep _ _ c7 o7,h.keep _ _ c8 o8,h.keep _ _ c9 o9,h.keep _ _ c10 o10,h.keep _ _ c11 o11,h.keep _ _ c12 o12,h.keep _ _ c13 o13⟩
end
end
section
def itn {α:Type} (f:α->α):Nat->α->α
 |0,x=>x
 |n+1,x=>itn f n (f x)
def P32:Nat:=2197175160
def stp (x:Nat):Nat:=(x / 2) ^^^ (x % 2 * P32)
def eight (x:Nat):Nat:=itn stp 8 x
def thru (x:Nat) (l:Bs):Nat:=l.foldl (fun x c=>eight (x ^^^ c.toNat)) x
def not32 (x:Nat):Nat:=4294967295 - x
theorem not32_xor{x:Nat}(h:x < 2 ^ 32):not32 x=x ^^^ 4294967295:=by
 have h1:(2 ^ 32 - 1:Nat)=4294967295:=by decide
 apply Nat.eq_of_testBit_eq
 intro i
 unfold not32
 rw [Nat.testBit_xor,<- h1,Nat.testBit_two_pow_sub_one]
 have h2:=Nat.testBit_two_pow_sub_succ (x:=x) (n:=32) h i
 rw [show 2 ^ 32 - 1 - x=2 ^ 32 - (x+1) from by omega,h2]
 by_cases hi:i < 32
 . simp [hi]
 . have:x.testBit i=false:=Nat.testBit_lt_two_pow (Nat.lt_of_lt_of_le h (Nat.pow_le_pow_right (by omega) (by omega)))
   simp [hi,this]
def more (s:Nat) (l:Bs):Nat:=not32 (thru (not32 s) l)
def crc (l:Bs):Nat:=more 0 l
end
section
open Go.RowKit
theorem u32_x(a b:Nat)(ha:a < 4294967296)(hb:b < 4294967296):bits .xor .u32 (a:Int) (b:Int)=((a ^^^ b:Nat):Int):=u32_xor_nat a b ha hb
end
section
open Go.RowKit
theorem u32_not(x:Nat)(h:x < 4294967296):bits .xor .u32 IntKind.u32.max (x:Int)=(not32 x:Int):=by
 have h1:=u32_xor_nat 4294967295 x (by decide) h
 rw [Nat.xor_comm,<- not32_xor h] at h1
 exact h1
end
section
def rotr (x n:Nat):Nat:=(x / 2 ^ n) ||| (x * 2 ^ (32 - n) % 4294967296)
def sg0 (x:Nat):Nat:=rotr x 7 ^^^ rotr x 18 ^^^ (x / 8)
def sg1 (x:Nat):Nat:=rotr x 17 ^^^ rotr x 19 ^^^ (x / 1024)
def bS0 (a:Nat):Nat:=rotr a 2 ^^^ rotr a 13 ^^^ rotr a 22
def bS1 (e:Nat):Nat:=rotr e 6 ^^^ rotr e 11 ^^^ rotr e 25
def cho (e f g:Nat):Nat:=(e &&& f) ^^^ (not32 e &&& g)
def maj (a b c:Nat):Nat:=(a &&& b) ^^^ (a &&& c) ^^^ (b &&& c)
def kT:List Nat:=[1116352408,1899447441,3049323471,3921009573,961987163,1508970993,2453635748,2870763221,3624381080,310598401,607225278,1426881987,1925078388,2162078206,2614888103,3248222580,3835390401,4022224774,264347078,604807628,770255983,1249150122,1555081692,1996064986,2554220882,2821834349,2952996808,3210313671,3336571891,3584528711,113926993,338241895,666307205,773529912,1294757372,1396182291,1695183700,1986661051,2177026350,2456956037,2730485921,2820302411,3259730800,3345764771,3516065817,3600352804,4094571909,275423344,430227734,506948616,659060556,883997877,958139571,1322822218,1537002063,1747873779,1955562222,2024104815,2227730452,2361852424,2428436474,2756734187,3204031479,3329325298]
def hF:List Nat:=[1779033703,3144134277,1013904242,2773480762,1359893119,2600822924,528734635,1541459225]
def wsN (b:Bs):Nat->List Nat
 |0=>[]
 |t+1=>wsN b t ++ [if t < 16 then num ((b.drop (4 * t)).take 4) else ((wsN b t).getD (t - 16) 0+sg0 ((wsN b t).getD (t - 15) 0)+(wsN b t).getD (t - 7) 0+sg1 ((wsN b t).getD (t - 2) 0)) % 4294967296]
def rX (e f g h k w:Nat):Nat:=(h+bS1 e+cho e f g+k+w) % 4294967296
def rY (a b c:Nat):Nat:=(bS0 a+maj a b c) % 4294967296
def rnd (v:List Nat) (k w:Nat):List Nat:=match v with
 |[a,b,c,d,e,f,g,h]=>[(rX e f g h k w+rY a b c) % 4294967296,a,b,c,(d+rX e f g h k w) % 4294967296,e,f,g]
 |_=>v
def rnds (st w:List Nat):Nat->List Nat
 |0=>st
 |t+1=>rnd (rnds st w t) (kT.getD t 0) (w.getD t 0)
def blkF (st:List Nat) (b:Bs):List Nat:=List.zipWith (fun x y=>(x+y) % 4294967296) (rnds st (wsN b 64) 64) st
def shaN (m:Bs):Nat->List Nat
 |0=>hF
 |n+1=>blkF (shaN m n) ((m.drop (64 * n)).take 64)
def padZ (n:Nat):Nat:=(119 - n % 64) % 64
def pad (m:Bs):List UInt8:=m ++ (128 :: (List.replicate (padZ m.length) 0 ++ be 8 (8 * m.length)))
def shaF (m:Bs):List UInt8:=(shaN (pad m) ((pad m).length / 64)).flatMap (be 4)
def Ws (l:List Nat):Prop:=∀ x,x ∈ l->x < 4294967296
theorem rotr_lt{x n:Nat}(h:x < 4294967296):rotr x n < 4294967296:=by
 unfold rotr
 exact Nat.or_lt_two_pow (n:=32) (Nat.lt_of_le_of_lt (Nat.div_le_self _ _) h) (Nat.mod_lt _ (by decide))
theorem xor_lt{x y:Nat}(h:x < 4294967296)(g:y < 4294967296):x ^^^ y < 4294967296:=Nat.xor_lt_two_pow (n:=32) h g
theorem div_lt{x k:Nat}(h:x < 4294967296):x / k < 4294967296:=Nat.lt_of_le_of_lt (Nat.div_le_self _ _) h
theorem num4_lt(l:Bs):num (l.take 4) < 4294967296:=by
 have h1:∀ (l:Bs) (a k:Nat),l.length<=k->l.foldl (fun a b=>256 * a+b.toNat) a < (a+1) * 256 ^ k:=by
  intro l
  induction l with
  |nil=>intro a k _;rw [List.foldl_nil];have:=Nat.one_le_two_pow (n:=8 * k);rw [Nat.pow_mul] at this;have h:1<=256 ^ k:=this;calc a < a+1:=by omega
   _=(a+1) * 1:=by omega
   _<=(a+1) * 256 ^ k:=Nat.mul_le_mul_left _ h
  |cons c l ih=>
   intro a k hk
   cases k with
   |zero=>simp at hk
   |succ k=>
    rw [List.foldl_cons]
    have:=ih (256 * a+c.toNat) k (by simpa using hk)
    have hc:=c.toNat_lt
    refine Nat.lt_of_lt_of_le this ?_
    rw [Nat.pow_succ,show (a+1) * (256 ^ k * 256)=((a+1) * 256) * 256 ^ k from by rw [Nat.mul_comm (256 ^ k),Nat.mul_assoc]]
    exact Nat.mul_le_mul_right _ (by omega)
 have:=h1 (l.take 4) 0 4 (by simp;omega)
 simpa [num] using this
theorem wsN_length(b:Bs):∀ t,(wsN b t).length=t
 |0=>rfl
 |t+1=>by unfold wsN;rw [List.length_append,wsN_length b t];rfl
theorem wsN_lt(b:Bs):∀ t,Ws (wsN b t)
 |0=>fun x h=>by cases h
 |t+1=>fun x h=>by
  unfold wsN at h
  rcases List.mem_append.1 h with h|h
  . exact wsN_lt b t x h
  . rw [List.mem_singleton] at h
    subst h
    split
    . exact num4_lt _
    . exact Nat.mod_lt _ (by decide)
theorem getD_lt{l:List Nat}(h:Ws l)(i:Nat):l.getD i 0 < 4294967296:=by
 rw [List.getD_eq_getElem?_getD]
 cases hi:l[i]? with
 |none=>simp
 |some x=>exact h x (List.mem_of_getElem? hi)
theorem rnd_length(v:List Nat)(k w:Nat):(rnd v k w).length=v.length:=by
 unfold rnd
 split <;> rfl
theorem rnds_length(st w:List Nat):∀ t,(rnds st w t).length=st.length
 |0=>rfl
 |t+1=>by unfold rnds;rw [rnd_length,rnds_length st w t]
theorem rnd_lt{v:List Nat}(h:Ws v)(k w:Nat):Ws (rnd v k w):=by
 unfold rnd
 split
 . intro x hx
   simp only [List.mem_cons,List.not_mem_nil,or_false] at hx
   rcases hx with rfl|rfl|rfl|rfl|rfl|rfl|rfl|rfl
   . exact Nat.mod_lt _ (by decide)
   . exact h _ (by simp)
   . exact h _ (by simp)
   . exact h _ (by simp)
   . exact Nat.mod_lt _ (by decide)
   . exact h _ (by simp)
   . exact h _ (by simp)
   . exact h _ (by simp)
 . exact h
theorem rnds_lt{st:List Nat}(h:Ws st)(w:List Nat):∀ t,Ws (rnds st w t)
 |0=>h
 |t+1=>rnd_lt (rnds_lt h w t) _ _
theorem blkF_length(st:List Nat)(b:Bs):(blkF st b).length=st.length:=by unfold blkF;rw [List.length_zipWith,rnds_length,Nat.min_self]
theorem blkF_lt(st:List Nat)(b:Bs):Ws (blkF st b):=by
 intro x hx
 unfold blkF at hx
 obtain ⟨i,hi,rfl⟩:=List.getElem_of_mem hx
 rw [List.getElem_zipWith]
 exact Nat.mod_lt _ (by decide)
theorem hF_lt:Ws hF:=by unfold Ws hF;decide
theorem shaN_length(m:Bs):∀ n,(shaN m n).length=8
 |0=>rfl
 |n+1=>by unfold shaN;rw [blkF_length,shaN_length m n]
theorem shaN_lt(m:Bs):∀ n,Ws (shaN m n)
 |0=>hF_lt
 |_+1=>blkF_lt _ _
theorem shaN_app(m r:Bs):∀ n,64 * n<=m.length->shaN (m ++ r) n=shaN m n
 |0,_=>rfl
 |n+1,h=>by
  unfold shaN
  rw [shaN_app m r n (by omega),List.drop_append_of_le_length (by omega),List.take_append_of_le_length (by rw [List.length_drop];omega)]
theorem padZ_spec(n:Nat):(n+1+padZ n) % 64=56 ∧ padZ n < 64:=by unfold padZ;omega
theorem pad_length(m:Bs):(pad m).length=m.length+padZ m.length+9:=by
 unfold pad
 simp only [List.length_append,List.length_cons,List.length_replicate,be_length]
 omega
theorem pad_mod(m:Bs):(pad m).length % 64=0:=by
 have:=padZ_spec m.length
 rw [pad_length]
 omega
theorem shaF_length(m:Bs):(shaF m).length=32:=by
 have h1:∀ l:List Nat,(l.flatMap (be 4)).length=4 * l.length:=by
  intro l
  induction l with
  |nil=>rfl
  |cons a l ih=>rw [List.flatMap_cons,List.length_append,ih,be_length,List.length_cons];omega
 unfold shaF
 rw [h1,shaN_length]
end
section
def splF (n:Nat):Nat:=if n < 2 then 0 else 2 ^ (Nat.log2 (n - 1))
theorem splF_two{n:Nat}(h:2<=n):splF n=2 ^ (Nat.log2 (n - 1)):=if_neg (by omega)
theorem splF_pos{n:Nat}(h:2<=n):0 < splF n:=by rw [splF_two h];exact Nat.two_pow_pos _
theorem splF_lt{n:Nat}(h:2<=n):splF n < n:=by
 rw [splF_two h]
 have:=Nat.log2_self_le (n:=n - 1) (by omega)
 omega
theorem splF_half{n:Nat}(h:2<=n):n<=2 * splF n:=by
 rw [splF_two h]
 have:=Nat.lt_log2_self (n:=n - 1)
 rw [Nat.pow_succ] at this
 omega
theorem splF_le{n d:Nat}(h:2<=n)(hd:n<=2 ^ (d+1)):splF n<=2 ^ d:=by
 rw [splF_two h]
 refine Nat.pow_le_pow_right (by omega) ?_
 have h1:Nat.log2 (n - 1) < d+1:=(Nat.log2_lt (by omega)).2 (by omega)
 omega
theorem splF_is{n j:Nat}(h1:2 ^ j < n)(h2:n<=2 * 2 ^ j):splF n=2 ^ j:=by
 have hp:=Nat.two_pow_pos j
 rw [splF_two (by omega)]
 congr 1
 have h3:Nat.log2 (n - 1) < j+1:=(Nat.log2_lt (by omega)).2 (by rw [Nat.pow_succ];omega)
 have h4:j<=Nat.log2 (n - 1):=(Nat.le_log2 (by omega)).2 (by omega)
 omega
def leafF (e:Bs):List UInt8:=shaF (0 :: e)
def nodeF (a b:Bs):List UInt8:=shaF (1 :: (a ++ b))
def emptyF:List UInt8:=shaF []
theorem leafF_length(e:Bs):(leafF e).length=32:=shaF_length _
theorem nodeF_length(a b:Bs):(nodeF a b).length=32:=shaF_length _
theorem emptyF_length:emptyF.length=32:=shaF_length _
def rootN:Nat->List (List UInt8)->List UInt8
 |0,_=>emptyF
 |f+1,l=>match l with
  |[]=>emptyF
  |[h]=>h
  |_=>nodeF (rootN f (l.take (splF l.length))) (rootN f (l.drop (splF l.length)))
def rootF (l:List (List UInt8)):List UInt8:=rootN l.length l
theorem rootN_two{f:Nat}{l:List (List UInt8)}(h:2<=l.length):rootN (f+1) l=nodeF (rootN f (l.take (splF l.length))) (rootN f (l.drop (splF l.length))):=by
 rcases l with _|⟨a,_|⟨b,l⟩⟩
 . simp at h
 . simp at h
 . rfl
theorem rootN_any:∀ (f g:Nat) (l:List (List UInt8)),l.length<=f->l.length<=g->rootN f l=rootN g l
 |0,0,_,_,_=>rfl
 |0,g+1,l,h,_=>by
  have:l=[]:=List.length_eq_zero_iff.1 (by omega)
  subst this
  rfl
 |f+1,0,l,_,h=>by
  have:l=[]:=List.length_eq_zero_iff.1 (by omega)
  subst this
  rfl
 |f+1,g+1,l,hf,hg=>by
  by_cases h2:2<=l.length
  . have h3:=splF_lt h2
    have h4:=splF_pos h2
    rw [rootN_two h2,rootN_two h2,rootN_any f g (l.take _) (by rw [List.length_take];omega) (by rw [List.length_take];omega),rootN_any f g (l.drop _) (by rw [List.length_drop];omega) (by rw [List.length_drop];omega)]
  . rcases l with _|⟨a,_|⟨b,l⟩⟩
    . rfl
    . rfl
    . simp at h2
theorem rootF_two{l:List (List UInt8)}(h:2<=l.length):rootF l=nodeF (rootF (l.take (splF l.length))) (rootF (l.drop (splF l.length))):=by
 have h3:=splF_lt h
 have h4:=splF_pos h
 unfold rootF
 rw [rootN_any l.length (l.length+1) l (by omega) (by omega),rootN_two h]
 rw [rootN_any l.length (l.take _).length (l.take (splF l.length)) (by rw [List.length_take];omega) (Nat.le_refl _),rootN_any l.length (l.drop _).length (l.drop (splF l.length)) (by rw [List.length_drop];omega) (Nat.le_refl _)]
theorem rootF_length{l:List (List UInt8)}(h:∀ x ∈ l,x.length=32):(rootF l).length=32:=by
 by_cases h2:2<=l.length
 . rw [rootF_two h2];exact nodeF_length _ _
 . rcases l with _|⟨a,_|⟨b,l⟩⟩
   . exact emptyF_length
   . exact h a (List.mem_cons_self ..)
   . simp at h2
def stepsN:Nat->Nat->Nat->Nat->Bool->List (Nat × Nat)
 |0,_,_,_,_=>[]
 |f+1,m,from_,n,whole=>if m=n then (if whole then [] else [(from_,from_+n)]) else
  if m<=splF n then stepsN f m from_ (splF n) whole ++ [(from_+splF n,from_+n)]
  else stepsN f (m - splF n) (from_+splF n) (n - splF n) false ++ [(from_,from_+splF n)]
def Deep (f n:Nat):Prop:=n<=2 ^ f
theorem Deep.next{f n:Nat}(h:Deep (f+1) n)(hn:2<=n):Deep f (splF n) ∧ Deep f (n - splF n):=by
 have h1:=splF_le hn h
 have h2:=splF_half hn
 exact ⟨h1,by unfold Deep;omega⟩
theorem stepsN_length:∀ (f m from_ n:Nat) (whole:Bool),(stepsN f m from_ n whole).length<=f
 |0,_,_,_,_=>Nat.le_refl _
 |f+1,m,from_,n,whole=>by
  unfold stepsN
  split
  . split
    . simp
    . simp
  . split
    . rw [List.length_append]
      have:=stepsN_length f m from_ (splF n) whole
      simp;omega
    . rw [List.length_append]
      have:=stepsN_length f (m - splF n) (from_+splF n) (n - splF n) false
      simp;omega
theorem stepsN_succ(f m from_ n:Nat)(whole:Bool):stepsN (f+1) m from_ n whole=if m=n then (if whole then [] else [(from_,from_+n)]) else
 if m<=splF n then stepsN f m from_ (splF n) whole ++ [(from_+splF n,from_+n)]
 else stepsN f (m - splF n) (from_+splF n) (n - splF n) false ++ [(from_,from_+splF n)]:=rfl
def stepsF (m n:Nat):List (Nat × Nat):=stepsN 65 m 0 n true
theorem stepsN_in:∀ (f m from_ n:Nat) (whole:Bool),1<=m->m<=n->∀ r ∈ stepsN f m from_ n whole,from_<=r.1 ∧ r.1 < r.2 ∧ r.2<=from_+n
 |0,_,_,_,_,_,_,r,hr=>by cases hr
 |f+1,m,from_,n,whole,h1,hm,r,hr=>by
  unfold stepsN at hr
  split at hr
  . split at hr
    . cases hr
    . rw [List.mem_singleton.1 hr]
      simp only
      omega
  . have h2:2<=n:=by omega
    have h3:=splF_lt h2
    have h4:=splF_pos h2
    split at hr
    . rename_i hk
      rcases List.mem_append.1 hr with h|h
      . have:=stepsN_in f m from_ (splF n) whole h1 hk r h
        omega
      . rw [List.mem_singleton.1 h]
        simp only
        omega
    . rename_i hk
      rcases List.mem_append.1 hr with h|h
      . have:=stepsN_in f (m - splF n) (from_+splF n) (n - splF n) false (by omega) (by omega) r h
        omega
      . rw [List.mem_singleton.1 h]
        simp only
        omega
def bothN:Nat->Nat->Nat->Bool->List UInt8->List (List UInt8)->List UInt8 × List UInt8
 |0,_,_,_,first,_=>(first,first)
 |f+1,m,n,whole,first,proof=>if m=n then (if whole then (first,first) else (proof.headD [],proof.headD [])) else
  if m<=splF n then
   ((bothN f m (splF n) whole first proof.dropLast).1,nodeF (bothN f m (splF n) whole first proof.dropLast).2 (proof.getLastD []))
  else (nodeF (proof.getLastD []) (bothN f (m - splF n) (n - splF n) false first proof.dropLast).1,nodeF (proof.getLastD []) (bothN f (m - splF n) (n - splF n) false first proof.dropLast).2)
def bothF (m n:Nat) (first:Bs) (proof:List (List UInt8)):List UInt8 × List UInt8:=bothN 65 m n true first proof
def consF (m n:Int) (first second:Bs) (proof:List (List UInt8)):Nat:=
 if m < 0 ∨ n < m then 4 else
 if m=0 then (if first ≠ emptyF ∨ proof.length ≠ 0 ∨ (n=0 ∧ second ≠ first) then 220 else 0) else
 if (stepsF m.toNat n.toNat).length ≠ proof.length then 220 else
 if (bothF m.toNat n.toNat first proof).1 ≠ first ∨ (bothF m.toNat n.toNat first proof).2 ≠ second then 220 else 0
end
section
def fB (st:List Nat) (r:Bs):Nat->List Nat
 |0=>st
 |k+1=>blkF (fB st r k) ((r.drop (64 * k)).take 64)
theorem fB_hF(m:Bs):∀ k,fB hF m k=shaN m k
 |0=>rfl
 |k+1=>by unfold fB shaN;rw [fB_hF m k]
theorem fB_lt{st:List Nat}(h:Ws st)(r:Bs):∀ k,Ws (fB st r k)
 |0=>h
 |_+1=>blkF_lt _ _
theorem fB_length{st:List Nat}(h:st.length=8)(r:Bs):∀ k,(fB st r k).length=8
 |0=>h
 |k+1=>by unfold fB;rw [blkF_length,fB_length h r k]
theorem fB_go{m t:List UInt8}{q:Nat}(hq:64 * q<=m.length):∀ k,fB (shaN m q) (m.drop (64 * q) ++ t) k=shaN (m ++ t) (q+k)
 |0=>(shaN_app m t q hq).symm
 |k+1=>by
  unfold fB
  rw [fB_go hq k]
  show blkF (shaN (m ++ t) (q+k)) _=blkF (shaN (m ++ t) (q+k)) (((m ++ t).drop (64 * (q+k))).take 64)
  rw [<- List.drop_append_of_le_length hq,List.drop_drop,Nat.mul_add]
def lay (blk:Bs) (a:Nat) (x:Bs):List UInt8:=blk.take a ++ x ++ blk.drop (a+x.length)
theorem lay_length{blk:List UInt8}{a:Nat}{x:List UInt8}(h:a+x.length<=blk.length):(lay blk a x).length=blk.length:=by
 unfold lay
 simp only [List.length_append,List.length_take,List.length_drop]
 omega
structure Und (m:Bs) (st:List Nat) (blk:Bs):Prop where
 st:st=shaN m (m.length / 64)
 len:blk.length=64
 blk:blk.take (m.length % 64)=m.drop (64 * (m.length / 64))
theorem Und.new:Und [] hF (List.replicate 64 0):=⟨rfl,by simp,by simp⟩
theorem Und.part{m st blk}(h:Und m st blk){x:List UInt8}(hx:m.length % 64+x.length < 64):Und (m ++ x) st (lay blk (m.length % 64) x):=by
 have hl:=h.len
 have e1:(m ++ x).length / 64=m.length / 64:=by rw [List.length_append];omega
 have e2:(m ++ x).length % 64=m.length % 64+x.length:=by rw [List.length_append];omega
 refine ⟨?_,by rw [lay_length (by omega),hl],?_⟩
 . rw [e1,shaN_app m x _ (by omega)];exact h.st
 . rw [e1,e2,List.drop_append_of_le_length (by omega),<- h.blk]
   unfold lay
   rw [List.take_left' (by rw [List.length_append,List.length_take];omega)]
theorem Und.full{m st blk}(h:Und m st blk){x:List UInt8}(hx:m.length % 64+x.length=64):Und (m ++ x) (blkF st (lay blk (m.length % 64) x)) (lay blk (m.length % 64) x):=by
 have hl:=h.len
 have e1:(m ++ x).length / 64=m.length / 64+1:=by rw [List.length_append];omega
 have e2:(m ++ x).length % 64=0:=by rw [List.length_append];omega
 have e3:lay blk (m.length % 64) x=m.drop (64 * (m.length / 64)) ++ x:=by
  unfold lay
  rw [h.blk,List.drop_of_length_le (l:=blk) (by omega),List.append_nil]
 refine ⟨?_,by rw [lay_length (by omega),hl],?_⟩
 . rw [e1]
   show _=blkF (shaN (m ++ x) (m.length / 64)) (((m ++ x).drop (64 * (m.length / 64))).take 64)
   rw [shaN_app m x _ (by omega),<- h.st,e3,List.drop_append_of_le_length (by omega),List.take_of_length_le (by rw [List.length_append,List.length_drop];omega)]
 . rw [e2,List.take_zero,e1,List.drop_of_length_le (by rw [List.length_append];omega)]
theorem or_byte{w c:Nat}(hw:w < 16777216)(hc:c < 256):(w * 256 % 4294967296) ||| c=256 * w+c:=by
 rw [Nat.mod_eq_of_lt (by omega),show w * 256=2 ^ 8 * w from by omega,<- Nat.two_pow_add_eq_or_of_lt (by omega)]
end
section
open Go.RowKit
theorem rot_int{x:Nat}(h:x < 4294967296)(n:Nat):bits .or .u32 ((x:Int) / ((2 ^ n:Nat):Int)) ((x:Int) * ((2 ^ (32 - n):Nat):Int) % 4294967296)=(rotr x n:Int):=by
 have h1:x / 2 ^ n < 4294967296:=div_lt h
 have h2:x * 2 ^ (32 - n) % 4294967296 < 4294967296:=Nat.mod_lt _ (by decide)
 have:=u32_or_nat (x / 2 ^ n) (x * 2 ^ (32 - n) % 4294967296) h1 h2
 unfold rotr
 rw [<- this,Int.natCast_ediv,Int.natCast_emod,Int.natCast_mul]
 rfl
theorem rot_int'{x:Nat}(h:x < 4294967296)(n:Nat):bits .or .u32 ((x:Int) * ((2 ^ (32 - n):Nat):Int) % 4294967296) ((x:Int) / ((2 ^ n:Nat):Int))=(rotr x n:Int):=by
 have h1:x / 2 ^ n < 4294967296:=div_lt h
 have h2:x * 2 ^ (32 - n) % 4294967296 < 4294967296:=Nat.mod_lt _ (by decide)
 have:=u32_or_nat (x * 2 ^ (32 - n) % 4294967296) (x / 2 ^ n) h2 h1
 unfold rotr
 rw [Nat.or_comm,<- this,Int.natCast_ediv,Int.natCast_emod,Int.natCast_mul]
 rfl
def rotK (n:Nat):Prop:=n=2 ∨ n=6 ∨ n=7 ∨ n=11 ∨ n=13 ∨ n=17 ∨ n=18 ∨ n=19 ∨ n=22 ∨ n=25
theorem rot_k{n:Nat}(h:rotK n):bits .and .u64 (IntKind.u64.wrap (-(n:Int))) 31=((32 - n:Nat):Int):=by
 rcases h with rfl|rfl|rfl|rfl|rfl|rfl|rfl|rfl|rfl|rfl <;> decide +kernel
theorem rotl_any(x n:Nat)(hx:x < 4294967296)(hn:rotK n)(w:World):Calls Tryz.prog 165 #[.int .u32 (x:Int),.int .i64 (-(n:Int))] w fun e w'=>e=.returned (.int .u32 (rotr x n:Int)) ∧ w=w':=by
 have HR:=LH (rot_int' hx n)
 have hk:=rot_k hn
 rcases hn with rfl|rfl|rfl|rfl|rfl|rfl|rfl|rfl|rfl|rfl
 all_goals
  simp only [Int.cast_ofNat_Int,Nat.reduceSub] at hk
  go_enter Tryz.func165,Tryz.ntmps165
  go_wp2
  go_ret
  exact ⟨by rw [<- HR.out];rfl,rfl⟩
end
section
open Go.RowKit
theorem results_cell1{P:Program}{fn:Func}{w:World}{tmps:Array Value}{a t g:Nat}{t':TypeId}{cs:Array Value}{d:TypeDesc}(h:fn.results=#[.cell a t])(ha:tmps.getD a undef=Pq g 0)(hb:Blk w g t' cs)
 (hu:P.underlying t=some d) (hd:aggB d=true) (hi:(P.info? t).map (·.size)=some cs.size):(results fn tmps).run P w=.ok (.agg cs) w:=by
 have hl:(loadCells ⟨g,0,none⟩ cs.size).run P w=.ok cs w:=by
  have:=run_loadCells_list (P:=P) w ⟨g,0,none⟩ cs.toList hb.agg
  simpa using this
 cases hq:P.info? t with
 |none=>simp [hq] at hi
 |some i=>
  have hs:i.size=cs.size:=by simpa [hq] using hi
  simp only [Array.getD_eq_getD_getElem?] at ha
  simp [results,h,ha,loadVar,asAddr,Sem.run_bind,run_isAgg hu hd,sizeOf,typeInfo,hq,hs,hl]
section
variable {P:Program} (w:World)
end
end
section
def hx (n:Nat):UInt8:=if n < 10 then UInt8.ofNat (48+n) else UInt8.ofNat (87+n)
theorem all256{p:Nat->Bool}(h:(List.range 256).all p=true){n:Nat}(hn:n < 256):p n=true:=List.all_eq_true.1 h n (List.mem_range.2 hn)
end
section
def digL:List UInt8:=[48,49,50,51,52,53,54,55,56,57,97,98,99,100,101,102]
theorem digL_get{n:Nat}(h:n < 16):digL[n]?=some (hx n):=by
 have:=all256 (p:=fun n=>decide (n < 16->digL[n]?=some (hx n))) (by decide +kernel) (show n < 256 by omega)
 exact of_decide_eq_true this h
def hex2 (c:UInt8):List UInt8:=[hx (c.toNat / 16),hx (c.toNat % 16)]
def hexS (h:Bs):List UInt8:=h.flatMap hex2
theorem hexS_cons(c:UInt8)(h:Bs):hexS (c :: h)=hex2 c ++ hexS h:=rfl
theorem hexS_length(h:Bs):(hexS h).length=2 * h.length:=by
 induction h with
 |nil=>rfl
 |cons c h ih=>rw [hexS_cons,List.length_append,ih];simp [hex2];omega
theorem hexS_take_succ{h:List UInt8}{k:Nat}{c:UInt8}(e:h[k]?=some c):hexS (h.take (k+1))=hexS (h.take k) ++ hex2 c:=by
 rw [List.take_add_one,e]
 simp [hexS]
end
section
open Go.RowKit
def Txs (w:World) (v:Value) (L:List (List UInt8)):Prop:=
 ∃ vs,Rd w 1 v L.length vs ∧ ∀ i (h:i < L.length),∃ u,vs[i]?=some u ∧ Rd w 1 u L[i].length (bv L[i])
def TxsIn (w:World) (v:Value) (L:List (List UInt8)) (S:List Nat):Prop:=
 ∃ vs,Rd w 1 v L.length vs ∧ (∀ i (h:i < L.length),∃ u,vs[i]?=some u ∧ Rd w 1 u L[i].length (bv L[i]) ∧ ∀ g,u.ownBlock=some g->L[i] ≠ []->g ∈ S) ∧ ∀ g,v.ownBlock=some g->L ≠ []->g ∈ S
section
variable {w w':World} {v:Value} {L:List (List UInt8)} {S T:List Nat}
theorem TxsIn.txs(h:TxsIn w v L S):Txs w v L:=by
 obtain ⟨vs,h1,h2,_⟩:=h
 exact ⟨vs,h1,fun i hi=>by obtain ⟨u,a,b,_⟩:=h2 i hi;exact ⟨u,a,b⟩⟩
theorem Txs.kp0(h:Txs w v L)(hk:Kp [] w w'):Txs w' v L:=by
 obtain ⟨vs,h1,h2⟩:=h
 exact ⟨vs,rd_old h1 hk,fun i hi=>by obtain ⟨u,a,b⟩:=h2 i hi;exact ⟨u,a,rd_old b hk⟩⟩
theorem Txs.open_(h:Txs w v L):∃ A c,v=.slice A L.length c ∧ (0 < L.length->∃ ad,A=some ad) ∧ ∀ ad,A=some ad->∀ i (h:i < L.length),∃ u,w.cell? (ad.add i)=some u ∧ Rd w 1 u L[i].length (bv L[i]):=by
 obtain ⟨vs,⟨hl,A,c,rfl,_,_,hA,hc⟩,h2⟩:=h
 refine ⟨A,c,rfl,fun h0=>?_,fun ad had i hi=>?_⟩
 . cases A with
   |none=>have:=(hA rfl).1;omega
   |some ad=>exact ⟨ad,rfl⟩
 . obtain ⟨u,a,b⟩:=h2 i hi
   exact ⟨u,hc ad had i u a,b⟩
end
def fpB (u:Value) (bs:Bs):List Nat:=if bs=[] then [] else u.ownBlock.toList
theorem fpB_mem{u:Value}{bs:List UInt8}{g:Nat}(h:u.ownBlock=some g)(hne:bs ≠ []):g ∈ fpB u bs:=by simp [fpB,hne,h]
theorem txsIn1{w:World}{u:Value}{bs:List UInt8}{n:Nat}(t:TypeId)(h:Rd w 1 u n (bv bs)):
 TxsIn (w.alloc (.cells #[u] t)) (.slice (some ⟨w.heap.size,0,none⟩) 1 1) [bs] (w.heap.size :: fpB u bs):=by
 have hn:n=bs.length:=by have:=h.1;rw [bv_length] at this;omega
 subst hn
 refine ⟨[u],rd_new w t u,fun i hi=>?_,fun g hg _=>by simp [Value.ownBlock] at hg;simp [hg]⟩
 obtain rfl:i=0:=by simpa using hi
 exact ⟨u,rfl,h.alloc _,fun g hg hne=>List.mem_cons_of_mem _ (fpB_mem hg hne)⟩
theorem txsIn2{w:World}{u1 u2:Value}{b1 b2:List UInt8}{n1 n2:Nat}(t:TypeId)(h1:Rd w 1 u1 n1 (bv b1))(h2:Rd w 1 u2 n2 (bv b2)):
 TxsIn (w.alloc (.cells #[u1,u2] t)) (.slice (some ⟨w.heap.size,0,none⟩) 2 2) [b1,b2] (w.heap.size :: (fpB u1 b1 ++ fpB u2 b2)):=by
 have hn1:n1=b1.length:=by have:=h1.1;rw [bv_length] at this;omega
 have hn2:n2=b2.length:=by have:=h2.1;rw [bv_length] at this;omega
 subst hn1 hn2
 refine ⟨[u1,u2],Rd.of_own (ow_new w t 1 2 #[u1,u2] rfl (by decide)),fun i hi=>?_,fun g hg _=>by simp [Value.ownBlock] at hg;simp [hg]⟩
 have:i=0 ∨ i=1:=by simp at hi;omega
 rcases this with rfl|rfl
 . exact ⟨u1,rfl,h1.alloc _,fun g hg hne=>List.mem_cons_of_mem _ (List.mem_append_left _ (fpB_mem hg hne))⟩
 . exact ⟨u2,rfl,h2.alloc _,fun g hg hne=>List.mem_cons_of_mem _ (List.mem_append_right _ (fpB_mem hg hne))⟩
theorem txs1{w:World}{u:Value}{bs:List UInt8}{n g:Nat}(t:TypeId)(hg:g=w.heap.size)(h:Rd w 1 u n (bv bs)):Txs (w.alloc (.cells #[u] t)) (.slice (some ⟨g,0,none⟩) 1 1) [bs]:=by
 subst hg;exact (txsIn1 t h).txs
theorem txs2{w:World}{u1 u2:Value}{b1 b2:List UInt8}{n1 n2 g:Nat}(t:TypeId)(hg:g=w.heap.size)(h1:Rd w 1 u1 n1 (bv b1))(h2:Rd w 1 u2 n2 (bv b2)):
 Txs (w.alloc (.cells #[u1,u2] t)) (.slice (some ⟨g,0,none⟩) 2 2) [b1,b2]:=by
 subst hg;exact (txsIn2 t h1 h2).txs
end
section
open Go.RowKit
theorem cell_kept{w w':World}{p:Addr}{u:Value}(h:w.cell? p=some u)(hk:Kp [] w w'):w'.cell? p=some u:=
 (World.cell?_of_block (hk.block p.block (cell_lt h) (by simp))).trans h
theorem rd_get2{w:World}{v:Value}{bs:List UInt8}(h:Rd w 1 v bs.length (bv bs)):∃ A c,v=.slice A bs.length c ∧ bs.length<=c ∧ c<=maxLen ∧ (A=none->bs.length=0) ∧ ∀ ad,A=some ad->∀ i (h:i < bs.length),w.cell? (ad.add i)=some (.int .u8 (bs[i].toNat:Int)):=by
 obtain ⟨_,A,c,hv,h1,h2,h3,h4⟩:=h
 exact ⟨A,c,hv,h1,h2,fun hA=>(h3 hA).1,fun ad had i hi=>h4 ad had i _ (by rw [bv_get,List.getElem?_eq_getElem hi];rfl)⟩
end
section
open Go.RowKit
def tou64 (x:Int):Nat:=(x % 18446744073709551616).toNat
end
section
open Go.RowKit
theorem Tryz.infoBytes:(Tryz.prog.info? 32).map (fun i=>(i.zero,i.size,i.bytes))=some (some (.slice none 0 0),1,24):=by kernel_rfl
end
section
open Go.RowKit Go.Shelf
section bridge
variable {P:Program} {ops:Array Oper} {Q:Exit->Act->World->Prop} {n rl:Nat}
def plainB (l:List Oper):Bool:=l.all fun o=>match o.op with|.defer _=>false|_=>true
theorem plainB_spec{l:List Oper}(h:plainB l=true){o:Oper}(ho:o ∈ l):∀ c,o.op ≠ .defer c:=by
 intro c hc
 have:=List.all_eq_true.1 h o ho
 rw [hc] at this
 cases this
theorem oper_in{o:Oper}{a:Act}{w:World}{K:Act->World->Prop}(hd:∀ c,o.op ≠ .defer c)(_hQ:¬ LetsOut Q)(h:o.wp P a w K Q):o.wpIn (Fence.wide.inRound rl) n P a w K Q:=by
 refine ⟨fun _ _=>trivial,?_⟩
 rw [Fence.inRound_round,Oper.semAt_some rl a.eval o hd]
 unfold Oper.wp at h
 generalize (execOp a.eval o).run P w=r at *
 have hn:(Fence.wide.inRound rl).depth.isSome=true->1<=n:=fun h=>by simp [Fence.wide] at h
 cases r with
 |ok nx w'=>
  cases nx with
  |value v=>exact h
  |skip=>exact h
  |defer d=>exact h
  |enter f args=>exact ⟨hn,CallsIn.inRound rl (callsIn_wide.2 h)⟩
  |row r args=>
   refine ⟨hn,fun c cs _=>?_⟩
   obtain ⟨v,w2,h1,h2⟩:=h c cs
   exact ⟨v,w2,h1,stepsIn_wide.2 h2⟩
  |_=>exact h.elim
 |halt x w'=>cases x <;> exact h
theorem not_lets(Q:Exit->Act->World->Prop):¬ LetsOut (Qn Q):=fun ⟨_,_,h⟩=>by cases h.1
theorem op_in{l:List Oper}(hp:plainB l=true){i:Nat}{a:Act}{w:World}{K:Act->World->Prop}(h:wpOp P l.toArray (Qn Q) i K a w):wpOpIn (Fence.wide.inRound rl) n P l.toArray Q i K a w:=by
 unfold wpOp at h
 unfold wpOpIn
 split
 . rename_i ho
   simpa [ho] using h
 . rename_i o ho
   simp only [ho] at h
   have hm:o ∈ l:=by
    have:=Array.mem_of_getElem? ho
    simpa using this
   split
   . rename_i hw
     rw [if_pos hw] at h
     rcases h with h|⟨_,h⟩
     . have h2:=oper_in (rl:=rl) (n:=n) (plainB_spec hp hm) (not_lets Q) h
       unfold Oper.wpIn at h2 ⊢
       refine ⟨h2.1,?_⟩
       have h3:=h2.2
       generalize (o.semAt (Fence.wide.inRound rl).round a.eval).run P w=r at *
       cases r with
       |ok nx w'=>
        cases nx with
        |value v=>exact h3
        |skip=>exact h3
        |defer d=>exact h3
        |enter f args=>
         refine ⟨h3.1,CallsIn.mono h3.2 (fun e w'' he=>?_)⟩
         cases e with
         |returned v=>exact he
         |panicked ch=>cases he.1
         |outgrown=>exact (not_lets Q he).elim
        |row r args=>exact h3
        |round r f t asg bd=>
         refine ⟨h3.1,RoundIn.mono h3.2 (fun e w'' he=>?_)⟩
         cases e with
         |returned v=>exact he
         |panicked ch=>cases he.1
         |outgrown=>exact (not_lets Q he).elim
        |_=>exact h3.elim
       |halt x w'=>cases x <;> first|exact h3.elim|cases h3.1
     . exact (not_lets Q h).elim
   . rename_i hw
     rw [if_neg hw] at h
     exact ⟨fun _ _=>trivial,h⟩
theorem list_in{l0:List Oper}(hp:plainB l0=true):∀ (l:List Oper) (a:Act) (w:World),(∀ o ∈ l,o ∈ l0)->wpList P l0.toArray (Qn Q) l a w->wpListIn (Fence.wide.inRound rl) n P l0.toArray Q l a w
 |[],_,_,_,h=>h.2
 |o :: l,a,w,hm,h=>by
  unfold wpList at h
  unfold wpListIn
  split
  . rename_i hw
    rw [if_pos hw] at h
    rcases h with h|⟨_,h⟩
    . have hi:∃ i:Nat,l0.toArray[i]?=some o:=by
       obtain ⟨i,hi,he⟩:=List.getElem_of_mem (hm o (by simp))
       exact ⟨i,by simp [hi,he]⟩
      obtain ⟨i,hi⟩:=hi
      have h1:wpOp P l0.toArray (Qn Q) i (wpList P l0.toArray (Qn Q) l) a w:=by
       unfold wpOp
       simp only [hi]
       rw [if_pos hw]
       exact .inl h
      have h2:=op_in (rl:=rl) (n:=n) hp h1
      have h3:=wpOpIn_mono (fun a' w' h'=>list_in hp l a' w' (fun x hx=>hm x (List.mem_cons_of_mem _ hx)) h') h2
      unfold wpOpIn at h3
      simp only [hi] at h3
      rwa [if_pos hw] at h3
    . exact (not_lets Q h).elim
  . rename_i hw
    rw [if_neg hw] at h
    exact ⟨fun _ _=>trivial,list_in hp l _ _ (fun x hx=>hm x (List.mem_cons_of_mem _ hx)) h⟩
theorem in_region{id:Nat}{l:List Oper}{a:Act}{w:World}(hp:plainB l=true)(h:wpList P l.toArray (Qn Q) l a w):(Code.region id l.toArray false).wpIn (Fence.wide.inRound rl) n P Q a w:=
 wpIn_region_lit (list_in hp l a w (fun _ h=>h) h)
end bridge
end
section
open Go.RowKit Go.Shelf
def Stays (B:Nat) (p:World->Prop):Prop:=
 ∀ W W',p W->(Kp [] W W' ∨ ∃ (l:Nat) (o o':Obj),B<=l ∧ W.heap[l]?=some o ∧ o.isCells=false ∧ W'=W.putObj l o')->p W'
theorem Stays.kp{B:Nat}{p:World->Prop}(h:Stays B p){W W':World}(hp:p W)(hk:Kp [] W W'):p W':=h W W' hp (.inl hk)
theorem Stays.put{B:Nat}{p:World->Prop}(h:Stays B p){W:World}(hp:p W){l:Nat}{o:Obj}(o':Obj)(hB:B<=l)(hl:W.heap[l]?=some o)(ho:o.isCells=false):p (W.putObj l o'):=
 h W _ hp (.inr ⟨l,o,o',hB,hl,ho,rfl⟩)
theorem Stays.and{B:Nat}{p q:World->Prop}(h:Stays B p)(h':Stays B q):Stays B (fun W=>p W ∧ q W):=fun W W' hp hk=>⟨h W W' hp.1 hk,h' W W' hp.2 hk⟩
theorem Stays.pure(B:Nat)(q:Prop):Stays B (fun _=>q):=fun _ _ h _=>h
theorem Stays.ex{B:Nat}{α:Sort _}{p:α->World->Prop}(h:∀ x,Stays B (p x)):Stays B (fun W=>∃ x,p x W):=fun W W' ⟨x,hx⟩ hk=>⟨x,h x W W' hx hk⟩
def RoundOk {α:Type} (P:Program) (n l:Nat) (encs:α->Array Value) (Z:α->World->Prop) (X:List α->α->World->World->Prop) (N:Nat) (J Jx:List α->World->Prop):Prop:=
 ∀ pre x W0 W1,J pre W0->Kp [] W0 W1->X pre x W0 W1->pre.length < N->YieldAt Fence.wide (n - 1) P l (encs x) W1 fun e W'=>
  (e=.returned (.bool true) ∧ J (pre ++ [x]) W' ∧ Z x W') ∨ (e=.returned (.bool false) ∧ Jx (pre ++ [x]) W')
def SeqW {α:Type} (P:Program) (n g:Nat) (lb:Array Value) (encs:α->Array Value) (Z:α->World->Prop) (X:List α->α->World->World->Prop) (S Sp:List α->Prop) (N:Nat) (w:World):Prop:=
 ∀ (l:Nat) (J Jx:List α->World->Prop) (W:World),Kp [] w W->(∀ s A B,J s A->Kp [] A B->J s B)->(∀ s A B,Jx s A->Kp [] A B->Jx s B)->RoundOk P n l encs Z X N J Jx->J [] W->
  CallsIn Fence.wide n P g (#[.func (.yield l) #[] #[]] ++ lb) W fun e W'=>(∃ v,e=.returned v) ∧ ((∃ xs,S xs ∧ J xs W') ∨ (∃ pre,Sp pre ∧ Jx pre W'))
def Same2 (l D:Nat) (W W':World):Prop:=W'.heap[l]?=W.heap[l]? ∧ W'.heap[D]?=W.heap[D]?
def roundEnd {α:Type} (l D:Nat) (Z:World->Prop) (I:List α->World->Prop) (Ix:Code->List α->World->Prop) (xs:List α) (W:World):Exit->Act->World->Prop
 |.normal,_,W'=>Same2 l D W W' ∧ Z W' ∧ I xs W'
 |.ret,_,W'=>Same2 l D W W' ∧ Ix .ret xs W'
 |.exit id,_,W'=>Same2 l D W W' ∧ Ix (.exit id) xs W'
 |.goto t,_,W'=>Same2 l D W W' ∧ Ix (.goto t) xs W'
 |.panic _,_,_=>False
 |.outgrown,_,_=>False
def markOf (D:Nat):Deferred:={ target:=.collected D,args:=#[] }
variable {P:Program} {n:Nat}
theorem wp_range{α:Type}{g:Operand}{ps:Array Tmp}{assign body:Code}{Q:Exit->Act->World->Prop}{a:Act}{w:World}{gf:Nat}{lb:Array Value}(hg:a.eval g=.func (.func gf) #[] lb)
 (eg:∀ args w,(callFunc gf args).run P w=.ok (.enter gf args) w) {encs:α->Array Value} {Z:α->World->Prop} {X:List α->α->World->World->Prop} {S Sp:List α->Prop} {N:Nat} (hseq:SeqW P (n - 1) gf lb encs Z X S Sp N w) (hZ:∀ x,Stays w.heap.size (Z x))
 (hps:∀ x,(encs x).size=ps.size)
 (I:List α->World->Prop) (Ix:Code->List α->World->Prop) (hI:∀ pre,Stays w.heap.size (I pre)) (hIx:∀ c pre,Stays w.heap.size (Ix c pre)) (h0:I [] w)
 (I':List α->α->World->Prop) (hI':∀ pre x,Stays w.heap.size (I' pre x)) (hprep:∀ (pre:List α) (x:α) (W0 W1:World),I pre W0->Kp [] W0 W1->X pre x W0 W1->pre.length < N->I' pre x W1)
 (A:Array Value->List α->α->Act->World->Prop) (hA:∀ pre x a',Stays w.heap.size (A a.tmps pre x a'))
 (hassign:∀ (pre:List α) (x:α) (W:World),I' pre x W->∀ K:Act->World->Prop,(∀ a' W',Kp [] W W'->A a.tmps pre x a' W'->K a' W')->
  assign.wpIn (Fence.wide.inRound (w.heap.size+1)) (n - 1 - 1) P (Exit.then K (fun _ _ _=>False)) { tmps:=(ps.zip (encs x)).foldl (fun t (p,v)=>t.setIfInBounds p v) a.tmps,defers:=[] } W)
 (hbody:∀ (pre:List α) (x:α) (a':Act) (W:World),I' pre x W->A a.tmps pre x a' W->pre.length < N->(∃ o,W.heap[w.heap.size+1]?=some o ∧ o.isCells=false)->(∃ o,W.heap[w.heap.size]?=some o ∧ o.isCells=false)->
  body.wpIn (Fence.wide.inRound (w.heap.size+1)) (n - 1 - 1) P (roundEnd (w.heap.size+1) w.heap.size (Z x) I Ix (pre ++ [x]) W) a' W)
 (hdone:∀ (xs:List α) (W:World),S xs->I xs W->W.heap[w.heap.size]?=some (.deferred (some []))->Q .normal { a with defers:=markOf w.heap.size :: a.defers } W)
 (hstop:∀ (c:Code) (pre:List α) (W:World),Sp pre->Ix c pre W->W.heap[w.heap.size]?=some (.deferred (some []))->c.wp P Q { a with defers:=markOf w.heap.size :: a.defers } W):
 (Code.rangeFunc g ps assign body).wp P Q a w:=by
 refine (wpIn_wide (n:=n)).1 (wpIn_rangeFunc ?_)
 intro fn hfn
 show ∃ (l:Nat) (mark:List Deferred) (w₁:World) (d:Deferred) (w₁':World) (f:FuncId) (args:Array Value) (w₂:World),(Instr.enterLoop fn a.tmps ps assign body none).run P w=.ok (l,mark) w₁ ∧ _
 obtain ⟨rec,hrec⟩:∃ rec:LoopState->Option Code->Loop,rec=fun st pe=>{ state:=st,pending:=pe,fn,tmps:=a.tmps,params:=ps,assign,body,defers:=w.heap.size }:=⟨_,rfl⟩
 obtain ⟨W1,hW1⟩:∃ W1,(w.alloc (.deferred (some []))).alloc (.loop (rec .ready none))=W1:=⟨_,rfl⟩
 have hk1:Kp [] w W1:=by rw [<- hW1];exact ((Kp.refl [] w).alloc _).alloc _
 have hL1:W1.heap[w.heap.size+1]?=some (.loop (rec .ready none)):=by
  rw [<- hW1];have:=World.alloc_heap_new (w.alloc (.deferred (some []))) (.loop (rec .ready none));rwa [World.size_alloc] at this
 have hD1:W1.heap[w.heap.size]?=some (.deferred (some [])):=by
  rw [<- hW1];exact (Below.heap_alloc _ _ _ (by simp)).trans (World.alloc_heap_new w _)
 have kept:∀ {A B:World} {k:Nat} {o:Obj},Kp [] A B->A.heap[k]?=some o->B.heap[k]?=some o:=fun hk h=>(hk.block _ (Array.getElem?_eq_some_iff.1 h).1 (by simp)).trans h
 refine ⟨w.heap.size+1,[markOf w.heap.size],W1,{ target:=.fn (.func gf) lb,args:=#[.func (.yield (w.heap.size+1)) #[] #[]] },W1,gf,#[.func (.yield (w.heap.size+1)) #[] #[]] ++ lb,W1,?_,?_,fun _ _=>trivial,?_,fun h=>by simp [Fence.wide] at h,?_⟩
 . rw [<- hW1,hrec];exact run_enterLoop_outer _ _ _ _ _
 . simp only [resolve,hg]
   simp [go_sem]
 . simp [invoke,go_sem,eg]
 . refine (hseq (w.heap.size+1)
    (fun pre W=>I pre W ∧ W.heap[w.heap.size+1]?=some (.loop (rec .ready none)) ∧ W.heap[w.heap.size]?=some (.deferred (some [])))
    (fun pre W=>∃ c,Ix c pre W ∧ W.heap[w.heap.size+1]?=some (.loop (rec .done (some c))) ∧ W.heap[w.heap.size]?=some (.deferred (some [])))
    W1 hk1 (fun s A B ⟨h1,h2,h3⟩ hk=>⟨(hI s).kp h1 hk,kept hk h2,kept hk h3⟩) (fun s A B ⟨c,h1,h2,h3⟩ hk=>⟨c,(hIx c s).kp h1 hk,kept hk h2,kept hk h3⟩) ?_ ⟨(hI []).kp h0 hk1,hL1,hD1⟩).mono ?_
   . rintro pre x W0 W ⟨hi0,hl0,hd0⟩ hk0 hx hlen
     have hi:=hprep pre x W0 W hi0 hk0 hx hlen
     have hl:=kept hk0 hl0
     have hd:=kept hk0 hd0
     have hlt:w.heap.size+1 < W.heap.size:=(Array.getElem?_eq_some_iff.1 hl).1
     have hy:=run_yield (P:=P) (args:=encs x) hl (by rw [hrec];exact hps x)
     rw [hrec] at hy
     refine ⟨fn,_,assign,body,hy,roundIn_of_wpIn hfn (hassign pre x W hi _ fun a' Wa hka hAa=>?_)⟩
     have hla:=kept hka hl
     have hda:=kept hka hd
     refine ⟨Wa.putObj (w.heap.size+1) (.loop { rec .ready none with state:=.busy }),by have:=run_beginRound (P:=P) hla (by rw [hrec]);exact this,?_⟩
     have hlta:w.heap.size+1 < Wa.heap.size:=(Array.getElem?_eq_some_iff.1 hla).1
     have hl2:(Wa.putObj (w.heap.size+1) (.loop { rec .ready none with state:=.busy })).heap[w.heap.size+1]?=some (.loop { rec .ready none with state:=.busy }):=World.putObj_heap_same hlta
     have hd2:(Wa.putObj (w.heap.size+1) (.loop { rec .ready none with state:=.busy })).heap[w.heap.size]?=some (.deferred (some [])):=(World.putObj_heap_other (by omega)).trans hda
     refine wpIn_mono (hbody pre x a' _ ((hI' pre x).put ((hI' pre x).kp hi hka) _ (by omega) hla rfl) ((hA pre x a').put hAa _ (by omega) hla rfl) hlen ⟨_,hl2,rfl⟩ ⟨_,hd2,rfl⟩) ?_
     have fin:∀ (jump:Option Code) (W3:World),Same2 (w.heap.size+1) w.heap.size (Wa.putObj (w.heap.size+1) (.loop { rec .ready none with state:=.busy })) W3->
      (Instr.endRound (w.heap.size+1) jump).run P W3=.ok (.bool jump.isNone) (W3.putObj (w.heap.size+1) (.loop (rec (if jump.isNone then .ready else .done) jump))) ∧
      W3.heap[w.heap.size+1]?=some (.loop { rec .ready none with state:=.busy }) ∧
      (W3.putObj (w.heap.size+1) (.loop (rec (if jump.isNone then .ready else .done) jump))).heap[w.heap.size+1]?=some (.loop (rec (if jump.isNone then .ready else .done) jump)) ∧
      (W3.putObj (w.heap.size+1) (.loop (rec (if jump.isNone then .ready else .done) jump))).heap[w.heap.size]?=some (.deferred (some [])):=fun jump W3 hs=>by
      have hl3:=hs.1.trans hl2
      have hd3:=hs.2.trans hd2
      have:=run_endRound (P:=P) jump hl3
      rw [hrec] at this ⊢
      exact ⟨this,by rw [hrec] at hl3;exact hl3,World.putObj_heap_same (Array.getElem?_eq_some_iff.1 hl3).1,(World.putObj_heap_other (by omega)).trans hd3⟩
     rintro e a3 W3 hp
     cases e with
     |normal=>
      obtain ⟨hs,hk3,hi3⟩:=hp
      obtain ⟨hr,hl3,hl4,hd4⟩:=fin none W3 hs
      exact ⟨_,_,hr,.inl ⟨rfl,⟨(hI _).put hi3 _ (by omega) hl3 rfl,hl4,hd4⟩,(hZ x).put hk3 _ (by omega) hl3 rfl⟩⟩
     |ret=>
      obtain ⟨hs,hi3⟩:=hp
      obtain ⟨hr,hl3,hl4,hd4⟩:=fin (some .ret) W3 hs
      exact ⟨_,_,hr,.inr ⟨rfl,.ret,(hIx _ _).put hi3 _ (by omega) hl3 rfl,hl4,hd4⟩⟩
     |exit id=>
      obtain ⟨hs,hi3⟩:=hp
      obtain ⟨hr,hl3,hl4,hd4⟩:=fin (some (.exit id)) W3 hs
      exact ⟨_,_,hr,.inr ⟨rfl,.exit id,(hIx _ _).put hi3 _ (by omega) hl3 rfl,hl4,hd4⟩⟩
     |goto t=>
      obtain ⟨hs,hi3⟩:=hp
      obtain ⟨hr,hl3,hl4,hd4⟩:=fin (some (.goto t)) W3 hs
      exact ⟨_,_,hr,.inr ⟨rfl,.goto t,(hIx _ _).put hi3 _ (by omega) hl3 rfl,hl4,hd4⟩⟩
     |panic ch=>exact hp.elim
     |outgrown=>exact hp.elim
   . rintro e W2 ⟨⟨v,rfl⟩,(⟨xs,hS,hi,hl,hd⟩|⟨pre,hSp,c,hi,hl,hd⟩)⟩
     . exact ⟨none,_,by have:=run_endLoop (P:=P) hl (by rw [hrec];simp);rw [hrec] at this;exact this,hdone _ _ hS ((hI _).put hi _ (by omega) hl rfl) ((World.putObj_heap_other (by omega)).trans hd)⟩
     . exact ⟨some c,_,by have:=run_endLoop (P:=P) hl (by rw [hrec];simp);rw [hrec] at this;exact this,wpIn_wide.2 (hstop c pre _ hSp ((hIx c pre).put hi _ (by omega) hl rfl) ((World.putObj_heap_other (by omega)).trans hd))⟩
end
section
open Go.RowKit Go.Shelf
theorem calls_marks{P:Program}{f:FuncId}{fn:Func}{c:Code}{args:Array Value}{w:World}{R:Ending->World->Prop}(hf:P.funcs[f]?=some fn)(hb:fn.body=some c)
 (h:c.wp P (bodyPostM Fence.wide 3 P fn R) { tmps:=args ++ Array.replicate (fn.ntmps - args.size) undef,defers:=[] } w):Calls P f args w R:=
 callsIn_wide.1 (callsIn_of_wp_marks hf hb trivial (wpIn_wide.2 h) rfl)
theorem Kp.putObj{w:World}(l:Nat)(o:Obj):Kp [l] w (w.putObj l o):=
 ⟨rfl,rfl,rfl,by simp,fun k _ hn=>World.putObj_heap_other (fun e=>hn (by simp [e]))⟩
theorem leaves_marks{P:Program}{fn:Func}{tmps:Array Value}{R:Ending->World->Prop}:∀ (ds:List Nat) (w:World),ds.Nodup->(∀ D ∈ ds,w.heap[D]?=some (.deferred (some [])))->
 (∀ W,Kp ds w W->∃ v,(results fn tmps).run P W=.ok v W ∧ R (.returned v) W)->LeavesInM Fence.wide 3 P fn tmps R (ds.map markOf) .returning w
 |[],w,_,_,h=>h w (Kp.refl [] w)
 |D :: ds,w,hn,hd,h=>by
  obtain ⟨h1,h2⟩:=List.nodup_cons.1 hn
  refine ⟨by simp,.inl ⟨D,_,rfl,run_takeDeferred (hd D (by simp)),leaves_marks ds _ h2 (fun D' hD'=>?_) (fun W hk=>h W ?_)⟩⟩
  . exact (World.putObj_heap_other (fun e=>h1 (by rw [<- e];exact hD'))).trans (hd D' (by simp [hD']))
  . exact ((Kp.putObj D (.deferred none)).more (T:=D :: ds) (fun g hg=>.inl (by simp at hg;simp [hg]))).trans hk (fun g hg=>.inl (by simp [hg]))
theorem ret_marks{P:Program}{fn:Func}{R:Ending->World->Prop}{a:Act}{w:World}(ds:List Nat)(ha:a.defers=ds.map markOf)(hn:ds.Nodup)(hd:∀ D ∈ ds,w.heap[D]?=some (.deferred (some [])))
 (h:∀ W,Kp ds w W->∃ v,(results fn a.tmps).run P W=.ok v W ∧ R (.returned v) W):bodyPostM Fence.wide 3 P fn R .ret a w:=by
 show LeavesInM Fence.wide 3 P fn a.tmps R a.defers .returning w
 rw [ha]
 exact leaves_marks ds w hn hd h
theorem run_eql_func_nil{P:Program}(w:World)(t:TypeId){d:TypeDesc}(h:P.underlying t=some d)(hd:(match d with|.func ..=>true|_=>false)=true)(f:Fn)(a b:Array Value):(binOp .eql t (.func f a b) .nilFunc).run P w=.ok (.bool false) w:=by
 cases d <;> first|(cases hd;done)|skip
 have h1:∀ d,(Op.equalIn (d+1) t (.func f a b) .nilFunc).run P w=.ok false w:=fun d=>by simp [Op.equalIn,run_underlying h]
 simp only [binOp]
 simp [Op.equal,Op.maxDepth,h1 9999]
def Cellular (r:Res):Prop:=∀ W,r.ok W->∀ b ∈ r.fp,∃ o:Obj,W.heap[b]?=some o ∧ o.isCells=true
theorem cellular_row(e:TypeId)(s:Nat)(v:Value)(n:Nat)(xs:List Value):Cellular (rowR e s v n xs):=by
 intro W h b hb
 have hb:v.ownBlock=some b:=by simpa [rowR] using hb
 rcases h.2 with ⟨rfl,_⟩|⟨g,cap,cur,rfl,_,hg,_⟩
 . simp [Value.ownBlock] at hb
 . have:g=b:=by simpa [Value.ownBlock] using hb
   subst this
   exact ⟨_,hg,rfl⟩
theorem cellular_blk(g:Nat)(t:TypeId)(cs:Array Value):Cellular (blkR g t cs):=by
 intro W h b hb
 have hb:b=g:=by simpa [blkR] using hb
 subst hb
 exact ⟨_,h,rfl⟩
def Cells (B:Nat) (L:List Res):Prop:=∀ r,r ∈ L->Cellular r ∨ ∀ b ∈ r.fp,b < B
theorem Cells.nil{B:Nat}:Cells B []:=by simp [Cells]
theorem Cells.cons{B:Nat}{L:List Res}{r:Res}(hr:Cellular r)(h:Cells B L):Cells B (r :: L):=fun s hs=>by
 rcases List.mem_cons.1 hs with rfl|hs
 . exact .inl hr
 . exact h s hs
theorem Cells.row{B:Nat}{L:List Res}{e:TypeId}{s:Nat}{v:Value}{n:Nat}{xs:List Value}(h:Cells B L):Cells B (rowR e s v n xs :: L):=h.cons (cellular_row _ _ _ _ _)
theorem Cells.blk{B:Nat}{L:List Res}{g:Nat}{t:TypeId}{cs:Array Value}(h:Cells B L):Cells B (blkR g t cs :: L):=h.cons (cellular_blk _ _ _)
theorem Cells.of{w0 W:World}{L:List Res}(S:Held w0 W L):Cells W.heap.size L:=fun r hr=>.inr fun b hb=>r.lt W (S.ok r hr) b hb
theorem Cells.not{B:Nat}{L:List Res}(h:Cells B L){w0 W:World}(S:Held w0 W L){l:Nat}{o:Obj}(hB:B<=l)(hl:W.heap[l]?=some o)(ho:o.isCells=false):∀ r ∈ L,l ∉ r.fp:=by
 intro r hr hm
 rcases h r hr with h|h
 . obtain ⟨o',h1,h2⟩:=h W (S.ok r hr) l hm
   rw [hl] at h1
   cases h1
   rw [ho] at h2
   cases h2
 . have:=h l hm
   omega
def objR (l:Nat) (o:Obj):Res where
 fp:=[l]
 ok:=fun w=>w.heap[l]?=some o
 keep:=fun _ _ _ h hk hn=>(hk.block l (Array.getElem?_eq_some_iff.1 h).1 (hn l (by simp))).trans h
 lt:=fun _ h b hb=>by simp at hb;subst hb;exact (Array.getElem?_eq_some_iff.1 h).1
theorem Held.withObj{w0 W:World}{L:List Res}(S:Held w0 W L){l:Nat}{o:Obj}(hB:w0.heap.size<=l)(hl:W.heap[l]?=some o)(hn:∀ r ∈ L,l ∉ r.fp):Held w0 W (objR l o :: L):=
 ⟨S.k,fun r hr=>by
  rcases List.mem_cons.1 hr with rfl|hr
  . exact hl
  . exact S.ok r hr,fun r hr b hb=>by
  rcases List.mem_cons.1 hr with rfl|hr
  . have:b=l:=by simpa [objR] using hb
    omega
  . exact S.base r hr b hb,List.pairwise_cons.2 ⟨fun r hr b hb hb'=>by
  have:b=l:=by simpa [objR] using hb
  subst this
  exact hn r hr hb',S.apart⟩⟩
theorem Held.join{w0 w1 w2:World}{L L':List Res}(S:Held w0 w1 L)(T:Held w1 w2 L'):Held w0 w2 (L ++ L'):=
 ⟨S.k.trans T.k (by simp),fun r hr=>(List.mem_append.1 hr).elim (fun h=>r.keep w1 w2 [] (S.ok r h) T.k (by simp)) (T.ok r),fun r hr b hb=>(List.mem_append.1 hr).elim (fun h=>S.base r h b hb) (fun h=>Nat.le_trans S.k.size (T.base r h b hb)),
  List.pairwise_append.2 ⟨S.apart,T.apart,fun r hr s hs b hb hb'=>by
   have h1:=r.lt w1 (S.ok r hr) b hb
   have h2:=T.base s hs b hb'
   omega⟩⟩
theorem Held.sub{w0 w:World}{L L':List Res}(S:Held w0 w L)(h:L'.Sublist L):Held w0 w L':=
 ⟨S.k,fun r hr=>S.ok r (h.subset hr),fun r hr=>S.base r (h.subset hr),S.apart.sublist h⟩
theorem Held.withTwo{w0 W:World}{L:List Res}(S:Held w0 W L){B:Nat}(hc:Cells B L)(h0:w0.heap.size<=B){l D:Nat}{o d:Obj}(hB:B<=l)(hD:B<=D)(hne:l ≠ D)(hl:W.heap[l]?=some o)(ho:o.isCells=false)(hd:W.heap[D]?=some d)(hd0:d.isCells=false):
 Held w0 W (objR l o :: objR D d :: L):=
 (S.withObj (Nat.le_trans h0 hD) hd (hc.not S hD hd hd0)).withObj (Nat.le_trans h0 hB) hl (fun r hr=>by
  rcases List.mem_cons.1 hr with rfl|hr
  . simpa [objR] using hne
  . exact hc.not S hB hl ho r hr)
theorem Held.same2{w0 W W':World}{L:List Res}{l D:Nat}{o d:Obj}(S:Held w0 W' (objR l o :: objR D d :: L))(hl:W.heap[l]?=some o)(hd:W.heap[D]?=some d):Same2 l D W W':=
 ⟨(S.at_ (l1:=[])).trans hl.symm,(S.at_ (l1:=[_])).trans hd.symm⟩
theorem Held.stays{w0:World}{L:List Res}{B:Nat}(hB:w0.heap.size<=B)(hc:Cells B L):Stays B (fun W=>Held w0 W L):=by
 intro W W' S h
 rcases h with hk|⟨l,o,o',hl,hlo,ho,rfl⟩
 . exact S.kp hk
 . have hn:=hc.not S hl hlo ho
   exact ⟨S.k.trans (Kp.putObj l o') (fun g hg=>by simp at hg;right;omega),fun r hr=>r.keep W _ [l] (S.ok r hr) (Kp.putObj l o') (fun b hb hm=>by simp at hm;subst hm;exact hn r hr hb),S.base,S.apart⟩
theorem cell_put{W:World}{a:Addr}{u:Value}(h:W.cell? a=some u){l:Nat}{o:Obj}(o':Obj)(hl:W.heap[l]?=some o)(ho:o.isCells=false):(W.putObj l o').cell? a=some u:=by
 have hne:a.block ≠ l:=by
  intro e
  unfold World.cell? at h
  rw [e,hl] at h
  cases o <;> first|(cases ho;done)|simp at h
 exact (World.cell?_of_block (World.putObj_heap_other hne)).trans h
theorem rd_put{W:World}{s n:Nat}{v:Value}{xs:List Value}(h:Rd W s v n xs){l:Nat}{o:Obj}(o':Obj)(hl:W.heap[l]?=some o)(ho:o.isCells=false):Rd (W.putObj l o') s v n xs:=by
 obtain ⟨h1,A,c,h2,h3,h4,h5,h6⟩:=h
 exact ⟨h1,A,c,h2,h3,h4,h5,fun ad had j u hu=>cell_put (h6 ad had j u hu) o' hl ho⟩
theorem stays_rd(B s:Nat)(v:Value)(n:Nat)(xs:List Value):Stays B (fun W=>Rd W s v n xs):=fun W W' h hk=>by
 rcases hk with hk|⟨l,o,o',_,hl,ho,rfl⟩
 . exact rd_old h hk
 . exact rd_put h o' hl ho
end
section
open Go.RowKit
theorem run_arr_index{P:Program}(w:World)(t e:TypeId)(n:Nat)(h:Bs)(kd:IntKind)(z:Int)(k:Nat)(hz:z=k)(hk:k < h.length)(hn:h.length=n)(hu:P.underlying t=some (.array n e))(he:P.underlying e=some (.int .u8))(hc:(P.info? e).map (·.size)=some 1):
 (Instr.index t (.agg (hashA h)) (.int kd z)).run P w=.ok (.int .u8 (h[k].toNat:Int)) w:=by
 subst hz
 have hag:(isAgg e).run P w=.ok false w:=by
  unfold isAgg
  rw [Sem.run_bind,run_underlying he w]
  rfl
 cases hq:P.info? e with
 |none=>simp [hq] at hc
 |some i=>
  have hs:i.size=1:=by simpa [hq] using hc
  have hg:(hashA h)[k]?=some (.int .u8 (h[k].toNat:Int)):=by simp [hashA,bv,hk]
  have hb:¬ ((k:Int) < 0 ∨ (n:Int)<=k):=by omega
  have hb2:0<=(k:Int) ∧ (k:Int) < n:=by omega
  simp [Instr.index,Sem.run_bind,run_underlying hu w,asIntOf,part,hag,sizeOf,typeInfo,hq,hs,hg]
  intro;omega
theorem hex_cell{w:World}{g:Nat}(h:Blk w g 183 (hashA digL))(n:Nat)(hn:n < 16):w.cell? ⟨g,n,none⟩=some (.int .u8 ((hx n).toNat:Int)):=by
 rw [h.cell n]
 have:=digL_get hn
 simp [hashA,bv_get,this]
theorem wpList_load_blk{P:Program}{ops:Array Oper}{rest:List Oper}{o:Oper}{a:Act}{w:World}{Q:Exit->Act->World->Prop}(hgd:o.guard=none)(ty:TypeId)(x:Operand)(ho:o.op=.load ty x)(g:Nat)(hx:a.eval x=Pq g 0)
 (t:TypeId) (cs:Array Value) (hb:Blk w g t cs) (d:TypeDesc) (hu:P.underlying ty=some d) (hd:aggB d=true) (hi:(P.info? ty).map (·.size)=some cs.size)
 (h:wpList P ops Q rest (a.put o.dst (.agg cs)) w):wpList P ops Q (o :: rest) a w:=
 wpList_load_agg hgd ty x ho ⟨g,0,none⟩ hx cs.toList d hb.agg hu hd (by rw [hi,Array.length_toList]) h
theorem wpList_store_blk{P:Program}{ops:Array Oper}{rest:List Oper}{o:Oper}{a:Act}{w:World}{Q:Exit->Act->World->Prop}(hgd:o.guard=none)(ty:TypeId)(x y:Operand)(ho:o.op=.store ty x y)(g:Nat)(hx:a.eval x=Pq g 0)
 (xs:Array Value) (hy:a.eval y=.agg xs) (t:TypeId) (cur:Array Value) (hb:Blk w g t cur) (hi:(P.info? ty).map (·.size)=some xs.size) (hsz:cur.size=xs.size) (h1:∀ u,u ∈ xs.toList->u.oneCell'=true)
 (h:∀ w',Blk w' g t xs->Kp [g] w w'->wpList P ops Q rest (a.put o.dst undef) w'):wpList P ops Q (o :: rest) a w:=
 wpList_store_agg hgd ty x y ho g 0 hx xs hy t cur hb hi (by omega) h1 (fun w' h2 k2=>h w' (by rw [set_all _ _ hsz] at h2;exact h2) k2)
theorem Held.setBlk{w0 w w':World}{l1 l2:List Res}{g:Nat}{t:TypeId}{cur xs:Array Value}(h:Held w0 w (l1 ++ blkR g t cur :: l2))(hb:Blk w' g t xs)(k:Kp [g] w w'):Held w0 w' (l1 ++ blkR g t xs :: l2):=
 h.turnAt (blkR g t xs) k hb (fun _ h=>.inl h)
theorem hashA_one(l:Bs):∀ u,u ∈ (hashA l).toList->u.oneCell'=true:=fun u hu=>bv_one l u hu
theorem Tryz.infoHashP:(Tryz.prog.info? 23).map (·.size)=some 32:=by kernel_rfl
theorem Tryz.info16P:(Tryz.prog.info? 183).map (·.size)=some 16:=by kernel_rfl
theorem Tryz.infoPointP:(Tryz.prog.info? 25).map (·.size)=some 33:=by kernel_rfl
theorem Tryz.sizeU8P:(Tryz.prog.info? 5).map (·.size)=some 1:=by kernel_rfl
end
section
open Go.RowKit
theorem srot_any(x n:Nat)(k:Int)(hk:k=n)(hx:x < 4294967296)(hn:rotK n)(w:World):Calls Tryz.prog 159 #[.int .u32 (x:Int),.int .i64 k] w fun e w'=>e=.returned (.int .u32 (rotr x n:Int)) ∧ w=w':=by
 subst hk
 have HR:=LH (fun V=>rotl_any x n hx hn V)
 have hw:wrap64 (-(n:Int))=-(n:Int):=by rcases hn with h|h|h|h|h|h|h|h|h|h <;> (unfold wrap64;omega)
 go_enter Tryz.func159,Tryz.ntmps159
 go_wp2_with fail
 refine (HR.out _).mono ?_
 rintro e w' ⟨rfl,rfl⟩
 go_wp2
 go_ret
 exact ⟨rfl,rfl⟩
theorem rrot_any(x n:Nat)(k:Int)(hk:k=n)(hx:x < 4294967296)(hn:rotK n)(w:World):Calls Tryz.prog 163 #[.int .u32 (x:Int),.int .i64 k] w fun e w'=>e=.returned (.int .u32 (rotr x n:Int)) ∧ Kp [] w w':=by
 subst hk
 have HR:=LH (rot_int hx n)
 rcases hn with rfl|rfl|rfl|rfl|rfl|rfl|rfl|rfl|rfl|rfl
 all_goals
  go_enter Tryz.func163,Tryz.ntmps163
  go_wp2_with fail
  go_quiet (fail)
  go_wp2
  go_ret
  exact ⟨by rw [<- HR.out];rfl,(Kp.refl [] _).drewN _⟩
def u32L (l:List Nat):List Value:=l.map fun x:Nat=>Value.int .u32 (x:Int)
theorem u32L_length(l:List Nat):(u32L l).length=l.length:=List.length_map ..
theorem u32L_get(l:List Nat)(i:Nat):(u32L l)[i]?=l[i]?.map fun x:Nat=>Value.int .u32 (x:Int):=List.getElem?_map ..
theorem u32L_one(l:List Nat):∀ u,u ∈ u32L l->u.oneCell'=true:=by
 intro u hu
 obtain ⟨_,_,rfl⟩:=List.mem_map.1 hu
 rfl
def u32A (l:List Nat):Array Value:=(u32L l).toArray
theorem u32A_size(l:List Nat):(u32A l).size=l.length:=by simp [u32A,u32L]
theorem u32A_one(l:List Nat):∀ u,u ∈ (u32A l).toList->u.oneCell'=true:=u32L_one l
theorem u32A_set(l:List Nat)(i x:Nat):(u32A l).setIfInBounds i (.int .u32 (x:Int))=u32A (l.set i x):=by
 unfold u32A u32L
 rw [List.setIfInBounds_toArray,List.map_set]
theorem wpList_buildC{P:Program}{ops:Array Oper}{rest:List Oper}{o:Oper}{a:Act}{w:World}{Q:Exit->Act->World->Prop}(hg:o.guard=none)(t:TypeId)(parts:Array (Nat × Operand))(ho:o.op=.build t parts)(ps:List (Nat × Value))(hp:(parts.map fun (i,x)=>(i,a.eval x)).toList=ps)
 (cells:Array Value) (hb:P.built t ps=some cells) (h:wpList P ops Q rest (a.put o.dst (.agg cells)) w):wpList P ops Q (o :: rest) a w:=by
 refine wpList_build hg t parts ho (by rw [hp,hb];rfl) ?_
 rw [hp,hb]
 exact h
def at0N:List Value->Nat->List (Nat × Value)
 |[],_=>[]
 |v :: l,k=>(k,v) :: at0N l (k+1)
theorem Tryz.info64w:(Tryz.prog.info? 226).map (·.size)=some 64:=by kernel_rfl
theorem Tryz.info8w:(Tryz.prog.info? 205).map (·.size)=some 8:=by kernel_rfl
theorem Tryz.built_kT:Tryz.prog.built 226 (at0N (u32L kT) 0)=some (u32A kT):=by kernel_rfl
theorem Tryz.built_hF:Tryz.prog.built 205 (at0N (u32L hF) 0)=some (u32A hF):=by kernel_rfl
theorem stable_any(w:World):Calls Tryz.prog 160 #[] w fun e w'=>e=.returned (.agg (u32A kT)) ∧ Kp [] w w':=by
 have S0:=LH ((Held.start w).newBlk 226 (u32A (List.replicate 64 0)))
 have HO:=LH (u32A_one kT)
 have HB:=LH Tryz.built_kT
 go_enter Tryz.func160,Tryz.ntmps160
 go_wp2_with (first
  |(refine wpList_buildC rfl 226 _ rfl (at0N (u32L kT) 0) (by kernel_rfl) _ HB.out ?_)
  |(refine wpList_store_blk rfl 226 (.tmp 0) (.tmp 1) rfl w.heap.size rfl (u32A kT) rfl 226 _ (S0.out.at_ (l1:=[])) (by rw [u32A_size];exact Tryz.info64w) (by rw [u32A_size,u32A_size];rfl) HO.out ?_;intro w1 b1 k1;have S1:=LH (Held.setBlk (l1:=[]) S0.out b1 k1);clear b1 k1))
 refine bodyPost_ret (results_cell1 (by rfl) rfl (S1.out.at_ (l1:=[])) Tryz.underlying226 rfl (by rw [u32A_size];exact Tryz.info64w)) rfl ?_
 exact ⟨rfl,S1.out.k⟩
theorem sfirst_any(w:World):Calls Tryz.prog 146 #[] w fun e w'=>e=.returned (.agg (u32A hF)) ∧ Kp [] w w':=by
 have S0:=LH ((Held.start w).newBlk 205 (u32A (List.replicate 8 0)))
 have HO:=LH (u32A_one hF)
 have HB:=LH Tryz.built_hF
 go_enter Tryz.func146,Tryz.ntmps146
 go_wp2_with (first
  |(refine wpList_buildC rfl 205 _ rfl (at0N (u32L hF) 0) (by kernel_rfl) _ HB.out ?_)
  |(refine wpList_store_blk rfl 205 (.tmp 0) (.tmp 1) rfl w.heap.size rfl (u32A hF) rfl 205 _ (S0.out.at_ (l1:=[])) (by rw [u32A_size];exact Tryz.info8w) (by rw [u32A_size,u32A_size];rfl) HO.out ?_;intro w1 b1 k1;have S1:=LH (Held.setBlk (l1:=[]) S0.out b1 k1);clear b1 k1))
 refine bodyPost_ret (results_cell1 (by rfl) rfl (S1.out.at_ (l1:=[])) Tryz.underlying205 rfl (by rw [u32A_size];exact Tryz.info8w)) rfl ?_
 exact ⟨rfl,S1.out.k⟩
theorem rfirst_any(w:World):Calls Tryz.prog 154 #[] w fun e w'=>e=.returned (.agg (u32A hF)) ∧ Kp [] w w':=by
 have S0:=LH ((Held.start w).newBlk 205 (u32A (List.replicate 8 0)))
 have HO:=LH (u32A_one hF)
 have HB:=LH Tryz.built_hF
 go_enter Tryz.func154,Tryz.ntmps154
 go_wp2_with (first
  |(refine wpList_buildC rfl 205 _ rfl (at0N (u32L hF) 0) (by kernel_rfl) _ HB.out ?_)
  |(refine wpList_store_blk rfl 205 (.tmp 0) (.tmp 1) rfl w.heap.size rfl (u32A hF) rfl 205 _ (S0.out.at_ (l1:=[])) (by rw [u32A_size];exact Tryz.info8w) (by rw [u32A_size,u32A_size];rfl) HO.out ?_;intro w1 b1 k1;have S1:=LH (Held.setBlk (l1:=[]) S0.out b1 k1);clear b1 k1))
 refine bodyPost_ret (results_cell1 (by rfl) rfl (S1.out.at_ (l1:=[])) Tryz.underlying205 rfl (by rw [u32A_size];exact Tryz.info8w)) rfl ?_
 exact ⟨rfl,S1.out.k⟩
end
section
open Go.RowKit
theorem Tryz.infoU32z:(Tryz.prog.info? 204).map (fun i=>(i.zero,i.size,i.bytes))=some (some (.int .u32 0),1,4):=by kernel_rfl
theorem fill_kT:Instr.fill (fun i=>some (i * 1,1)) ((Array.range (64 * 1)).map ((Value.int .u32 0).cells[· % (Value.int .u32 0).cells.size]!)) (at0N (u32L kT) 0)=some (u32A kT):=by kernel_rfl
theorem kT_get{t:Nat}(h:t < 64):(u32L kT)[t]?=some (.int .u32 ((kT.getD t 0:Nat):Int)):=by
 have:t < kT.length:=h
 rw [u32L_get,List.getElem?_eq_getElem this,List.getD_eq_getElem?_getD,List.getElem?_eq_getElem this]
 rfl
theorem wpList_buildSC{P:Program}{ops:Array Oper}{rest:List Oper}{o:Oper}{a:Act}{w:World}{Q:Exit->Act->World->Prop}(hg:o.guard=none)(t e:TypeId)(len:Nat)(parts:Array (Nat × Operand))(ho:o.op=.buildSlice t len parts)(ps:List (Nat × Value))(hp:(parts.map fun (i,x)=>(i,a.eval x)).toList=ps)
 (cells:Array Value) (ie:TypeInfo) (z:Value) (hu:P.underlying t=some (.slice e)) (hie:P.info? e=some ie) (hz:ie.zero=some z) (k:Nat) (hk:ie.size=k) (hsmall:¬ len * k > 2 ^ 24) (hpos:¬ len * k=0)
 (hf:Instr.fill (fun i=>some (i * k,k)) ((Array.range (len * k)).map (z.cells[· % z.cells.size]!)) ps=some cells)
 (h:wpList P ops Q rest (a.put o.dst (.slice (some ⟨w.heap.size,0,none⟩) len len)) (w.alloc (.cells cells e))):wpList P ops Q (o :: rest) a w:=by
 subst hk
 refine wpList_buildSlice hg t e len parts ho cells ie z hu hie hz hsmall hpos (by rw [hp];exact hf) h
theorem rk_any(t:Nat)(ht:t < 64)(w:World):Calls Tryz.prog 164 #[.int .i64 (t:Int)] w fun e w'=>e=.returned (.int .u32 ((kT.getD t 0:Nat):Int)) ∧ Kp [] w w':=by
 obtain ⟨i0,hi,hz0,hz1,hz2⟩:=info_parts Tryz.infoU32z
 have K1:=LH ((Kp.refl [] w).alloc (.cells (u32A kT) 204))
 have hc:(w.alloc (.cells (u32A kT) 204)).cell? ⟨w.heap.size,t,none⟩=some (.int .u32 ((kT.getD t 0:Nat):Int)):=by
  rw [(Blk.new w 204 (u32A kT)).cell t,show (u32A kT)[t]?=(u32L kT)[t]? from by simp [u32A],kT_get ht]
 have HF:=LH fill_kT
 obtain ⟨x,hx⟩:∃ x,kT.getD t 0=x:=⟨_,rfl⟩
 rw [hx] at hc ⊢
 clear hx
 obtain ⟨ka,hka⟩:∃ ka,Hid (u32A kT=ka):=⟨_,LH rfl⟩
 rw [hka.out] at hc K1
 go_enter Tryz.func164,Tryz.ntmps164
 go_wp2_with (refine wpList_buildSC rfl 232 204 64 _ rfl (at0N (u32L kT) 0) (by kernel_rfl) ka i0 (.int .u32 0) Tryz.underlying232 hi hz0 1 hz1 (by decide) (by decide) (by rw [<- hka.out];exact HF.out) ?_)
 go_ret
 exact ⟨rfl,K1.out⟩
theorem word_any(x:Value)(bs:Bs)(n:Nat)(hn:4<=n)(w:World)(hx:Rd w 1 x n (bv bs)):Calls Tryz.prog 158 #[x] w fun e w'=>e=.returned (.int .u32 ((num (bs.take 4):Nat):Int)) ∧ w=w':=by
 obtain ⟨hl,A,c,rfl,h1,h2,hA,hc⟩:=hx
 rw [bv_length] at hl
 unfold maxLen at h2
 rcases A with _|ad
 . have:=hA rfl;omega
 have HC:=LH (hc ad rfl)
 have Hl:=LH hl
 clear hA hc hl
 go_enter Tryz.func158,Tryz.ntmps158
 go_wp2
 go_loopw [3,5,9] (fun acc _ t wr=>∃ k:Nat,k<=4 ∧ t=.int .i64 (k:Int) ∧ acc=.int .u32 ((num (bs.take k):Nat):Int) ∧ w=wr) (fun _ _ t _=>4 - (intOf t).toNat)
 case atStart=>exact ⟨0,by omega,rfl,rfl,rfl⟩
 case round=>
  obtain ⟨k,hk,rfl,rfl,rfl⟩:=hrel
  by_cases hlt:k < 4
  . obtain ⟨b,hb⟩:∃ b,bs[k]?=some b:=⟨_,List.getElem?_eq_getElem (by have:=Hl.out;omega)⟩
    have hcell:=HC.out k _ (by rw [bv_get,hb];rfl)
    have hnum:num (bs.take (k+1))=256 * num (bs.take k)+b.toNat:=by rw [List.take_add_one,hb];exact num_snoc _ _
    have hlt2:num (bs.take k) < 16777216:=by
     have h3:∀ j,j<=3->num (bs.take j) < 256 ^ j:=by
      intro j
      induction j with
      |zero=>intro _;simp [num]
      |succ j ih=>
       intro hj
       have hjl:j < bs.length:=by have:=Hl.out;omega
       have:=ih (by omega)
       have hb:=(bs[j]).toNat_lt
       rw [List.take_add_one,List.getElem?_eq_getElem hjl,show (some bs[j]).toList=[bs[j]] from rfl,num_snoc,Nat.pow_succ]
       omega
     have:=h3 k (by omega)
     have h4:256 ^ k<=256 ^ 3:=Nat.pow_le_pow_right (by decide) (by omega)
     omega
    have hor:bits .or .u32 (((num (bs.take k):Nat):Int) * 256) (b.toNat:Int)=((num (bs.take (k+1)):Nat):Int):=by
     rw [hnum,<- or_byte hlt2 b.toNat_lt,<- u32_or_nat _ _ (Nat.mod_lt _ (by decide)) (by have:=b.toNat_lt;omega),Nat.mod_eq_of_lt (by omega),Int.natCast_mul]
     rfl
    have Hor:=LH hor
    have HN:=LH hnum
    have hblt:=b.toNat_lt
    clear hnum hor hb
    generalize num (bs.take k)=a at *
    go_wp2
    go_roundw
    case rel=>exact ⟨k+1,by omega,by go_num,by rw [Hor.out],trivial⟩
    case measure=>simp [intOf];omega
  . obtain rfl:k=4:=by omega
    go_wp2
    go_ret
    exact ⟨rfl,rfl⟩
end
section
open Go.RowKit
theorem digits_any(w:World):Calls Tryz.prog 123 #[] w fun e w'=>e=.returned (.agg (hashA digL)) ∧ Kp [] w w':=by
 have HO:=LH (hashA_one digL)
 go_enter Tryz.func123,Tryz.ntmps123
 go_wp2_with (refine wpList_store_blk rfl 183 (.tmp 0) (.tmp 1) rfl w.heap.size rfl (hashA digL) rfl 183 _ (Blk.new w 183 _) (by exact Tryz.info16P) (by rfl) HO.out ?_;intro w2 b2 k2)
 exact bodyPost_ret (results_cell1 (by rfl) rfl b2 Tryz.underlying183 rfl (by exact Tryz.info16P)) rfl ⟨rfl,((Kp.refl [] w).alloc _).trans k2 (fun g hg=>by simp at hg;exact .inr (by omega))⟩
end
section
open Go.RowKit
theorem pdigit_any(n:Nat)(hn:n < 16)(w:World):Calls Tryz.prog 144 #[.int .u8 (n:Int)] w fun e w'=>e=.returned (.int .u8 ((hx n).toNat:Int)) ∧ w=w':=by
 by_cases h:n < 10
 . have HP:Hid (((hx n).toNat:Int)=48+n):=LH (by unfold hx;rw [if_pos h,UInt8.toNat_ofNat'];omega)
   have h':(n:Int) < 10:=by omega
   go_enter Tryz.func144,Tryz.ntmps144
   go_wp2
   go_ret
   exact ⟨by rw [HP.out];rfl,rfl⟩
 . have HP:Hid (((hx n).toNat:Int)=87+n):=LH (by unfold hx;rw [if_neg h,UInt8.toNat_ofNat'];omega)
   have h':¬ (n:Int) < 10:=by omega
   go_enter Tryz.func144,Tryz.ntmps144
   go_wp2
   go_ret
   exact ⟨by rw [HP.out,show (87:Int)+n=97+n - 10 by omega];rfl,rfl⟩
theorem hex_any(h:Bs)(hh:h.length=32)(w:World):Calls Tryz.prog 103 #[.agg (hashA h)] w fun e w'=>e=.returned (.string ⟨(hexS h).toArray⟩) ∧ Kp [] w w':=by
 have HH:=LH hh
 have S0:=LH ((Held.start w).newBlk 23 (hashA h))
 have HS32:Hid ((hashA h).size=32):=LH (by rw [hashA_size,hh])
 have H16:Hid ((hashA digL).size=16):=LH rfl
 clear hh
 obtain ⟨dg,HD⟩:∃ dg,Hid (hashA digL=dg):=⟨_,LH rfl⟩
 obtain ⟨hs,HHS⟩:∃ hs,Hid (hashA h=hs):=⟨_,LH rfl⟩
 rw [HHS.out] at S0 ⊢
 rw [HD.out] at H16
 go_enter Tryz.func103,Tryz.ntmps103
 go_wp2_with fail
 refine (digits_any _).mono ?_
 rw [HD.out]
 rintro e w1 ⟨rfl,k1⟩
 have S1:=LH (S0.out.kp k1)
 clear k1
 have HO:=LH (fun u hu=>by rw [<- HD.out] at hu;exact hashA_one digL u hu:∀ u,u ∈ dg.toList->u.oneCell'=true)
 go_wp2_with (first
  |(refine wpList_store_blk rfl 183 (.tmp 3) (.tmp 7) rfl w1.heap.size rfl dg rfl 183 _ (Blk.new w1 183 _) (by rw [H16.out];exact Tryz.info16P) (by rw [H16.out];rfl) HO.out ?_;intro w2 b2 k2;have S2:=LH (Held.setBlk (l1:=[]) (S1.out.newBlk 183 _) b2 k2);clear b2 k2;have S3:=LH (S2.out.rownew (ow_new w2 5 1 0 #[] rfl (by decide)) ((Kp.refl [] w2).alloc _) (fun g hg=>Nat.le_of_eq (Option.some.inj hg))))
  |(refine wpList_load_blk rfl 23 (.tmp 1) rfl w.heap.size rfl 23 hs (S3.out.at_ (l1:=[_,_])) _ Tryz.underlying23 rfl (by rw [<- HHS.out,HS32.out];exact Tryz.infoHashP) ?_))
 obtain ⟨g3,hg3⟩:∃ g3,w1.heap.size=g3:=⟨_,rfl⟩
 rw [hg3] at S3 ⊢
 clear S0 S1 S2 hg3
 go_loopw [4,6,10] (fun b _ i wr=>∃ k:Nat,k<=32 ∧ i=.int .i64 k ∧ ∃ A c,b=.slice A (hexS (h.take k)).length c ∧ Held w wr [rowR 5 1 (.slice A (hexS (h.take k)).length c) (hexS (h.take k)).length (bv (hexS (h.take k))),blkR g3 183 (hashA digL)]) (fun _ _ i _=>32 - (intOf i).toNat)
 case atStart=>exact ⟨0,by omega,rfl,_,_,rfl,by rw [HD.out];exact S3.out.sub (.cons_cons _ (.cons_cons _ (.cons _ (List.Sublist.refl _))))⟩
 case round=>
  clear S3
  obtain ⟨k,hk,rfl,Ao,co,rfl,S⟩:=hrel
  have HS:=LH S
  clear S
  have hol:(hexS (h.take k)).length<=64:=by
   rw [hexS_length,List.length_take];omega
  by_cases hlt:k < 32
  . have hlt':k < h.length:=by have:=HH.out;omega
    have q:=fun V=>run_arr_index (P:=Tryz.prog) V 23 5 32 h .i64 (k:Int) k rfl hlt' HH.out Tryz.underlying23 Tryz.underlying5 Tryz.sizeU8P
    rw [HHS.out] at q
    have he:h[k]?=some h[k]:=List.getElem?_eq_getElem hlt'
    obtain ⟨o',HO2⟩:∃ o',Hid (hexS (h.take (k+1))=o'):=⟨_,LH rfl⟩
    have HO1:Hid (hexS (h.take k) ++ hex2 h[k]=o'):=LH (by rw [<- HO2.out,hexS_take_succ he])
    clear he
    generalize hexS (h.take k)=o at *
    generalize h[k]=ch at *
    have hlc:=ch.toNat_lt
    have HO':Hid (o ++ [hx (ch.toNat / 16),hx (ch.toNat % 16)]=o' ∧ o.length+2=o'.length):=LH ⟨HO1.out,by rw [<- HO1.out];simp [hex2]⟩
    clear HO1
    generalize ch.toNat=n at *
    go_wp2_with fail
    refine wp_region_sep (Γ:=Unit) 2 [0,1,2,3,4,5,6,7,8,9,10,11,13]
     (fun i vs gs=>match i with|0=>vs 0=.slice Ao o.length co|1=>vs 1=.int .u8 (n:Int)|2=>vs 2=.int .u8 ((n:Int) / 16)|3=>vs 3=.pointer (some ⟨g3,n / 16,none⟩)|4=>vs 4=.int .u8 ((hx (n / 16)).toNat:Int)|5=>vs 5=.int .u8 (n:Int)|6=>vs 6=.int .u8 ((n:Int) % 16)|7=>vs 7=.pointer (some ⟨g3,n % 16,none⟩)|8=>vs 8=.int .u8 ((hx (n % 16)).toNat:Int)|10=>∃ A c,vs 10=.slice A o'.length c|11=>vs 11=vs 10|_=>True)
     (fun i vs gs=>match i with|9=>[rowR 5 1 (vs 9) 2 (bv [hx (n / 16),hx (n % 16)])]|10=>[rowR 5 1 (vs 10) o'.length (bv o')]|12=>[rowR 5 1 (.slice Ao o.length co) o.length (bv o)]|13=>[blkR g3 183 (hashA digL)]|_=>[])
     (fun i=>match i with|10=>[12]|_=>[]) (fun i=>match i with|4=>[13]|8=>[13]|10=>[9]|_=>[]) HS.out (by kernel_rfl) (by kernel_rfl) (by kernel_rfl) (by kernel_rfl) (fun i=>match i with|0=>[0]|1=>[1]|2=>[2]|3=>[3]|4=>[4]|5=>[5]|6=>[6]|7=>[7]|8=>[8]|9=>[9]|10=>[10]|11=>[10,11]|_=>[]) (by kernel_rfl) ?_ (by kernel_rfl) ?_ ?_ ?_
    . exact lA
    . simp only [List.range,List.range.loop,List.flatMap_cons,List.flatMap_nil,List.append_nil]
      exact List.Perm.refl _
    . and_intros <;> try intro vs gs A' W LF hA S hR hd hu K hK
      . have e4:A'.tmps[4]?.getD undef=vs 11:=slot_is hA (by kernel_rfl) (Nat.le_of_ble_eq_true (by kernel_rfl)) (by kernel_rfl)
        rw [show vs 11=.slice Ao o.length co from hu 11 _ rfl (by kernel_rfl)] at e4
        exact qa0
      . have e6:A'.tmps[6]?.getD undef=.int .u8 (n:Int):=slot_is hA (by kernel_rfl) (Nat.le_of_ble_eq_true (by kernel_rfl)) (by kernel_rfl)
        exact qa0
      . replace hK:=hK default
        have f1:vs 1=.int .u8 (n:Int):=hd 1 (by kernel_rfl)
        have e14:A'.tmps[14]?.getD undef=vs 1:=slot_is hA (by kernel_rfl) (Nat.le_of_ble_eq_true (by kernel_rfl)) (by kernel_rfl)
        rw [f1] at e14;go_step;exact hK _ _ S rfl
      . have e3:A'.tmps[3]?.getD undef=Pq g3 0:=slot_is hA (by kernel_rfl) (Nat.le_of_ble_eq_true (by kernel_rfl)) (by kernel_rfl)
        have f2:vs 2=.int .u8 ((n:Int) / 16):=hd 2 (by kernel_rfl)
        have e15:A'.tmps[15]?.getD undef=vs 2:=slot_is hA (by kernel_rfl) (Nat.le_of_ble_eq_true (by kernel_rfl)) (by kernel_rfl)
        rw [f2] at e15
        have h0:0<=(n:Int) / 16:=by omega
        have h1:(n:Int) / 16 < 16:=by omega
        have h2:((n:Int) / 16).toNat=n / 16:=by omega
        exact qa0
      . have f3:vs 3=.pointer (some ⟨g3,n / 16,none⟩):=hd 3 (by kernel_rfl)
        have e16:A'.tmps[16]?.getD undef=vs 3:=slot_is hA (by kernel_rfl) (Nat.le_of_ble_eq_true (by kernel_rfl)) (by kernel_rfl)
        rw [f3] at e16
        have q:=hex_cell (S.ok (blkR g3 183 (hashA digL)) (hR 13 (List.mem_singleton.2 rfl) _ (List.mem_singleton.2 rfl))) (n / 16) (by omega)
        exact qa0
      . have e6:A'.tmps[6]?.getD undef=.int .u8 (n:Int):=slot_is hA (by kernel_rfl) (Nat.le_of_ble_eq_true (by kernel_rfl)) (by kernel_rfl)
        exact qa0
      . replace hK:=hK default
        have f5:vs 5=.int .u8 (n:Int):=hd 5 (by kernel_rfl)
        have e18:A'.tmps[18]?.getD undef=vs 5:=slot_is hA (by kernel_rfl) (Nat.le_of_ble_eq_true (by kernel_rfl)) (by kernel_rfl)
        rw [f5] at e18;go_step;exact hK _ _ S rfl
      . have e3:A'.tmps[3]?.getD undef=Pq g3 0:=slot_is hA (by kernel_rfl) (Nat.le_of_ble_eq_true (by kernel_rfl)) (by kernel_rfl)
        have f6:vs 6=.int .u8 ((n:Int) % 16):=hd 6 (by kernel_rfl)
        have e19:A'.tmps[19]?.getD undef=vs 6:=slot_is hA (by kernel_rfl) (Nat.le_of_ble_eq_true (by kernel_rfl)) (by kernel_rfl)
        rw [f6] at e19
        have h0:0<=(n:Int) % 16:=by omega
        have h1:(n:Int) % 16 < 16:=by omega
        have h2:((n:Int) % 16).toNat=n % 16:=by omega
        exact qa0
      . have f7:vs 7=.pointer (some ⟨g3,n % 16,none⟩):=hd 7 (by kernel_rfl)
        have e20:A'.tmps[20]?.getD undef=vs 7:=slot_is hA (by kernel_rfl) (Nat.le_of_ble_eq_true (by kernel_rfl)) (by kernel_rfl)
        rw [f7] at e20
        have q:=hex_cell (S.ok (blkR g3 183 (hashA digL)) (hR 13 (List.mem_singleton.2 rfl) _ (List.mem_singleton.2 rfl))) (n % 16) (by omega)
        exact qa0
      . replace hK:=hK default
        have f4:vs 4=.int .u8 ((hx (n / 16)).toNat:Int):=hd 4 (by kernel_rfl)
        have e17:A'.tmps[17]?.getD undef=vs 4:=slot_is hA (by kernel_rfl) (Nat.le_of_ble_eq_true (by kernel_rfl)) (by kernel_rfl)
        rw [f4] at e17;have f8:vs 8=.int .u8 ((hx (n % 16)).toNat:Int):=hd 8 (by kernel_rfl)
        have e21:A'.tmps[21]?.getD undef=vs 8:=slot_is hA (by kernel_rfl) (Nat.le_of_ble_eq_true (by kernel_rfl)) (by kernel_rfl)
        rw [f8] at e21;go_step
        exact hK _ _ (S.rownew (ow_new W 5 1 2 #[.int .u8 ((hx (n / 16)).toNat:Int),.int .u8 ((hx (n % 16)).toNat:Int)] rfl (by decide)) ((Kp.refl [] W).alloc _) (fun g hg=>Nat.le_of_eq (Option.some.inj hg))) trivial
      . replace hK:=hK default
        have f0:vs 0=.slice Ao o.length co:=hd 0 (by kernel_rfl)
        have e13:A'.tmps[13]?.getD undef=vs 0:=slot_is hA (by kernel_rfl) (Nat.le_of_ble_eq_true (by kernel_rfl)) (by kernel_rfl)
        rw [f0] at e13
        have e22:A'.tmps[22]?.getD undef=vs 9:=slot_is hA (by kernel_rfl) (Nat.le_of_ble_eq_true (by kernel_rfl)) (by kernel_rfl)
        refine op_app (.tmp 13) (.tmp 22) 32 5 rfl Tryz.infoU8 Tryz.underlying32 rfl (by decide) (.slice Ao o.length co) o.length (bv o) (by simpa [Act.eval] using e13) S (vs 9) 2 (bv [hx (n / 16),hx (n % 16)]) (by simpa [Act.eval] using e22) (rd_of_row (e:=5) S (List.mem_cons_of_mem _ (hR 9 (List.mem_singleton.2 rfl) _ (List.mem_singleton.2 rfl)))) (bv_one _) (by unfold maxLen;omega) (by omega) (fun v' w' S'=>?_)
        rw [<- bv_append,HO'.out.1,HO'.out.2] at S'
        obtain ⟨A1,c1,h1,_⟩:=ow_form (S'.at_ (l1:=[]))
        exact hK v' w' S' ⟨A1,c1,h1⟩
      . have f10:∃ A c,vs 10=.slice A o'.length c:=hd 10 (by kernel_rfl)
        have e23:A'.tmps[23]?.getD undef=vs 10:=slot_is hA (by kernel_rfl) (Nat.le_of_ble_eq_true (by kernel_rfl)) (by kernel_rfl)
        exact qa0
      . trivial
    . intro vs gs W S hp
      have S:Held w W (rowR 5 1 (vs 9) 2 (bv [hx (n / 16),hx (n % 16)]) :: rowR 5 1 (vs 10) o'.length (bv o') :: blkR g3 183 (hashA digL) :: []):=by simpa only [List.flatMap_cons,List.flatMap_nil,List.append_nil,List.nil_append,List.cons_append,List.append_assoc] using S
      have p0:vs 0=.slice Ao o.length co:=hp 0 (Nat.le_of_ble_eq_true rfl)
      have p1:vs 1=.int .u8 (n:Int):=hp 1 (Nat.le_of_ble_eq_true rfl)
      have p2:vs 2=.int .u8 ((n:Int) / 16):=hp 2 (Nat.le_of_ble_eq_true rfl)
      have p3:vs 3=.pointer (some ⟨g3,n / 16,none⟩):=hp 3 (Nat.le_of_ble_eq_true rfl)
      have p4:vs 4=.int .u8 ((hx (n / 16)).toNat:Int):=hp 4 (Nat.le_of_ble_eq_true rfl)
      have p5:vs 5=.int .u8 (n:Int):=hp 5 (Nat.le_of_ble_eq_true rfl)
      have p6:vs 6=.int .u8 ((n:Int) % 16):=hp 6 (Nat.le_of_ble_eq_true rfl)
      have p7:vs 7=.pointer (some ⟨g3,n % 16,none⟩):=hp 7 (Nat.le_of_ble_eq_true rfl)
      have p8:vs 8=.int .u8 ((hx (n % 16)).toNat:Int):=hp 8 (Nat.le_of_ble_eq_true rfl)
      have p11:vs 11=vs 10:=hp 11 (Nat.le_of_ble_eq_true rfl)
      obtain ⟨A8,c8,h8⟩:=hp 10 (Nat.le_of_ble_eq_true rfl)
      rw [h8] at p11 S
      have S2:=LH S.drop
      clear hp
      simp only [putAll,p0,p1,p2,p3,p4,p5,p6,p7,p8,p11,h8,Act.put,List.setIfInBounds_toArray,List.set_cons_succ,List.set_cons_zero]
      clear p0 p1 p2 p3 p4 p5 p6 p7 p8 p11 h8
      go_wp2
      go_roundw
      case rel=>exact ⟨k+1,by omega,by go_num,by rw [HO2.out];exact ⟨_,_,rfl,S2.out⟩⟩
      case measure=>simp [intOf];omega
  . obtain rfl:k=32:=by omega
    have HR:Hid (hexS (h.take 32)=hexS h):=LH (by rw [List.take_of_length_le (by have:=HH.out;omega)])
    rw [HR.out] at HS ⊢
    have kv:=strB (Rd.of_own (HS.out.at_ (l1:=[])))
    go_wp2
    go_ret
    exact ⟨rfl,HS.out.k⟩
theorem rhex_any(h:Bs)(hh:h.length=32)(w:World):Calls Tryz.prog 127 #[.agg (hashA h)] w fun e w'=>e=.returned (.string ⟨(hexS h).toArray⟩) ∧ Kp [] w w':=by
 have HH:=LH hh
 have S0:=LH (((Held.start w).newBlk 23 (hashA h)).rownew (World.ownsRow_nil _ 0 5 1) (Kp.refl [] _) (by simp [Value.ownBlock]))
 clear hh
 go_enter Tryz.func127,Tryz.ntmps127
 go_wp2
 obtain ⟨g1,hg1⟩:∃ g1,w.heap.size=g1:=⟨_,rfl⟩
 rw [hg1] at S0 ⊢
 clear hg1
 go_loopw [3,4] (fun b i wr=>∃ k:Nat,k<=32 ∧ i=.int .i64 k ∧ ∃ A c,b=.slice A (hexS (h.take k)).length c ∧ Held w wr [rowR 5 1 (.slice A (hexS (h.take k)).length c) (hexS (h.take k)).length (bv (hexS (h.take k))),blkR g1 23 (hashA h)]) (fun _ i _=>32 - (intOf i).toNat)
 case atStart=>exact ⟨0,by omega,rfl,_,_,rfl,S0.out⟩
 case round=>
  clear S0
  obtain ⟨k,hk,rfl,Ao,co,rfl,S⟩:=hrel
  have HS:=LH S
  clear S
  have hol:(hexS (h.take k)).length<=64:=by
   rw [hexS_length,List.length_take];omega
  by_cases hlt:k < 32
  . have hlt':k < h.length:=by have:=HH.out;omega
    have he:h[k]?=some h[k]:=List.getElem?_eq_getElem hlt'
    have hg:(hashA h)[k]?=some (.int .u8 (h[k].toNat:Int)):=by simp [hashA,bv,hlt']
    obtain ⟨o',HO2⟩:∃ o',Hid (hexS (h.take (k+1))=o'):=⟨_,LH rfl⟩
    have HO1:Hid (hexS (h.take k) ++ hex2 h[k]=o'):=LH (by rw [<- HO2.out,hexS_take_succ he])
    clear he
    generalize hexS (h.take k)=o at *
    generalize h[k]=ch at *
    have hlc:=ch.toNat_lt
    have HO':Hid (o ++ [hx (ch.toNat / 16),hx (ch.toNat % 16)]=o' ∧ o.length+2=o'.length):=LH ⟨HO1.out,by rw [<- HO1.out];simp [hex2]⟩
    clear HO1
    generalize ch.toNat=n at *
    have HG:=LH hg
    clear hg
    have cd1:Hid (∀ V,Calls Tryz.prog 144 #[.int .u8 ((n:Int) / 16)] V fun e w'=>e=.returned (.int .u8 ((hx (n / 16)).toNat:Int)) ∧ V=w'):=LH (fun V=>by
     have:=pdigit_any (n / 16) (by omega) V
     rwa [show ((n / 16:Nat):Int)=(n:Int) / 16 from by omega] at this)
    have cd2:Hid (∀ V,Calls Tryz.prog 144 #[.int .u8 ((n:Int) % 16)] V fun e w'=>e=.returned (.int .u8 ((hx (n % 16)).toNat:Int)) ∧ V=w'):=LH (fun V=>by
     have:=pdigit_any (n % 16) (by omega) V
     rwa [show ((n % 16:Nat):Int)=(n:Int) % 16 from by omega] at this)
    go_wp2_with fail
    refine wp_region_sep (Γ:=Unit) 2 [0,1,2,3,4,5,6,7,8,9,10,11,12,13,15]
     (fun i vs gs=>match i with|0=>vs 0=.slice Ao o.length co|1=>vs 1=.int .i64 (k:Int)|2=>vs 2=.pointer (some ⟨g1,k,none⟩)|3=>vs 3=.int .u8 (n:Int)|4=>vs 4=.int .u8 ((n:Int) / 16)|5=>vs 5=.int .u8 ((hx (n / 16)).toNat:Int)|6=>vs 6=.int .i64 (k:Int)|7=>vs 7=.pointer (some ⟨g1,k,none⟩)|8=>vs 8=.int .u8 (n:Int)|9=>vs 9=.int .u8 ((n:Int) % 16)|10=>vs 10=.int .u8 ((hx (n % 16)).toNat:Int)|12=>∃ A c,vs 12=.slice A o'.length c|13=>vs 13=vs 12|_=>True)
     (fun i vs gs=>match i with|11=>[rowR 5 1 (vs 11) 2 (bv [hx (n / 16),hx (n % 16)])]|12=>[rowR 5 1 (vs 12) o'.length (bv o')]|14=>[rowR 5 1 (.slice Ao o.length co) o.length (bv o)]|15=>[blkR g1 23 (hashA h)]|_=>[])
     (fun i=>match i with|12=>[14]|_=>[]) (fun i=>match i with|3=>[15]|8=>[15]|12=>[11]|_=>[]) HS.out (by kernel_rfl) (by kernel_rfl) (by kernel_rfl) (by kernel_rfl) (fun i=>match i with|0=>[0]|1=>[1]|2=>[2]|3=>[3]|4=>[4]|5=>[5]|6=>[6]|7=>[7]|8=>[8]|9=>[9]|10=>[10]|11=>[11]|12=>[12]|13=>[12,13]|_=>[]) (by kernel_rfl) ?_ (by kernel_rfl) ?_ ?_ ?_
    . exact lA
    . simp only [List.range,List.range.loop,List.flatMap_cons,List.flatMap_nil,List.append_nil]
      exact List.Perm.refl _
    . and_intros <;> try intro vs gs A' W LF hA S hR hd hu K hK
      . have e3:A'.tmps[3]?.getD undef=vs 13:=slot_is hA (by kernel_rfl) (Nat.le_of_ble_eq_true (by kernel_rfl)) (by kernel_rfl)
        rw [show vs 13=.slice Ao o.length co from hu 13 _ rfl (by kernel_rfl)] at e3
        exact qa0
      . have e4:A'.tmps[4]?.getD undef=.int .i64 (k:Int):=slot_is hA (by kernel_rfl) (Nat.le_of_ble_eq_true (by kernel_rfl)) (by kernel_rfl)
        exact qa0
      . replace hK:=hK default
        have e1:A'.tmps[1]?.getD undef=Pq g1 0:=slot_is hA (by kernel_rfl) (Nat.le_of_ble_eq_true (by kernel_rfl)) (by kernel_rfl)
        have f1:vs 1=.int .i64 (k:Int):=hd 1 (by kernel_rfl)
        have e10:A'.tmps[10]?.getD undef=vs 1:=slot_is hA (by kernel_rfl) (Nat.le_of_ble_eq_true (by kernel_rfl)) (by kernel_rfl)
        rw [f1] at e10;go_step;exact hK _ _ S rfl
      . have f2:vs 2=.pointer (some ⟨g1,k,none⟩):=hd 2 (by kernel_rfl)
        have e11:A'.tmps[11]?.getD undef=vs 2:=slot_is hA (by kernel_rfl) (Nat.le_of_ble_eq_true (by kernel_rfl)) (by kernel_rfl)
        rw [f2] at e11
        have q:W.cell? ⟨g1,k,none⟩=some (.int .u8 (n:Int)):=by rw [(show Blk W g1 23 (hashA h) from S.ok (blkR g1 23 (hashA h)) (hR 15 (List.mem_singleton.2 rfl) _ (List.mem_singleton.2 rfl))).cell k];exact HG.out
        exact qa0
      . replace hK:=hK default
        have f3:vs 3=.int .u8 (n:Int):=hd 3 (by kernel_rfl)
        have e12:A'.tmps[12]?.getD undef=vs 3:=slot_is hA (by kernel_rfl) (Nat.le_of_ble_eq_true (by kernel_rfl)) (by kernel_rfl)
        rw [f3] at e12;go_step;exact hK _ _ S rfl
      . replace hK:=hK default
        have f4:vs 4=.int .u8 ((n:Int) / 16):=hd 4 (by kernel_rfl)
        have e13:A'.tmps[13]?.getD undef=vs 4:=slot_is hA (by kernel_rfl) (Nat.le_of_ble_eq_true (by kernel_rfl)) (by kernel_rfl)
        rw [f4] at e13;go_step
        refine (cd1.out _).mono ?_
        rintro e w' ⟨rfl,rfl⟩
        exact hK _ _ S rfl
      . have e4:A'.tmps[4]?.getD undef=.int .i64 (k:Int):=slot_is hA (by kernel_rfl) (Nat.le_of_ble_eq_true (by kernel_rfl)) (by kernel_rfl)
        exact qa0
      . replace hK:=hK default
        have e1:A'.tmps[1]?.getD undef=Pq g1 0:=slot_is hA (by kernel_rfl) (Nat.le_of_ble_eq_true (by kernel_rfl)) (by kernel_rfl)
        have f6:vs 6=.int .i64 (k:Int):=hd 6 (by kernel_rfl)
        have e15:A'.tmps[15]?.getD undef=vs 6:=slot_is hA (by kernel_rfl) (Nat.le_of_ble_eq_true (by kernel_rfl)) (by kernel_rfl)
        rw [f6] at e15;go_step;exact hK _ _ S rfl
      . have f7:vs 7=.pointer (some ⟨g1,k,none⟩):=hd 7 (by kernel_rfl)
        have e16:A'.tmps[16]?.getD undef=vs 7:=slot_is hA (by kernel_rfl) (Nat.le_of_ble_eq_true (by kernel_rfl)) (by kernel_rfl)
        rw [f7] at e16
        have q:W.cell? ⟨g1,k,none⟩=some (.int .u8 (n:Int)):=by rw [(show Blk W g1 23 (hashA h) from S.ok (blkR g1 23 (hashA h)) (hR 15 (List.mem_singleton.2 rfl) _ (List.mem_singleton.2 rfl))).cell k];exact HG.out
        exact qa0
      . replace hK:=hK default
        have f8:vs 8=.int .u8 (n:Int):=hd 8 (by kernel_rfl)
        have e17:A'.tmps[17]?.getD undef=vs 8:=slot_is hA (by kernel_rfl) (Nat.le_of_ble_eq_true (by kernel_rfl)) (by kernel_rfl)
        rw [f8] at e17;go_step;exact hK _ _ S rfl
      . replace hK:=hK default
        have f9:vs 9=.int .u8 ((n:Int) % 16):=hd 9 (by kernel_rfl)
        have e18:A'.tmps[18]?.getD undef=vs 9:=slot_is hA (by kernel_rfl) (Nat.le_of_ble_eq_true (by kernel_rfl)) (by kernel_rfl)
        rw [f9] at e18;go_step
        refine (cd2.out _).mono ?_
        rintro e w' ⟨rfl,rfl⟩
        exact hK _ _ S rfl
      . replace hK:=hK default
        have f5:vs 5=.int .u8 ((hx (n / 16)).toNat:Int):=hd 5 (by kernel_rfl)
        have e14:A'.tmps[14]?.getD undef=vs 5:=slot_is hA (by kernel_rfl) (Nat.le_of_ble_eq_true (by kernel_rfl)) (by kernel_rfl)
        rw [f5] at e14;have f10:vs 10=.int .u8 ((hx (n % 16)).toNat:Int):=hd 10 (by kernel_rfl)
        have e19:A'.tmps[19]?.getD undef=vs 10:=slot_is hA (by kernel_rfl) (Nat.le_of_ble_eq_true (by kernel_rfl)) (by kernel_rfl)
        rw [f10] at e19;go_step
        exact hK _ _ (S.rownew (ow_new W 5 1 2 #[.int .u8 ((hx (n / 16)).toNat:Int),.int .u8 ((hx (n % 16)).toNat:Int)] rfl (by decide)) ((Kp.refl [] W).alloc _) (fun g hg=>Nat.le_of_eq (Option.some.inj hg))) trivial
      . replace hK:=hK default
        have f0:vs 0=.slice Ao o.length co:=hd 0 (by kernel_rfl)
        have e9:A'.tmps[9]?.getD undef=vs 0:=slot_is hA (by kernel_rfl) (Nat.le_of_ble_eq_true (by kernel_rfl)) (by kernel_rfl)
        rw [f0] at e9
        have e20:A'.tmps[20]?.getD undef=vs 11:=slot_is hA (by kernel_rfl) (Nat.le_of_ble_eq_true (by kernel_rfl)) (by kernel_rfl)
        refine op_app (.tmp 9) (.tmp 20) 32 5 rfl Tryz.infoU8 Tryz.underlying32 rfl (by decide) (.slice Ao o.length co) o.length (bv o) (by simpa [Act.eval] using e9) S (vs 11) 2 (bv [hx (n / 16),hx (n % 16)]) (by simpa [Act.eval] using e20) (rd_of_row (e:=5) S (List.mem_cons_of_mem _ (hR 11 (List.mem_singleton.2 rfl) _ (List.mem_singleton.2 rfl)))) (bv_one _) (by unfold maxLen;omega) (by omega) (fun v' w' S'=>?_)
        rw [<- bv_append,HO'.out.1,HO'.out.2] at S'
        obtain ⟨A1,c1,h1,_⟩:=ow_form (S'.at_ (l1:=[]))
        exact hK v' w' S' ⟨A1,c1,h1⟩
      . have f12:∃ A c,vs 12=.slice A o'.length c:=hd 12 (by kernel_rfl)
        have e21:A'.tmps[21]?.getD undef=vs 12:=slot_is hA (by kernel_rfl) (Nat.le_of_ble_eq_true (by kernel_rfl)) (by kernel_rfl)
        exact qa0
      . trivial
    . intro vs gs W S hp
      have S:Held w W (rowR 5 1 (vs 11) 2 (bv [hx (n / 16),hx (n % 16)]) :: rowR 5 1 (vs 12) o'.length (bv o') :: blkR g1 23 (hashA h) :: []):=by simpa only [List.flatMap_cons,List.flatMap_nil,List.append_nil,List.nil_append,List.cons_append,List.append_assoc] using S
      have p0:vs 0=.slice Ao o.length co:=hp 0 (Nat.le_of_ble_eq_true rfl)
      have p1:vs 1=.int .i64 (k:Int):=hp 1 (Nat.le_of_ble_eq_true rfl)
      have p2:vs 2=.pointer (some ⟨g1,k,none⟩):=hp 2 (Nat.le_of_ble_eq_true rfl)
      have p3:vs 3=.int .u8 (n:Int):=hp 3 (Nat.le_of_ble_eq_true rfl)
      have p4:vs 4=.int .u8 ((n:Int) / 16):=hp 4 (Nat.le_of_ble_eq_true rfl)
      have p5:vs 5=.int .u8 ((hx (n / 16)).toNat:Int):=hp 5 (Nat.le_of_ble_eq_true rfl)
      have p6:vs 6=.int .i64 (k:Int):=hp 6 (Nat.le_of_ble_eq_true rfl)
      have p7:vs 7=.pointer (some ⟨g1,k,none⟩):=hp 7 (Nat.le_of_ble_eq_true rfl)
      have p8:vs 8=.int .u8 (n:Int):=hp 8 (Nat.le_of_ble_eq_true rfl)
      have p9:vs 9=.int .u8 ((n:Int) % 16):=hp 9 (Nat.le_of_ble_eq_true rfl)
      have p10:vs 10=.int .u8 ((hx (n % 16)).toNat:Int):=hp 10 (Nat.le_of_ble_eq_true rfl)
      have p13:vs 13=vs 12:=hp 13 (Nat.le_of_ble_eq_true rfl)
      obtain ⟨A8,c8,h8⟩:=hp 12 (Nat.le_of_ble_eq_true rfl)
      rw [h8] at p13 S
      have S2:=LH S.drop
      clear hp
      simp only [putAll,p0,p1,p2,p3,p4,p5,p6,p7,p8,p9,p10,p13,h8,Act.put,List.setIfInBounds_toArray,List.set_cons_succ,List.set_cons_zero]
      clear p0 p1 p2 p3 p4 p5 p6 p7 p8 p9 p10 p13 h8
      go_wp2
      go_roundw
      case rel=>exact ⟨k+1,by omega,by go_num,by rw [HO2.out];exact ⟨_,_,rfl,S2.out⟩⟩
      case measure=>simp [intOf];omega
  . obtain rfl:k=32:=by omega
    have HR:Hid (hexS (h.take 32)=hexS h):=LH (by rw [List.take_of_length_le (by have:=HH.out;omega)])
    rw [HR.out] at HS ⊢
    have kv:=strB (Rd.of_own (HS.out.at_ (l1:=[])))
    go_wp2
    go_ret
    exact ⟨rfl,HS.out.k⟩
end
section
open Go.RowKit
theorem hashA_set(l:Bs)(i:Nat)(c:UInt8):(hashA l).setIfInBounds i (.int .u8 (c.toNat:Int))=hashA (l.set i c):=by
 apply Array.ext'
 simp [hashA,bv,List.map_set]
theorem run_str_indexP(s:ByteArray)(k:Nat)(hk:k < s.size)(w:World):(Instr.index 9 (.string s) (.int .i64 (k:Int))).run Tryz.prog w=.ok (.int .u8 (s[k].toNat:Int)) w:=by
 simp [Instr.index,run_underlying Tryz.underlying9,hk,go_sem]
end
section
open Go.RowKit
theorem u32_cell{w:World}{g:Nat}{t:TypeId}{l:List Nat}(h:Blk w g t (u32A l))(i x:Nat)(hx:l[i]?=some x):w.cell? ⟨g,i,none⟩=some (.int .u32 (x:Int)):=by
 rw [h.cell i,show (u32A l)[i]?=(u32L l)[i]? from by simp [u32A],u32L_get,hx]
 rfl
def pz (l:List Nat):List Nat:=l ++ List.replicate (64 - l.length) 0
theorem pz_length{l:List Nat}(h:l.length<=64):(pz l).length=64:=by unfold pz;rw [List.length_append,List.length_replicate];omega
theorem pz_at{l:List Nat}{i x:Nat}(h:l[i]?=some x):(pz l)[i]?=some x:=by
 unfold pz
 rw [List.getElem?_append_left (List.getElem?_eq_some_iff.1 h).1];exact h
theorem pz_next{l:List Nat}(h:l.length < 64)(x:Nat):(pz l).set l.length x=pz (l ++ [x]):=by
 unfold pz
 rw [List.set_append_right _ _ (Nat.le_refl _),Nat.sub_self,show 64 - l.length=(64 - (l ++ [x]).length)+1 from by simp;omega,List.replicate_succ,List.set_cons_zero]
 simp
theorem bytes_rd{w:World}{g:Nat}{t:TypeId}{b:List UInt8}(h:Blk w g t (hashA b))(k:Nat)(hk:k<=b.length)(hb:b.length<=1000):Rd w 1 (.slice (some ⟨g,k,none⟩) (b.length - k) (b.length - k)) (b.length - k) (bv (b.drop k)):=by
 refine ⟨by rw [bv_length,List.length_drop];omega,_,_,rfl,Nat.le_refl _,by unfold maxLen;omega,(fun h=>by cases h),fun ad had j u hu=>?_⟩
 cases had
 have h2:(bv b)[k+j]?=some u:=by
  rw [bv_get] at hu ⊢
  rw [List.getElem?_drop] at hu
  exact hu
 rw [show ((⟨g,k,none⟩:Addr).add j)=⟨g,k+j,none⟩ from by unfold Addr.add;split <;> simp <;> omega,h.cell,show (hashA b)[k+j]?=(bv b)[k+j]? from by simp [hashA]]
 exact h2
theorem wsN_next16(b:Bs){k:Nat}(hk:k < 16):wsN b (k+1)=wsN b k ++ [num ((b.drop (4 * k)).take 4)]:=by
 show wsN b k ++ [if k < 16 then _ else _]=_
 rw [if_pos hk]
theorem wsN_next48(b:Bs)(j:Nat):wsN b (j+16+1)=wsN b (j+16) ++ [((wsN b (j+16)).getD j 0+sg0 ((wsN b (j+16)).getD (j+1) 0)+(wsN b (j+16)).getD (j+9) 0+sg1 ((wsN b (j+16)).getD (j+14) 0)) % 4294967296]:=by
 show wsN b (j+16) ++ [if j+16 < 16 then _ else _]=_
 rw [if_neg (by omega),show j+16 - 16=j from by omega,show j+16 - 15=j+1 from by omega,show j+16 - 7=j+9 from by omega,show j+16 - 2=j+14 from by omega]
theorem getD_at{l:List Nat}{i:Nat}(h:i < l.length):l[i]?=some (l.getD i 0):=by
 rw [List.getD_eq_getElem?_getD,List.getElem?_eq_getElem h]
 rfl
theorem Tryz.len64u8:Tryz.prog.arrayLen 181=64:=by kernel_rfl
theorem Tryz.slice64(g:Nat)(w:World)(k:Nat)(z:Int)(hz:z=k)(hk:k < 64):(Instr.sliceAt 181 (Pq g 0) (some (.int .i64 z)) none none).run Tryz.prog w=.ok (.slice (some ⟨g,k,none⟩) (64 - k) (64 - k)) w:=by
 subst hz
 obtain ⟨i0,hi,hz0,hz1,hz2⟩:=info_parts Tryz.infoU8
 rw [run_sliceAt_array_l w 181 ⟨g,0,none⟩ (by kernel_rfl) .i64 (k:Int) (by omega) (by rw [Tryz.len64u8];omega),Tryz.len64u8,show Tryz.prog.elem 181=5 from by kernel_rfl]
 have e:(⟨g,0,none⟩:Addr).add (k * 1)=⟨g,k,none⟩:=by unfold Addr.add;split <;> simp <;> omega
 simp only [sizeOf,typeInfo,hi,hz1,Sem.run_bind,Sem.run_pure,Result.andThen,run_program,slicedAt,Int.toNat_natCast,e]
 rw [if_neg (by omega)]
theorem list8{l:List Nat}(h:l.length=8):∃ a b c d e f g i,l=[a,b,c,d,e,f,g,i]:=by
 match l,h with
 |[a,b,c,d,e,f,g,i],_=>exact ⟨a,b,c,d,e,f,g,i,rfl⟩
theorem Tryz.built8(a b c d e f g h:Nat):Tryz.prog.built 205 (at0N (u32L [a,b,c,d,e,f,g,h]) 0)=some (u32A [a,b,c,d,e,f,g,h]):=by
 unfold Program.built
 kernel_rfl
theorem pz_full{l:List Nat}(h:l.length=64):pz l=l:=by unfold pz;rw [h];simp
theorem and_lt{x y:Nat}(h:x < 4294967296):x &&& y < 4294967296:=Nat.lt_of_le_of_lt Nat.and_le_left h
theorem not32_lt'(x:Nat):not32 x < 4294967296:=by unfold not32;omega
end
section
variable {Q:Exit->Act->World->Prop} {a:Act} {w:World}
open Go.RowKit
theorem sblk_r19(g11 v0 v1 v2 v3 v4 v5 v6 v7:Nat)(HV:Hid (∀ V,Kp [] w V->∀ i x:Nat,[v0,v1,v2,v3,v4,v5,v6,v7][i]?=some x->V.cell? ⟨g11,i,none⟩=some (.int .u32 (x:Int))))(hsz:a.tmps.size=172)(o11:Sl a 11 (Pq g11 0)):RG1 true 19 Tryz.f147 Q a w fun a' W q'=>Kp [] w.drew W->Sl a' 13 (.int .u32 ((v0:Nat):Int))->Sl a' 14 (.int .u32 ((v4:Nat):Int))->q':=by
 intro hend
 have hap:=pa 19 Tryz.f147
 refine wp_region_inv (l:=(opsOf 19 Tryz.f147)) (fun i v W=>match i with|0=>v=Pq g11 0|1=>v=.int .u32 ((v0:Nat):Int)|2=>v=Pq g11 4|3=>v=.int .u32 ((v4:Nat):Int)|4=>v=.int .u32 ((v0:Nat):Int)|5=>v=.int .u32 ((v4:Nat):Int)|_=>True) (by kernel_rfl) hap (by kernel_rfl) ?_ ?_ ?_
 . exact fun _ _ _ _ h _=>h
 . and_intros <;> try intro vs A' W hA hW hd K hK
   . exact qa1 (eO 11 o11)
   . have c0:=HV.out W ((Kp.refl [] _).drew.trans hW (by simp)) 0 v0 rfl
     exact qa1 (vD 82 0)
   . exact qa1 (eO 11 o11)
   . have c0:=HV.out W ((Kp.refl [] _).drew.trans hW (by simp)) 4 v4 rfl
     exact qa1 (vD 84 2)
   . exact qa1 (vD 83 1)
   . exact qa1 (vD 85 3)
   . trivial
 . intro vs W hW hp
   rw [putAll_eq]
   exact hend _ W sQ hW (sW (hp 4 sB)) (sW (hp 5 sB))
theorem sblk_r20(g5 g10 g11 k v0 v1 v2 v3 v4 v5 v6 v7 kk wk:Nat)(hk:k < 64)(HV4:Hid (v4 < 4294967296))(HV5:Hid (v5 < 4294967296))(HV6:Hid (v6 < 4294967296))(HV:Hid (∀ V,Kp [] w V->∀ i x:Nat,[v0,v1,v2,v3,v4,v5,v6,v7][i]?=some x->V.cell? ⟨g11,i,none⟩=some (.int .u32 (x:Int))))(HKt:Hid (∀ V,Kp [] w V->V.cell? ⟨g10,k,none⟩=some (.int .u32 (kk:Int))))(HWt:Hid (∀ V,Kp [] w V->V.cell? ⟨g5,k,none⟩=some (.int .u32 (wk:Int))))(hsz:a.tmps.size=172)(o5:Sl a 5 (Pq g5 0))(o10:Sl a 10 (Pq g10 0))(o11:Sl a 11 (Pq g11 0))(o12:Sl a 12 (.int .i64 (k:Int)))(o14:Sl a 14 (.int .u32 ((v4:Nat):Int))):RG1 true 20 Tryz.f147 Q a w fun a' W q'=>Kp [] w.drew W->Sl a' 15 (.int .u32 ((rX v4 v5 v6 v7 kk wk:Nat):Int))->q':=by
 intro hend
 have hap:=pa 20 Tryz.f147
 refine wp_region_inv (l:=(opsOf 20 Tryz.f147)) (fun i v W=>match i with|0=>v=Pq g11 7|1=>v=.int .u32 ((v7:Nat):Int)|2=>v=.int .u32 ((v4:Nat):Int)|3=>v=.int .u32 ((rotr v4 6:Nat):Int)|4=>v=.int .u32 ((v4:Nat):Int)|5=>v=.int .u32 ((rotr v4 11:Nat):Int)|6=>v=.int .u32 ((rotr v4 6 ^^^ rotr v4 11:Nat):Int)|7=>v=.int .u32 ((v4:Nat):Int)|8=>v=.int .u32 ((rotr v4 25:Nat):Int)|9=>v=.int .u32 ((bS1 v4:Nat):Int)|10=>v=.int .u32 (((v7+bS1 v4) % 4294967296:Nat):Int)|11=>v=.int .u32 ((v4:Nat):Int)|12=>v=Pq g11 5|13=>v=.int .u32 ((v5:Nat):Int)|14=>v=.int .u32 ((v4 &&& v5:Nat):Int)|15=>v=.int .u32 ((v4:Nat):Int)|16=>v=.int .u32 ((not32 v4:Nat):Int)|17=>v=Pq g11 6|18=>v=.int .u32 ((v6:Nat):Int)|19=>v=.int .u32 ((not32 v4 &&& v6:Nat):Int)|20=>v=.int .u32 ((cho v4 v5 v6:Nat):Int)|21=>v=.int .u32 (((v7+bS1 v4+cho v4 v5 v6) % 4294967296:Nat):Int)|22=>v=.int .i64 (k:Int)|23=>v=.pointer (some ⟨g10,k,none⟩)|24=>v=.int .u32 ((kk:Nat):Int)|25=>v=.int .u32 (((v7+bS1 v4+cho v4 v5 v6+kk) % 4294967296:Nat):Int)|26=>v=.int .i64 (k:Int)|27=>v=.pointer (some ⟨g5,k,none⟩)|28=>v=.int .u32 ((wk:Nat):Int)|29=>v=.int .u32 ((rX v4 v5 v6 v7 kk wk:Nat):Int)|30=>v=.int .u32 ((rX v4 v5 v6 v7 kk wk:Nat):Int)|_=>True) (by kernel_rfl) hap (by kernel_rfl) ?_ ?_ ?_
 . exact fun _ _ _ _ h _=>h
 . and_intros <;> try intro vs A' W hA hW hd K hK
   . exact qa1 (eO 11 o11)
   . have c0:=HV.out W ((Kp.refl [] _).drew.trans hW (by simp)) 7 v7 rfl
     exact qa1 (vD 86 0)
   . exact qa1 (eO 14 o14)
   . have e88:=vD 88 2;clear hA hd o5 o10 o11 o12 o14;go_step
     refine (srot_any v4 6 6 rfl HV4.out (by unfold rotK;omega) W).mono ?_
     rintro e w' ⟨rfl,rfl⟩
     exact hK _ _ kR rfl
   . exact qa1 (eO 14 o14)
   . have e90:=vD 90 4;clear hA hd o5 o10 o11 o12 o14;go_step
     refine (srot_any v4 11 11 rfl HV4.out (by unfold rotK;omega) W).mono ?_
     rintro e w' ⟨rfl,rfl⟩
     exact hK _ _ kR rfl
   . have e89:=vD 89 3;have e91:=vD 91 5;clear hA hd o5 o10 o11 o12 o14;go_step
     exact hK _ _ kR (congrArg (Value.int .u32) (u32_x _ _ (rotr_lt HV4.out) (rotr_lt HV4.out)))
   . exact qa1 (eO 14 o14)
   . have e93:=vD 93 7;clear hA hd o5 o10 o11 o12 o14;go_step
     refine (srot_any v4 25 25 rfl HV4.out (by unfold rotK;omega) W).mono ?_
     rintro e w' ⟨rfl,rfl⟩
     exact hK _ _ kR rfl
   . have e92:=vD 92 6;have e94:=vD 94 8;clear hA hd o5 o10 o11 o12 o14;go_step
     exact hK _ _ kR (congrArg (Value.int .u32) (u32_x _ _ (xor_lt (rotr_lt HV4.out) (rotr_lt HV4.out)) (rotr_lt HV4.out)))
   . have e87:=vD 87 1;have e95:=vD 95 9;clear hA hd o5 o10 o11 o12 o14;go_step
     exact hK _ _ kR (congrArg (Value.int .u32) (by first|omega|rfl))
   . exact qa1 (eO 14 o14)
   . exact qa1 (eO 11 o11)
   . have c0:=HV.out W ((Kp.refl [] _).drew.trans hW (by simp)) 5 v5 rfl
     exact qa1 (vD 98 12)
   . have e97:=vD 97 11;have e99:=vD 99 13;clear hA hd o5 o10 o11 o12 o14;go_step
     exact hK _ _ kR (congrArg (Value.int .u32) (u32_and_nat _ _ HV4.out HV5.out))
   . exact qa1 (eO 14 o14)
   . have e101:=vD 101 15;clear hA hd o5 o10 o11 o12 o14;go_step
     exact hK _ _ kR (congrArg (Value.int .u32) (u32_not v4 HV4.out))
   . exact qa1 (eO 11 o11)
   . have c0:=HV.out W ((Kp.refl [] _).drew.trans hW (by simp)) 6 v6 rfl
     exact qa1 (vD 103 17)
   . have e102:=vD 102 16;have e104:=vD 104 18;clear hA hd o5 o10 o11 o12 o14;go_step
     exact hK _ _ kR (congrArg (Value.int .u32) (u32_and_nat _ _ (not32_lt' v4) HV6.out))
   . have e100:=vD 100 14;have e105:=vD 105 19;clear hA hd o5 o10 o11 o12 o14;go_step
     exact hK _ _ kR (congrArg (Value.int .u32) (u32_x _ _ (and_lt HV4.out) (and_lt (not32_lt' v4))))
   . have e96:=vD 96 10;have e106:=vD 106 20;clear hA hd o5 o10 o11 o12 o14;go_step
     exact hK _ _ kR (congrArg (Value.int .u32) (by first|omega|rfl))
   . exact qa1 (eO 12 o12)
   . have h0:0<=(k:Int):=by omega
     have h1:(k:Int) < 64:=by omega
     exact qa2 (eO 10 o10) (vD 108 22)
   . have c0:=HKt.out W ((Kp.refl [] _).drew.trans hW (by simp))
     exact qa1 (vD 109 23)
   . have e107:=vD 107 21;have e110:=vD 110 24;clear hA hd o5 o10 o11 o12 o14;go_step
     exact hK _ _ kR (congrArg (Value.int .u32) (by first|omega|rfl))
   . exact qa1 (eO 12 o12)
   . have h0:0<=(k:Int):=by omega
     have h1:(k:Int) < 64:=by omega
     exact qa2 (eO 5 o5) (vD 112 26)
   . have c0:=HWt.out W ((Kp.refl [] _).drew.trans hW (by simp))
     exact qa1 (vD 113 27)
   . have e111:=vD 111 25;have e114:=vD 114 28;clear hA hd o5 o10 o11 o12 o14;go_step
     exact hK _ _ kR (congrArg (Value.int .u32) (by unfold rX;omega))
   . exact qa1 (vD 115 29)
   . trivial
 . intro vs W hW hp
   rw [putAll_eq]
   exact hend _ W sQ hW (sW (hp 30 sB))
theorem sblk_r21(g11 v0 v1 v2 v3 v4 v5 v6 v7:Nat)(HV0:Hid (v0 < 4294967296))(HV1:Hid (v1 < 4294967296))(HV2:Hid (v2 < 4294967296))(HV:Hid (∀ V,Kp [] w V->∀ i x:Nat,[v0,v1,v2,v3,v4,v5,v6,v7][i]?=some x->V.cell? ⟨g11,i,none⟩=some (.int .u32 (x:Int))))(hsz:a.tmps.size=172)(o11:Sl a 11 (Pq g11 0))(o13:Sl a 13 (.int .u32 ((v0:Nat):Int))):RG1 true 21 Tryz.f147 Q a w fun a' W q'=>Kp [] w.drew W->Sl a' 16 (.int .u32 ((rY v0 v1 v2:Nat):Int))->q':=by
 intro hend
 have hap:=pa 21 Tryz.f147
 refine wp_region_inv (l:=(opsOf 21 Tryz.f147)) (fun i v W=>match i with|0=>v=.int .u32 ((v0:Nat):Int)|1=>v=.int .u32 ((rotr v0 2:Nat):Int)|2=>v=.int .u32 ((v0:Nat):Int)|3=>v=.int .u32 ((rotr v0 13:Nat):Int)|4=>v=.int .u32 ((rotr v0 2 ^^^ rotr v0 13:Nat):Int)|5=>v=.int .u32 ((v0:Nat):Int)|6=>v=.int .u32 ((rotr v0 22:Nat):Int)|7=>v=.int .u32 ((bS0 v0:Nat):Int)|8=>v=.int .u32 ((v0:Nat):Int)|9=>v=Pq g11 1|10=>v=.int .u32 ((v1:Nat):Int)|11=>v=.int .u32 ((v0 &&& v1:Nat):Int)|12=>v=.int .u32 ((v0:Nat):Int)|13=>v=Pq g11 2|14=>v=.int .u32 ((v2:Nat):Int)|15=>v=.int .u32 ((v0 &&& v2:Nat):Int)|16=>v=.int .u32 (((v0 &&& v1) ^^^ (v0 &&& v2):Nat):Int)|17=>v=Pq g11 1|18=>v=.int .u32 ((v1:Nat):Int)|19=>v=Pq g11 2|20=>v=.int .u32 ((v2:Nat):Int)|21=>v=.int .u32 ((v1 &&& v2:Nat):Int)|22=>v=.int .u32 ((maj v0 v1 v2:Nat):Int)|23=>v=.int .u32 ((rY v0 v1 v2:Nat):Int)|24=>v=.int .u32 ((rY v0 v1 v2:Nat):Int)|_=>True) (by kernel_rfl) hap (by kernel_rfl) ?_ ?_ ?_
 . exact fun _ _ _ _ h _=>h
 . and_intros <;> try intro vs A' W hA hW hd K hK
   . exact qa1 (eO 13 o13)
   . have e116:=vD 116 0;clear hA hd o11 o13;go_step
     refine (srot_any v0 2 2 rfl HV0.out (by unfold rotK;omega) W).mono ?_
     rintro e w' ⟨rfl,rfl⟩
     exact hK _ _ kR rfl
   . exact qa1 (eO 13 o13)
   . have e118:=vD 118 2;clear hA hd o11 o13;go_step
     refine (srot_any v0 13 13 rfl HV0.out (by unfold rotK;omega) W).mono ?_
     rintro e w' ⟨rfl,rfl⟩
     exact hK _ _ kR rfl
   . have e117:=vD 117 1;have e119:=vD 119 3;clear hA hd o11 o13;go_step
     exact hK _ _ kR (congrArg (Value.int .u32) (u32_x _ _ (rotr_lt HV0.out) (rotr_lt HV0.out)))
   . exact qa1 (eO 13 o13)
   . have e121:=vD 121 5;clear hA hd o11 o13;go_step
     refine (srot_any v0 22 22 rfl HV0.out (by unfold rotK;omega) W).mono ?_
     rintro e w' ⟨rfl,rfl⟩
     exact hK _ _ kR rfl
   . have e120:=vD 120 4;have e122:=vD 122 6;clear hA hd o11 o13;go_step
     exact hK _ _ kR (congrArg (Value.int .u32) (u32_x _ _ (xor_lt (rotr_lt HV0.out) (rotr_lt HV0.out)) (rotr_lt HV0.out)))
   . exact qa1 (eO 13 o13)
   . exact qa1 (eO 11 o11)
   . have c0:=HV.out W ((Kp.refl [] _).drew.trans hW (by simp)) 1 v1 rfl
     exact qa1 (vD 125 9)
   . have e124:=vD 124 8;have e126:=vD 126 10;clear hA hd o11 o13;go_step
     exact hK _ _ kR (congrArg (Value.int .u32) (u32_and_nat _ _ HV0.out HV1.out))
   . exact qa1 (eO 13 o13)
   . exact qa1 (eO 11 o11)
   . have c0:=HV.out W ((Kp.refl [] _).drew.trans hW (by simp)) 2 v2 rfl
     exact qa1 (vD 129 13)
   . have e128:=vD 128 12;have e130:=vD 130 14;clear hA hd o11 o13;go_step
     exact hK _ _ kR (congrArg (Value.int .u32) (u32_and_nat _ _ HV0.out HV2.out))
   . have e127:=vD 127 11;have e131:=vD 131 15;clear hA hd o11 o13;go_step
     exact hK _ _ kR (congrArg (Value.int .u32) (u32_x _ _ (and_lt HV0.out) (and_lt HV0.out)))
   . exact qa1 (eO 11 o11)
   . have c0:=HV.out W ((Kp.refl [] _).drew.trans hW (by simp)) 1 v1 rfl
     exact qa1 (vD 133 17)
   . exact qa1 (eO 11 o11)
   . have c0:=HV.out W ((Kp.refl [] _).drew.trans hW (by simp)) 2 v2 rfl
     exact qa1 (vD 135 19)
   . have e134:=vD 134 18;have e136:=vD 136 20;clear hA hd o11 o13;go_step
     exact hK _ _ kR (congrArg (Value.int .u32) (u32_and_nat _ _ HV1.out HV2.out))
   . have e132:=vD 132 16;have e137:=vD 137 21;clear hA hd o11 o13;go_step
     exact hK _ _ kR (congrArg (Value.int .u32) (u32_x _ _ (xor_lt (and_lt HV0.out) (and_lt HV0.out)) (and_lt HV1.out)))
   . have e123:=vD 123 7;have e138:=vD 138 22;clear hA hd o11 o13;go_step
     exact hK _ _ kR (congrArg (Value.int .u32) (by unfold rY;omega))
   . exact qa1 (vD 139 23)
   . trivial
 . intro vs W hW hp
   rw [putAll_eq]
   exact hend _ W sQ hW (sW (hp 24 sB))
theorem sblk_r17(k:Nat)(hsz:a.tmps.size=172)(o79:Sl a 79 (.int .i64 (k:Int))):RG0 17 Tryz.f147 Q a w fun a' q'=>Sl a' 80 (.bool (decide ((k:Int) < 64)))->q':=by
 intro hend
 refine wp_region_lit ?_
 (conv=>arg 4;whnf)
 unfold Sl at o79
 go_wp2_with fail
 try simp only [Act.put]
 exact hend _ tS sP
theorem sblk_r18(k:Nat)(hsz:a.tmps.size=172)(o79:Sl a 79 (.int .i64 (k:Int))):RG0 18 Tryz.f147 Q a w fun a' q'=>Sl a' 12 (.int .i64 (k:Int))->q':=by
 intro hend
 refine wp_region_lit ?_
 (conv=>arg 4;whnf)
 unfold Sl at o79
 go_wp2_with fail
 try simp only [Act.put]
 exact hend _ tS sP
theorem sblk_r22(w0:World)(g11 v0 v1 v2 v3 v4 v5 v6 v7 x y:Nat)(L:List Res)(S:Held w0 w (blkR g11 205 (u32A [v0,v1,v2,v3,v4,v5,v6,v7]) :: L))(hsz:a.tmps.size=172)(o11:Sl a 11 (Pq g11 0))(o13:Sl a 13 (.int .u32 (v0:Int)))(o14:Sl a 14 (.int .u32 (v4:Int)))(o15:Sl a 15 (.int .u32 (x:Int)))(o16:Sl a 16 (.int .u32 (y:Int))):RG1 false 22 Tryz.f147 Q a w fun a' W q'=>(Held w0 W (blkR g11 205 (u32A [(x+y) % 4294967296,v0,v1,v2,(v3+x) % 4294967296,v4,v5,v6]) :: L))->q':=by
 intro hend
 refine wp_region_lit ?_
 (conv=>arg 4;whnf)
 unfold Sl at o11 o13 o14 o15 o16
 have S:=LH S
 have c1:=u32_cell (S.out.at_ (l1:=[])) 1 v1 rfl
 have c2:=u32_cell (S.out.at_ (l1:=[])) 2 v2 rfl
 have c3:=u32_cell (S.out.at_ (l1:=[])) 3 v3 rfl
 have c5:=u32_cell (S.out.at_ (l1:=[])) 5 v5 rfl
 have c6:=u32_cell (S.out.at_ (l1:=[])) 6 v6 rfl
 go_wp2_with (first
  |(refine wpList_buildC rfl 205 _ rfl (at0N (u32L [(x+y) % 4294967296,v0,v1,v2,(v3+x) % 4294967296,v4,v5,v6]) 0) ?_ _ (Tryz.built8 _ _ _ _ _ _ _ _) ?_;simp [Act.eval,Act.put,hsz,at0N,u32L,o13,o14,o15,o16])
  |(refine wpList_store_blk rfl 205 (.tmp 11) (.tmp 157) rfl g11 (aO o11) (u32A [(x+y) % 4294967296,v0,v1,v2,(v3+x) % 4294967296,v4,v5,v6]) aE 205 _ (S.out.at_ (l1:=[])) (by rw [u32A_size];exact Tryz.info8w) (by rw [u32A_size,u32A_size];rfl) (u32A_one _) ?_;intro w2 b2 k2;have S2:=LH (Held.setBlk (l1:=[]) S.out b2 k2);clear b2 k2))
 try simp only [Act.put]
 exact hend _ _ tS (S2.out)
theorem sblk_r23(k:Nat)(hk:k < 64)(hsz:a.tmps.size=172)(o79:Sl a 79 (.int .i64 (k:Int))):RG0 23 Tryz.f147 Q a w fun a' q'=>Sl a' 79 (Nq (k+1))->q':=by
 intro hend
 refine wp_region_lit ?_
 (conv=>arg 4;whnf)
 unfold Sl at o79
 go_wp2_with fail
 try simp only [Act.put]
 exact hend _ tS sP
end
section
open Go.RowKit
def dsL3:List Nat:=[12,13,14,15,16,79,80,81,82,83,84,85,86,87,88,89,90,91,92,93,94,95,96,97,98,99,100,101,102,103,104,105,106,107,108,109,110,111,112,113,114,115,116,117,118,119,120,121,122,123,124,125,126,127,128,129,130,131,132,133,134,135,136,137,138,139,140,141,142,143,144,145,146,147,148,149,150,151,152,153,154,155,156,157,158]
theorem sblk_l3{Q:Exit->Act->World->Prop}{a:Act}{w0 w:World}(st ws:List Nat)(hst:Ws st)(hsl:st.length=8)(hwl:ws.length=64)(g5 g10 g11:Nat)(L:List Res)(hsz:a.tmps.size=172)
 (o5:Sl a 5 (Pq g5 0)) (o10:Sl a 10 (Pq g10 0)) (o11:Sl a 11 (Pq g11 0)) (o79:Sl a 79 (.int .i64 0))
 (S:Held w0 w (blkR g11 205 (u32A st) :: blkR g10 226 (u32A kT) :: blkR g5 226 (u32A ws) :: L))
 (hend:∀ a' W,Same a a' dsL3->Held w0 W (blkR g11 205 (u32A (rnds st ws 64)) :: blkR g10 226 (u32A kT) :: blkR g5 226 (u32A ws) :: L)->Q .normal a' W):
 (Code.block 4 (blockOf 4 Tryz.f147)).wp Tryz.prog Q a w:=by
 refine wp_block ?_
 (conv=>arg 2;whnf)
 refine wp_loop (fun a' w'=>∃ k:Nat,k<=64 ∧ Same a a' dsL3 ∧ Sl a' 79 (.int .i64 (k:Int)) ∧ Held w0 w' (blkR g11 205 (u32A (rnds st ws k)) :: blkR g10 226 (u32A kT) :: blkR g5 226 (u32A ws) :: L)) (fun a' _=>64 - (intOf (a'.eval (.tmp 79))).toNat) ⟨0,by omega,Same.refl _ _,o79,S⟩ ?_
 clear o79 S
 rintro a1 w1 ⟨k,hk,hs,o79,S⟩
 have o5:=hs.keep 5 _ (by decide) o5
 have o10:=hs.keep 10 _ (by decide) o10
 have o11:=hs.keep 11 _ (by decide) o11
 have hz:=hs.size.trans hsz
 refine wp_seq (sblk_r17 k hz o79 (fun a2 hs2 o80=>?_))
 have e79:=o79.eval (by rw [hz];decide)
 have hz2:=hs2.size.trans hz
 by_cases hlt:k < 64
 . refine wp_seq (wcT o80 (wp_skip ?_) (by rw [decide_eq_true (by omega)]))
   have o79:=hs2.q o79
   refine wp_seq (wp_block ?_)
   refine wp_seq (sblk_r18 k hz2 o79 (fun a3 hs3 o12=>?_))
   have T:=(hs.trans hs2).trans hs3
   have hz3:=hs3.size.trans hz2;have o79:=hs3.q o79
   have o5:=(hs2.trans hs3).keep 5 _ (by decide) o5
   have o10:=(hs2.trans hs3).keep 10 _ (by decide) o10
   have o11:=(hs2.trans hs3).keep 11 _ (by decide) o11
   have hv:=rnds_length st ws k
   have hvl:=rnds_lt hst ws k
   have Hnext:rnds st ws (k+1)=rnd (rnds st ws k) (kT.getD k 0) (ws.getD k 0):=rfl
   obtain ⟨v0,v1,v2,v3,v4,v5,v6,v7,hvv⟩:=list8 (hv.trans hsl)
   rw [hvv] at hvl S Hnext
   have HV0:=LH (hvl v0 (by simp))
   have HV1:=LH (hvl v1 (by simp))
   have HV2:=LH (hvl v2 (by simp))
   have HV4:=LH (hvl v4 (by simp))
   have HV5:=LH (hvl v5 (by simp))
   have HV6:=LH (hvl v6 (by simp))
   have HV:∀ W,Kp [] w1 W->∀ V,Kp [] W V->∀ i x:Nat,[v0,v1,v2,v3,v4,v5,v6,v7][i]?=some x->V.cell? ⟨g11,i,none⟩=some (.int .u32 (x:Int)):=fun W k1 V k2 i x h=>u32_cell ((S.at_ (l1:=[])).kp (k1.trans k2 (by simp)) (by simp)) i x h
   have HKt:∀ W,Kp [] w1 W->∀ V,Kp [] W V->V.cell? ⟨g10,k,none⟩=some (.int .u32 ((kT.getD k 0:Nat):Int)):=fun W k1 V k2=>u32_cell ((S.at_ (l1:=[_])).kp (k1.trans k2 (by simp)) (by simp)) k _ (getD_at hlt)
   have HWt:∀ W,Kp [] w1 W->∀ V,Kp [] W V->V.cell? ⟨g5,k,none⟩=some (.int .u32 ((ws.getD k 0:Nat):Int)):=fun W k1 V k2=>u32_cell ((S.at_ (l1:=[_,_])).kp (k1.trans k2 (by simp)) (by simp)) k _ (getD_at (by rw [hwl];exact hlt))
   generalize kT.getD k 0=kk at *
   generalize ws.getD k 0=wk at *
   refine wp_seq (sblk_r19 g11 v0 v1 v2 v3 v4 v5 v6 v7 (LH (HV w1 kR)) hz3 o11 (fun a4 W4 hs4 k4 o13 o14=>?_))
   have K4:Kp [] w1 W4:=(Kp.refl [] _).drew.trans k4 (by simp)
   obtain ⟨hz4,-,o79,o12,o5,o10,o11⟩:=kq5 hs4 hz3 rfl o79 o12 o5 o10 o11
   refine wp_seq (sblk_r20 g5 g10 g11 k v0 v1 v2 v3 v4 v5 v6 v7 kk wk hlt HV4 HV5 HV6 (LH (HV W4 K4)) (LH (HKt W4 K4)) (LH (HWt W4 K4)) hz4 o5 o10 o11 o12 o14 (fun a5 W5 hs5 k5 o15=>?_))
   have K5:Kp [] w1 W5:=(K4.trans (Kp.refl [] _).drew (by simp)).trans k5 (by simp)
   obtain ⟨hz5,-,o79,o13,o14,o11⟩:=kq4 hs5 hz4 rfl o79 o13 o14 o11
   refine wp_seq (sblk_r21 g11 v0 v1 v2 v3 v4 v5 v6 v7 HV0 HV1 HV2 (LH (HV W5 K5)) hz5 o11 o13 (fun a6 W6 hs6 k6 o16=>?_))
   have K6:Kp [] w1 W6:=(K5.trans (Kp.refl [] _).drew (by simp)).trans k6 (by simp)
   obtain ⟨hz6,-,o79,o13,o14,o15,o11⟩:=kq5 hs6 hz5 rfl o79 o13 o14 o15 o11
   refine sblk_r22 w0 g11 v0 v1 v2 v3 v4 v5 v6 v7 _ _ _ (S.kp K6) hz6 o11 o13 o14 o15 o16 (fun a7 W7 hs7 S7=>?_)
   have hz7:=hs7.size.trans hz6;have o79:=hs7.q o79
   refine sblk_r23 k hlt hz7 o79 (fun a8 hs8 o79=>?_)
   have hz8:=hs8.size.trans hz7
   refine ⟨⟨k+1,by omega,?_,o79,?_⟩,?_⟩
   . refine ((((((T.trans hs4).trans hs5).trans hs6).trans hs7).trans hs8)).more ?_
     decide +kernel
   . rw [Hnext]
     exact S7
   . show 64 - (intOf (a8.eval (.tmp 79))).toNat < 64 - (intOf (a1.eval (.tmp 79))).toNat
     rw [e79,o79.eval (by rw [hz8];decide)]
     simp [intOf];omega
 . obtain rfl:k=64:=by omega
   refine wp_seq (wcF o80 (wp_exit ?_) (by rw [decide_eq_false (by omega)]))
   refine hend _ _ ((hs.trans hs2).more (by decide +kernel)) S
end
end Go.Proofs.YtmkfopmdingaoaaGreatDoor
