/- Several texts in one: Fence, Range, Marks, PtA, ShaB, ShaC, PtD, PtB, PtC, ShaD, ShaR, ShaF, ShaW, ShaV, ShaE, Cut, ShaI, PtN, PtE, PtEP, Join, RegM, PtV, PtF, PtG, ShaJ, ShaK. -/
import Derived.RangeFuncNested
import Derived.RangeFuncBound
import Derived.RangeFuncCalls
import Derived.RangeFuncLeaves
import Derived.Shelf.Abstract
import Derived.Shelf.RegionOpen
import Derived.WalkKit
import Derived.OwnWalkIn
import Derived.TacticsInMore
import Derived.LoopNIn
import Derived.LoopN
import Derived.LoopIn
import Derived.Laws.Tables
import Derived.Great.BuildSlice
import Derived.Lib.Strings
import Derived.Laws.CopyOwn
import Derived.Lib.ItoaNum
import Derived.Lib.ParseIntB
import Derived.Lib.Bytealg
import Derived.Test.YtmkfopmdingaoaaGreatDoorShelf
import Derived.Lib.SmallJoins
import Derived.Lib.AtoiErrMem
import Derived.Test.YtmkfopmdingaoaaGreatDoorP1
set_option linter.unusedVariables false
set_option linter.unusedSimpArgs false
set_option maxRecDepth 100000
set_option maxHeartbeats 8000000
open Go.Proofs.Tryz
namespace Go.Proofs.YtmkfopmdingaoaaGreatDoor
section
open Go.RowKit Go.Shelf
section bridge
variable {P:Program} {ops:Array Oper} {Q:Exit->Act->World->Prop} {n rl:Nat}
def wR (l:List Oper):Bool:=l.all fun o=>match o.op with|.defer _=>false|_=>true
theorem yZ{l:List Oper}(h:wR l=true){o:Oper}(ho:o ∈ l):∀ c,o.op ≠ .defer c:=by
 intro c hc;have:=List.all_eq_true.1 h o ho
 rw [hc] at this
 cases this
theorem aJs{o:Oper}{a:Act}{w:World}{K:Act->World->Prop}(hd:∀ c,o.op ≠ .defer c)(_hQ:¬ LetsOut Q)(h:o.wp P a w K Q):o.wpIn (Fence.wide.inRound rl) n P a w K Q:=by
 refine ⟨fun _ _=>trivial,?_⟩;rw [Fence.inRound_round,Oper.semAt_some rl a.eval o hd];unfold Oper.wp at h;generalize (execOp a.eval o).run P w=r at *;have hn:(Fence.wide.inRound rl).depth.isSome=true->1<=n:=fun h=>by simp [Fence.wide] at h
 cases r with
 |ok nx w'=>
  cases nx with
  |value v=>exact h
  |skip=>exact h
  |defer d=>exact h
  |enter f args=>exact ⟨hn,CallsIn.inRound rl (callsIn_wide.2 h)⟩
  |row r args=>
   refine ⟨hn,fun c cs _=>?_⟩;obtain ⟨v,w2,h1,h2⟩:=h c cs;exact ⟨v,w2,h1,stepsIn_wide.2 h2⟩
  |_=>exact h.elim
 |halt x w'=>cases x <;> exact h
theorem lS(Q:Exit->Act->World->Prop):¬ LetsOut (Qn Q):=fun ⟨_,_,h⟩=>by cases h.1
theorem bBb{l:List Oper}(hp:wR l=true){i:Nat}{a:Act}{w:World}{K:Act->World->Prop}(h:wpOp P l.toArray (Qn Q) i K a w):wpOpIn (Fence.wide.inRound rl) n P l.toArray Q i K a w:=by
 unfold wpOp at h;unfold wpOpIn
 split
 . rename_i ho
   simpa [ho] using h
 . rename_i o ho
   simp only [ho] at h
   have hm:o ∈ l:=by
    have:=Array.mem_of_getElem? ho
    simpa using this
   split
   . rename_i hw
     rw [if_pos hw] at h;rcases h with h|⟨_,h⟩
     . have h2:=aJs (rl:=rl) (n:=n) (yZ hp hm) (lS Q) h;unfold Oper.wpIn at h2 ⊢;refine ⟨h2.1,?_⟩;have h3:=h2.2;generalize (o.semAt (Fence.wide.inRound rl).round a.eval).run P w=r at *
       cases r with
       |ok nx w'=>
        cases nx with
        |value v=>exact h3
        |skip=>exact h3
        |defer d=>exact h3
        |enter f args=>
         refine ⟨h3.1,CallsIn.mono h3.2 (fun e w'' he=>?_)⟩
         cases e with
         |returned v=>exact he
         |panicked ch=>cases he.1
         |outgrown=>exact (lS Q he).elim
        |row r args=>exact h3
        |round r f t asg bd=>
         refine ⟨h3.1,RoundIn.mono h3.2 (fun e w'' he=>?_)⟩
         cases e with
         |returned v=>exact he
         |panicked ch=>cases he.1
         |outgrown=>exact (lS Q he).elim
        |_=>exact h3.elim
       |halt x w'=>cases x <;> first|exact h3.elim|cases h3.1
     . exact (lS Q h).elim
   . rename_i hw
     rw [if_neg hw] at h;exact ⟨fun _ _=>trivial,h⟩
theorem wP{l0:List Oper}(hp:wR l0=true):∀ (l:List Oper) (a:Act) (w:World),(∀ o ∈ l,o ∈ l0)->wpList P l0.toArray (Qn Q) l a w->wpListIn (Fence.wide.inRound rl) n P l0.toArray Q l a w
 |[],_,_,_,h=>h.2
 |o :: l,a,w,hm,h=>by
  unfold wpList at h;unfold wpListIn
  split
  . rename_i hw
    rw [if_pos hw] at h;rcases h with h|⟨_,h⟩
    . have hi:∃ i:Nat,l0.toArray[i]?=some o:=by
       obtain ⟨i,hi,he⟩:=List.getElem_of_mem (hm o (by simp));exact ⟨i,by simp [hi,he]⟩
      obtain ⟨i,hi⟩:=hi
      have h1:wpOp P l0.toArray (Qn Q) i (wpList P l0.toArray (Qn Q) l) a w:=by
       unfold wpOp;simp only [hi];rw [if_pos hw];exact .inl h
      have h2:=bBb (rl:=rl) (n:=n) hp h1;have h3:=wpOpIn_mono (fun a' w' h'=>wP hp l a' w' (fun x hx=>hm x (List.mem_cons_of_mem _ hx)) h') h2;unfold wpOpIn at h3;simp only [hi] at h3
      rwa [if_pos hw] at h3
    . exact (lS Q h).elim
  . rename_i hw
    rw [if_neg hw] at h;exact ⟨fun _ _=>trivial,wP hp l _ _ (fun x hx=>hm x (List.mem_cons_of_mem _ hx)) h⟩
theorem mS{id:Nat}{l:List Oper}{a:Act}{w:World}(hp:wR l=true)(h:wpList P l.toArray (Qn Q) l a w):(Code.region id l.toArray false).wpIn (Fence.wide.inRound rl) n P Q a w:=
 wpIn_region_lit (wP hp l a w (fun _ h=>h) h)
end bridge
end
section
open Go.RowKit Go.Shelf
def cW (B:Nat) (p:World->Prop):Prop:=
 ∀ W W',p W->(Kp [] W W' ∨ ∃ (l:Nat) (o o':Obj),B<=l ∧ W.heap[l]?=some o ∧ o.isCells=false ∧ W'=W.putObj l o')->p W'
theorem cW.kp{B:Nat}{p:World->Prop}(h:cW B p){W W':World}(hp:p W)(hk:Kp [] W W'):p W':=h W W' hp (.inl hk)
theorem cW.put{B:Nat}{p:World->Prop}(h:cW B p){W:World}(hp:p W){l:Nat}{o:Obj}(o':Obj)(hB:B<=l)(hl:W.heap[l]?=some o)(ho:o.isCells=false):p (W.putObj l o'):=
 h W _ hp (.inr ⟨l,o,o',hB,hl,ho,rfl⟩)
theorem cW.and{B:Nat}{p q:World->Prop}(h:cW B p)(h':cW B q):cW B (fun W=>p W ∧ q W):=fun W W' hp hk=>⟨h W W' hp.1 hk,h' W W' hp.2 hk⟩
theorem cW.pure(B:Nat)(q:Prop):cW B (fun _=>q):=fun _ _ h _=>h
theorem cW.ex{B:Nat}{α:Sort _}{p:α->World->Prop}(h:∀ x,cW B (p x)):cW B (fun W=>∃ x,p x W):=fun W W' ⟨x,hx⟩ hk=>⟨x,h x W W' hx hk⟩
def aCq {α:Type} (P:Program) (n l:Nat) (encs:α->Array Value) (Z:α->World->Prop) (X:List α->α->World->World->Prop) (N:Nat) (J Jx:List α->World->Prop):Prop:=
 ∀ pre x W0 W1,J pre W0->Kp [] W0 W1->X pre x W0 W1->pre.length < N->YieldAt Fence.wide (n - 1) P l (encs x) W1 fun e W'=>
  (e=.returned (.bool true) ∧ J (pre ++ [x]) W' ∧ Z x W') ∨ (e=.returned (.bool false) ∧ Jx (pre ++ [x]) W')
def aJ8 {α:Type} (P:Program) (n g:Nat) (lb:Array Value) (encs:α->Array Value) (Z:α->World->Prop) (X:List α->α->World->World->Prop) (S Sp:List α->Prop) (N:Nat) (w:World):Prop:=
 ∀ (l:Nat) (J Jx:List α->World->Prop) (W:World),Kp [] w W->(∀ s A B,J s A->Kp [] A B->J s B)->(∀ s A B,Jx s A->Kp [] A B->Jx s B)->aCq P n l encs Z X N J Jx->J [] W->
  CallsIn Fence.wide n P g (#[.func (.yield l) #[] #[]] ++ lb) W fun e W'=>(∃ v,e=.returned v) ∧ ((∃ xs,S xs ∧ J xs W') ∨ (∃ pre,Sp pre ∧ Jx pre W'))
def uL (l D:Nat) (W W':World):Prop:=W'.heap[l]?=W.heap[l]? ∧ W'.heap[D]?=W.heap[D]?
def yK {α:Type} (l D:Nat) (Z:World->Prop) (I:List α->World->Prop) (Ix:Code->List α->World->Prop) (xs:List α) (W:World):Exit->Act->World->Prop
 |.normal,_,W'=>uL l D W W' ∧ Z W' ∧ I xs W'
 |.ret,_,W'=>uL l D W W' ∧ Ix .ret xs W'
 |.exit id,_,W'=>uL l D W W' ∧ Ix (.exit id) xs W'
 |.goto t,_,W'=>uL l D W W' ∧ Ix (.goto t) xs W'
 |.panic _,_,_=>False
 |.outgrown,_,_=>False
def gV (D:Nat):Deferred:={ target:=.collected D,args:=#[] }
variable {P:Program} {n:Nat}
end
section
open Go.RowKit Go.Shelf
theorem zS{P:Program}{f:FuncId}{fn:Func}{c:Code}{args:Array Value}{w:World}{R:Ending->World->Prop}(hf:P.funcs[f]?=some fn)(hb:fn.body=some c)
 (h:c.wp P (bodyPostM Fence.wide 3 P fn R) { tmps:=args ++ Array.replicate (fn.ntmps - args.size) undef,defers:=[] } w):Calls P f args w R:=
 callsIn_wide.1 (callsIn_of_wp_marks hf hb trivial (wpIn_wide.2 h) rfl)
theorem Kp.putObj{w:World}(l:Nat)(o:Obj):Kp [l] w (w.putObj l o):=
 ⟨rfl,rfl,rfl,by simp,fun k _ hn=>World.putObj_heap_other (fun e=>hn (by simp [e]))⟩
theorem oD{P:Program}{fn:Func}{tmps:Array Value}{R:Ending->World->Prop}:∀ (ds:List Nat) (w:World),ds.Nodup->(∀ D ∈ ds,w.heap[D]?=some (.deferred (some [])))->
 (∀ W,Kp ds w W->∃ v,(results fn tmps).run P W=.ok v W ∧ R (.returned v) W)->LeavesInM Fence.wide 3 P fn tmps R (ds.map gV) .returning w
 |[],w,_,_,h=>h w (Kp.refl [] w)
 |D :: ds,w,hn,hd,h=>by
  obtain ⟨h1,h2⟩:=List.nodup_cons.1 hn;refine ⟨by simp,.inl ⟨D,_,rfl,run_takeDeferred (hd D (by simp)),oD ds _ h2 (fun D' hD'=>?_) (fun W hk=>h W ?_)⟩⟩
  . exact (World.putObj_heap_other (fun e=>h1 (by rw [<- e];exact hD'))).trans (hd D' (by simp [hD']))
  . exact ((Kp.putObj D (.deferred none)).more (T:=D :: ds) (fun g hg=>.inl (by simp at hg;simp [hg]))).trans hk (fun g hg=>.inl (by simp [hg]))
theorem aEa{P:Program}{fn:Func}{R:Ending->World->Prop}{a:Act}{w:World}(ds:List Nat)(ha:a.defers=ds.map gV)(hn:ds.Nodup)(hd:∀ D ∈ ds,w.heap[D]?=some (.deferred (some [])))
 (h:∀ W,Kp ds w W->∃ v,(results fn a.tmps).run P W=.ok v W ∧ R (.returned v) W):bodyPostM Fence.wide 3 P fn R .ret a w:=by
 show LeavesInM Fence.wide 3 P fn a.tmps R a.defers .returning w
 rw [ha];exact oD ds w hn hd h
def jU (r:Res):Prop:=∀ W,r.ok W->∀ b ∈ r.fp,∃ o:Obj,W.heap[b]?=some o ∧ o.isCells=true
theorem oK(e:TypeId)(s:Nat)(v:Value)(n:Nat)(xs:List Value):jU (aG e s v n xs):=by
 intro W h b hb;have hb:v.ownBlock=some b:=by simpa [aG] using hb
 rcases h.2 with ⟨rfl,_⟩|⟨g,cap,cur,rfl,_,hg,_⟩
 . simp [Value.ownBlock] at hb
 . have:g=b:=by simpa [Value.ownBlock] using hb
   subst this;exact ⟨_,hg,rfl⟩
theorem kZ(g:Nat)(t:TypeId)(cs:Array Value):jU (aB g t cs):=by
 intro W h b hb;have hb:b=g:=by simpa [aB] using hb
 subst hb;exact ⟨_,h,rfl⟩
def fD (B:Nat) (L:List Res):Prop:=∀ r,r ∈ L->jU r ∨ ∀ b ∈ r.fp,b < B
theorem fD.nil{B:Nat}:fD B []:=by simp [fD]
theorem fD.cons{B:Nat}{L:List Res}{r:Res}(hr:jU r)(h:fD B L):fD B (r :: L):=fun s hs=>by
 rcases List.mem_cons.1 hs with rfl|hs
 . exact .inl hr
 . exact h s hs
theorem fD.row{B:Nat}{L:List Res}{e:TypeId}{s:Nat}{v:Value}{n:Nat}{xs:List Value}(h:fD B L):fD B (aG e s v n xs :: L):=h.cons (oK _ _ _ _ _)
theorem fD.blk{B:Nat}{L:List Res}{g:Nat}{t:TypeId}{cs:Array Value}(h:fD B L):fD B (aB g t cs :: L):=h.cons (kZ _ _ _)
theorem fD.of{w0 W:World}{L:List Res}(S:Held w0 W L):fD W.heap.size L:=fun r hr=>.inr fun b hb=>r.lt W (S.ok r hr) b hb
theorem fD.not{B:Nat}{L:List Res}(h:fD B L){w0 W:World}(S:Held w0 W L){l:Nat}{o:Obj}(hB:B<=l)(hl:W.heap[l]?=some o)(ho:o.isCells=false):∀ r ∈ L,l ∉ r.fp:=by
 intro r hr hm;rcases h r hr with h|h
 . obtain ⟨o',h1,h2⟩:=h W (S.ok r hr) l hm;rw [hl] at h1
   cases h1;rw [ho] at h2
   cases h2
 . have:=h l hm
   omega
def jZ (l:Nat) (o:Obj):Res where
 fp:=[l]
 ok:=fun w=>w.heap[l]?=some o
 keep:=fun _ _ _ h hk hn=>(hk.block l (Array.getElem?_eq_some_iff.1 h).1 (hn l (by simp))).trans h
 lt:=fun _ h b hb=>by simp at hb;subst hb;exact (Array.getElem?_eq_some_iff.1 h).1
theorem Held.withObj{w0 W:World}{L:List Res}(S:Held w0 W L){l:Nat}{o:Obj}(hB:w0.heap.size<=l)(hl:W.heap[l]?=some o)(hn:∀ r ∈ L,l ∉ r.fp):Held w0 W (jZ l o :: L):=
 ⟨S.k,fun r hr=>by
  rcases List.mem_cons.1 hr with rfl|hr
  . exact hl
  . exact S.ok r hr,fun r hr b hb=>by
  rcases List.mem_cons.1 hr with rfl|hr
  . have:b=l:=by simpa [jZ] using hb
    omega
  . exact S.base r hr b hb,List.pairwise_cons.2 ⟨fun r hr b hb hb'=>by
  have:b=l:=by simpa [jZ] using hb
  subst this;exact hn r hr hb',S.apart⟩⟩
theorem Held.join{w0 w1 w2:World}{L L':List Res}(S:Held w0 w1 L)(T:Held w1 w2 L'):Held w0 w2 (L ++ L'):=
 ⟨S.k.trans T.k (by simp),fun r hr=>(List.mem_append.1 hr).elim (fun h=>r.keep w1 w2 [] (S.ok r h) T.k (by simp)) (T.ok r),fun r hr b hb=>(List.mem_append.1 hr).elim (fun h=>S.base r h b hb) (fun h=>Nat.le_trans S.k.size (T.base r h b hb)),
  List.pairwise_append.2 ⟨S.apart,T.apart,fun r hr s hs b hb hb'=>by
   have h1:=r.lt w1 (S.ok r hr) b hb;have h2:=T.base s hs b hb';omega⟩⟩
theorem Held.sub{w0 w:World}{L L':List Res}(S:Held w0 w L)(h:L'.Sublist L):Held w0 w L':=
 ⟨S.k,fun r hr=>S.ok r (h.subset hr),fun r hr=>S.base r (h.subset hr),S.apart.sublist h⟩
theorem Held.withTwo{w0 W:World}{L:List Res}(S:Held w0 W L){B:Nat}(hc:fD B L)(h0:w0.heap.size<=B){l D:Nat}{o d:Obj}(hB:B<=l)(hD:B<=D)(hne:l ≠ D)(hl:W.heap[l]?=some o)(ho:o.isCells=false)(hd:W.heap[D]?=some d)(hd0:d.isCells=false):
 Held w0 W (jZ l o :: jZ D d :: L):=
 (S.withObj (Nat.le_trans h0 hD) hd (hc.not S hD hd hd0)).withObj (Nat.le_trans h0 hB) hl (fun r hr=>by
  rcases List.mem_cons.1 hr with rfl|hr
  . simpa [jZ] using hne
  . exact hc.not S hB hl ho r hr)
theorem Held.same2{w0 W W':World}{L:List Res}{l D:Nat}{o d:Obj}(S:Held w0 W' (jZ l o :: jZ D d :: L))(hl:W.heap[l]?=some o)(hd:W.heap[D]?=some d):uL l D W W':=
 ⟨(S.at_ (l1:=[])).trans hl.symm,(S.at_ (l1:=[_])).trans hd.symm⟩
theorem Held.stays{w0:World}{L:List Res}{B:Nat}(hB:w0.heap.size<=B)(hc:fD B L):cW B (fun W=>Held w0 W L):=by
 intro W W' S h;rcases h with hk|⟨l,o,o',hl,hlo,ho,rfl⟩
 . exact S.kp hk
 . have hn:=hc.not S hl hlo ho;exact ⟨S.k.trans (Kp.putObj l o') (fun g hg=>by simp at hg;right;omega),fun r hr=>r.keep W _ [l] (S.ok r hr) (Kp.putObj l o') (fun b hb hm=>by simp at hm;subst hm;exact hn r hr hb),S.base,S.apart⟩
theorem aGl{W:World}{a:Addr}{u:Value}(h:W.cell? a=some u){l:Nat}{o:Obj}(o':Obj)(hl:W.heap[l]?=some o)(ho:o.isCells=false):(W.putObj l o').cell? a=some u:=by
 have hne:a.block ≠ l:=by
  intro e;unfold World.cell? at h;rw [e,hl] at h
  cases o <;> first|(cases ho;done)|simp at h
 exact (World.cell?_of_block (World.putObj_heap_other hne)).trans h
theorem aS3{W:World}{s n:Nat}{v:Value}{xs:List Value}(h:Rd W s v n xs){l:Nat}{o:Obj}(o':Obj)(hl:W.heap[l]?=some o)(ho:o.isCells=false):Rd (W.putObj l o') s v n xs:=by
 obtain ⟨h1,A,c,h2,h3,h4,h5,h6⟩:=h;exact ⟨h1,A,c,h2,h3,h4,h5,fun ad had j u hu=>aGl (h6 ad had j u hu) o' hl ho⟩
theorem aGz(B s:Nat)(v:Value)(n:Nat)(xs:List Value):cW B (fun W=>Rd W s v n xs):=fun W W' h hk=>by
 rcases hk with hk|⟨l,o,o',_,hl,ho,rfl⟩
 . exact aT h hk
 . exact aS3 h o' hl ho
end
section
open Go.RowKit
theorem vA{P:Program}(w:World)(t e:TypeId)(n:Nat)(h:Bs)(kd:IntKind)(z:Int)(k:Nat)(hz:z=k)(hk:k < h.length)(hn:h.length=n)(hu:P.underlying t=some (.array n e))(he:P.underlying e=some (.int .u8))(hc:(P.info? e).map (·.size)=some 1):
 (Instr.index t (.agg (aA h)) (.int kd z)).run P w=.ok (.int .u8 (h[k].toNat:Int)) w:=by
 subst hz
 have hag:(isAgg e).run P w=.ok false w:=by
  unfold isAgg;rw [Sem.run_bind,run_underlying he w]
  rfl
 cases hq:P.info? e with
 |none=>simp [hq] at hc
 |some i=>
  have hs:i.size=1:=by simpa [hq] using hc
  have hg:(aA h)[k]?=some (.int .u8 (h[k].toNat:Int)):=by simp [aA,bv,hk]
  have hb:¬ ((k:Int) < 0 ∨ (n:Int)<=k):=by omega
  have hb2:0<=(k:Int) ∧ (k:Int) < n:=by omega
  simp [Instr.index,Sem.run_bind,run_underlying hu w,asIntOf,part,hag,sizeOf,typeInfo,hq,hs,hg]
  intro;omega
theorem yB{w:World}{g:Nat}(h:aM w g 183 (aA oV))(n:Nat)(hn:n < 16):w.cell? ⟨g,n,none⟩=some (.int .u8 ((hx n).toNat:Int)):=by
 rw [h.cell n];have:=aGd hn
 simp [aA,iA,this]
theorem aQ{P:Program}{ops:Array Oper}{rest:List Oper}{o:Oper}{a:Act}{w:World}{Q:Exit->Act->World->Prop}(hgd:o.guard=none)(ty:TypeId)(x:Operand)(ho:o.op=.load ty x)(g:Nat)(hx:a.eval x=Pq g 0)
 (t:TypeId) (cs:Array Value) (hb:aM w g t cs) (d:TypeDesc) (hu:P.underlying ty=some d) (hd:nW d=true) (hi:(P.info? ty).map (·.size)=some cs.size)
 (h:wpList P ops Q rest (a.put o.dst (.agg cs)) w):wpList P ops Q (o :: rest) a w:=
 bW hgd ty x ho ⟨g,0,none⟩ hx cs.toList d hb.agg hu hd (by rw [hi,Array.length_toList]) h
theorem aD{P:Program}{ops:Array Oper}{rest:List Oper}{o:Oper}{a:Act}{w:World}{Q:Exit->Act->World->Prop}(hgd:o.guard=none)(ty:TypeId)(x y:Operand)(ho:o.op=.store ty x y)(g:Nat)(hx:a.eval x=Pq g 0)
 (xs:Array Value) (hy:a.eval y=.agg xs) (t:TypeId) (cur:Array Value) (hb:aM w g t cur) (hi:(P.info? ty).map (·.size)=some xs.size) (hsz:cur.size=xs.size) (h1:∀ u,u ∈ xs.toList->u.oneCell'=true)
 (h:∀ w',aM w' g t xs->Kp [g] w w'->wpList P ops Q rest (a.put o.dst undef) w'):wpList P ops Q (o :: rest) a w:=
 gZ hgd ty x y ho g 0 hx xs hy t cur hb hi (by omega) h1 (fun w' h2 k2=>h w' (by rw [rZ _ _ hsz] at h2;exact h2) k2)
theorem Held.setBlk{w0 w w':World}{l1 l2:List Res}{g:Nat}{t:TypeId}{cur xs:Array Value}(h:Held w0 w (l1 ++ aB g t cur :: l2))(hb:aM w' g t xs)(k:Kp [g] w w'):Held w0 w' (l1 ++ aB g t xs :: l2):=
 h.turnAt (aB g t xs) k hb (fun _ h=>.inl h)
theorem aI(l:Bs):∀ u,u ∈ (aA l).toList->u.oneCell'=true:=fun u hu=>eI l u hu
theorem bBy:(prog.info? 23).map (·.size)=some 32:=by kernel_rfl
theorem bCg:(prog.info? 183).map (·.size)=some 16:=by kernel_rfl
theorem bC0:(prog.info? 25).map (·.size)=some 33:=by kernel_rfl
theorem bCy:(prog.info? 5).map (·.size)=some 1:=by kernel_rfl
theorem fP(x n:Nat)(k:Int)(hk:k=n)(hx:x < 4294967296)(hn:iK n)(w:World):Calls prog 159 #[.int .u32 (x:Int),.int .i64 k] w fun e w'=>e=.returned (.int .u32 (dG x n:Int)) ∧ w=w':=by
 subst hk;have HR:=LH (fun V=>aEz x n hx hn V);have hw:wrap64 (-(n:Int))=-(n:Int):=by rcases hn with h|h|h|h|h|h|h|h|h|h <;> (unfold wrap64;omega)
 go_enter func159,ntmps159;go_wp2_with fail
 refine (HR.out _).mono ?_;rintro e w' ⟨rfl,rfl⟩;go_wp2
 go_ret
 exact ⟨rfl,rfl⟩
theorem iJ(x n:Nat)(k:Int)(hk:k=n)(hx:x < 4294967296)(hn:iK n)(w:World):Calls prog 163 #[.int .u32 (x:Int),.int .i64 k] w fun e w'=>e=.returned (.int .u32 (dG x n:Int)) ∧ Kp [] w w':=by
 subst hk;have HR:=LH (aJu hx n);rcases hn with rfl|rfl|rfl|rfl|rfl|rfl|rfl|rfl|rfl|rfl
 all_goals
  go_enter func163,ntmps163;go_wp2_with fail
  go_quiet (fail)
  go_wp2
  go_ret
  exact ⟨by rw [<- HR.out];rfl,(Kp.refl [] _).drewN _⟩
def gL (l:List Nat):List Value:=l.map fun x:Nat=>Value.int .u32 (x:Int)
theorem bN(l:List Nat):(gL l).length=l.length:=List.length_map ..
theorem tP(l:List Nat)(i:Nat):(gL l)[i]?=l[i]?.map fun x:Nat=>Value.int .u32 (x:Int):=List.getElem?_map ..
theorem uG(l:List Nat):∀ u,u ∈ gL l->u.oneCell'=true:=by
 intro u hu;obtain ⟨_,_,rfl⟩:=List.mem_map.1 hu
 rfl
def aW (l:List Nat):Array Value:=(gL l).toArray
theorem bI(l:List Nat):(aW l).size=l.length:=by simp [aW,gL]
theorem fO(l:List Nat):∀ u,u ∈ (aW l).toList->u.oneCell'=true:=uG l
theorem iP(l:List Nat)(i x:Nat):(aW l).setIfInBounds i (.int .u32 (x:Int))=aW (l.set i x):=by
 unfold aW gL;rw [List.setIfInBounds_toArray,List.map_set]
theorem bR{P:Program}{ops:Array Oper}{rest:List Oper}{o:Oper}{a:Act}{w:World}{Q:Exit->Act->World->Prop}(hg:o.guard=none)(t:TypeId)(parts:Array (Nat × Operand))(ho:o.op=.build t parts)(ps:List (Nat × Value))(hp:(parts.map fun (i,x)=>(i,a.eval x)).toList=ps)
 (cells:Array Value) (hb:P.built t ps=some cells) (h:wpList P ops Q rest (a.put o.dst (.agg cells)) w):wpList P ops Q (o :: rest) a w:=by
 refine wpList_build hg t parts ho (by rw [hp,hb];rfl) ?_;rw [hp,hb];exact h
def pV:List Value->Nat->List (Nat × Value)
 |[],_=>[]
 |v :: l,k=>(k,v) :: pV l (k+1)
theorem bCh:(prog.info? 226).map (·.size)=some 64:=by kernel_rfl
theorem bC1:(prog.info? 205).map (·.size)=some 8:=by kernel_rfl
theorem bDf:prog.built 226 (pV (gL kT) 0)=some (aW kT):=by kernel_rfl
theorem bCq:prog.built 205 (pV (gL hF) 0)=some (aW hF):=by kernel_rfl
theorem aAj(w:World):Calls prog 160 #[] w fun e w'=>e=.returned (.agg (aW kT)) ∧ Kp [] w w':=by
 have S0:=LH ((Held.start w).newBlk 226 (aW (List.replicate 64 0)));have HO:=LH (fO kT);have HB:=LH bDf;go_enter func160,ntmps160
 go_wp2_with (first
  |(refine bR rfl 226 _ rfl (pV (gL kT) 0) (by kernel_rfl) _ HB.out ?_)
  |(refine aD rfl 226 (.tmp 0) (.tmp 1) rfl w.heap.size rfl (aW kT) rfl 226 _ (S0.out.at_ (l1:=[])) (by rw [bI];exact bCh) (by rw [bI,bI];rfl) HO.out ?_;intro w1 b1 k1;have S1:=LH (Held.setBlk (l1:=[]) S0.out b1 k1);clear b1 k1))
 refine bodyPost_ret (aV (by rfl) rfl (S1.out.at_ (l1:=[])) underlying226 rfl (by rw [bI];exact bCh)) rfl ?_;exact ⟨rfl,S1.out.k⟩
theorem aB2(w:World):Calls prog 146 #[] w fun e w'=>e=.returned (.agg (aW hF)) ∧ Kp [] w w':=by
 have S0:=LH ((Held.start w).newBlk 205 (aW (List.replicate 8 0)));have HO:=LH (fO hF);have HB:=LH bCq;go_enter func146,ntmps146
 go_wp2_with (first
  |(refine bR rfl 205 _ rfl (pV (gL hF) 0) (by kernel_rfl) _ HB.out ?_)
  |(refine aD rfl 205 (.tmp 0) (.tmp 1) rfl w.heap.size rfl (aW hF) rfl 205 _ (S0.out.at_ (l1:=[])) (by rw [bI];exact bC1) (by rw [bI,bI];rfl) HO.out ?_;intro w1 b1 k1;have S1:=LH (Held.setBlk (l1:=[]) S0.out b1 k1);clear b1 k1))
 refine bodyPost_ret (aV (by rfl) rfl (S1.out.at_ (l1:=[])) underlying205 rfl (by rw [bI];exact bC1)) rfl ?_;exact ⟨rfl,S1.out.k⟩
theorem aBd(w:World):Calls prog 154 #[] w fun e w'=>e=.returned (.agg (aW hF)) ∧ Kp [] w w':=by
 have S0:=LH ((Held.start w).newBlk 205 (aW (List.replicate 8 0)));have HO:=LH (fO hF);have HB:=LH bCq;go_enter func154,ntmps154
 go_wp2_with (first
  |(refine bR rfl 205 _ rfl (pV (gL hF) 0) (by kernel_rfl) _ HB.out ?_)
  |(refine aD rfl 205 (.tmp 0) (.tmp 1) rfl w.heap.size rfl (aW hF) rfl 205 _ (S0.out.at_ (l1:=[])) (by rw [bI];exact bC1) (by rw [bI,bI];rfl) HO.out ?_;intro w1 b1 k1;have S1:=LH (Held.setBlk (l1:=[]) S0.out b1 k1);clear b1 k1))
 refine bodyPost_ret (aV (by rfl) rfl (S1.out.at_ (l1:=[])) underlying205 rfl (by rw [bI];exact bC1)) rfl ?_;exact ⟨rfl,S1.out.k⟩
theorem bDa:(prog.info? 204).map (fun i=>(i.zero,i.size,i.bytes))=some (some (.int .u32 0),1,4):=by kernel_rfl
theorem aJ1:Instr.fill (fun i=>some (i * 1,1)) ((Array.range (64 * 1)).map ((Value.int .u32 0).cells[· % (Value.int .u32 0).cells.size]!)) (pV (gL kT) 0)=some (aW kT):=by kernel_rfl
theorem aT1{t:Nat}(h:t < 64):(gL kT)[t]?=some (.int .u32 ((kT.getD t 0:Nat):Int)):=by
 have:t < kT.length:=h
 rw [tP,List.getElem?_eq_getElem this,List.getD_eq_getElem?_getD,List.getElem?_eq_getElem this]
 rfl
theorem tD{P:Program}{ops:Array Oper}{rest:List Oper}{o:Oper}{a:Act}{w:World}{Q:Exit->Act->World->Prop}(hg:o.guard=none)(t e:TypeId)(len:Nat)(parts:Array (Nat × Operand))(ho:o.op=.buildSlice t len parts)(ps:List (Nat × Value))(hp:(parts.map fun (i,x)=>(i,a.eval x)).toList=ps)
 (cells:Array Value) (ie:TypeInfo) (z:Value) (hu:P.underlying t=some (.slice e)) (hie:P.info? e=some ie) (hz:ie.zero=some z) (k:Nat) (hk:ie.size=k) (hsmall:¬ len * k > 2 ^ 24) (hpos:¬ len * k=0)
 (hf:Instr.fill (fun i=>some (i * k,k)) ((Array.range (len * k)).map (z.cells[· % z.cells.size]!)) ps=some cells)
 (h:wpList P ops Q rest (a.put o.dst (.slice (some ⟨w.heap.size,0,none⟩) len len)) (w.alloc (.cells cells e))):wpList P ops Q (o :: rest) a w:=by
 subst hk;refine wpList_buildSlice hg t e len parts ho cells ie z hu hie hz hsmall hpos (by rw [hp];exact hf) h
theorem aTk(t:Nat)(ht:t < 64)(w:World):Calls prog 164 #[.int .i64 (t:Int)] w fun e w'=>e=.returned (.int .u32 ((kT.getD t 0:Nat):Int)) ∧ Kp [] w w':=by
 obtain ⟨i0,hi,hz0,hz1,hz2⟩:=info_parts bDa;have K1:=LH ((Kp.refl [] w).alloc (.cells (aW kT) 204))
 have hc:(w.alloc (.cells (aW kT) 204)).cell? ⟨w.heap.size,t,none⟩=some (.int .u32 ((kT.getD t 0:Nat):Int)):=by
  rw [(aM.new w 204 (aW kT)).cell t,show (aW kT)[t]?=(gL kT)[t]? from by simp [aW],aT1 ht]
 have HF:=LH aJ1;obtain ⟨x,hx⟩:∃ x,kT.getD t 0=x:=⟨_,rfl⟩;rw [hx] at hc ⊢;clear hx;obtain ⟨ka,hka⟩:∃ ka,Hid (aW kT=ka):=⟨_,LH rfl⟩;rw [hka.out] at hc K1;go_enter func164,ntmps164;go_wp2_with (refine tD rfl 232 204 64 _ rfl (pV (gL kT) 0) (by kernel_rfl) ka i0 (.int .u32 0) underlying232 hi hz0 1 hz1 (by decide) (by decide) (by rw [<- hka.out];exact HF.out) ?_)
 go_ret
 exact ⟨rfl,K1.out⟩
theorem aHl(x:Value)(bs:Bs)(n:Nat)(hn:4<=n)(w:World)(hx:Rd w 1 x n (bv bs)):Calls prog 158 #[x] w fun e w'=>e=.returned (.int .u32 ((lM (bs.take 4):Nat):Int)) ∧ w=w':=by
 obtain ⟨hl,A,c,rfl,h1,h2,hA,hc⟩:=hx;rw [aX] at hl;unfold maxLen at h2;rcases A with _|ad
 . have:=hA rfl;omega
 have HC:=LH (hc ad rfl);have Hl:=LH hl;clear hA hc hl;go_enter func158,ntmps158;go_wp2
 go_loopw [3,5,9] (fun acc _ t wr=>∃ k:Nat,k<=4 ∧ t=.int .i64 (k:Int) ∧ acc=.int .u32 ((lM (bs.take k):Nat):Int) ∧ w=wr) (fun _ _ t _=>4 - (intOf t).toNat)
 case atStart=>exact ⟨0,by omega,rfl,rfl,rfl⟩
 case round=>
  obtain ⟨k,hk,rfl,rfl,rfl⟩:=hrel
  by_cases hlt:k < 4
  . obtain ⟨b,hb⟩:∃ b,bs[k]?=some b:=⟨_,List.getElem?_eq_getElem (by have:=Hl.out;omega)⟩;have hcell:=HC.out k _ (by rw [iA,hb];rfl);have hnum:lM (bs.take (k+1))=256 * lM (bs.take k)+b.toNat:=by rw [List.take_add_one,hb];exact oI _ _
    have hlt2:lM (bs.take k) < 16777216:=by
     have h3:∀ j,j<=3->lM (bs.take j) < 256 ^ j:=by
      intro j
      induction j with
      |zero=>intro _;simp [lM]
      |succ j ih=>
       intro hj;have hjl:j < bs.length:=by have:=Hl.out;omega
       have:=ih (by omega)
       have hb:=(bs[j]).toNat_lt;rw [List.take_add_one,List.getElem?_eq_getElem hjl,show (some bs[j]).toList=[bs[j]] from rfl,oI,Nat.pow_succ];omega
     have:=h3 k (by omega)
     have h4:256 ^ k<=256 ^ 3:=Nat.pow_le_pow_right (by decide) (by omega);omega
    have hor:bits .or .u32 (((lM (bs.take k):Nat):Int) * 256) (b.toNat:Int)=((lM (bs.take (k+1)):Nat):Int):=by
     rw [hnum,<- aJ5 hlt2 b.toNat_lt,<- u32_or_nat _ _ (Nat.mod_lt _ (by decide)) (by have:=b.toNat_lt;omega),Nat.mod_eq_of_lt (by omega),Int.natCast_mul]
     rfl
    have Hor:=LH hor;have HN:=LH hnum;have hblt:=b.toNat_lt;clear hnum hor hb;generalize lM (bs.take k)=a at *;go_wp2
    go_roundw
    case rel=>exact ⟨k+1,by omega,by go_num,by rw [Hor.out],trivial⟩
    case measure=>simp [intOf];omega
  . obtain rfl:k=4:=by omega
    go_wp2
    go_ret
    exact ⟨rfl,rfl⟩
theorem aB8(w:World):Calls prog 123 #[] w fun e w'=>e=.returned (.agg (aA oV)) ∧ Kp [] w w':=by
 have HO:=LH (aI oV);go_enter func123,ntmps123;go_wp2_with (refine aD rfl 183 (.tmp 0) (.tmp 1) rfl w.heap.size rfl (aA oV) rfl 183 _ (aM.new w 183 _) (by exact bCg) (by rfl) HO.out ?_;intro w2 b2 k2)
 exact bodyPost_ret (aV (by rfl) rfl b2 underlying183 rfl (by exact bCg)) rfl ⟨rfl,((Kp.refl [] w).alloc _).trans k2 (fun g hg=>by simp at hg;exact .inr (by omega))⟩
theorem sL(n:Nat)(hn:n < 16)(w:World):Calls prog 144 #[.int .u8 (n:Int)] w fun e w'=>e=.returned (.int .u8 ((hx n).toNat:Int)) ∧ w=w':=by
 by_cases h:n < 10
 . have HP:Hid (((hx n).toNat:Int)=48+n):=LH (by unfold hx;rw [if_pos h,UInt8.toNat_ofNat'];omega);have h':(n:Int) < 10:=by omega
   go_enter func144,ntmps144;go_wp2
   go_ret
   exact ⟨by rw [HP.out];rfl,rfl⟩
 . have HP:Hid (((hx n).toNat:Int)=87+n):=LH (by unfold hx;rw [if_neg h,UInt8.toNat_ofNat'];omega);have h':¬ (n:Int) < 10:=by omega
   go_enter func144,ntmps144;go_wp2
   go_ret
   exact ⟨by rw [HP.out,show (87:Int)+n=97+n - 10 by omega];rfl,rfl⟩
theorem aKp(h:Bs)(hh:h.length=32)(w:World):Calls prog 103 #[.agg (aA h)] w fun e w'=>e=.returned (.string ⟨(fA h).toArray⟩) ∧ Kp [] w w':=by
 have HH:=LH hh;have S0:=LH ((Held.start w).newBlk 23 (aA h));have HS32:Hid ((aA h).size=32):=LH (by rw [aC,hh]);have H16:Hid ((aA oV).size=16):=LH rfl;clear hh;obtain ⟨dg,HD⟩:∃ dg,Hid (aA oV=dg):=⟨_,LH rfl⟩;obtain ⟨hs,HHS⟩:∃ hs,Hid (aA h=hs):=⟨_,LH rfl⟩;rw [HHS.out] at S0 ⊢;rw [HD.out] at H16;go_enter func103,ntmps103;go_wp2_with fail
 refine (aB8 _).mono ?_;rw [HD.out];rintro e w1 ⟨rfl,k1⟩;have S1:=LH (S0.out.kp k1);clear k1;have HO:=LH (fun u hu=>by rw [<- HD.out] at hu;exact aI oV u hu:∀ u,u ∈ dg.toList->u.oneCell'=true)
 go_wp2_with (first
  |(refine aD rfl 183 (.tmp 3) (.tmp 7) rfl w1.heap.size rfl dg rfl 183 _ (aM.new w1 183 _) (by rw [H16.out];exact bCg) (by rw [H16.out];rfl) HO.out ?_;intro w2 b2 k2;have S2:=LH (Held.setBlk (l1:=[]) (S1.out.newBlk 183 _) b2 k2);clear b2 k2;have S3:=LH (S2.out.rownew (cZ w2 5 1 0 #[] rfl (by decide)) ((Kp.refl [] w2).alloc _) (fun g hg=>Nat.le_of_eq (Option.some.inj hg))))
  |(refine aQ rfl 23 (.tmp 1) rfl w.heap.size rfl 23 hs (S3.out.at_ (l1:=[_,_])) _ underlying23 rfl (by rw [<- HHS.out,HS32.out];exact bBy) ?_))
 obtain ⟨g3,hg3⟩:∃ g3,w1.heap.size=g3:=⟨_,rfl⟩;rw [hg3] at S3 ⊢;clear S0 S1 S2 hg3
 go_loopw [4,6,10] (fun b _ i wr=>∃ k:Nat,k<=32 ∧ i=.int .i64 k ∧ ∃ A c,b=.slice A (fA (h.take k)).length c ∧ Held w wr [aG 5 1 (.slice A (fA (h.take k)).length c) (fA (h.take k)).length (bv (fA (h.take k))),aB g3 183 (aA oV)]) (fun _ _ i _=>32 - (intOf i).toNat)
 case atStart=>exact ⟨0,by omega,rfl,_,_,rfl,by rw [HD.out];exact S3.out.sub (.cons_cons _ (.cons_cons _ (.cons _ (List.Sublist.refl _))))⟩
 case round=>
  clear S3;obtain ⟨k,hk,rfl,Ao,co,rfl,S⟩:=hrel;have HS:=LH S;clear S
  have hol:(fA (h.take k)).length<=64:=by
   rw [iD,List.length_take];omega
  by_cases hlt:k < 32
  . have hlt':k < h.length:=by have:=HH.out;omega
    have q:=fun V=>vA (P:=prog) V 23 5 32 h .i64 (k:Int) k rfl hlt' HH.out underlying23 underlying5 bCy
    rw [HHS.out] at q;have he:h[k]?=some h[k]:=List.getElem?_eq_getElem hlt';obtain ⟨o',HO2⟩:∃ o',Hid (fA (h.take (k+1))=o'):=⟨_,LH rfl⟩;have HO1:Hid (fA (h.take k) ++ yS h[k]=o'):=LH (by rw [<- HO2.out,lU he]);clear he;generalize fA (h.take k)=o at *;generalize h[k]=ch at *;have hlc:=ch.toNat_lt;have HO':Hid (o ++ [hx (ch.toNat / 16),hx (ch.toNat % 16)]=o' ∧ o.length+2=o'.length):=LH ⟨HO1.out,by rw [<- HO1.out];simp [yS]⟩;clear HO1;generalize ch.toNat=n at *;go_wp2_with fail
    refine aP (Γ:=Unit) 2 [0,1,2,3,4,5,6,7,8,9,10,11,13]
     (fun i vs gs=>match i with|0=>vs 0=.slice Ao o.length co|1=>vs 1=.int .u8 (n:Int)|2=>vs 2=.int .u8 ((n:Int) / 16)|3=>vs 3=.pointer (some ⟨g3,n / 16,none⟩)|4=>vs 4=.int .u8 ((hx (n / 16)).toNat:Int)|5=>vs 5=.int .u8 (n:Int)|6=>vs 6=.int .u8 ((n:Int) % 16)|7=>vs 7=.pointer (some ⟨g3,n % 16,none⟩)|8=>vs 8=.int .u8 ((hx (n % 16)).toNat:Int)|10=>∃ A c,vs 10=.slice A o'.length c|11=>vs 11=vs 10|_=>True)
     (fun i vs gs=>match i with|9=>[aG 5 1 (vs 9) 2 (bv [hx (n / 16),hx (n % 16)])]|10=>[aG 5 1 (vs 10) o'.length (bv o')]|12=>[aG 5 1 (.slice Ao o.length co) o.length (bv o)]|13=>[aB g3 183 (aA oV)]|_=>[])
     (fun i=>match i with|10=>[12]|_=>[]) (fun i=>match i with|4=>[13]|8=>[13]|10=>[9]|_=>[]) HS.out (by kernel_rfl) (by kernel_rfl) (by kernel_rfl) (by kernel_rfl) (fun i=>match i with|0=>[0]|1=>[1]|2=>[2]|3=>[3]|4=>[4]|5=>[5]|6=>[6]|7=>[7]|8=>[8]|9=>[9]|10=>[10]|11=>[10,11]|_=>[]) (by kernel_rfl) ?_ (by kernel_rfl) ?_ ?_ ?_
    . exact lA
    . simp only [List.range,List.range.loop,List.flatMap_cons,List.flatMap_nil,List.append_nil];exact List.Perm.refl _
    . and_intros <;> try intro vs gs A' W LF hA S hR hd hu K hK
      . have e4:A'.tmps[4]?.getD undef=vs 11:=cD hA (by kernel_rfl) (Nat.le_of_ble_eq_true (by kernel_rfl)) (by kernel_rfl);rw [show vs 11=.slice Ao o.length co from hu 11 _ rfl (by kernel_rfl)] at e4;exact lK
      . have e6:A'.tmps[6]?.getD undef=.int .u8 (n:Int):=cD hA (by kernel_rfl) (Nat.le_of_ble_eq_true (by kernel_rfl)) (by kernel_rfl);exact lK
      . replace hK:=hK default;have f1:vs 1=.int .u8 (n:Int):=hd 1 (by kernel_rfl);have e14:A'.tmps[14]?.getD undef=vs 1:=cD hA (by kernel_rfl) (Nat.le_of_ble_eq_true (by kernel_rfl)) (by kernel_rfl);rw [f1] at e14;go_step;exact hK _ _ S rfl
      . have e3:A'.tmps[3]?.getD undef=Pq g3 0:=cD hA (by kernel_rfl) (Nat.le_of_ble_eq_true (by kernel_rfl)) (by kernel_rfl);have f2:vs 2=.int .u8 ((n:Int) / 16):=hd 2 (by kernel_rfl);have e15:A'.tmps[15]?.getD undef=vs 2:=cD hA (by kernel_rfl) (Nat.le_of_ble_eq_true (by kernel_rfl)) (by kernel_rfl);rw [f2] at e15;have h0:0<=(n:Int) / 16:=by omega
        have h1:(n:Int) / 16 < 16:=by omega
        have h2:((n:Int) / 16).toNat=n / 16:=by omega
        exact lK
      . have f3:vs 3=.pointer (some ⟨g3,n / 16,none⟩):=hd 3 (by kernel_rfl);have e16:A'.tmps[16]?.getD undef=vs 3:=cD hA (by kernel_rfl) (Nat.le_of_ble_eq_true (by kernel_rfl)) (by kernel_rfl);rw [f3] at e16;have q:=yB (S.ok (aB g3 183 (aA oV)) (hR 13 (List.mem_singleton.2 rfl) _ (List.mem_singleton.2 rfl))) (n / 16) (by omega);exact lK
      . have e6:A'.tmps[6]?.getD undef=.int .u8 (n:Int):=cD hA (by kernel_rfl) (Nat.le_of_ble_eq_true (by kernel_rfl)) (by kernel_rfl);exact lK
      . replace hK:=hK default;have f5:vs 5=.int .u8 (n:Int):=hd 5 (by kernel_rfl);have e18:A'.tmps[18]?.getD undef=vs 5:=cD hA (by kernel_rfl) (Nat.le_of_ble_eq_true (by kernel_rfl)) (by kernel_rfl);rw [f5] at e18;go_step;exact hK _ _ S rfl
      . have e3:A'.tmps[3]?.getD undef=Pq g3 0:=cD hA (by kernel_rfl) (Nat.le_of_ble_eq_true (by kernel_rfl)) (by kernel_rfl);have f6:vs 6=.int .u8 ((n:Int) % 16):=hd 6 (by kernel_rfl);have e19:A'.tmps[19]?.getD undef=vs 6:=cD hA (by kernel_rfl) (Nat.le_of_ble_eq_true (by kernel_rfl)) (by kernel_rfl);rw [f6] at e19;have h0:0<=(n:Int) % 16:=by omega
        have h1:(n:Int) % 16 < 16:=by omega
        have h2:((n:Int) % 16).toNat=n % 16:=by omega
        exact lK
      . have f7:vs 7=.pointer (some ⟨g3,n % 16,none⟩):=hd 7 (by kernel_rfl);have e20:A'.tmps[20]?.getD undef=vs 7:=cD hA (by kernel_rfl) (Nat.le_of_ble_eq_true (by kernel_rfl)) (by kernel_rfl);rw [f7] at e20;have q:=yB (S.ok (aB g3 183 (aA oV)) (hR 13 (List.mem_singleton.2 rfl) _ (List.mem_singleton.2 rfl))) (n % 16) (by omega);exact lK
      . replace hK:=hK default;have f4:vs 4=.int .u8 ((hx (n / 16)).toNat:Int):=hd 4 (by kernel_rfl);have e17:A'.tmps[17]?.getD undef=vs 4:=cD hA (by kernel_rfl) (Nat.le_of_ble_eq_true (by kernel_rfl)) (by kernel_rfl);rw [f4] at e17;have f8:vs 8=.int .u8 ((hx (n % 16)).toNat:Int):=hd 8 (by kernel_rfl);have e21:A'.tmps[21]?.getD undef=vs 8:=cD hA (by kernel_rfl) (Nat.le_of_ble_eq_true (by kernel_rfl)) (by kernel_rfl);rw [f8] at e21;go_step;exact hK _ _ (S.rownew (cZ W 5 1 2 #[.int .u8 ((hx (n / 16)).toNat:Int),.int .u8 ((hx (n % 16)).toNat:Int)] rfl (by decide)) ((Kp.refl [] W).alloc _) (fun g hg=>Nat.le_of_eq (Option.some.inj hg))) trivial
      . replace hK:=hK default;have f0:vs 0=.slice Ao o.length co:=hd 0 (by kernel_rfl);have e13:A'.tmps[13]?.getD undef=vs 0:=cD hA (by kernel_rfl) (Nat.le_of_ble_eq_true (by kernel_rfl)) (by kernel_rfl);rw [f0] at e13;have e22:A'.tmps[22]?.getD undef=vs 9:=cD hA (by kernel_rfl) (Nat.le_of_ble_eq_true (by kernel_rfl)) (by kernel_rfl);refine lO (.tmp 13) (.tmp 22) 32 5 rfl bC2 underlying32 rfl (by decide) (.slice Ao o.length co) o.length (bv o) (by simpa [Act.eval] using e13) S (vs 9) 2 (bv [hx (n / 16),hx (n % 16)]) (by simpa [Act.eval] using e22) (iN (e:=5) S (List.mem_cons_of_mem _ (hR 9 (List.mem_singleton.2 rfl) _ (List.mem_singleton.2 rfl)))) (eI _) (by unfold maxLen;omega) (by omega) (fun v' w' S'=>?_);rw [<- fX,HO'.out.1,HO'.out.2] at S';obtain ⟨A1,c1,h1,_⟩:=aS (S'.at_ (l1:=[]));exact hK v' w' S' ⟨A1,c1,h1⟩
      . have f10:∃ A c,vs 10=.slice A o'.length c:=hd 10 (by kernel_rfl);have e23:A'.tmps[23]?.getD undef=vs 10:=cD hA (by kernel_rfl) (Nat.le_of_ble_eq_true (by kernel_rfl)) (by kernel_rfl);exact lK
      . trivial
    . intro vs gs W S hp;have S:Held w W (aG 5 1 (vs 9) 2 (bv [hx (n / 16),hx (n % 16)]) :: aG 5 1 (vs 10) o'.length (bv o') :: aB g3 183 (aA oV) :: []):=by simpa only [List.flatMap_cons,List.flatMap_nil,List.append_nil,List.nil_append,List.cons_append,List.append_assoc] using S
      have p0:vs 0=.slice Ao o.length co:=hp 0 (Nat.le_of_ble_eq_true rfl);have p1:vs 1=.int .u8 (n:Int):=hp 1 (Nat.le_of_ble_eq_true rfl);have p2:vs 2=.int .u8 ((n:Int) / 16):=hp 2 (Nat.le_of_ble_eq_true rfl);have p3:vs 3=.pointer (some ⟨g3,n / 16,none⟩):=hp 3 (Nat.le_of_ble_eq_true rfl);have p4:vs 4=.int .u8 ((hx (n / 16)).toNat:Int):=hp 4 (Nat.le_of_ble_eq_true rfl);have p5:vs 5=.int .u8 (n:Int):=hp 5 (Nat.le_of_ble_eq_true rfl);have p6:vs 6=.int .u8 ((n:Int) % 16):=hp 6 (Nat.le_of_ble_eq_true rfl);have p7:vs 7=.pointer (some ⟨g3,n % 16,none⟩):=hp 7 (Nat.le_of_ble_eq_true rfl);have p8:vs 8=.int .u8 ((hx (n % 16)).toNat:Int):=hp 8 (Nat.le_of_ble_eq_true rfl);have p11:vs 11=vs 10:=hp 11 (Nat.le_of_ble_eq_true rfl);obtain ⟨A8,c8,h8⟩:=hp 10 (Nat.le_of_ble_eq_true rfl);rw [h8] at p11 S;have S2:=LH S.drop;clear hp;simp only [bG,p0,p1,p2,p3,p4,p5,p6,p7,p8,p11,h8,Act.put,List.setIfInBounds_toArray,List.set_cons_succ,List.set_cons_zero];clear p0 p1 p2 p3 p4 p5 p6 p7 p8 p11 h8;go_wp2
      go_roundw
      case rel=>exact ⟨k+1,by omega,by go_num,by rw [HO2.out];exact ⟨_,_,rfl,S2.out⟩⟩
      case measure=>simp [intOf];omega
  . obtain rfl:k=32:=by omega
    have HR:Hid (fA (h.take 32)=fA h):=LH (by rw [List.take_of_length_le (by have:=HH.out;omega)]);rw [HR.out] at HS ⊢;have kv:=aNc (Rd.of_own (HS.out.at_ (l1:=[])));go_wp2
    go_ret
    exact ⟨rfl,HS.out.k⟩
theorem aH1(h:Bs)(hh:h.length=32)(w:World):Calls prog 127 #[.agg (aA h)] w fun e w'=>e=.returned (.string ⟨(fA h).toArray⟩) ∧ Kp [] w w':=by
 have HH:=LH hh;have S0:=LH (((Held.start w).newBlk 23 (aA h)).rownew (World.ownsRow_nil _ 0 5 1) (Kp.refl [] _) (by simp [Value.ownBlock]));clear hh;go_enter func127,ntmps127;go_wp2;obtain ⟨g1,hg1⟩:∃ g1,w.heap.size=g1:=⟨_,rfl⟩;rw [hg1] at S0 ⊢;clear hg1
 go_loopw [3,4] (fun b i wr=>∃ k:Nat,k<=32 ∧ i=.int .i64 k ∧ ∃ A c,b=.slice A (fA (h.take k)).length c ∧ Held w wr [aG 5 1 (.slice A (fA (h.take k)).length c) (fA (h.take k)).length (bv (fA (h.take k))),aB g1 23 (aA h)]) (fun _ i _=>32 - (intOf i).toNat)
 case atStart=>exact ⟨0,by omega,rfl,_,_,rfl,S0.out⟩
 case round=>
  clear S0;obtain ⟨k,hk,rfl,Ao,co,rfl,S⟩:=hrel;have HS:=LH S;clear S
  have hol:(fA (h.take k)).length<=64:=by
   rw [iD,List.length_take];omega
  by_cases hlt:k < 32
  . have hlt':k < h.length:=by have:=HH.out;omega
    have he:h[k]?=some h[k]:=List.getElem?_eq_getElem hlt';have hg:(aA h)[k]?=some (.int .u8 (h[k].toNat:Int)):=by simp [aA,bv,hlt']
    obtain ⟨o',HO2⟩:∃ o',Hid (fA (h.take (k+1))=o'):=⟨_,LH rfl⟩;have HO1:Hid (fA (h.take k) ++ yS h[k]=o'):=LH (by rw [<- HO2.out,lU he]);clear he;generalize fA (h.take k)=o at *;generalize h[k]=ch at *;have hlc:=ch.toNat_lt;have HO':Hid (o ++ [hx (ch.toNat / 16),hx (ch.toNat % 16)]=o' ∧ o.length+2=o'.length):=LH ⟨HO1.out,by rw [<- HO1.out];simp [yS]⟩;clear HO1;generalize ch.toNat=n at *;have HG:=LH hg;clear hg
    have cd1:Hid (∀ V,Calls prog 144 #[.int .u8 ((n:Int) / 16)] V fun e w'=>e=.returned (.int .u8 ((hx (n / 16)).toNat:Int)) ∧ V=w'):=LH (fun V=>by
     have:=sL (n / 16) (by omega) V
     rwa [show ((n / 16:Nat):Int)=(n:Int) / 16 from by omega] at this)
    have cd2:Hid (∀ V,Calls prog 144 #[.int .u8 ((n:Int) % 16)] V fun e w'=>e=.returned (.int .u8 ((hx (n % 16)).toNat:Int)) ∧ V=w'):=LH (fun V=>by
     have:=sL (n % 16) (by omega) V
     rwa [show ((n % 16:Nat):Int)=(n:Int) % 16 from by omega] at this)
    go_wp2_with fail
    refine aP (Γ:=Unit) 2 [0,1,2,3,4,5,6,7,8,9,10,11,12,13,15]
     (fun i vs gs=>match i with|0=>vs 0=.slice Ao o.length co|1=>vs 1=.int .i64 (k:Int)|2=>vs 2=.pointer (some ⟨g1,k,none⟩)|3=>vs 3=.int .u8 (n:Int)|4=>vs 4=.int .u8 ((n:Int) / 16)|5=>vs 5=.int .u8 ((hx (n / 16)).toNat:Int)|6=>vs 6=.int .i64 (k:Int)|7=>vs 7=.pointer (some ⟨g1,k,none⟩)|8=>vs 8=.int .u8 (n:Int)|9=>vs 9=.int .u8 ((n:Int) % 16)|10=>vs 10=.int .u8 ((hx (n % 16)).toNat:Int)|12=>∃ A c,vs 12=.slice A o'.length c|13=>vs 13=vs 12|_=>True)
     (fun i vs gs=>match i with|11=>[aG 5 1 (vs 11) 2 (bv [hx (n / 16),hx (n % 16)])]|12=>[aG 5 1 (vs 12) o'.length (bv o')]|14=>[aG 5 1 (.slice Ao o.length co) o.length (bv o)]|15=>[aB g1 23 (aA h)]|_=>[])
     (fun i=>match i with|12=>[14]|_=>[]) (fun i=>match i with|3=>[15]|8=>[15]|12=>[11]|_=>[]) HS.out (by kernel_rfl) (by kernel_rfl) (by kernel_rfl) (by kernel_rfl) (fun i=>match i with|0=>[0]|1=>[1]|2=>[2]|3=>[3]|4=>[4]|5=>[5]|6=>[6]|7=>[7]|8=>[8]|9=>[9]|10=>[10]|11=>[11]|12=>[12]|13=>[12,13]|_=>[]) (by kernel_rfl) ?_ (by kernel_rfl) ?_ ?_ ?_
    . exact lA
    . simp only [List.range,List.range.loop,List.flatMap_cons,List.flatMap_nil,List.append_nil];exact List.Perm.refl _
    . and_intros <;> try intro vs gs A' W LF hA S hR hd hu K hK
      . have e3:A'.tmps[3]?.getD undef=vs 13:=cD hA (by kernel_rfl) (Nat.le_of_ble_eq_true (by kernel_rfl)) (by kernel_rfl);rw [show vs 13=.slice Ao o.length co from hu 13 _ rfl (by kernel_rfl)] at e3;exact lK
      . have e4:A'.tmps[4]?.getD undef=.int .i64 (k:Int):=cD hA (by kernel_rfl) (Nat.le_of_ble_eq_true (by kernel_rfl)) (by kernel_rfl);exact lK
      . replace hK:=hK default;have e1:A'.tmps[1]?.getD undef=Pq g1 0:=cD hA (by kernel_rfl) (Nat.le_of_ble_eq_true (by kernel_rfl)) (by kernel_rfl);have f1:vs 1=.int .i64 (k:Int):=hd 1 (by kernel_rfl);have e10:A'.tmps[10]?.getD undef=vs 1:=cD hA (by kernel_rfl) (Nat.le_of_ble_eq_true (by kernel_rfl)) (by kernel_rfl);rw [f1] at e10;go_step;exact hK _ _ S rfl
      . have f2:vs 2=.pointer (some ⟨g1,k,none⟩):=hd 2 (by kernel_rfl);have e11:A'.tmps[11]?.getD undef=vs 2:=cD hA (by kernel_rfl) (Nat.le_of_ble_eq_true (by kernel_rfl)) (by kernel_rfl);rw [f2] at e11;have q:W.cell? ⟨g1,k,none⟩=some (.int .u8 (n:Int)):=by rw [(show aM W g1 23 (aA h) from S.ok (aB g1 23 (aA h)) (hR 15 (List.mem_singleton.2 rfl) _ (List.mem_singleton.2 rfl))).cell k];exact HG.out
        exact lK
      . replace hK:=hK default;have f3:vs 3=.int .u8 (n:Int):=hd 3 (by kernel_rfl);have e12:A'.tmps[12]?.getD undef=vs 3:=cD hA (by kernel_rfl) (Nat.le_of_ble_eq_true (by kernel_rfl)) (by kernel_rfl);rw [f3] at e12;go_step;exact hK _ _ S rfl
      . replace hK:=hK default;have f4:vs 4=.int .u8 ((n:Int) / 16):=hd 4 (by kernel_rfl);have e13:A'.tmps[13]?.getD undef=vs 4:=cD hA (by kernel_rfl) (Nat.le_of_ble_eq_true (by kernel_rfl)) (by kernel_rfl);rw [f4] at e13;go_step;refine (cd1.out _).mono ?_;rintro e w' ⟨rfl,rfl⟩;exact hK _ _ S rfl
      . have e4:A'.tmps[4]?.getD undef=.int .i64 (k:Int):=cD hA (by kernel_rfl) (Nat.le_of_ble_eq_true (by kernel_rfl)) (by kernel_rfl);exact lK
      . replace hK:=hK default;have e1:A'.tmps[1]?.getD undef=Pq g1 0:=cD hA (by kernel_rfl) (Nat.le_of_ble_eq_true (by kernel_rfl)) (by kernel_rfl);have f6:vs 6=.int .i64 (k:Int):=hd 6 (by kernel_rfl);have e15:A'.tmps[15]?.getD undef=vs 6:=cD hA (by kernel_rfl) (Nat.le_of_ble_eq_true (by kernel_rfl)) (by kernel_rfl);rw [f6] at e15;go_step;exact hK _ _ S rfl
      . have f7:vs 7=.pointer (some ⟨g1,k,none⟩):=hd 7 (by kernel_rfl);have e16:A'.tmps[16]?.getD undef=vs 7:=cD hA (by kernel_rfl) (Nat.le_of_ble_eq_true (by kernel_rfl)) (by kernel_rfl);rw [f7] at e16;have q:W.cell? ⟨g1,k,none⟩=some (.int .u8 (n:Int)):=by rw [(show aM W g1 23 (aA h) from S.ok (aB g1 23 (aA h)) (hR 15 (List.mem_singleton.2 rfl) _ (List.mem_singleton.2 rfl))).cell k];exact HG.out
        exact lK
      . replace hK:=hK default;have f8:vs 8=.int .u8 (n:Int):=hd 8 (by kernel_rfl);have e17:A'.tmps[17]?.getD undef=vs 8:=cD hA (by kernel_rfl) (Nat.le_of_ble_eq_true (by kernel_rfl)) (by kernel_rfl);rw [f8] at e17;go_step;exact hK _ _ S rfl
      . replace hK:=hK default;have f9:vs 9=.int .u8 ((n:Int) % 16):=hd 9 (by kernel_rfl);have e18:A'.tmps[18]?.getD undef=vs 9:=cD hA (by kernel_rfl) (Nat.le_of_ble_eq_true (by kernel_rfl)) (by kernel_rfl);rw [f9] at e18;go_step;refine (cd2.out _).mono ?_;rintro e w' ⟨rfl,rfl⟩;exact hK _ _ S rfl
      . replace hK:=hK default;have f5:vs 5=.int .u8 ((hx (n / 16)).toNat:Int):=hd 5 (by kernel_rfl);have e14:A'.tmps[14]?.getD undef=vs 5:=cD hA (by kernel_rfl) (Nat.le_of_ble_eq_true (by kernel_rfl)) (by kernel_rfl);rw [f5] at e14;have f10:vs 10=.int .u8 ((hx (n % 16)).toNat:Int):=hd 10 (by kernel_rfl);have e19:A'.tmps[19]?.getD undef=vs 10:=cD hA (by kernel_rfl) (Nat.le_of_ble_eq_true (by kernel_rfl)) (by kernel_rfl);rw [f10] at e19;go_step;exact hK _ _ (S.rownew (cZ W 5 1 2 #[.int .u8 ((hx (n / 16)).toNat:Int),.int .u8 ((hx (n % 16)).toNat:Int)] rfl (by decide)) ((Kp.refl [] W).alloc _) (fun g hg=>Nat.le_of_eq (Option.some.inj hg))) trivial
      . replace hK:=hK default;have f0:vs 0=.slice Ao o.length co:=hd 0 (by kernel_rfl);have e9:A'.tmps[9]?.getD undef=vs 0:=cD hA (by kernel_rfl) (Nat.le_of_ble_eq_true (by kernel_rfl)) (by kernel_rfl);rw [f0] at e9;have e20:A'.tmps[20]?.getD undef=vs 11:=cD hA (by kernel_rfl) (Nat.le_of_ble_eq_true (by kernel_rfl)) (by kernel_rfl);refine lO (.tmp 9) (.tmp 20) 32 5 rfl bC2 underlying32 rfl (by decide) (.slice Ao o.length co) o.length (bv o) (by simpa [Act.eval] using e9) S (vs 11) 2 (bv [hx (n / 16),hx (n % 16)]) (by simpa [Act.eval] using e20) (iN (e:=5) S (List.mem_cons_of_mem _ (hR 11 (List.mem_singleton.2 rfl) _ (List.mem_singleton.2 rfl)))) (eI _) (by unfold maxLen;omega) (by omega) (fun v' w' S'=>?_);rw [<- fX,HO'.out.1,HO'.out.2] at S';obtain ⟨A1,c1,h1,_⟩:=aS (S'.at_ (l1:=[]));exact hK v' w' S' ⟨A1,c1,h1⟩
      . have f12:∃ A c,vs 12=.slice A o'.length c:=hd 12 (by kernel_rfl);have e21:A'.tmps[21]?.getD undef=vs 12:=cD hA (by kernel_rfl) (Nat.le_of_ble_eq_true (by kernel_rfl)) (by kernel_rfl);exact lK
      . trivial
    . intro vs gs W S hp;have S:Held w W (aG 5 1 (vs 11) 2 (bv [hx (n / 16),hx (n % 16)]) :: aG 5 1 (vs 12) o'.length (bv o') :: aB g1 23 (aA h) :: []):=by simpa only [List.flatMap_cons,List.flatMap_nil,List.append_nil,List.nil_append,List.cons_append,List.append_assoc] using S
      have p0:vs 0=.slice Ao o.length co:=hp 0 (Nat.le_of_ble_eq_true rfl);have p1:vs 1=.int .i64 (k:Int):=hp 1 (Nat.le_of_ble_eq_true rfl);have p2:vs 2=.pointer (some ⟨g1,k,none⟩):=hp 2 (Nat.le_of_ble_eq_true rfl);have p3:vs 3=.int .u8 (n:Int):=hp 3 (Nat.le_of_ble_eq_true rfl);have p4:vs 4=.int .u8 ((n:Int) / 16):=hp 4 (Nat.le_of_ble_eq_true rfl);have p5:vs 5=.int .u8 ((hx (n / 16)).toNat:Int):=hp 5 (Nat.le_of_ble_eq_true rfl);have p6:vs 6=.int .i64 (k:Int):=hp 6 (Nat.le_of_ble_eq_true rfl);have p7:vs 7=.pointer (some ⟨g1,k,none⟩):=hp 7 (Nat.le_of_ble_eq_true rfl);have p8:vs 8=.int .u8 (n:Int):=hp 8 (Nat.le_of_ble_eq_true rfl);have p9:vs 9=.int .u8 ((n:Int) % 16):=hp 9 (Nat.le_of_ble_eq_true rfl);have p10:vs 10=.int .u8 ((hx (n % 16)).toNat:Int):=hp 10 (Nat.le_of_ble_eq_true rfl);have p13:vs 13=vs 12:=hp 13 (Nat.le_of_ble_eq_true rfl);obtain ⟨A8,c8,h8⟩:=hp 12 (Nat.le_of_ble_eq_true rfl);rw [h8] at p13 S;have S2:=LH S.drop;clear hp;simp only [bG,p0,p1,p2,p3,p4,p5,p6,p7,p8,p9,p10,p13,h8,Act.put,List.setIfInBounds_toArray,List.set_cons_succ,List.set_cons_zero];clear p0 p1 p2 p3 p4 p5 p6 p7 p8 p9 p10 p13 h8;go_wp2
      go_roundw
      case rel=>exact ⟨k+1,by omega,by go_num,by rw [HO2.out];exact ⟨_,_,rfl,S2.out⟩⟩
      case measure=>simp [intOf];omega
  . obtain rfl:k=32:=by omega
    have HR:Hid (fA (h.take 32)=fA h):=LH (by rw [List.take_of_length_le (by have:=HH.out;omega)]);rw [HR.out] at HS ⊢;have kv:=aNc (Rd.of_own (HS.out.at_ (l1:=[])));go_wp2
    go_ret
    exact ⟨rfl,HS.out.k⟩
theorem wB(l:Bs)(i:Nat)(c:UInt8):(aA l).setIfInBounds i (.int .u8 (c.toNat:Int))=aA (l.set i c):=by
 apply Array.ext'
 simp [aA,bv,List.map_set]
theorem lR(s:ByteArray)(k:Nat)(hk:k < s.size)(w:World):(Instr.index 9 (.string s) (.int .i64 (k:Int))).run prog w=.ok (.int .u8 (s[k].toNat:Int)) w:=by
 simp [Instr.index,run_underlying underlying9,hk,go_sem]
theorem bM{w:World}{g:Nat}{t:TypeId}{l:List Nat}(h:aM w g t (aW l))(i x:Nat)(hx:l[i]?=some x):w.cell? ⟨g,i,none⟩=some (.int .u32 (x:Int)):=by
 rw [h.cell i,show (aW l)[i]?=(gL l)[i]? from by simp [aW],tP,hx]
 rfl
def pz (l:List Nat):List Nat:=l ++ List.replicate (64 - l.length) 0
theorem mY{l:List Nat}(h:l.length<=64):(pz l).length=64:=by unfold pz;rw [List.length_append,List.length_replicate];omega
theorem rA{l:List Nat}{i x:Nat}(h:l[i]?=some x):(pz l)[i]?=some x:=by
 unfold pz;rw [List.getElem?_append_left (List.getElem?_eq_some_iff.1 h).1];exact h
theorem sG{l:List Nat}(h:l.length < 64)(x:Nat):(pz l).set l.length x=pz (l ++ [x]):=by
 unfold pz;rw [List.set_append_right _ _ (Nat.le_refl _),Nat.sub_self,show 64 - l.length=(64 - (l ++ [x]).length)+1 from by simp;omega,List.replicate_succ,List.set_cons_zero]
 simp
theorem sZ{w:World}{g:Nat}{t:TypeId}{b:List UInt8}(h:aM w g t (aA b))(k:Nat)(hk:k<=b.length)(hb:b.length<=1000):Rd w 1 (.slice (some ⟨g,k,none⟩) (b.length - k) (b.length - k)) (b.length - k) (bv (b.drop k)):=by
 refine ⟨by rw [aX,List.length_drop];omega,_,_,rfl,Nat.le_refl _,by unfold maxLen;omega,(fun h=>by cases h),fun ad had j u hu=>?_⟩
 cases had
 have h2:(bv b)[k+j]?=some u:=by
  rw [iA] at hu ⊢;rw [List.getElem?_drop] at hu;exact hu
 rw [show ((⟨g,k,none⟩:Addr).add j)=⟨g,k+j,none⟩ from by unfold Addr.add;split <;> simp <;> omega,h.cell,show (aA b)[k+j]?=(bv b)[k+j]? from by simp [aA]];exact h2
theorem uM(b:Bs){k:Nat}(hk:k < 16):lL b (k+1)=lL b k ++ [lM ((b.drop (4 * k)).take 4)]:=by
 show lL b k ++ [if k < 16 then _ else _]=_
 rw [if_pos hk]
theorem tY(b:Bs)(j:Nat):lL b (j+16+1)=lL b (j+16) ++ [((lL b (j+16)).getD j 0+sg0 ((lL b (j+16)).getD (j+1) 0)+(lL b (j+16)).getD (j+9) 0+sg1 ((lL b (j+16)).getD (j+14) 0)) % 4294967296]:=by
 show lL b (j+16) ++ [if j+16 < 16 then _ else _]=_
 rw [if_neg (by omega),show j+16 - 16=j from by omega,show j+16 - 15=j+1 from by omega,show j+16 - 7=j+9 from by omega,show j+16 - 2=j+14 from by omega]
theorem eB{l:List Nat}{i:Nat}(h:i < l.length):l[i]?=some (l.getD i 0):=by
 rw [List.getD_eq_getElem?_getD,List.getElem?_eq_getElem h]
 rfl
theorem bCe:prog.arrayLen 181=64:=by kernel_rfl
theorem bD7(g:Nat)(w:World)(k:Nat)(z:Int)(hz:z=k)(hk:k < 64):(Instr.sliceAt 181 (Pq g 0) (some (.int .i64 z)) none none).run prog w=.ok (.slice (some ⟨g,k,none⟩) (64 - k) (64 - k)) w:=by
 subst hz;obtain ⟨i0,hi,hz0,hz1,hz2⟩:=info_parts bC2;rw [run_sliceAt_array_l w 181 ⟨g,0,none⟩ (by kernel_rfl) .i64 (k:Int) (by omega) (by rw [bCe];omega),bCe,show prog.elem 181=5 from by kernel_rfl];have e:(⟨g,0,none⟩:Addr).add (k * 1)=⟨g,k,none⟩:=by unfold Addr.add;split <;> simp <;> omega
 simp only [sizeOf,typeInfo,hi,hz1,Sem.run_bind,Sem.run_pure,Result.andThen,run_program,slicedAt,Int.toNat_natCast,e];rw [if_neg (by omega)]
theorem aCa{l:List Nat}(h:l.length=8):∃ a b c d e f g i,l=[a,b,c,d,e,f,g,i]:=by
 match l,h with
 |[a,b,c,d,e,f,g,i],_=>exact ⟨a,b,c,d,e,f,g,i,rfl⟩
theorem bCo(a b c d e f g h:Nat):prog.built 205 (pV (gL [a,b,c,d,e,f,g,h]) 0)=some (aW [a,b,c,d,e,f,g,h]):=by
 unfold Program.built
 kernel_rfl
theorem aCy{l:List Nat}(h:l.length=64):pz l=l:=by unfold pz;rw [h];simp
theorem gC{x y:Nat}(h:x < 4294967296):x &&& y < 4294967296:=Nat.lt_of_le_of_lt Nat.and_le_left h
theorem mZ(x:Nat):lG x < 4294967296:=by unfold lG;omega
end
section
variable {Q:Exit->Act->World->Prop} {a:Act} {w:World}
open Go.RowKit
theorem aHb(g11 v0 v1 v2 v3 v4 v5 v6 v7:Nat)(HV:Hid (∀ V,Kp [] w V->∀ i x:Nat,[v0,v1,v2,v3,v4,v5,v6,v7][i]?=some x->V.cell? ⟨g11,i,none⟩=some (.int .u32 (x:Int))))(hsz:a.tmps.size=172)(o11:Sl a 11 (Pq g11 0)):bC true 19 f147 Q a w fun a' W q'=>Kp [] w.drew W->Sl a' 13 (.int .u32 ((v0:Nat):Int))->Sl a' 14 (.int .u32 ((v4:Nat):Int))->q':=by
 intro hend;have hap:=pa 19 f147;refine bZ (l:=(aK 19 f147)) (fun i v W=>match i with|0=>v=Pq g11 0|1=>v=.int .u32 ((v0:Nat):Int)|2=>v=Pq g11 4|3=>v=.int .u32 ((v4:Nat):Int)|4=>v=.int .u32 ((v0:Nat):Int)|5=>v=.int .u32 ((v4:Nat):Int)|_=>True) (by kernel_rfl) hap (by kernel_rfl) ?_ ?_ ?_
 . exact fun _ _ _ _ h _=>h
 . and_intros <;> try intro vs A' W hA hW hd K hK
   . exact aJ (eO 11 o11)
   . have c0:=HV.out W ((Kp.refl [] _).drew.trans hW (by simp)) 0 v0 rfl;exact aJ (vD 82 0)
   . exact aJ (eO 11 o11)
   . have c0:=HV.out W ((Kp.refl [] _).drew.trans hW (by simp)) 4 v4 rfl;exact aJ (vD 84 2)
   . exact aJ (vD 83 1)
   . exact aJ (vD 85 3)
   . trivial
 . intro vs W hW hp;rw [aF];exact hend _ W sQ hW (sW (hp 4 sB)) (sW (hp 5 sB))
theorem aH2(g5 g10 g11 k v0 v1 v2 v3 v4 v5 v6 v7 kk wk:Nat)(hk:k < 64)(HV4:Hid (v4 < 4294967296))(HV5:Hid (v5 < 4294967296))(HV6:Hid (v6 < 4294967296))(HV:Hid (∀ V,Kp [] w V->∀ i x:Nat,[v0,v1,v2,v3,v4,v5,v6,v7][i]?=some x->V.cell? ⟨g11,i,none⟩=some (.int .u32 (x:Int))))(HKt:Hid (∀ V,Kp [] w V->V.cell? ⟨g10,k,none⟩=some (.int .u32 (kk:Int))))(HWt:Hid (∀ V,Kp [] w V->V.cell? ⟨g5,k,none⟩=some (.int .u32 (wk:Int))))(hsz:a.tmps.size=172)(o5:Sl a 5 (Pq g5 0))(o10:Sl a 10 (Pq g10 0))(o11:Sl a 11 (Pq g11 0))(o12:Sl a 12 (.int .i64 (k:Int)))(o14:Sl a 14 (.int .u32 ((v4:Nat):Int))):bC true 20 f147 Q a w fun a' W q'=>Kp [] w.drew W->Sl a' 15 (.int .u32 ((rX v4 v5 v6 v7 kk wk:Nat):Int))->q':=by
 intro hend;have hap:=pa 20 f147;refine bZ (l:=(aK 20 f147)) (fun i v W=>match i with|0=>v=Pq g11 7|1=>v=.int .u32 ((v7:Nat):Int)|2=>v=.int .u32 ((v4:Nat):Int)|3=>v=.int .u32 ((dG v4 6:Nat):Int)|4=>v=.int .u32 ((v4:Nat):Int)|5=>v=.int .u32 ((dG v4 11:Nat):Int)|6=>v=.int .u32 ((dG v4 6 ^^^ dG v4 11:Nat):Int)|7=>v=.int .u32 ((v4:Nat):Int)|8=>v=.int .u32 ((dG v4 25:Nat):Int)|9=>v=.int .u32 ((bS1 v4:Nat):Int)|10=>v=.int .u32 (((v7+bS1 v4) % 4294967296:Nat):Int)|11=>v=.int .u32 ((v4:Nat):Int)|12=>v=Pq g11 5|13=>v=.int .u32 ((v5:Nat):Int)|14=>v=.int .u32 ((v4 &&& v5:Nat):Int)|15=>v=.int .u32 ((v4:Nat):Int)|16=>v=.int .u32 ((lG v4:Nat):Int)|17=>v=Pq g11 6|18=>v=.int .u32 ((v6:Nat):Int)|19=>v=.int .u32 ((lG v4 &&& v6:Nat):Int)|20=>v=.int .u32 ((cho v4 v5 v6:Nat):Int)|21=>v=.int .u32 (((v7+bS1 v4+cho v4 v5 v6) % 4294967296:Nat):Int)|22=>v=.int .i64 (k:Int)|23=>v=.pointer (some ⟨g10,k,none⟩)|24=>v=.int .u32 ((kk:Nat):Int)|25=>v=.int .u32 (((v7+bS1 v4+cho v4 v5 v6+kk) % 4294967296:Nat):Int)|26=>v=.int .i64 (k:Int)|27=>v=.pointer (some ⟨g5,k,none⟩)|28=>v=.int .u32 ((wk:Nat):Int)|29=>v=.int .u32 ((rX v4 v5 v6 v7 kk wk:Nat):Int)|30=>v=.int .u32 ((rX v4 v5 v6 v7 kk wk:Nat):Int)|_=>True) (by kernel_rfl) hap (by kernel_rfl) ?_ ?_ ?_
 . exact fun _ _ _ _ h _=>h
 . and_intros <;> try intro vs A' W hA hW hd K hK
   . exact aJ (eO 11 o11)
   . have c0:=HV.out W ((Kp.refl [] _).drew.trans hW (by simp)) 7 v7 rfl;exact aJ (vD 86 0)
   . exact aJ (eO 14 o14)
   . have e88:=vD 88 2;clear hA hd o5 o10 o11 o12 o14;go_step;refine (fP v4 6 6 rfl HV4.out (by unfold iK;omega) W).mono ?_;rintro e w' ⟨rfl,rfl⟩;exact hK _ _ kR rfl
   . exact aJ (eO 14 o14)
   . have e90:=vD 90 4;clear hA hd o5 o10 o11 o12 o14;go_step;refine (fP v4 11 11 rfl HV4.out (by unfold iK;omega) W).mono ?_;rintro e w' ⟨rfl,rfl⟩;exact hK _ _ kR rfl
   . have e89:=vD 89 3;have e91:=vD 91 5;clear hA hd o5 o10 o11 o12 o14;go_step;exact hK _ _ kR (congrArg (Value.int .u32) (fJ _ _ (cE HV4.out) (cE HV4.out)))
   . exact aJ (eO 14 o14)
   . have e93:=vD 93 7;clear hA hd o5 o10 o11 o12 o14;go_step;refine (fP v4 25 25 rfl HV4.out (by unfold iK;omega) W).mono ?_;rintro e w' ⟨rfl,rfl⟩;exact hK _ _ kR rfl
   . have e92:=vD 92 6;have e94:=vD 94 8;clear hA hd o5 o10 o11 o12 o14;go_step;exact hK _ _ kR (congrArg (Value.int .u32) (fJ _ _ (jN (cE HV4.out) (cE HV4.out)) (cE HV4.out)))
   . have e87:=vD 87 1;have e95:=vD 95 9;clear hA hd o5 o10 o11 o12 o14;go_step;exact hK _ _ kR (congrArg (Value.int .u32) (by first|omega|rfl))
   . exact aJ (eO 14 o14)
   . exact aJ (eO 11 o11)
   . have c0:=HV.out W ((Kp.refl [] _).drew.trans hW (by simp)) 5 v5 rfl;exact aJ (vD 98 12)
   . have e97:=vD 97 11;have e99:=vD 99 13;clear hA hd o5 o10 o11 o12 o14;go_step;exact hK _ _ kR (congrArg (Value.int .u32) (u32_and_nat _ _ HV4.out HV5.out))
   . exact aJ (eO 14 o14)
   . have e101:=vD 101 15;clear hA hd o5 o10 o11 o12 o14;go_step;exact hK _ _ kR (congrArg (Value.int .u32) (aD4 v4 HV4.out))
   . exact aJ (eO 11 o11)
   . have c0:=HV.out W ((Kp.refl [] _).drew.trans hW (by simp)) 6 v6 rfl;exact aJ (vD 103 17)
   . have e102:=vD 102 16;have e104:=vD 104 18;clear hA hd o5 o10 o11 o12 o14;go_step;exact hK _ _ kR (congrArg (Value.int .u32) (u32_and_nat _ _ (mZ v4) HV6.out))
   . have e100:=vD 100 14;have e105:=vD 105 19;clear hA hd o5 o10 o11 o12 o14;go_step;exact hK _ _ kR (congrArg (Value.int .u32) (fJ _ _ (gC HV4.out) (gC (mZ v4))))
   . have e96:=vD 96 10;have e106:=vD 106 20;clear hA hd o5 o10 o11 o12 o14;go_step;exact hK _ _ kR (congrArg (Value.int .u32) (by first|omega|rfl))
   . exact aJ (eO 12 o12)
   . have h0:0<=(k:Int):=by omega
     have h1:(k:Int) < 64:=by omega
     exact cM (eO 10 o10) (vD 108 22)
   . have c0:=HKt.out W ((Kp.refl [] _).drew.trans hW (by simp));exact aJ (vD 109 23)
   . have e107:=vD 107 21;have e110:=vD 110 24;clear hA hd o5 o10 o11 o12 o14;go_step;exact hK _ _ kR (congrArg (Value.int .u32) (by first|omega|rfl))
   . exact aJ (eO 12 o12)
   . have h0:0<=(k:Int):=by omega
     have h1:(k:Int) < 64:=by omega
     exact cM (eO 5 o5) (vD 112 26)
   . have c0:=HWt.out W ((Kp.refl [] _).drew.trans hW (by simp));exact aJ (vD 113 27)
   . have e111:=vD 111 25;have e114:=vD 114 28;clear hA hd o5 o10 o11 o12 o14;go_step;exact hK _ _ kR (congrArg (Value.int .u32) (by unfold rX;omega))
   . exact aJ (vD 115 29)
   . trivial
 . intro vs W hW hp;rw [aF];exact hend _ W sQ hW (sW (hp 30 sB))
theorem aHj(g11 v0 v1 v2 v3 v4 v5 v6 v7:Nat)(HV0:Hid (v0 < 4294967296))(HV1:Hid (v1 < 4294967296))(HV2:Hid (v2 < 4294967296))(HV:Hid (∀ V,Kp [] w V->∀ i x:Nat,[v0,v1,v2,v3,v4,v5,v6,v7][i]?=some x->V.cell? ⟨g11,i,none⟩=some (.int .u32 (x:Int))))(hsz:a.tmps.size=172)(o11:Sl a 11 (Pq g11 0))(o13:Sl a 13 (.int .u32 ((v0:Nat):Int))):bC true 21 f147 Q a w fun a' W q'=>Kp [] w.drew W->Sl a' 16 (.int .u32 ((rY v0 v1 v2:Nat):Int))->q':=by
 intro hend;have hap:=pa 21 f147;refine bZ (l:=(aK 21 f147)) (fun i v W=>match i with|0=>v=.int .u32 ((v0:Nat):Int)|1=>v=.int .u32 ((dG v0 2:Nat):Int)|2=>v=.int .u32 ((v0:Nat):Int)|3=>v=.int .u32 ((dG v0 13:Nat):Int)|4=>v=.int .u32 ((dG v0 2 ^^^ dG v0 13:Nat):Int)|5=>v=.int .u32 ((v0:Nat):Int)|6=>v=.int .u32 ((dG v0 22:Nat):Int)|7=>v=.int .u32 ((bS0 v0:Nat):Int)|8=>v=.int .u32 ((v0:Nat):Int)|9=>v=Pq g11 1|10=>v=.int .u32 ((v1:Nat):Int)|11=>v=.int .u32 ((v0 &&& v1:Nat):Int)|12=>v=.int .u32 ((v0:Nat):Int)|13=>v=Pq g11 2|14=>v=.int .u32 ((v2:Nat):Int)|15=>v=.int .u32 ((v0 &&& v2:Nat):Int)|16=>v=.int .u32 (((v0 &&& v1) ^^^ (v0 &&& v2):Nat):Int)|17=>v=Pq g11 1|18=>v=.int .u32 ((v1:Nat):Int)|19=>v=Pq g11 2|20=>v=.int .u32 ((v2:Nat):Int)|21=>v=.int .u32 ((v1 &&& v2:Nat):Int)|22=>v=.int .u32 ((maj v0 v1 v2:Nat):Int)|23=>v=.int .u32 ((rY v0 v1 v2:Nat):Int)|24=>v=.int .u32 ((rY v0 v1 v2:Nat):Int)|_=>True) (by kernel_rfl) hap (by kernel_rfl) ?_ ?_ ?_
 . exact fun _ _ _ _ h _=>h
 . and_intros <;> try intro vs A' W hA hW hd K hK
   . exact aJ (eO 13 o13)
   . have e116:=vD 116 0;clear hA hd o11 o13;go_step;refine (fP v0 2 2 rfl HV0.out (by unfold iK;omega) W).mono ?_;rintro e w' ⟨rfl,rfl⟩;exact hK _ _ kR rfl
   . exact aJ (eO 13 o13)
   . have e118:=vD 118 2;clear hA hd o11 o13;go_step;refine (fP v0 13 13 rfl HV0.out (by unfold iK;omega) W).mono ?_;rintro e w' ⟨rfl,rfl⟩;exact hK _ _ kR rfl
   . have e117:=vD 117 1;have e119:=vD 119 3;clear hA hd o11 o13;go_step;exact hK _ _ kR (congrArg (Value.int .u32) (fJ _ _ (cE HV0.out) (cE HV0.out)))
   . exact aJ (eO 13 o13)
   . have e121:=vD 121 5;clear hA hd o11 o13;go_step;refine (fP v0 22 22 rfl HV0.out (by unfold iK;omega) W).mono ?_;rintro e w' ⟨rfl,rfl⟩;exact hK _ _ kR rfl
   . have e120:=vD 120 4;have e122:=vD 122 6;clear hA hd o11 o13;go_step;exact hK _ _ kR (congrArg (Value.int .u32) (fJ _ _ (jN (cE HV0.out) (cE HV0.out)) (cE HV0.out)))
   . exact aJ (eO 13 o13)
   . exact aJ (eO 11 o11)
   . have c0:=HV.out W ((Kp.refl [] _).drew.trans hW (by simp)) 1 v1 rfl;exact aJ (vD 125 9)
   . have e124:=vD 124 8;have e126:=vD 126 10;clear hA hd o11 o13;go_step;exact hK _ _ kR (congrArg (Value.int .u32) (u32_and_nat _ _ HV0.out HV1.out))
   . exact aJ (eO 13 o13)
   . exact aJ (eO 11 o11)
   . have c0:=HV.out W ((Kp.refl [] _).drew.trans hW (by simp)) 2 v2 rfl;exact aJ (vD 129 13)
   . have e128:=vD 128 12;have e130:=vD 130 14;clear hA hd o11 o13;go_step;exact hK _ _ kR (congrArg (Value.int .u32) (u32_and_nat _ _ HV0.out HV2.out))
   . have e127:=vD 127 11;have e131:=vD 131 15;clear hA hd o11 o13;go_step;exact hK _ _ kR (congrArg (Value.int .u32) (fJ _ _ (gC HV0.out) (gC HV0.out)))
   . exact aJ (eO 11 o11)
   . have c0:=HV.out W ((Kp.refl [] _).drew.trans hW (by simp)) 1 v1 rfl;exact aJ (vD 133 17)
   . exact aJ (eO 11 o11)
   . have c0:=HV.out W ((Kp.refl [] _).drew.trans hW (by simp)) 2 v2 rfl;exact aJ (vD 135 19)
   . have e134:=vD 134 18;have e136:=vD 136 20;clear hA hd o11 o13;go_step;exact hK _ _ kR (congrArg (Value.int .u32) (u32_and_nat _ _ HV1.out HV2.out))
   . have e132:=vD 132 16;have e137:=vD 137 21;clear hA hd o11 o13;go_step;exact hK _ _ kR (congrArg (Value.int .u32) (fJ _ _ (jN (gC HV0.out) (gC HV0.out)) (gC HV1.out)))
   . have e123:=vD 123 7;have e138:=vD 138 22;clear hA hd o11 o13;go_step;exact hK _ _ kR (congrArg (Value.int .u32) (by unfold rY;omega))
   . exact aJ (vD 139 23)
   . trivial
 . intro vs W hW hp;rw [aF];exact hend _ W sQ hW (sW (hp 24 sB))
theorem aFe(k:Nat)(hsz:a.tmps.size=172)(o79:Sl a 79 (.int .i64 (k:Int))):bK 17 f147 Q a w fun a' q'=>Sl a' 80 (.bool (decide ((k:Int) < 64)))->q':=by
 refine jG fun hend=>?_;unfold Sl at o79;go_wp2_with fail
 try simp only [Act.put]
 exact hend _ tS sP
theorem aEs(k:Nat)(hsz:a.tmps.size=172)(o79:Sl a 79 (.int .i64 (k:Int))):bK 18 f147 Q a w fun a' q'=>Sl a' 12 (.int .i64 (k:Int))->q':=by
 refine jG fun hend=>?_;unfold Sl at o79;go_wp2_with fail
 try simp only [Act.put]
 exact hend _ tS sP
theorem aF5(w0:World)(g11 v0 v1 v2 v3 v4 v5 v6 v7 x y:Nat)(L:List Res)(S:Held w0 w (aB g11 205 (aW [v0,v1,v2,v3,v4,v5,v6,v7]) :: L))(hsz:a.tmps.size=172)(o11:Sl a 11 (Pq g11 0))(o13:Sl a 13 (.int .u32 (v0:Int)))(o14:Sl a 14 (.int .u32 (v4:Int)))(o15:Sl a 15 (.int .u32 (x:Int)))(o16:Sl a 16 (.int .u32 (y:Int))):bC false 22 f147 Q a w fun a' W q'=>(Held w0 W (aB g11 205 (aW [(x+y) % 4294967296,v0,v1,v2,(v3+x) % 4294967296,v4,v5,v6]) :: L))->q':=by
 refine bU fun hend=>?_;unfold Sl at o11 o13 o14 o15 o16;have S:=LH S;have c1:=bM (S.out.at_ (l1:=[])) 1 v1 rfl;have c2:=bM (S.out.at_ (l1:=[])) 2 v2 rfl;have c3:=bM (S.out.at_ (l1:=[])) 3 v3 rfl;have c5:=bM (S.out.at_ (l1:=[])) 5 v5 rfl;have c6:=bM (S.out.at_ (l1:=[])) 6 v6 rfl
 go_wp2_with (first
  |(refine bR rfl 205 _ rfl (pV (gL [(x+y) % 4294967296,v0,v1,v2,(v3+x) % 4294967296,v4,v5,v6]) 0) ?_ _ (bCo _ _ _ _ _ _ _ _) ?_;simp [Act.eval,Act.put,hsz,pV,gL,o13,o14,o15,o16])
  |(refine aD rfl 205 (.tmp 11) (.tmp 157) rfl g11 (aO o11) (aW [(x+y) % 4294967296,v0,v1,v2,(v3+x) % 4294967296,v4,v5,v6]) aE 205 _ (S.out.at_ (l1:=[])) (by rw [bI];exact bC1) (by rw [bI,bI];rfl) (fO _) ?_;intro w2 b2 k2;have S2:=LH (Held.setBlk (l1:=[]) S.out b2 k2);clear b2 k2))
 try simp only [Act.put]
 exact hend _ _ tS (S2.out)
theorem aGw(k:Nat)(hk:k < 64)(hsz:a.tmps.size=172)(o79:Sl a 79 (.int .i64 (k:Int))):bK 23 f147 Q a w fun a' q'=>Sl a' 79 (Nq (k+1))->q':=by
 refine jG fun hend=>?_;unfold Sl at o79;go_wp2_with fail
 try simp only [Act.put]
 exact hend _ tS sP
end
section
open Go.RowKit
def bAw:List Nat:=[12,13,14,15,16,79,80,81,82,83,84,85,86,87,88,89,90,91,92,93,94,95,96,97,98,99,100,101,102,103,104,105,106,107,108,109,110,111,112,113,114,115,116,117,118,119,120,121,122,123,124,125,126,127,128,129,130,131,132,133,134,135,136,137,138,139,140,141,142,143,144,145,146,147,148,149,150,151,152,153,154,155,156,157,158]
theorem aL9{Q:Exit->Act->World->Prop}{a:Act}{w0 w:World}(st ws:List Nat)(hst:Ws st)(hsl:st.length=8)(hwl:ws.length=64)(g5 g10 g11:Nat)(L:List Res)(hsz:a.tmps.size=172)
 (o5:Sl a 5 (Pq g5 0)) (o10:Sl a 10 (Pq g10 0)) (o11:Sl a 11 (Pq g11 0)) (o79:Sl a 79 (.int .i64 0))
 (S:Held w0 w (aB g11 205 (aW st) :: aB g10 226 (aW kT) :: aB g5 226 (aW ws) :: L))
 (hend:∀ a' W,Same a a' bAw->Held w0 W (aB g11 205 (aW (gP st ws 64)) :: aB g10 226 (aW kT) :: aB g5 226 (aW ws) :: L)->Q .normal a' W):
 (Code.block 4 (dR 4 f147)).wp prog Q a w:=by
 refine wp_block ?_
 (conv=>arg 2;whnf)
 refine wp_loop (fun a' w'=>∃ k:Nat,k<=64 ∧ Same a a' bAw ∧ Sl a' 79 (.int .i64 (k:Int)) ∧ Held w0 w' (aB g11 205 (aW (gP st ws k)) :: aB g10 226 (aW kT) :: aB g5 226 (aW ws) :: L)) (fun a' _=>64 - (intOf (a'.eval (.tmp 79))).toNat) ⟨0,by omega,Same.refl _ _,o79,S⟩ ?_;clear o79 S;rintro a1 w1 ⟨k,hk,hs,o79,S⟩;have o5:=hs.keep 5 _ (by decide) o5;have o10:=hs.keep 10 _ (by decide) o10;have o11:=hs.keep 11 _ (by decide) o11;have hz:=hs.size.trans hsz;refine wp_seq (aFe k hz o79 (fun a2 hs2 o80=>?_));have e79:=o79.eval (by rw [hz];decide);have hz2:=hs2.size.trans hz
 by_cases hlt:k < 64
 . refine wp_seq (cS o80 (wp_skip ?_) (by rw [decide_eq_true (by omega)]));have o79:=hs2.q o79;refine wp_seq (wp_block ?_);refine wp_seq (aEs k hz2 o79 (fun a3 hs3 o12=>?_));have T:=(hs.trans hs2).trans hs3;have hz3:=hs3.size.trans hz2;have o79:=hs3.q o79;have o5:=(hs2.trans hs3).keep 5 _ (by decide) o5;have o10:=(hs2.trans hs3).keep 10 _ (by decide) o10;have o11:=(hs2.trans hs3).keep 11 _ (by decide) o11;have hv:=fZ st ws k;have hvl:=wQ hst ws k;have Hnext:gP st ws (k+1)=rnd (gP st ws k) (kT.getD k 0) (ws.getD k 0):=rfl;obtain ⟨v0,v1,v2,v3,v4,v5,v6,v7,hvv⟩:=aCa (hv.trans hsl);rw [hvv] at hvl S Hnext;have HV0:=LH (hvl v0 (by simp));have HV1:=LH (hvl v1 (by simp));have HV2:=LH (hvl v2 (by simp));have HV4:=LH (hvl v4 (by simp));have HV5:=LH (hvl v5 (by simp));have HV6:=LH (hvl v6 (by simp));have HV:∀ W,Kp [] w1 W->∀ V,Kp [] W V->∀ i x:Nat,[v0,v1,v2,v3,v4,v5,v6,v7][i]?=some x->V.cell? ⟨g11,i,none⟩=some (.int .u32 (x:Int)):=fun W k1 V k2 i x h=>bM ((S.at_ (l1:=[])).kp (k1.trans k2 (by simp)) (by simp)) i x h
   have HKt:∀ W,Kp [] w1 W->∀ V,Kp [] W V->V.cell? ⟨g10,k,none⟩=some (.int .u32 ((kT.getD k 0:Nat):Int)):=fun W k1 V k2=>bM ((S.at_ (l1:=[_])).kp (k1.trans k2 (by simp)) (by simp)) k _ (eB hlt)
   have HWt:∀ W,Kp [] w1 W->∀ V,Kp [] W V->V.cell? ⟨g5,k,none⟩=some (.int .u32 ((ws.getD k 0:Nat):Int)):=fun W k1 V k2=>bM ((S.at_ (l1:=[_,_])).kp (k1.trans k2 (by simp)) (by simp)) k _ (eB (by rw [hwl];exact hlt))
   generalize kT.getD k 0=kk at *;generalize ws.getD k 0=wk at *;refine wp_seq (aHb g11 v0 v1 v2 v3 v4 v5 v6 v7 (LH (HV w1 kR)) hz3 o11 (fun a4 W4 hs4 k4 o13 o14=>?_));have K4:Kp [] w1 W4:=(Kp.refl [] _).drew.trans k4 (by simp);obtain ⟨hz4,-,o79,o12,o5,o10,o11⟩:=jJ hs4 hz3 rfl o79 o12 o5 o10 o11;refine wp_seq (aH2 g5 g10 g11 k v0 v1 v2 v3 v4 v5 v6 v7 kk wk hlt HV4 HV5 HV6 (LH (HV W4 K4)) (LH (HKt W4 K4)) (LH (HWt W4 K4)) hz4 o5 o10 o11 o12 o14 (fun a5 W5 hs5 k5 o15=>?_));have K5:Kp [] w1 W5:=(K4.trans (Kp.refl [] _).drew (by simp)).trans k5 (by simp);obtain ⟨hz5,-,o79,o13,o14,o11⟩:=fH hs5 hz4 rfl o79 o13 o14 o11;refine wp_seq (aHj g11 v0 v1 v2 v3 v4 v5 v6 v7 HV0 HV1 HV2 (LH (HV W5 K5)) hz5 o11 o13 (fun a6 W6 hs6 k6 o16=>?_));have K6:Kp [] w1 W6:=(K5.trans (Kp.refl [] _).drew (by simp)).trans k6 (by simp);obtain ⟨hz6,-,o79,o13,o14,o15,o11⟩:=jJ hs6 hz5 rfl o79 o13 o14 o15 o11;refine aF5 w0 g11 v0 v1 v2 v3 v4 v5 v6 v7 _ _ _ (S.kp K6) hz6 o11 o13 o14 o15 o16 (fun a7 W7 hs7 S7=>?_);have hz7:=hs7.size.trans hz6;have o79:=hs7.q o79;refine aGw k hlt hz7 o79 (fun a8 hs8 o79=>?_);have hz8:=hs8.size.trans hz7;refine ⟨⟨k+1,by omega,?_,o79,?_⟩,?_⟩
   . refine ((((((T.trans hs4).trans hs5).trans hs6).trans hs7).trans hs8)).more ?_
     decide +kernel
   . rw [Hnext];exact S7
   . show 64 - (intOf (a8.eval (.tmp 79))).toNat < 64 - (intOf (a1.eval (.tmp 79))).toNat
     rw [e79,o79.eval (by rw [hz8];decide)];simp [intOf];omega
 . obtain rfl:k=64:=by omega
   refine wp_seq (dD o80 (wp_exit ?_) (by rw [decide_eq_false (by omega)]));refine hend _ _ ((hs.trans hs2).more (by decide +kernel)) S
end
section
variable {Q:Exit->Act->World->Prop} {a:Act} {w:World}
open Go.RowKit
theorem aNw(k:Nat)(hsz:a.tmps.size=172)(o18:Sl a 18 (.int .i64 (k:Int))):bK 3 f147 Q a w fun a' q'=>Sl a' 19 (.bool (decide ((k:Int) < 16)))->q':=rO
theorem aMt(k:Nat)(hsz:a.tmps.size=172)(o18:Sl a 18 (.int .i64 (k:Int))):bK 4 f147 Q a w fun a' q'=>Sl a' 6 (.int .i64 (k:Int))->q':=rO
theorem aI8(w0:World)(k g5 g3:Nat)(L:List Nat)(b:Bs)(R:List Res)(hlt:k < 16)(hbl:b.length=64)(hL:L.length=k)(S:Held w0 w (aB g5 226 (aW (pz L)) :: aB g3 181 (aA b) :: R))(hsz:a.tmps.size=172)(o3:Sl a 3 (Pq g3 0))(o5:Sl a 5 (Pq g5 0))(o6:Sl a 6 (.int .i64 (k:Int))):bC false 5 f147 Q a w fun a' W q'=>(Held w0 W (aB g5 226 (aW (pz (L ++ [lM ((b.drop (4 * k)).take 4)]))) :: aB g3 181 (aA b) :: R))->q':=by
 refine bU fun hend=>?_;unfold Sl at o3 o5 o6;have S:=LH S;have HBl:=LH hbl;have HP:=LH (sG (l:=L) (by omega) (lM ((b.drop (4 * k)).take 4)));rw [hL] at HP
 have HR:Hid (Calls prog 158 #[.slice (some ⟨g3,4 * k,none⟩) (64 - 4 * k) (64 - 4 * k)] w fun e w'=>e=.returned (.int .u32 ((lM ((b.drop (4 * k)).take 4):Nat):Int)) ∧ w=w'):=LH (by
  have:=sZ (S.out.at_ (l1:=[_])) (4 * k) (by rw [hbl];omega) (by rw [hbl];omega)
  rw [hbl] at this;exact aHl _ _ _ (by omega) w this)
 generalize lM ((b.drop (4 * k)).take 4)=nw at *;have hpl:k < (pz L).length:=by rw [mY (by omega)];omega
 have q1:=bM (S.out.at_ (l1:=[])) k _ (eB hpl);have q2:=(S.out.at_ (l1:=[])).frozen k;have q3:=(S.out.at_ (l1:=[])).lt;have S2:Hid (Held w0 (w.setCell ⟨g5,k,none⟩ (.int .u32 (nw:Int))) _):=LH (S.out.set (l1:=[]) k (.int .u32 (nw:Int)));rw [iP,HP.out] at S2;clear hpl hL hbl;have hs:=bD7 g3 w (4 * k) (4 * (k:Int)) (by omega) (by omega);go_wp2_with fail
 refine HR.out.mono ?_;rintro e w' ⟨rfl,rfl⟩;go_wp2
 try simp only [Act.put]
 exact hend _ _ tS (S2.out)
theorem aLj(k:Nat)(hk:k < 16)(hsz:a.tmps.size=172)(o18:Sl a 18 (.int .i64 (k:Int))):bK 6 f147 Q a w fun a' q'=>Sl a' 18 (Nq (k+1))->q':=rO
theorem aJh(n:Nat)(hsz:a.tmps.size=172)(o7:Sl a 7 (.int .i64 (n:Int))):bK 8 f147 Q a w fun a' q'=>Sl a' 29 (.bool (decide ((n:Int) < 64)))->q':=rO
theorem aKc(n:Nat)(hn:n < 64)(hsz:a.tmps.size=172)(o7:Sl a 7 (.int .i64 (n:Int))):bK 9 f147 Q a w fun a' q'=>Sl a' 7 (Nq (n+1))->q':=rO
theorem aF1(j g5 x y:Nat)(L:List Nat)(hlt:j < 48)(HX:Hid (L[j+1]?=some x))(HY:Hid (L[j+14]?=some y))(HW:Hid (∀ V,Kp [] w V->∀ i x:Nat,L[i]?=some x->V.cell? ⟨g5,i,none⟩=some (.int .u32 (x:Int))))(hsz:a.tmps.size=172)(o5:Sl a 5 (Pq g5 0))(o7:Sl a 7 (Nq (j+16))):bC true 10 f147 Q a w fun a' W q'=>Kp [] w.drew W->Sl a' 8 (.int .u32 (x:Int))->Sl a' 9 (.int .u32 (y:Int))->q':=by
 intro hend;have hap:=pa 10 f147;refine bZ (l:=(aK 10 f147)) (fun i v W=>match i with|0=>v=Nq (j+16)|1=>v=Nq (j+1)|2=>v=.pointer (some ⟨g5,j+1,none⟩)|3=>v=.int .u32 (x:Int)|4=>v=Nq (j+16)|5=>v=Nq (j+14)|6=>v=.pointer (some ⟨g5,j+14,none⟩)|7=>v=.int .u32 (y:Int)|8=>v=.int .u32 (x:Int)|9=>v=.int .u32 (y:Int)|_=>True) (by kernel_rfl) hap (by kernel_rfl) ?_ ?_ ?_
 . exact fun _ _ _ _ h _=>h
 . and_intros <;> try intro vs A' W hA hW hd K hK
   . exact aJ (eO 7 o7)
   . have e32:=vD 32 0;clear hA hd o5 o7;go_step;exact hK _ _ kR (congrArg (Value.int .i64) (by first|omega|(unfold wrap64;omega)))
   . have h0:0<=(j:Int)+1:=by omega
     have h1:(j:Int)+1 < 64:=by omega
     exact cM (eO 5 o5) (vD 33 1)
   . have c0:=HW.out W ((Kp.refl [] _).drew.trans hW (by simp)) (j+1) x HX.out;exact aJ (vD 34 2)
   . exact aJ (eO 7 o7)
   . have e36:=vD 36 4;clear hA hd o5 o7;go_step;exact hK _ _ kR (congrArg (Value.int .i64) (by first|omega|(unfold wrap64;omega)))
   . have h0:0<=(j:Int)+14:=by omega
     have h1:(j:Int)+14 < 64:=by omega
     exact cM (eO 5 o5) (vD 37 5)
   . have c0:=HW.out W ((Kp.refl [] _).drew.trans hW (by simp)) (j+14) y HY.out;exact aJ (vD 38 6)
   . exact aJ (vD 35 3)
   . exact aJ (vD 39 7)
   . trivial
 . intro vs W hW hp;rw [aF];exact hend _ W sQ hW (sW (hp 8 sB)) (sW (hp 9 sB))
theorem aEv(w0:World)(j g5:Nat)(L:List Nat)(R:List Res)(hlt:j < 48)(a1 c m:Nat)(HA:L[j]?=some a1)(HC:L[j+9]?=some c)(HM:L[j+16]?=some m)(hsz:a.tmps.size=172)(o5:Sl a 5 (Pq g5 0))(o7:Sl a 7 (Nq (j+16)))
 (S0:Held w0 w (aB g5 226 (aW L) :: R)):bC true 11 f147 Q a w fun a' W q'=>Held w0 W (aB g5 226 (aW (L.set (j+16) ((a1+c) % 4294967296))) :: R)->q':=by
 intro hend;have hap:=pa 11 f147
 refine aP (Γ:=Unit) (l:=(aK 11 f147)) 2 [0,1,2,3,4,5,6,7,8,9,10,11,13]
  (fun i vs gs=>match i with|0=>vs 0=Nq (j+16)|1=>vs 1=Nq (j+16)|2=>vs 2=.int .i64 (j:Int)|3=>vs 3=.pointer (some ⟨g5,j,none⟩)|4=>vs 4=.int .u32 ((a1:Nat):Int)|5=>vs 5=Nq (j+16)|6=>vs 6=Nq (j+9)|7=>vs 7=.pointer (some ⟨g5,j+9,none⟩)|8=>vs 8=.int .u32 ((c:Nat):Int)|9=>vs 9=.int .u32 (((a1+c) % 4294967296:Nat):Int)|10=>vs 10=.pointer (some ⟨g5,j+16,none⟩)|_=>True)
  (fun i vs gs=>match i with|11=>[aB g5 226 (aW (L.set (j+16) ((a1+c) % 4294967296)))]|12=>[aB g5 226 (aW (L))]|13=>R|_=>[])
  (fun i=>match i with|11=>[12]|_=>[]) (fun i=>match i with|4=>[12]|8=>[12]|_=>[]) S0 (by kernel_rfl) hap (by kernel_rfl) (by kernel_rfl) (fun i=>match i with|0=>[0]|1=>[1]|2=>[2]|3=>[3]|4=>[4]|5=>[5]|6=>[6]|7=>[7]|8=>[8]|9=>[9]|10=>[10]|_=>[]) (by kernel_rfl) ?_ (by kernel_rfl) ?_ ?_ ?_
 . intro s vs vs' gs gs' h
   iterate 14 (rcases s with _|s;· (first|exact ⟨rfl,id⟩|(simp only [List.mem_cons,List.not_mem_nil,or_false,forall_eq] at h;simp [h])))
   exact ⟨rfl,id⟩
 . simp only [List.range,List.range.loop,List.flatMap_cons,List.flatMap_nil,List.append_nil];exact List.Perm.refl _
 . clear S0 hend
   and_intros <;> try intro vs gs A' W LF hA S hR hd hu K hK
   . exact aJ (eO 7 o7)
   . exact aJ (eO 7 o7)
   . replace hK:=hK default;have e41:=vD 41 1;clear hA o5 o7;go_step;exact hK _ _ S (congrArg (Value.int .i64) (by first|omega|(unfold wrap64;omega)))
   . have h0:0<=(j:Int):=by omega
     have h1:(j:Int) < 64:=by omega
     exact cM (eO 5 o5) (vD 42 2)
   . have c0:=bM (S.ok (aB g5 226 (aW (L))) (hR 12 (List.mem_singleton.2 rfl) _ (List.mem_singleton.2 rfl))) (j) (a1) HA;exact aJ (vD 43 3)
   . exact aJ (eO 7 o7)
   . replace hK:=hK default;have e45:=vD 45 5;clear hA o5 o7;go_step;exact hK _ _ S (congrArg (Value.int .i64) (by first|omega|(unfold wrap64;omega)))
   . have h0:0<=(j:Int)+9:=by omega
     have h1:(j:Int)+9 < 64:=by omega
     exact cM (eO 5 o5) (vD 46 6)
   . have c0:=bM (S.ok (aB g5 226 (aW (L))) (hR 12 (List.mem_singleton.2 rfl) _ (List.mem_singleton.2 rfl))) (j+9) (c) HC;exact aJ (vD 47 7)
   . replace hK:=hK default;have e44:=vD 44 4;have e48:=vD 48 8;clear hA o5 o7;go_step;exact hK _ _ S (congrArg (Value.int .u32) (by first|omega|rfl))
   . have h0:0<=(j:Int)+16:=by omega
     have h1:(j:Int)+16 < 64:=by omega
     exact cM (eO 5 o5) (vD 40 0)
   . replace hK:=hK default;have e50:=vD 50 10;have e49:=vD 49 9;clear hA o5 o7;have S1:Held w0 W (aB g5 226 (aW (L)) :: LF):=S;have q1:=bM (S1.at_ (l1:=[])) (j+16) _ (HM);have q2:=(S1.at_ (l1:=[])).frozen (j+16);have q3:=(S1.at_ (l1:=[])).lt;go_step;have S2:=S1.set (l1:=[]) (j+16) (.int .u32 (((a1+c) % 4294967296:Nat):Int))
     rw [iP] at S2;exact hK undef _ S2 trivial
   . trivial
 . intro vs gs W S hp;have S:Held w0 W (aB g5 226 (aW (L.set (j+16) ((a1+c) % 4294967296))) :: R):=by simpa only [List.flatMap_cons,List.flatMap_nil,List.append_nil,List.nil_append,List.cons_append,List.append_assoc] using S
   rw [aF];exact hend _ W sQ  S
theorem aGf(w0:World)(j g5:Nat)(L:List Nat)(R:List Res)(hlt:j < 48)(m x:Nat)(HM:L[j+16]?=some m)(HXl:x < 4294967296)(hsz:a.tmps.size=172)(o5:Sl a 5 (Pq g5 0))(o7:Sl a 7 (Nq (j+16)))(o8:Sl a 8 (.int .u32 ((x:Nat):Int)))
 (S0:Held w0 w (aB g5 226 (aW L) :: R)):bC true 12 f147 Q a w fun a' W q'=>Held w0 W (aB g5 226 (aW (L.set (j+16) ((m+sg0 x) % 4294967296))) :: R)->q':=by
 intro hend;have hap:=pa 12 f147
 refine aP (Γ:=Unit) (l:=(aK 12 f147)) 2 [0,1,2,3,4,5,6,7,8,9,10,11,12,13,15]
  (fun i vs gs=>match i with|0=>vs 0=Nq (j+16)|1=>vs 1=.pointer (some ⟨g5,j+16,none⟩)|2=>vs 2=.int .u32 ((m:Nat):Int)|3=>vs 3=.int .u32 ((x:Nat):Int)|4=>vs 4=.int .u32 ((dG x 7:Nat):Int)|5=>vs 5=.int .u32 ((x:Nat):Int)|6=>vs 6=.int .u32 ((dG x 18:Nat):Int)|7=>vs 7=.int .u32 ((dG x 7 ^^^ dG x 18:Nat):Int)|8=>vs 8=.int .u32 ((x:Nat):Int)|9=>vs 9=.int .u32 ((x / 8:Nat):Int)|10=>vs 10=.int .u32 ((sg0 x:Nat):Int)|11=>vs 11=.int .u32 (((m+sg0 x) % 4294967296:Nat):Int)|12=>vs 12=.pointer (some ⟨g5,j+16,none⟩)|_=>True)
  (fun i vs gs=>match i with|13=>[aB g5 226 (aW (L.set (j+16) ((m+sg0 x) % 4294967296)))]|14=>[aB g5 226 (aW (L))]|15=>R|_=>[])
  (fun i=>match i with|13=>[14]|_=>[]) (fun i=>match i with|2=>[14]|_=>[]) S0 (by kernel_rfl) hap (by kernel_rfl) (by kernel_rfl) (fun i=>match i with|0=>[0]|1=>[1]|2=>[2]|3=>[3]|4=>[4]|5=>[5]|6=>[6]|7=>[7]|8=>[8]|9=>[9]|10=>[10]|11=>[11]|12=>[12]|_=>[]) (by kernel_rfl) ?_ (by kernel_rfl) ?_ ?_ ?_
 . intro s vs vs' gs gs' h
   iterate 16 (rcases s with _|s;· (first|exact ⟨rfl,id⟩|(simp only [List.mem_cons,List.not_mem_nil,or_false,forall_eq] at h;simp [h])))
   exact ⟨rfl,id⟩
 . simp only [List.range,List.range.loop,List.flatMap_cons,List.flatMap_nil,List.append_nil];exact List.Perm.refl _
 . clear S0 hend
   and_intros <;> try intro vs gs A' W LF hA S hR hd hu K hK
   . exact aJ (eO 7 o7)
   . have h0:0<=(j:Int)+16:=by omega
     have h1:(j:Int)+16 < 64:=by omega
     exact cM (eO 5 o5) (vD 51 0)
   . have c0:=bM (S.ok (aB g5 226 (aW (L))) (hR 14 (List.mem_singleton.2 rfl) _ (List.mem_singleton.2 rfl))) (j+16) (m) HM;exact aJ (vD 52 1)
   . exact aJ (eO 8 o8)
   . replace hK:=hK default;have e54:=vD 54 3;clear hA o5 o7 o8;go_step;refine (fP x 7 7 rfl HXl (by unfold iK;omega) W).mono ?_;rintro e w' ⟨rfl,rfl⟩;exact hK _ _ S rfl
   . exact aJ (eO 8 o8)
   . replace hK:=hK default;have e56:=vD 56 5;clear hA o5 o7 o8;go_step;refine (fP x 18 18 rfl HXl (by unfold iK;omega) W).mono ?_;rintro e w' ⟨rfl,rfl⟩;exact hK _ _ S rfl
   . replace hK:=hK default;have e55:=vD 55 4;have e57:=vD 57 6;clear hA o5 o7 o8;go_step;exact hK _ _ S (congrArg (Value.int .u32) (fJ _ _ (cE HXl) (cE HXl)))
   . exact aJ (eO 8 o8)
   . replace hK:=hK default;have e59:=vD 59 8;clear hA o5 o7 o8;go_step;exact hK _ _ S (congrArg (Value.int .u32) (by first|omega|rfl))
   . replace hK:=hK default;have e58:=vD 58 7;have e60:=vD 60 9;clear hA o5 o7 o8;go_step;exact hK _ _ S (congrArg (Value.int .u32) (fJ _ _ (jN (cE HXl) (cE HXl)) (pS HXl)))
   . replace hK:=hK default;have e53:=vD 53 2;have e61:=vD 61 10;clear hA o5 o7 o8;go_step;exact hK _ _ S (congrArg (Value.int .u32) (by first|omega|rfl))
   . have h0:0<=(j:Int)+16:=by omega
     have h1:(j:Int)+16 < 64:=by omega
     exact cM (eO 5 o5) (vD 51 0)
   . replace hK:=hK default;have e63:=vD 63 12;have e62:=vD 62 11;clear hA o5 o7 o8;have S1:Held w0 W (aB g5 226 (aW (L)) :: LF):=S;have q1:=bM (S1.at_ (l1:=[])) (j+16) _ (HM);have q2:=(S1.at_ (l1:=[])).frozen (j+16);have q3:=(S1.at_ (l1:=[])).lt;go_step;have S2:=S1.set (l1:=[]) (j+16) (.int .u32 (((m+sg0 x) % 4294967296:Nat):Int))
     rw [iP] at S2;exact hK undef _ S2 trivial
   . trivial
 . intro vs gs W S hp;have S:Held w0 W (aB g5 226 (aW (L.set (j+16) ((m+sg0 x) % 4294967296))) :: R):=by simpa only [List.flatMap_cons,List.flatMap_nil,List.append_nil,List.nil_append,List.cons_append,List.append_assoc] using S
   rw [aF];exact hend _ W sQ  S
theorem aI1(w0:World)(j g5:Nat)(L:List Nat)(R:List Res)(hlt:j < 48)(m y:Nat)(HM:L[j+16]?=some m)(HYl:y < 4294967296)(hsz:a.tmps.size=172)(o5:Sl a 5 (Pq g5 0))(o7:Sl a 7 (Nq (j+16)))(o9:Sl a 9 (.int .u32 ((y:Nat):Int)))
 (S0:Held w0 w (aB g5 226 (aW L) :: R)):bC true 13 f147 Q a w fun a' W q'=>Held w0 W (aB g5 226 (aW (L.set (j+16) ((m+sg1 y) % 4294967296))) :: R)->q':=by
 intro hend;have hap:=pa 13 f147
 refine aP (Γ:=Unit) (l:=(aK 13 f147)) 2 [0,1,2,3,4,5,6,7,8,9,10,11,12,13,15]
  (fun i vs gs=>match i with|0=>vs 0=Nq (j+16)|1=>vs 1=.pointer (some ⟨g5,j+16,none⟩)|2=>vs 2=.int .u32 ((m:Nat):Int)|3=>vs 3=.int .u32 ((y:Nat):Int)|4=>vs 4=.int .u32 ((dG y 17:Nat):Int)|5=>vs 5=.int .u32 ((y:Nat):Int)|6=>vs 6=.int .u32 ((dG y 19:Nat):Int)|7=>vs 7=.int .u32 ((dG y 17 ^^^ dG y 19:Nat):Int)|8=>vs 8=.int .u32 ((y:Nat):Int)|9=>vs 9=.int .u32 ((y / 1024:Nat):Int)|10=>vs 10=.int .u32 ((sg1 y:Nat):Int)|11=>vs 11=.int .u32 (((m+sg1 y) % 4294967296:Nat):Int)|12=>vs 12=.pointer (some ⟨g5,j+16,none⟩)|_=>True)
  (fun i vs gs=>match i with|13=>[aB g5 226 (aW (L.set (j+16) ((m+sg1 y) % 4294967296)))]|14=>[aB g5 226 (aW (L))]|15=>R|_=>[])
  (fun i=>match i with|13=>[14]|_=>[]) (fun i=>match i with|2=>[14]|_=>[]) S0 (by kernel_rfl) hap (by kernel_rfl) (by kernel_rfl) (fun i=>match i with|0=>[0]|1=>[1]|2=>[2]|3=>[3]|4=>[4]|5=>[5]|6=>[6]|7=>[7]|8=>[8]|9=>[9]|10=>[10]|11=>[11]|12=>[12]|_=>[]) (by kernel_rfl) ?_ (by kernel_rfl) ?_ ?_ ?_
 . intro s vs vs' gs gs' h
   iterate 16 (rcases s with _|s;· (first|exact ⟨rfl,id⟩|(simp only [List.mem_cons,List.not_mem_nil,or_false,forall_eq] at h;simp [h])))
   exact ⟨rfl,id⟩
 . simp only [List.range,List.range.loop,List.flatMap_cons,List.flatMap_nil,List.append_nil];exact List.Perm.refl _
 . clear S0 hend
   and_intros <;> try intro vs gs A' W LF hA S hR hd hu K hK
   . exact aJ (eO 7 o7)
   . have h0:0<=(j:Int)+16:=by omega
     have h1:(j:Int)+16 < 64:=by omega
     exact cM (eO 5 o5) (vD 64 0)
   . have c0:=bM (S.ok (aB g5 226 (aW (L))) (hR 14 (List.mem_singleton.2 rfl) _ (List.mem_singleton.2 rfl))) (j+16) (m) HM;exact aJ (vD 65 1)
   . exact aJ (eO 9 o9)
   . replace hK:=hK default;have e67:=vD 67 3;clear hA o5 o7 o9;go_step;refine (fP y 17 17 rfl HYl (by unfold iK;omega) W).mono ?_;rintro e w' ⟨rfl,rfl⟩;exact hK _ _ S rfl
   . exact aJ (eO 9 o9)
   . replace hK:=hK default;have e69:=vD 69 5;clear hA o5 o7 o9;go_step;refine (fP y 19 19 rfl HYl (by unfold iK;omega) W).mono ?_;rintro e w' ⟨rfl,rfl⟩;exact hK _ _ S rfl
   . replace hK:=hK default;have e68:=vD 68 4;have e70:=vD 70 6;clear hA o5 o7 o9;go_step;exact hK _ _ S (congrArg (Value.int .u32) (fJ _ _ (cE HYl) (cE HYl)))
   . exact aJ (eO 9 o9)
   . replace hK:=hK default;have e72:=vD 72 8;clear hA o5 o7 o9;go_step;exact hK _ _ S (congrArg (Value.int .u32) (by first|omega|rfl))
   . replace hK:=hK default;have e71:=vD 71 7;have e73:=vD 73 9;clear hA o5 o7 o9;go_step;exact hK _ _ S (congrArg (Value.int .u32) (fJ _ _ (jN (cE HYl) (cE HYl)) (pS HYl)))
   . replace hK:=hK default;have e66:=vD 66 2;have e74:=vD 74 10;clear hA o5 o7 o9;go_step;exact hK _ _ S (congrArg (Value.int .u32) (by first|omega|rfl))
   . have h0:0<=(j:Int)+16:=by omega
     have h1:(j:Int)+16 < 64:=by omega
     exact cM (eO 5 o5) (vD 64 0)
   . replace hK:=hK default;have e76:=vD 76 12;have e75:=vD 75 11;clear hA o5 o7 o9;have S1:Held w0 W (aB g5 226 (aW (L)) :: LF):=S;have q1:=bM (S1.at_ (l1:=[])) (j+16) _ (HM);have q2:=(S1.at_ (l1:=[])).frozen (j+16);have q3:=(S1.at_ (l1:=[])).lt;go_step;have S2:=S1.set (l1:=[]) (j+16) (.int .u32 (((m+sg1 y) % 4294967296:Nat):Int))
     rw [iP] at S2;exact hK undef _ S2 trivial
   . trivial
 . intro vs gs W S hp;have S:Held w0 W (aB g5 226 (aW (L.set (j+16) ((m+sg1 y) % 4294967296))) :: R):=by simpa only [List.flatMap_cons,List.flatMap_nil,List.append_nil,List.nil_append,List.cons_append,List.append_assoc] using S
   rw [aF];exact hend _ W sQ  S
theorem aKe(w0:World)(st:List Nat)(b:Bs)(L:List Res)(S:Held w0 w L)(hsz:a.tmps.size=172)(o0:Sl a 0 (.agg (aW st)))(o1:Sl a 1 (.agg (aA b))):bC false 0 f147 Q a w fun a' W q'=>(∃ g2 g3 g4,Sl a' 2 (Pq g2 0) ∧ Sl a' 3 (Pq g3 0) ∧ Sl a' 4 (Pq g4 0) ∧ Held w0 W (aB g4 205 (aW (List.replicate 8 0)) :: aB g3 181 (aA b) :: aB g2 205 (aW st) :: L))->q':=by
 refine bU fun hend=>?_;unfold Sl at o0 o1;have S0:=LH (((S.newBlk 205 (aW st)).newBlk 181 (aA b)).newBlk 205 (aW (List.replicate 8 0)));simp only [World.size_alloc] at S0;generalize hca:aW st=ca at *;generalize hcb:aA b=cb at *;go_wp2
 try simp only [Act.put]
 exact hend _ _ tS (⟨w.heap.size,w.heap.size+1,w.heap.size+1+1,cH,cH,cH,S0.out⟩)
theorem aMd(w0:World)(L:List Res)(S:Held w0 w L)(hsz:a.tmps.size=172):bC false 1 f147 Q a w fun a' W q'=>(∃ g5,Sl a' 5 (Pq g5 0) ∧ Held w0 W (aB g5 226 (aW (List.replicate 64 0)) :: L))->q':=by
 refine bU fun hend=>?_;have S0:=LH (S.newBlk 226 (aW (List.replicate 64 0)));go_wp2
 try simp only [Act.put]
 exact hend _ _ tS (⟨w.heap.size,cH,S0.out⟩)
theorem aIh(hsz:a.tmps.size=172):bK 2 f147 Q a w fun a' q'=>Sl a' 18 (Nq 0)->q':=by
 refine jG fun hend=>?_;go_wp2_with fail
 try simp only [Act.put]
 exact hend _ tS sP
theorem aKo(hsz:a.tmps.size=172):bK 7 f147 Q a w fun a' q'=>Sl a' 7 (Nq 16)->q':=by
 refine jG fun hend=>?_;go_wp2_with fail
 try simp only [Act.put]
 exact hend _ tS sP
theorem aGq(w0:World)(L:List Res)(S:Held w0 w L)(hsz:a.tmps.size=172):bC false 14 f147 Q a w fun a' W q'=>(∃ g10,Sl a' 10 (Pq g10 0) ∧ Held w0 W (aB g10 226 (aW kT) :: L))->q':=by
 refine bU fun hend=>?_;have S:=LH S;go_wp2_with fail
 refine (aAj _).mono ?_;rintro e w5 ⟨rfl,k5⟩;have S5:=LH (S.out.kp k5);clear k5;go_wp2_with (refine aD rfl 226 (.tmp 10) (.tmp 77) rfl w5.heap.size aE (aW kT) aE 226 _ (aM.new w5 226 _) (by rw [bI];exact bCh) (by rw [bI];rfl) (fO kT) ?_;intro w6 b6 k6;have S6:=LH (Held.setBlk (l1:=[]) (S5.out.newBlk 226 _) b6 k6);clear b6 k6)
 try simp only [Act.put]
 exact hend _ _ tS (⟨_,cH,S6.out⟩)
theorem aHo(w0:World)(g2:Nat)(st:List Nat)(hsl:st.length=8)(L1 L2:List Res)(S:Held w0 w (L1 ++ aB g2 205 (aW st) :: L2))(hsz:a.tmps.size=172)(o2:Sl a 2 (Pq g2 0)):bC false 15 f147 Q a w fun a' W q'=>(∃ g11,Sl a' 11 (Pq g11 0) ∧ Held w0 W (aB g11 205 (aW st) :: (L1 ++ aB g2 205 (aW st) :: L2)))->q':=by
 refine bU fun hend=>?_;unfold Sl at o2;have S:=LH S;have HSl:=LH hsl;clear hsl
 go_wp2_with (first
  |(refine aQ rfl 205 (.tmp 2) rfl g2 (aO o2) 205 _ S.out.at_ _ underlying205 rfl (by rw [bI,HSl.out];exact bC1) ?_)
  |(refine aD rfl 205 (.tmp 11) (.tmp 78) rfl w.heap.size aE (aW st) aE 205 _ (aM.new w 205 _) (by rw [bI,HSl.out];exact bC1) (by rw [bI,HSl.out];rfl) (fO st) ?_;intro w7 b7 k7;have S7:=LH (Held.setBlk (l1:=[]) (S.out.newBlk 205 _) b7 k7);clear b7 k7))
 try simp only [Act.put]
 exact hend _ _ tS (⟨_,cH,S7.out⟩)
theorem aFl(hsz:a.tmps.size=172):bK 16 f147 Q a w fun a' q'=>Sl a' 79 (.int .i64 0)->q':=by
 refine jG fun hend=>?_;go_wp2_with fail
 try simp only [Act.put]
 exact hend _ tS sP
theorem aG9(hsz:a.tmps.size=172):bK 24 f147 Q a w fun a' q'=>Sl a' 159 (Nq 0)->q':=by
 refine jG fun hend=>?_;go_wp2_with fail
 try simp only [Act.put]
 exact hend _ tS sP
theorem aHf(k:Nat)(hsz:a.tmps.size=172)(o159:Sl a 159 (.int .i64 (k:Int))):bK 25 f147 Q a w fun a' q'=>Sl a' 160 (.bool (decide ((k:Int) < 8)))->q':=by
 refine jG fun hend=>?_;unfold Sl at o159;go_wp2_with fail
 try simp only [Act.put]
 exact hend _ tS sP
theorem aFk(k:Nat)(hsz:a.tmps.size=172)(o159:Sl a 159 (.int .i64 (k:Int))):bK 26 f147 Q a w fun a' q'=>Sl a' 17 (.int .i64 (k:Int))->q':=by
 refine jG fun hend=>?_;unfold Sl at o159;go_wp2_with fail
 try simp only [Act.put]
 exact hend _ tS sP
theorem aH0(k:Nat)(hk:k < 8)(hsz:a.tmps.size=172)(o159:Sl a 159 (.int .i64 (k:Int))):bK 28 f147 Q a w fun a' q'=>Sl a' 159 (Nq (k+1))->q':=by
 refine jG fun hend=>?_;unfold Sl at o159;go_wp2_with fail
 try simp only [Act.put]
 exact hend _ tS sP
theorem aGa(w0:World)(g11 g4:Nat)(v c4:List Nat)(hvl:v.length=8)(h4l:c4.length=8)(L1 L2:List Res)(S:Held w0 w (aB g11 205 (aW v) :: (L1 ++ aB g4 205 (aW c4) :: L2)))(hsz:a.tmps.size=172)(o4:Sl a 4 (Pq g4 0))(o11:Sl a 11 (Pq g11 0)):bC false 29 f147 Q a w fun a' W q'=>(Held w0 W (aB g11 205 (aW v) :: (L1 ++ aB g4 205 (aW v) :: L2)))->q':=by
 refine bU fun hend=>?_;unfold Sl at o4 o11;have S:=LH S;have HV:=LH hvl;have H4:=LH h4l;clear hvl h4l
 go_wp2_with (first
  |(refine aQ rfl 205 (.tmp 11) rfl g11 (aO o11) 205 _ (S.out.at_ (l1:=[])) _ underlying205 rfl (by rw [bI,HV.out];exact bC1) ?_)
  |(refine aD rfl 205 (.tmp 4) (.tmp 171) rfl g4 (aO o4) (aW v) aE 205 _ (S.out.at_ (l1:=_ :: L1)) (by rw [bI,HV.out];exact bC1) (by rw [bI,bI,HV.out,H4.out]) (fO v) ?_;intro w7 b7 k7;have S7:=LH (Held.setBlk (l1:=_ :: L1) S.out b7 k7);clear b7 k7))
 try simp only [Act.put]
 exact hend _ _ tS (S7.out)
theorem aGm(w0:World)(k g11 g2:Nat)(V st:List Nat)(R1 R2:List Res)(hlt:k < 8)(x y:Nat)(HX:V[k]?=some x)(HY:st[k]?=some y)(hsz:a.tmps.size=172)(o2:Sl a 2 (Pq g2 0))(o11:Sl a 11 (Pq g11 0))(o17:Sl a 17 (.int .i64 (k:Int)))
 (S0:Held w0 w (aB g11 205 (aW V) :: (R1 ++ aB g2 205 (aW st) :: R2))):bC true 27 f147 Q a w fun a' W q'=>Held w0 W (aB g11 205 (aW (V.set k ((x+y) % 4294967296))) :: R1 ++ aB g2 205 (aW st) :: R2)->q':=by
 intro hend;have hap:=pa 27 f147
 refine aP (Γ:=Unit) (l:=(aK 27 f147)) 2 [0,1,2,3,4,5,6,7,8,10]
  (fun i vs gs=>match i with|0=>vs 0=.int .i64 (k:Int)|1=>vs 1=.pointer (some ⟨g11,k,none⟩)|2=>vs 2=.int .u32 ((x:Nat):Int)|3=>vs 3=.int .i64 (k:Int)|4=>vs 4=.pointer (some ⟨g2,k,none⟩)|5=>vs 5=.int .u32 ((y:Nat):Int)|6=>vs 6=.int .u32 (((x+y) % 4294967296:Nat):Int)|7=>vs 7=.pointer (some ⟨g11,k,none⟩)|_=>True)
  (fun i vs gs=>match i with|8=>[aB g11 205 (aW (V.set k ((x+y) % 4294967296)))]|9=>[aB g11 205 (aW V)]|10=>R1 ++ aB g2 205 (aW st) :: R2|_=>[])
  (fun i=>match i with|8=>[9]|_=>[]) (fun i=>match i with|2=>[9]|5=>[10]|_=>[]) S0 (by kernel_rfl) hap (by kernel_rfl) (by kernel_rfl) (fun i=>match i with|0=>[0]|1=>[1]|2=>[2]|3=>[3]|4=>[4]|5=>[5]|6=>[6]|7=>[7]|_=>[]) (by kernel_rfl) ?_ (by kernel_rfl) ?_ ?_ ?_
 . intro s vs vs' gs gs' h
   iterate 11 (rcases s with _|s;· (first|exact ⟨rfl,id⟩|(simp only [List.mem_cons,List.not_mem_nil,or_false,forall_eq] at h;simp [h])))
   exact ⟨rfl,id⟩
 . simp only [List.range,List.range.loop,List.flatMap_cons,List.flatMap_nil,List.append_nil];exact List.Perm.refl _
 . clear S0 hend
   and_intros <;> try intro vs gs A' W LF hA S hR hd hu K hK
   . exact aJ (eO 17 o17)
   . have h0:0<=(k:Int):=by omega
     have h1:(k:Int) < 8:=by omega
     exact cM (eO 11 o11) (vD 162 0)
   . have c0:=bM (S.ok (aB g11 205 (aW V)) (hR 9 (List.mem_singleton.2 rfl) _ (List.mem_singleton.2 rfl))) k x HX;exact aJ (vD 163 1)
   . exact aJ (eO 17 o17)
   . have h0:0<=(k:Int):=by omega
     have h1:(k:Int) < 8:=by omega
     exact cM (eO 2 o2) (vD 165 3)
   . have c0:=bM (S.ok (aB g2 205 (aW st)) (hR 10 (List.mem_singleton.2 rfl) _ (List.mem_append_right _ (List.mem_cons_self ..)))) k y HY;exact aJ (vD 166 4)
   . replace hK:=hK default;have e164:=vD 164 2;have e167:=vD 167 5;clear hA o2 o11 o17;go_step;exact hK _ _ S (congrArg (Value.int .u32) (by first|omega|rfl))
   . have h0:0<=(k:Int):=by omega
     have h1:(k:Int) < 8:=by omega
     exact cM (eO 11 o11) (vD 162 0)
   . replace hK:=hK default;have e169:=vD 169 7;have e168:=vD 168 6;clear hA o2 o11 o17;have S1:Held w0 W (aB g11 205 (aW V) :: LF):=S;have q1:=bM (S1.at_ (l1:=[])) k _ HX;have q2:=(S1.at_ (l1:=[])).frozen k;have q3:=(S1.at_ (l1:=[])).lt;go_step;have S2:=S1.set (l1:=[]) k (.int .u32 (((x+y) % 4294967296:Nat):Int))
     rw [iP] at S2;exact hK undef _ S2 trivial
   . trivial
 . intro vs gs W S hp;have S:Held w0 W (aB g11 205 (aW (V.set k ((x+y) % 4294967296))) :: R1 ++ aB g2 205 (aW st) :: R2):=by simpa only [List.flatMap_cons,List.flatMap_nil,List.append_nil,List.nil_append,List.cons_append,List.append_assoc] using S
   rw [aF];exact hend _ W sQ  S
end
section
open Go.RowKit
def bAx:List Nat:=[6,18,19,20,21,22,23,24,25,26,27]
def bAv:List Nat:=[7,8,9,28,29,30,31,32,33,34,35,36,37,38,39,40,41,42,43,44,45,46,47,48,49,50,51,52,53,54,55,56,57,58,59,60,61,62,63,64,65,66,67,68,69,70,71,72,73,74,75,76]
def bAp:List Nat:=[17,159,160,161,162,163,164,165,166,167,168,169,170]
theorem aIo{Q:Exit->Act->World->Prop}{a:Act}{w0 w:World}(b:Bs)(hbl:b.length=64)(g5 g3:Nat)(R:List Res)(hsz:a.tmps.size=172)
 (o3:Sl a 3 (Pq g3 0)) (o5:Sl a 5 (Pq g5 0)) (o18:Sl a 18 (Nq 0))
 (S:Held w0 w (aB g5 226 (aW (List.replicate 64 0)) :: aB g3 181 (aA b) :: R))
 (hend:∀ a' W,Same a a' bAx->Held w0 W (aB g5 226 (aW (pz (lL b 16))) :: aB g3 181 (aA b) :: R)->Q .normal a' W):
 (Code.block 0 (dR 0 f147)).wp prog Q a w:=by
 refine wp_block ?_
 (conv=>arg 2;whnf)
 refine wp_loop (fun a' w'=>∃ k:Nat,k<=16 ∧ Same a a' bAx ∧ Sl a' 18 (.int .i64 (k:Int)) ∧ Held w0 w' (aB g5 226 (aW (pz (lL b k))) :: aB g3 181 (aA b) :: R)) (fun a' _=>16 - (intOf (a'.eval (.tmp 18))).toNat) ⟨0,by omega,Same.refl _ _,o18,S⟩ ?_;clear o18 S;rintro a1 w1 ⟨k,hk,hs,o18,S⟩;have o3:=hs.keep 3 _ (by decide) o3;have o5:=hs.keep 5 _ (by decide) o5;have hz:=hs.size.trans hsz;refine wp_seq (aNw k hz o18 (fun a2 hs2 o19=>?_));have e18:=o18.eval (by rw [hz];decide);have hz2:=hs2.size.trans hz
 by_cases hlt:k < 16
 . refine wp_seq (cS o19 (wp_skip ?_) (by rw [decide_eq_true (by omega)]));have o18:=hs2.q o18;refine wp_seq (wp_block ?_);refine wp_seq (aMt k hz2 o18 (fun a3 hs3 o6=>?_));have T:=(hs.trans hs2).trans hs3;have hz3:=hs3.size.trans hz2;have o18:=hs3.q o18;have o3:=(hs2.trans hs3).keep 3 _ (by decide) o3;have o5:=(hs2.trans hs3).keep 5 _ (by decide) o5;refine aI8 w0 k g5 g3 (lL b k) b R hlt hbl (eP b k) S hz3 o3 o5 o6 (fun a4 W4 hs4 S4=>?_);rw [<- uM b hlt] at S4;have hz4:=hs4.size.trans hz3;have o18:=hs4.q o18;refine aLj k hlt hz4 o18 (fun a5 hs5 o18=>?_);have hz5:=hs5.size.trans hz4;refine ⟨⟨k+1,by omega,((T.trans hs4).trans hs5).more (by decide +kernel),o18,S4⟩,?_⟩
   show 16 - (intOf (a5.eval (.tmp 18))).toNat < 16 - (intOf (a1.eval (.tmp 18))).toNat
   rw [e18,o18.eval (by rw [hz5];decide)];simp [intOf];omega
 . obtain rfl:k=16:=by omega
   refine wp_seq (dD o19 (wp_exit ?_) (by rw [decide_eq_false (by omega)]));exact hend _ _ ((hs.trans hs2).more (by decide +kernel)) S
theorem aMu{Q:Exit->Act->World->Prop}{a:Act}{w0 w:World}(b:Bs)(g5:Nat)(R:List Res)(hsz:a.tmps.size=172)
 (o5:Sl a 5 (Pq g5 0)) (o7:Sl a 7 (Nq 16))
 (S:Held w0 w (aB g5 226 (aW (pz (lL b 16))) :: R))
 (hend:∀ a' W,Same a a' bAv->Held w0 W (aB g5 226 (aW (lL b 64)) :: R)->Q .normal a' W):
 (Code.block 2 (dR 2 f147)).wp prog Q a w:=by
 refine wp_block ?_
 (conv=>arg 2;whnf)
 refine wp_loop (fun a' w'=>∃ k:Nat,16<=k ∧ k<=64 ∧ Same a a' bAv ∧ Sl a' 7 (.int .i64 (k:Int)) ∧ Held w0 w' (aB g5 226 (aW (pz (lL b k))) :: R)) (fun a' _=>64 - (intOf (a'.eval (.tmp 7))).toNat) ⟨16,by omega,by omega,Same.refl _ _,o7,S⟩ ?_;clear o7 S;rintro a1 w1 ⟨n,hn16,hn,hs,o7,S⟩;have o5:=hs.keep 5 _ (by decide) o5;have hz:=hs.size.trans hsz;refine wp_seq (wp_seq (aJh n hz o7 (fun a2 hs2 o29=>?_)));have e7:=o7.eval (by rw [hz];decide);have hz2:=hs2.size.trans hz
 by_cases hlt:n < 64
 . refine cS o29 (wp_skip ?_) (by rw [decide_eq_true (by omega)]);have o7:=hs2.q o7;have o5:=hs2.q o5;obtain ⟨j,rfl⟩:∃ j,n=j+16:=⟨n - 16,by omega⟩;have HWl:=aAy b (j+16);have HWn:=eP b (j+16);have Hnx:=tY b j;generalize hl:lL b (j+16)=l at *;have hpl:(pz l).length=64:=mY (by omega);have HA:(pz l)[j]?=some (l.getD j 0):=rA (eB (by omega));have HC:(pz l)[j+9]?=some (l.getD (j+9) 0):=rA (eB (by omega));have HX:(pz l)[j+1]?=some (l.getD (j+1) 0):=rA (eB (by omega));have HY:(pz l)[j+14]?=some (l.getD (j+14) 0):=rA (eB (by omega));have HM:(pz l)[j+16]?=some ((pz l).getD (j+16) 0):=eB (by omega);have HXl:=sA HWl (j+1);have HYl:=sA HWl (j+14);have HE:∀ x,(pz l).set (j+16) x=pz (l ++ [x]):=fun x=>by rw [<- HWn];exact sG (by omega) x
   generalize l.getD j 0=v at *;generalize l.getD (j+9) 0=c at *;generalize l.getD (j+1) 0=x at *;generalize l.getD (j+14) 0=y at *;have hs2i:∀ m:Nat,((pz l).set (j+16) m)[j+16]?=some m:=fun m=>by rw [List.getElem?_set_self (by omega)]
   refine wp_seq (wp_block ?_);refine wp_seq (aF1 j g5 x y (pz l) (by omega) (LH HX) (LH HY) (LH (fun V kk i x h=>bM ((S.at_ (l1:=[])).kp kk (by simp)) i x h)) hz2 o5 o7 (fun a3 W3 hs3 k3 o8 o9=>?_));have S3:=S.kp ((Kp.refl [] _).drew.trans k3 (by simp));have T:=(hs.trans hs2).trans hs3;obtain ⟨hz3,-,o7,o5⟩:=dU hs3 hz2 rfl o7 o5;refine wp_seq (aEv w0 j g5 (pz l) R (by omega) v c _ HA HC HM hz3 o5 o7 S3 (fun a4 W4 hs4 S4=>?_));obtain ⟨hz4,-,o7,o5,o8,o9⟩:=fH hs4 hz3 rfl o7 o5 o8 o9;refine wp_seq (aGf w0 j g5 _ R (by omega) _ x (hs2i _) HXl hz4 o5 o7 o8 S4 (fun a5 W5 hs5 S5=>?_));rw [List.set_set] at S5;obtain ⟨hz5,-,o7,o5,o9⟩:=dF hs5 hz4 rfl o7 o5 o9;refine aI1 w0 j g5 _ R (by omega) _ y (hs2i _) HYl hz5 o5 o7 o9 S5 (fun a6 W6 hs6 S6=>?_);rw [List.set_set,HE] at S6;have hz6:=hs6.size.trans hz5;have o7:=hs6.q o7;refine aKc (j+16) hlt hz6 o7 (fun a7 hs7 o7=>?_);have hz7:=hs7.size.trans hz6;refine ⟨⟨j+16+1,by omega,by omega,(((((T.trans hs4).trans hs5).trans hs6).trans hs7)).more (by decide +kernel),o7,?_⟩,?_⟩
   . rw [Hnx];have e:(((v+c) % 4294967296+sg0 x) % 4294967296+sg1 y) % 4294967296=(v+sg0 x+c+sg1 y) % 4294967296:=by omega
     rw [e] at S6;exact S6
   . show 64 - (intOf (a7.eval (.tmp 7))).toNat < 64 - (intOf (a1.eval (.tmp 7))).toNat
     rw [e7,o7.eval (by rw [hz7];decide)];simp [intOf];omega
 . obtain rfl:n=64:=by omega
   refine dD o29 (wp_exit ?_) (by rw [decide_eq_false (by omega)]);rw [aCy (eP b 64)] at S;exact hend _ _ ((hs.trans hs2).more (by decide +kernel)) S
def yJ (v st:List Nat) (k:Nat):List Nat:=(List.zipWith (fun x y=>(x+y) % 4294967296) v st).take k ++ v.drop k
theorem aKf{v st:List Nat}(hv:v.length=8)(hst:st.length=8){k:Nat}(hk:k < 8):(yJ v st k)[k]?=some (v.getD k 0):=by
 unfold yJ;have h1:((List.zipWith (fun x y=>(x+y) % 4294967296) v st).take k).length=k:=by rw [List.length_take,List.length_zipWith];omega
 rw [List.getElem?_append_right (by omega),h1,Nat.sub_self,List.getElem?_drop,Nat.add_zero];exact eB (by omega)
theorem aDg{v st:List Nat}(hv:v.length=8)(hst:st.length=8){k:Nat}(hk:k < 8):(yJ v st k).set k ((v.getD k 0+st.getD k 0) % 4294967296)=yJ v st (k+1):=by
 unfold yJ;have h1:((List.zipWith (fun x y=>(x+y) % 4294967296) v st).take k).length=k:=by rw [List.length_take,List.length_zipWith];omega
 rw [List.set_append_right _ _ (by omega),h1,Nat.sub_self,List.drop_eq_getElem_cons (by omega:k < v.length),List.set_cons_zero];rw [List.take_add_one,List.getElem?_zipWith,eB (show k < v.length by omega),eB (show k < st.length by omega)]
 simp
theorem aJz{Q:Exit->Act->World->Prop}{a:Act}{w0 w:World}(v st:List Nat)(hv:v.length=8)(hst:st.length=8)(g11 g2:Nat)(R1 R2:List Res)(hsz:a.tmps.size=172)
 (o2:Sl a 2 (Pq g2 0)) (o11:Sl a 11 (Pq g11 0)) (o159:Sl a 159 (Nq 0))
 (S:Held w0 w (aB g11 205 (aW v) :: (R1 ++ aB g2 205 (aW st) :: R2)))
 (hend:∀ a' W,Same a a' bAp->Held w0 W (aB g11 205 (aW (List.zipWith (fun x y=>(x+y) % 4294967296) v st)) :: (R1 ++ aB g2 205 (aW st) :: R2))->Q .normal a' W):
 (Code.block 6 (dR 6 f147)).wp prog Q a w:=by
 refine wp_block ?_
 (conv=>arg 2;whnf)
 refine wp_loop (fun a' w'=>∃ k:Nat,k<=8 ∧ Same a a' bAp ∧ Sl a' 159 (.int .i64 (k:Int)) ∧ Held w0 w' (aB g11 205 (aW (yJ v st k)) :: (R1 ++ aB g2 205 (aW st) :: R2))) (fun a' _=>8 - (intOf (a'.eval (.tmp 159))).toNat) ⟨0,by omega,Same.refl _ _,o159,S⟩ ?_;clear o159 S;rintro a1 w1 ⟨k,hk,hs,o159,S⟩;have o2:=hs.keep 2 _ (by decide) o2;have o11:=hs.keep 11 _ (by decide) o11;have hz:=hs.size.trans hsz;refine wp_seq (aHf k hz o159 (fun a2 hs2 o160=>?_));have e159:=o159.eval (by rw [hz];decide);have hz2:=hs2.size.trans hz
 by_cases hlt:k < 8
 . refine wp_seq (cS o160 (wp_skip ?_) (by rw [decide_eq_true (by omega)]));have o159:=hs2.q o159;refine wp_seq (wp_block ?_);refine wp_seq (aFk k hz2 o159 (fun a3 hs3 o17=>?_));have T:=(hs.trans hs2).trans hs3;have hz3:=hs3.size.trans hz2;have o159:=hs3.q o159;have o2:=(hs2.trans hs3).keep 2 _ (by decide) o2;have o11:=(hs2.trans hs3).keep 11 _ (by decide) o11;refine aGm w0 k g11 g2 _ st R1 R2 hlt _ _ (aKf hv hst hlt) (eB (by omega)) hz3 o2 o11 o17 S (fun a4 W4 hs4 S4=>?_);rw [aDg hv hst hlt] at S4;have hz4:=hs4.size.trans hz3;have o159:=hs4.q o159;refine aH0 k hlt hz4 o159 (fun a5 hs5 o159=>?_);have hz5:=hs5.size.trans hz4;refine ⟨⟨k+1,by omega,((T.trans hs4).trans hs5).more (by decide +kernel),o159,S4⟩,?_⟩
   show 8 - (intOf (a5.eval (.tmp 159))).toNat < 8 - (intOf (a1.eval (.tmp 159))).toNat
   rw [e159,o159.eval (by rw [hz5];decide)];simp [intOf];omega
 . obtain rfl:k=8:=by omega
   refine wp_seq (dD o160 (wp_exit ?_) (by rw [decide_eq_false (by omega)]))
   have e:yJ v st 8=List.zipWith (fun x y=>(x+y) % 4294967296) v st:=by
    unfold yJ;rw [List.drop_of_length_le (by omega),List.append_nil,List.take_of_length_le (by rw [List.length_zipWith];omega)]
   rw [e] at S;exact hend _ _ ((hs.trans hs2).more (by decide +kernel)) S
theorem aAq(st:List Nat)(hst:Ws st)(hsl:st.length=8)(b:Bs)(hbl:b.length=64)(w:World):Calls prog 147 #[.agg (aW st),.agg (aA b)] w fun e w'=>e=.returned (.agg (aW (iM st b))) ∧ Kp [] w w':=by
 refine aR func147 rfl 172 rfl (fun a hsz hdf hA=>?_);refine wp_seq (aKe w st b [] (Held.start w) hsz (hA 0 _ rfl) (hA 1 _ rfl) (fun a1 w1 hs1 h=>?_));obtain ⟨g2,g3,g4,o2,o3,o4,S⟩:=h;have hz1:=hs1.size.trans hsz;refine wp_seq (aMd w _ S hz1 (fun a2 w2 hs2 h=>?_));obtain ⟨g5,o5,S⟩:=h;obtain ⟨hz2,-,o2,o3,o4⟩:=dF hs2 hz1 rfl o2 o3 o4;refine wp_seq (wp_seq (aIh hz2 (fun a3 hs3 o18=>?_)));obtain ⟨hz3,-,o2,o3,o4,o5⟩:=fH hs3 hz2 rfl o2 o3 o4 o5;have D3:=(hs3.defers.trans (hs2.defers.trans hs1.defers)).trans hdf;refine aIo b hbl g5 g3 _ hz3 o3 o5 o18 (S.perm (List.Perm.cons _ (List.Perm.swap _ _ _))) (fun a4 w4 hs4 S=>?_);obtain ⟨hz4,-,o2,o3,o4,o5⟩:=fH hs4 hz3 rfl o2 o3 o4 o5;refine wp_seq (wp_seq (aKo hz4 (fun a5 hs5 o7=>?_)));obtain ⟨hz5,-,o2,o4,o5⟩:=dF hs5 hz4 rfl o2 o4 o5;refine aMu b g5 _ hz5 o5 o7 S (fun a6 w6 hs6 S=>?_);obtain ⟨hz6,-,o2,o4,o5⟩:=dF hs6 hz5 rfl o2 o4 o5;refine wp_seq (aGq w _ S hz6 (fun a7 w7 hs7 h=>?_));obtain ⟨g10,o10,S⟩:=h;obtain ⟨hz7,-,o2,o4,o5⟩:=dF hs7 hz6 rfl o2 o4 o5;refine wp_seq (aHo w g2 st hsl [_,_,_,_] _ S hz7 o2 (fun a8 w8 hs8 h=>?_));obtain ⟨g11,o11,S⟩:=h;obtain ⟨hz8,-,o2,o4,o5,o10⟩:=fH hs8 hz7 rfl o2 o4 o5 o10;refine wp_seq (wp_seq (aFl hz8 (fun a9 hs9 o79=>?_)));obtain ⟨hz9,-,o2,o4,o5,o10,o11⟩:=jJ hs9 hz8 rfl o2 o4 o5 o10 o11;refine aL9 st (lL b 64) hst hsl (eP b 64) g5 g10 g11 _ hz9 o5 o10 o11 o79 S (fun a10 w10 hs10 S=>?_);obtain ⟨hz10,-,o2,o4,o11⟩:=dF hs10 hz9 rfl o2 o4 o11;refine wp_seq (wp_seq (aG9 hz10 (fun a11 hs11 o159=>?_)));obtain ⟨hz11,-,o2,o4,o11⟩:=dF hs11 hz10 rfl o2 o4 o11;refine aJz _ st ((fZ st _ 64).trans hsl) hsl g11 g2 [_,_,_,_] _ hz11 o2 o11 o159 S (fun a12 w12 hs12 S=>?_);obtain ⟨hz12,-,o4,o11⟩:=dU hs12 hz11 rfl o4 o11;have hbl8:=(dY st b).trans hsl;refine wp_seq (aGa w g11 g4 _ (List.replicate 8 0) hbl8 rfl [_,_,_] _ S hz12 o4 o11 (fun a13 w13 hs13 S=>?_));have hz13:=hs13.size.trans hz12;have o4:=hs13.q o4;refine wp_ret (bodyPost_ret (aV (by rfl) (o4.eval (by rw [hz13];decide)) (S.at_ (l1:=[_,_,_,_])) underlying205 rfl (by rw [bI,hbl8];exact bC1)) ?_ ⟨rfl,S.k⟩);rw [hs13.defers,hs12.defers,hs11.defers,hs10.defers,hs9.defers,hs8.defers,hs7.defers,hs6.defers,hs5.defers,hs4.defers];exact D3
def aHh (A:Option Addr) (n c lo m:Nat) (A':Option Addr) (c':Nat):Prop:=
 ∀ (W:World) (bs:Bs),Rd W 1 (.slice A n c) n (bv bs)->Rd W 1 (.slice A' m c') m (bv ((bs.drop lo).take m))
theorem aG1{A:Option Addr}{n c lo m:Nat}(h:lo+m<=n):∃ A' c',sliced A lo (lo+m) c 1=.slice A' m c' ∧ aHh A n c lo m A' c' ∧ ∀ g,(Value.slice A' m c').ownBlock=some g->(Value.slice A n c).ownBlock=some g:=by
 by_cases e:c=lo
 . refine ⟨A,c - lo,by simp [sliced,e],fun W bs h1=>?_,fun g hg=>by cases A <;> simp_all [Value.ownBlock]⟩;have:=h1.cut0 (a:=lo) (k:=m) h e
   rwa [aC6] at this
 . refine ⟨A.map (fun x=>x.add lo),c - lo,by simp [sliced,e],fun W bs h1=>?_,fun g hg=>?_⟩
   . have:=h1.cut (a:=lo) (k:=m) h e
     rwa [aC6] at this
   . cases A with
     |none=>simp [Value.ownBlock] at hg
     |some ad=>
      simp only [Option.map_some,Value.ownBlock] at hg ⊢;rw [<- hg];simp [oP]
theorem rF(w:World):(sizeOf 5).run prog w=.ok 1 w:=by
 obtain ⟨i0,hi,hz0,hz1,hz2⟩:=info_parts bC2;simp [sizeOf,typeInfo,hi,hz1]
theorem aHg(w:World)(x:Value)(lo hi mx:Option Value):(Instr.sliceAt 32 x lo hi mx).run prog w=(Instr.slice 32 x lo hi mx).run prog w:=by
 simp [Instr.sliceAt,run_underlying underlying32]
theorem xQ:prog.elem 32=5:=by kernel_rfl
theorem aHw:prog.underlying 32=some (.slice (prog.elem 32)):=by rw [xQ];exact underlying32
theorem aXa(A:Option Addr)(n c k:Nat)(h:Int)(hh:h=k)(hk:k<=n)(hc:n<=c):∃ A' c',(∀ w,(Instr.sliceAt 32 (.slice A n c) none (some (.int .i64 h)) none).run prog w=.ok (.slice A' k c') w) ∧ aHh A n c 0 k A' c' ∧ ∀ g,(Value.slice A' k c').ownBlock=some g->(Value.slice A n c).ownBlock=some g:=by
 subst hh;obtain ⟨A',c',e,h1,h2⟩:=aG1 (A:=A) (n:=n) (c:=c) (lo:=0) (m:=k) (by omega);refine ⟨A',c',fun w=>?_,h1,h2⟩;rw [aHg,run_slice_h w 32 A n c aHw .i64 k (by omega) (by omega),xQ,rF];simp only [Result.andThen_ok,Int.toNat_natCast];rw [Nat.zero_add] at e;rw [e]
theorem aFj(A:Option Addr)(n c lo m:Nat)(l:Int)(hl:l=lo)(hm:lo+m=n):∃ A' c',(∀ w,(Instr.sliceAt 32 (.slice A n c) (some (.int .i64 l)) none none).run prog w=.ok (.slice A' m c') w) ∧ aHh A n c lo m A' c' ∧ ∀ g,(Value.slice A' m c').ownBlock=some g->(Value.slice A n c).ownBlock=some g:=by
 subst hl;obtain ⟨A',c',e,h1,h2⟩:=aG1 (A:=A) (n:=n) (c:=c) (lo:=lo) (m:=m) (by omega);refine ⟨A',c',fun w=>?_,h1,h2⟩;rw [aHg,run_slice_l w 32 A n c aHw .i64 lo (by omega) (by omega),xQ,rF];simp only [Result.andThen_ok,Int.toNat_natCast];rw [<- hm,e]
end
section
open Go.RowKit
def rM (st:List Nat) (blk:Bs) (n:Nat):List Value:=gL st ++ (bv blk ++ [.int .i64 (n:Int),.bool true])
def cV (st:List Nat) (blk:Bs) (n:Nat):Array Value:=(rM st blk n).toArray
section
variable {st:List Nat} {blk:List UInt8} {n:Nat}
theorem zW(hs:st.length=8)(hb:blk.length=64):(rM st blk n).length=74:=by
 unfold rM;simp only [List.length_append,bN,aX,List.length_cons,List.length_nil];omega
theorem pQ(hs:st.length=8)(hb:blk.length=64):(cV st blk n).size=74:=by
 simp only [cV,List.size_toArray];exact zW hs hb
theorem aBq(hs:st.length=8):(rM st blk n).drop 8=bv blk ++ [.int .i64 (n:Int),.bool true]:=by
 unfold rM;rw [List.drop_left' (by rw [bN,hs])]
theorem kI(hs:st.length=8)(hb:blk.length=64):(cV st blk n)[72]?=some (.int .i64 (n:Int)):=by
 simp only [cV,List.getElem?_toArray,rM];rw [List.getElem?_append_right (by rw [bN];omega),bN,List.getElem?_append_right (by rw [aX];omega),aX,hs,hb]
 rfl
theorem vB(hs:st.length=8)(hb:blk.length=64):(cV st blk n)[73]?=some (.bool true):=by
 simp only [cV,List.getElem?_toArray,rM];rw [List.getElem?_append_right (by rw [bN];omega),bN,List.getElem?_append_right (by rw [aX];omega),aX,hs,hb]
 rfl
theorem zK(hs:st.length=8)(hb:blk.length=64)(m:Nat):(cV st blk n).setIfInBounds 72 (.int .i64 (m:Int))=cV st blk m:=by
 unfold cV rM;rw [List.setIfInBounds_toArray,List.set_append_right _ _ (by rw [bN];omega),bN,List.set_append_right _ _ (by rw [aX];omega),aX,hs,hb]
 rfl
theorem zR(hs:st.length=8)(hb:blk.length=64)(k:Nat)(x:Bs)(h:k+x.length<=64):(splice (cV st blk n).toList (8+k) (bv x)).toArray=cV st (pH blk k x) n:=by
 unfold splice cV rM pH;rw [List.toList_toArray]
 congr 1
 rw [List.take_append,List.take_of_length_le (l:=gL st) (by rw [bN];omega),bN,hs,show 8+k - 8=k from by omega,List.take_append_of_le_length (by rw [aX];omega),
  List.drop_append,List.drop_of_length_le (l:=gL st) (by rw [bN];omega),bN,hs,aX,show 8+k+x.length - 8=k+x.length from by omega,List.drop_append_of_le_length (by rw [aX];omega)]
 simp only [List.append_assoc,List.nil_append,bv,List.map_append,List.map_take,List.map_drop]
theorem aBj(hs:st.length=8)(st':List Nat)(hs':st'.length=8):((cV st blk n).toList.take 0 ++ (aW st').toList ++ (cV st blk n).toList.drop (0+(aW st').size)).toArray=cV st' blk n:=by
 rw [bI,hs'];unfold cV;rw [List.toList_toArray,List.take_zero,List.nil_append,Nat.zero_add,aBq hs]
 rfl
theorem qL{w:World}{g:Nat}{t:TypeId}(h:aM w g t (cV st blk n))(hs:st.length=8):∀ j u,(aW st).toList[j]?=some u->w.cell? ((⟨g,0,none⟩:Addr).add j)=some u:=by
 intro j u hu
 have hj:j < 8:=by
  have:=(List.getElem?_eq_some_iff.1 hu).1
  simpa [aW,gL,hs] using this
 refine h.agg j u ?_;simp only [cV,List.toList_toArray,rM];rw [List.getElem?_append_left (by rw [bN];omega)];exact hu
theorem zN{w:World}{g:Nat}{t:TypeId}(h:aM w g t (cV st blk n))(hs:st.length=8)(hb:blk.length=64):∀ j u,(aA blk).toList[j]?=some u->w.cell? ((⟨g,8,none⟩:Addr).add j)=some u:=by
 intro j u hu
 have hj:j < 64:=by
  have:=(List.getElem?_eq_some_iff.1 hu).1
  rw [fV,aX] at this;omega
 have h1:=h.agg (8+j) u (by
  simp only [cV,List.toList_toArray,rM];rw [List.getElem?_append_right (by rw [bN];omega),bN,hs,show 8+j - 8=j from by omega,List.getElem?_append_left (by rw [aX];omega)];exact hu)
 rw [<- h1,<- dZ]
 congr 2
theorem aFt(st:List Nat)(blk:Bs)(n:Nat):∀ u,u ∈ (cV st blk n).toList->u.oneCell'=true:=by
 intro u hu;simp only [cV,List.toList_toArray,rM,List.mem_append,List.mem_cons,List.not_mem_nil,or_false] at hu;rcases hu with hu|hu|rfl|rfl
 . exact uG st u hu
 . exact eI blk u hu
 . rfl
 . rfl
end
theorem bCu:(prog.info? 214).map (·.size)=some 74:=by kernel_rfl
theorem bCj:(prog.info? 181).map (·.size)=some 64:=by kernel_rfl
theorem bDk(g b:Nat)(w:World)(k:Nat)(z:Int)(hz:z=k)(hk:k < 64):(Instr.sliceAt 181 (.pointer (some ⟨g,b,none⟩)) (some (.int .i64 z)) none none).run prog w=.ok (.slice (some ⟨g,b+k,none⟩) (64 - k) (64 - k)) w:=by
 subst hz;obtain ⟨i0,hi,hz0,hz1,hz2⟩:=info_parts bC2;rw [run_sliceAt_array_l w 181 ⟨g,b,none⟩ (by kernel_rfl) .i64 (k:Int) (by omega) (by rw [bCe];omega),bCe,show prog.elem 181=5 from by kernel_rfl];have e:(⟨g,b,none⟩:Addr).add (k * 1)=⟨g,b+k,none⟩:=by unfold Addr.add;split <;> simp <;> omega
 simp only [sizeOf,typeInfo,hi,hz1,Sem.run_bind,Sem.run_pure,Result.andThen,run_program,slicedAt,Int.toNat_natCast,e];rw [if_neg (by omega)]
theorem lJ{P:Program}{w:World}{ops:Array Oper}{rest:List Oper}{o:Oper}{a:Act}{Q:Exit->Act->World->Prop}(hgd:o.guard=none)(d s:Operand)(dT sT:TypeId)
 (ho:o.op=.call { callee:=.builtin .copy,args:=#[d,s],argTypes:=#[dT,sT] }) (elem:TypeId) (hu:P.underlying dT=some (.slice elem)) (hsz:(P.info? elem).map (·.size)=some 1)
 (g off dLen dCap:Nat) (hd:a.eval d=.slice (some ⟨g,off,none⟩) dLen dCap) (y:Value) (hs:a.eval s=y) (n:Nat) (xs:List Value) (hr:Rd w 1 y n xs)
 (t:TypeId) (cur:Array Value) (hb:aM w g t cur) (hfit:off+dLen<=cur.size) (h1:∀ v ∈ xs,v.oneCell'=true) (m:Nat) (hm:min n dLen=m)
 (h:∀ w',aM w' g t (splice cur.toList off (xs.take dLen)).toArray->Kp [g] w w'->wpList P ops Q rest (a.put o.dst (goInt (m:Int))) w'):wpList P ops Q (o :: rest) a w:=by
 subst hm;obtain ⟨hl,A,c,rfl,h2,h3,hA,hc⟩:=hr
 by_cases h0:min n dLen=0
 . refine wpList_copy_nothing hgd d s dT sT ho elem hu hsz (some ⟨g,off,none⟩) A dLen dCap n c hd hs h0 ?_
   have e:xs.take dLen=[]:=by
    apply List.eq_nil_of_length_eq_zero
    rw [List.length_take];omega
   have:=h w (by rw [e];simpa [splice] using hb) kR
   rwa [h0] at this
 . rcases A with _|ad
   . have:=hA rfl;omega
   . have hcl:(xs.take dLen).length=min n dLen:=by rw [List.length_take];omega
     refine wpList_copy_own hgd d s dT sT ho elem hu hsz g off dLen dCap ad n c hd hs cur t hb (xs.take dLen) (by rw [hcl]) ?_ (by rw [hcl];omega) (fun v hv=>h1 v (List.mem_of_mem_take hv)) ?_
     . intro j v hv;refine hc ad rfl j v ?_;rw [List.getElem?_take] at hv
       split at hv
       . exact hv
       . cases hv
     . rw [hcl];refine h _ ?_ (fU hb).2;have:=(fU (cs:=(cur.toList.take off ++ (xs.take dLen ++ cur.toList.drop (off+min n dLen))).toArray) hb).1
       unfold splice;rw [hcl];exact this
end
section
open Go.RowKit
def wE (n:Nat):List UInt8:=Lib.decDigits n
theorem pU{n:Nat}(h:n < 10):wE n=[UInt8.ofNat (48+n)]:=by unfold wE;rw [Lib.decDigits,dif_pos h]
theorem aC7{n:Nat}(h:¬ n < 10):wE n=wE (n / 10) ++ [UInt8.ofNat (48+n % 10)]:=by
 unfold wE
 conv=>lhs;rw [Lib.decDigits,dif_neg h]
theorem nK:∀ (k n:Nat),n < 10 ^ (k+1)->(wE n).length<=k+1
 |0,n,h=>by rw [pU (by simpa using h)];simp
 |k+1,n,h=>by
  by_cases h2:n < 10
  . rw [pU h2];simp
  . rw [aC7 h2,List.length_append];have:=nK k (n / 10) (by rw [Nat.pow_succ] at h;omega)
    simp;omega
theorem sR{n:Nat}(h:n < 9223372036854775808):(wE n).length<=19:=nK 18 n (by omega)
def aBo:List UInt8:=[110,111,116,97,114,121]
def fK (n:Nat) (h:Bs):List UInt8:=aBo ++ 10 :: (wE n ++ 10 :: (fA h ++ [10]))
theorem yX(n:Nat)(h:Bs):(fK n h).length=9+(wE n).length+(fA h).length:=by
 simp [fK,aBo];omega
end
section
open Go.RowKit Go.Shelf
structure LD (w:World):Prop where
 tab : Lib.TabIs prog w "internal/strconv.uint64pow10" .u64 Lib.pow10Tab
theorem bDh : (prog.globalNamed "internal/strconv.uint64pow10").isSome = true := by kernel_rfl
theorem LD.kp{w w':World}(h:LD w)(k:Kp [] w w'):LD w':=by
 have hb:Below w.heap.size w w':=k.below (Nat.le_refl _) (by simp);obtain ⟨g1,h1⟩:=Option.isSome_iff_exists.1 bDh;exact ⟨Joins.tab_stays h1 h.tab hb (Nat.le_refl _)⟩
theorem Kp.grew{w:World}(n:Nat)(os:Array Obj):Kp [] w (Sort.grow (w.drewN n) os):=
 ⟨rfl,rfl,rfl,by simp [Sort.grow],fun k hk _=>by
  show ((w.drewN n).heap ++ os)[k]?=_
  rw [Array.getElem?_append_left (by simpa using hk)];rfl⟩
theorem aMh(n:Nat)(hn:n < 9223372036854775808)(w:World)(h:LD w):Calls prog 102 #[.int .i64 n,.int .i64 10] w fun e w'=>e=.returned (.string ⟨(wE n).toArray⟩) ∧ Kp [] w w':=by
 refine (Tryz.strconv_FormatInt_10 n (by omega) (by omega) w h.tab).mono ?_;rintro e w' ⟨rfl,k,os,rfl⟩;refine ⟨?_,Kp.grew k os⟩;unfold wE Lib.itoa;rw [if_neg (by omega),Int.toNat_natCast]
theorem jK(a b:Bs):(ByteArray.mk a.toArray) ++ (ByteArray.mk b.toArray)=⟨(a ++ b).toArray⟩:=by
 apply ByteArray.ext
 rw [ByteArray.data_append]
 simp
theorem yT(n:Nat)(hn:n < 9223372036854775808)(w:World):Calls prog 126 #[.int .i64 n] w fun e w'=>e=.returned (.string ⟨(wE n).toArray⟩) ∧ Kp [] w w':=by
 go_enter func126,ntmps126;go_wp2
 go_loopw [0,3] (fun a s wr=>∃ (m:Nat) (t:Bs),a=.int .i64 m ∧ s=.string ⟨t.toArray⟩ ∧ m<=n ∧ wE m ++ t=wE n ∧ Kp [] w wr) (fun a _ _=>(intOf a).toNat)
 case atStart=>exact ⟨n,[],rfl,rfl,Nat.le_refl _,by simp,Kp.refl _ _⟩
 case round=>
  obtain ⟨m,t,rfl,rfl,hm,ht,kw⟩:=hrel;have HT:=LH ht;have KW:=LH kw;clear ht kw
  by_cases h9:9 < m
  . have h9':(9:Int) < m:=by omega
    obtain ⟨c,hc⟩:∃ c:UInt8,c.toNat=48+m % 10:=⟨UInt8.ofNat (48+m % 10),by rw [UInt8.toNat_ofNat'];omega⟩;have kv:=aNc (jM wr 5 #[.int .u8 (48+(m:Int) % 10)] [c] (by simp [bv,hc]) (by simp));simp only [List.length_cons,List.length_nil] at kv;have Hc:=LH hc;clear hc
    have htl:t.length<=19:=by
     have h1:=congrArg List.length HT.out;have h2:=sR hn;rw [List.length_append] at h1;omega
    have K2:=LH (KW.out.alloc (.cells #[.int .u8 (48+(m:Int) % 10)] 5));go_wp2
    go_roundw
    case rel=>
     refine ⟨m / 10,c :: t,by go_num,?_,by omega,?_,K2.out⟩
     . have:=jK [c] t
       rw [show ({ data:=#[c] }:ByteArray) ++ { data:=t.toArray }=⟨(c :: t).toArray⟩ from this]
     . have h9'':¬ m < 10:=by omega
       have hcc:c=UInt8.ofNat (48+m % 10):=UInt8.toNat_inj.1 (by rw [Hc.out,UInt8.toNat_ofNat'];omega);have h1:=HT.out;rw [aC7 h9'',<- hcc,List.append_assoc] at h1;exact h1
    case measure=>simp [intOf];omega
  . have h9':¬ (9:Int) < m:=by omega
    obtain ⟨c,hc⟩:∃ c:UInt8,c.toNat=48+m:=⟨UInt8.ofNat (48+m),by rw [UInt8.toNat_ofNat'];omega⟩;have kv:=aNc (jM wr 5 #[.int .u8 (48+(m:Int))] [c] (by simp [bv,hc]) (by simp));simp only [List.length_cons,List.length_nil] at kv;have Hc:=LH hc;clear hc
    have htl:t.length<=19:=by
     have h1:=congrArg List.length HT.out;have h2:=sR hn;rw [List.length_append] at h1;omega
    have K2:=LH (KW.out.alloc (.cells #[.int .u8 (48+(m:Int))] 5))
    have HE:Hid (({ data:=#[c] }:ByteArray) ++ { data:=t.toArray }=⟨(wE n).toArray⟩):=LH (by
     have h9'':m < 10:=by omega
     have hcc:c=UInt8.ofNat (48+m):=UInt8.toNat_inj.1 (by rw [Hc.out,UInt8.toNat_ofNat'];omega);have h1:=HT.out;rw [pU h9'',<- hcc] at h1;rw [<- h1];exact jK [c] t)
    go_wp2
    go_ret
    exact ⟨by rw [<- HE.out];rfl,K2.out⟩
end
section
theorem Held.pull{w0 w:World}{L:List Res}(S:Held w0 w L)(i:Nat){r:Res}(h:L[i]?=some r):Held w0 w (r :: L.eraseIdx i):=by
 refine S.perm ?_;clear S
 induction L generalizing i with
 |nil=>simp at h
 |cons x L ih=>
  rcases i with _|i
  . simp at h;subst h;exact List.Perm.refl _
  . exact ((ih i (by simpa using h)).cons x).trans (List.Perm.swap _ _ _)
theorem Held.back{w0 w1 w:World}{L:List Res}(k:Kp [] w0 w1)(h:Held w1 w L):Held w0 w L:=
 ⟨k.trans h.k (by simp),h.ok,fun r hr b hb=>Nat.le_trans k.size (h.base r hr b hb),h.apart⟩
theorem Held.some_of{w0 w:World}{L L':List Res}(S:Held w0 w L)(h:L'.Sublist L):Held w0 w L':=
 ⟨S.k,fun r hr=>S.ok r (h.subset hr),fun r hr=>S.base r (h.subset hr),List.Pairwise.sublist h S.apart⟩
end
section
open Go.RowKit Go.Shelf
theorem vY{P:Program}{f:FuncId}{fn:Func}{c:Code}{args:Array Value}{w:World}{R:Ending->World->Prop}(hf:P.funcs[f]?=some fn)(hb:fn.body=some c)(N:Nat)(hN:args.size+(fn.ntmps - args.size)=N)
 (h:∀ a:Act,a.tmps.size=N->a.defers=[]->(∀ i v,args[i]?=some v->Sl a i v)->c.wp P (bodyPostM Fence.wide 3 P fn R) a w):Calls P f args w R:=
 zS hf hb (h _ (by simp only [Array.size_append,Array.size_replicate];exact hN) rfl (fun i v hi=>oZ (by
  rw [Array.getElem?_append_left (Array.getElem?_eq_some_iff.1 hi).1];exact hi)))
theorem sD{a:Act}{d e:Nat}{v u:Value}{D:List Deferred}(h:Sl a d v)(hne:e ≠ d):Sl { tmps:=a.tmps.setIfInBounds e u,defers:=D } d v:=xX (u:=u) h hne
theorem xH{a:Act}{e:Nat}{u:Value}{D:List Deferred}:Sl { tmps:=a.tmps.setIfInBounds e u,defers:=D } e u:=by
 intro h
 simp
theorem aA4{a:Act}{p q:Nat}{u v:Value}{D:List Deferred}(hpq:p ≠ q):∀ a':Act,a'={ tmps:=(a.tmps.setIfInBounds p u).setIfInBounds q v,defers:=D }->a'.tmps.size=a.tmps.size ∧ a'.defers=D ∧ (∀ d x,([p,q].contains d)=false->Sl a d x->Sl a' d x) ∧ Sl a' p u ∧ Sl a' q v:=by
 rintro a' rfl;refine ⟨by simp,rfl,fun d x hd hs=>?_,?_,?_⟩
 . simp only [List.contains_cons,List.contains_nil,Bool.or_false,Bool.or_eq_false_iff,beq_eq_false_iff_ne,ne_eq] at hd;exact sD (a:=⟨a.tmps.setIfInBounds p u,D⟩) (sD hs (fun e=>hd.1 e.symm)) (fun e=>hd.2 e.symm)
 . exact sD (a:=⟨a.tmps.setIfInBounds p u,D⟩) (xH (a:=a) (D:=D)) (fun e=>hpq e.symm)
 . exact xH (a:=⟨a.tmps.setIfInBounds p u,D⟩)
theorem yC{a:Act}{p:Nat}{u:Value}{D:List Deferred}:∀ a':Act,a'={ tmps:=a.tmps.setIfInBounds p u,defers:=D }->a'.tmps.size=a.tmps.size ∧ a'.defers=D ∧ (∀ d x,([p].contains d)=false->Sl a d x->Sl a' d x) ∧ Sl a' p u:=by
 rintro a' rfl;refine ⟨by simp,rfl,fun d x hd hs=>?_,xH⟩;simp only [List.contains_cons,List.contains_nil,Bool.or_false,beq_eq_false_iff_ne,ne_eq] at hd;exact sD hs (fun e=>hd e.symm)
theorem nT{P:Program}{fn:Func}{w:World}{tmps:Array Value}(h:fn.results=#[]):(results fn tmps).run P w=.ok (.tuple #[]) w:=by
 simp [results,h]
theorem bA{P:Program}{fn:Func}{w:World}{tmps:Array Value}{u:Nat}{x:Value}(h:fn.results=#[.tmp u])(hx:tmps.getD u undef=x):(results fn tmps).run P w=.ok x w:=by
 simp only [Array.getD_eq_getD_getElem?] at hx;simp [results,h,hx]
theorem gH{P:Program}{fn:Func}{w:World}{tmps:Array Value}{u u2:Nat}{x y:Value}(h:fn.results=#[.tmp u,.tmp u2])(hx:tmps.getD u undef=x)(hy:tmps.getD u2 undef=y):(results fn tmps).run P w=.ok (.tuple #[x,y]) w:=by
 simp only [Array.getD_eq_getD_getElem?] at hx hy;simp [results,h,hx,hy]
theorem gD{w:World}{A:Option Addr}{s n c:Nat}{xs:List Value}(h:Rd w s (.slice A n c) n xs)(hn:0 < n):∃ ad,A=some ad:=by
 obtain ⟨-,A',c',e,-,-,hA,-⟩:=h
 cases e
 cases A with
 |none=>have:=(hA rfl).1;omega
 |some ad=>exact ⟨ad,rfl⟩
theorem aS6{Q:Exit->Act->World->Prop}{a:Act}{w:World}(n:Nat)(D H:Bs)(g:Nat)(ch:Array Value)(hc:∀ V,Kp [] w.drew V->V.cell? ⟨g,0,none⟩=some (Nq n))(hl:∀ V,Kp [] w.drew V->(Instr.loadAt 23 (Pq g 1)).run prog V=.ok (.agg ch) V)(HC1:∀ V,Kp [] w.drew V->Calls prog 102 #[Nq n,.int .i64 10] V fun e w'=>e=.returned (.string ⟨D.toArray⟩) ∧ Kp [] V w')(HC2:∀ V,Kp [] w.drew V->Calls prog 103 #[.agg ch] V fun e w'=>e=.returned (.string ⟨H.toArray⟩) ∧ Kp [] V w')(hD:D.length<=19)(hH:H.length<=64)(hsz:a.tmps.size=17)(o1:Sl a 1 (Pq g 0)):bC true 3 f70 Q a w fun a' W q'=>Kp [] w.drew W->Sl a' 2 (.string (({ data:=#[110,111,116,97,114,121,10] }:ByteArray) ++ ⟨D.toArray⟩ ++ ({ data:=#[10] }:ByteArray) ++ ⟨H.toArray⟩ ++ ({ data:=#[10] }:ByteArray)))->Sl a' 3 (.int .i64 (0:Int))->q':=by
 intro hend;have hap:=pa 3 f70;refine bZ (l:=(aK 3 f70)) (fun i v W=>match i with|0=>v=Pq g 0|1=>v=Nq n|2=>v=.string ⟨D.toArray⟩|3=>v=.string (({ data:=#[110,111,116,97,114,121,10] }:ByteArray) ++ ⟨D.toArray⟩)|4=>v=.string (({ data:=#[110,111,116,97,114,121,10] }:ByteArray) ++ ⟨D.toArray⟩ ++ ({ data:=#[10] }:ByteArray))|5=>v=Pq g 1|6=>v=.agg ch|7=>v=.string ⟨H.toArray⟩|8=>v=.string (({ data:=#[110,111,116,97,114,121,10] }:ByteArray) ++ ⟨D.toArray⟩ ++ ({ data:=#[10] }:ByteArray) ++ ⟨H.toArray⟩)|9=>v=.string (({ data:=#[110,111,116,97,114,121,10] }:ByteArray) ++ ⟨D.toArray⟩ ++ ({ data:=#[10] }:ByteArray) ++ ⟨H.toArray⟩ ++ ({ data:=#[10] }:ByteArray))|10=>v=.string (({ data:=#[110,111,116,97,114,121,10] }:ByteArray) ++ ⟨D.toArray⟩ ++ ({ data:=#[10] }:ByteArray) ++ ⟨H.toArray⟩ ++ ({ data:=#[10] }:ByteArray))|11=>v=.int .i64 (0:Int)|_=>True) (by kernel_rfl) hap (by kernel_rfl) ?_ ?_ ?_
 . exact fun _ _ _ _ h _=>h
 . refine ⟨?_,?_,?_,?_,?_,?_,?_,?_,?_,?_,?_,?_,trivial⟩
   . intro vs A' W hA hW hd K hK;have e1:=eO 1 o1;clear hA hd o1;go_step;exact hK _ _ kR rfl
   . intro vs A' W hA hW hd K hK;have e7:=vD 7 0;clear hA hd o1;have c0:=hc W hW;go_step;exact hK _ _ kR rfl
   . intro vs A' W hA hW hd K hK;have e8:=vD 8 1;clear hA hd o1;go_step;refine (HC1 W hW).mono ?_;rintro e w' ⟨rfl,k1⟩;exact hK _ w' k1 rfl
   . intro vs A' W hA hW hd K hK;have e9:=vD 9 2;clear hA hd o1;have hs1:¬ 9223372036854775807 < 7+D.length:=by omega
     go_step;exact hK _ _ kR rfl
   . intro vs A' W hA hW hd K hK;have e10:=vD 10 3;clear hA hd o1;have hs1:¬ 9223372036854775807 < 7+D.length+1:=by omega
     go_step;exact hK _ _ kR rfl
   . intro vs A' W hA hW hd K hK;have e1:=eO 1 o1;clear hA hd o1;go_step;exact hK _ _ kR rfl
   . intro vs A' W hA hW hd K hK;have e12:=vD 12 5;clear hA hd o1;refine bQ (v:=.agg ch) (w':=W) (dK rfl (by simpa [Act.eval] using e12) (hl W hW)) ?_;exact hK _ _ kR rfl
   . intro vs A' W hA hW hd K hK;have e13:=vD 13 6;clear hA hd o1;go_step;refine (HC2 W hW).mono ?_;rintro e w' ⟨rfl,k1⟩;exact hK _ w' k1 rfl
   . intro vs A' W hA hW hd K hK;have e11:=vD 11 4;have e14:=vD 14 7;clear hA hd o1;have hs1:¬ 9223372036854775807 < 7+D.length+1+H.length:=by omega
     go_step;exact hK _ _ kR rfl
   . intro vs A' W hA hW hd K hK;have e15:=vD 15 8;clear hA hd o1;have hs1:¬ 9223372036854775807 < 7+D.length+1+H.length+1:=by omega
     go_step;exact hK _ _ kR rfl
   . intro vs A' W hA hW hd K hK;have e16:=vD 16 9;clear hA hd o1;go_step;exact hK _ _ kR rfl
   . intro vs A' W hA hW hd K hK;clear hA hd o1;go_step;exact hK _ _ kR rfl
 . intro vs W hW hp;rw [aF];exact hend _ W sQ hW (sW (hp 10 sB)) (sW (hp 11 sB))
theorem aVr{Q:Exit->Act->World->Prop}{a:Act}{w:World}(n:Nat)(D H:Bs)(g:Nat)(ch:Array Value)(hc:∀ V,Kp [] w.drew V->V.cell? ⟨g,0,none⟩=some (Nq n))(hl:∀ V,Kp [] w.drew V->(Instr.loadAt 23 (Pq g 1)).run prog V=.ok (.agg ch) V)(HC1:∀ V,Kp [] w.drew V->Calls prog 126 #[Nq n] V fun e w'=>e=.returned (.string ⟨D.toArray⟩) ∧ Kp [] V w')(HC2:∀ V,Kp [] w.drew V->Calls prog 127 #[.agg ch] V fun e w'=>e=.returned (.string ⟨H.toArray⟩) ∧ Kp [] V w')(hD:D.length<=19)(hH:H.length<=64)(hsz:a.tmps.size=13)(o1:Sl a 1 (Pq g 0)):bC true 1 f115 Q a w fun a' W q'=>Kp [] w.drew W->Sl a' 2 (.string (({ data:=#[110,111,116,97,114,121,10] }:ByteArray) ++ ⟨D.toArray⟩ ++ ({ data:=#[10] }:ByteArray) ++ ⟨H.toArray⟩ ++ ({ data:=#[10] }:ByteArray)))->q':=by
 intro hend;have hap:=pa 1 f115;refine bZ (l:=(aK 1 f115)) (fun i v W=>match i with|0=>v=Pq g 0|1=>v=Nq n|2=>v=.string ⟨D.toArray⟩|3=>v=.string (({ data:=#[110,111,116,97,114,121,10] }:ByteArray) ++ ⟨D.toArray⟩)|4=>v=.string (({ data:=#[110,111,116,97,114,121,10] }:ByteArray) ++ ⟨D.toArray⟩ ++ ({ data:=#[10] }:ByteArray))|5=>v=Pq g 1|6=>v=.agg ch|7=>v=.string ⟨H.toArray⟩|8=>v=.string (({ data:=#[110,111,116,97,114,121,10] }:ByteArray) ++ ⟨D.toArray⟩ ++ ({ data:=#[10] }:ByteArray) ++ ⟨H.toArray⟩)|9=>v=.string (({ data:=#[110,111,116,97,114,121,10] }:ByteArray) ++ ⟨D.toArray⟩ ++ ({ data:=#[10] }:ByteArray) ++ ⟨H.toArray⟩ ++ ({ data:=#[10] }:ByteArray))|10=>v=.string (({ data:=#[110,111,116,97,114,121,10] }:ByteArray) ++ ⟨D.toArray⟩ ++ ({ data:=#[10] }:ByteArray) ++ ⟨H.toArray⟩ ++ ({ data:=#[10] }:ByteArray))|_=>True) (by kernel_rfl) hap (by kernel_rfl) ?_ ?_ ?_
 . exact fun _ _ _ _ h _=>h
 . refine ⟨?_,?_,?_,?_,?_,?_,?_,?_,?_,?_,?_,trivial⟩
   . intro vs A' W hA hW hd K hK;have e1:=eO 1 o1;clear hA hd o1;go_step;exact hK _ _ kR rfl
   . intro vs A' W hA hW hd K hK;have e3:=vD 3 0;clear hA hd o1;have c0:=hc W hW;go_step;exact hK _ _ kR rfl
   . intro vs A' W hA hW hd K hK;have e4:=vD 4 1;clear hA hd o1;go_step;refine (HC1 W hW).mono ?_;rintro e w' ⟨rfl,k1⟩;exact hK _ w' k1 rfl
   . intro vs A' W hA hW hd K hK;have e5:=vD 5 2;clear hA hd o1;have hs1:¬ 9223372036854775807 < 7+D.length:=by omega
     go_step;exact hK _ _ kR rfl
   . intro vs A' W hA hW hd K hK;have e6:=vD 6 3;clear hA hd o1;have hs1:¬ 9223372036854775807 < 7+D.length+1:=by omega
     go_step;exact hK _ _ kR rfl
   . intro vs A' W hA hW hd K hK;have e1:=eO 1 o1;clear hA hd o1;go_step;exact hK _ _ kR rfl
   . intro vs A' W hA hW hd K hK;have e8:=vD 8 5;clear hA hd o1;refine bQ (v:=.agg ch) (w':=W) (dK rfl (by simpa [Act.eval] using e8) (hl W hW)) ?_;exact hK _ _ kR rfl
   . intro vs A' W hA hW hd K hK;have e9:=vD 9 6;clear hA hd o1;go_step;refine (HC2 W hW).mono ?_;rintro e w' ⟨rfl,k1⟩;exact hK _ w' k1 rfl
   . intro vs A' W hA hW hd K hK;have e7:=vD 7 4;have e10:=vD 10 7;clear hA hd o1;have hs1:¬ 9223372036854775807 < 7+D.length+1+H.length:=by omega
     go_step;exact hK _ _ kR rfl
   . intro vs A' W hA hW hd K hK;have e11:=vD 11 8;clear hA hd o1;have hs1:¬ 9223372036854775807 < 7+D.length+1+H.length+1:=by omega
     go_step;exact hK _ _ kR rfl
   . intro vs A' W hA hW hd K hK;have e12:=vD 12 9;clear hA hd o1;go_step;exact hK _ _ kR rfl
 . intro vs W hW hp;rw [aF];exact hend _ W sQ hW (sW (hp 10 sB))
end
section
open Go.RowKit
def cL (s:Int) (h:Bs):Array Value:=(Value.int .i64 s :: bv h).toArray
theorem bV{s:Int}{h:List UInt8}(hh:h.length=32):(cL s h).size=33:=by simp [cL,aX,hh]
theorem aCv{w:World}{g:Nat}{t:TypeId}{s:Int}{h:List UInt8}(b:aM w g t (cL s h)):w.cell? ⟨g,0,none⟩=some (.int .i64 s):=b.cell 0
theorem aLv{w:World}{g:Nat}{t:TypeId}{s:Int}{h:List UInt8}(b:aM w g t (cL s h)):∀ j u,(bv h)[j]?=some u->w.cell? ((⟨g,1,none⟩:Addr).add j)=some u:=by
 intro j u hu;have h1:=b.cell (1+j)
 have h2:(cL s h)[1+j]?=some u:=by
  unfold cL;rw [List.getElem?_toArray,Nat.add_comm,List.getElem?_cons_succ];exact hu
 rw [h2] at h1
 by_cases hj:j=0
 . subst hj;exact h1
 . simpa [Addr.add,hj] using h1
theorem rG{w:World}{g:Nat}{t:TypeId}{s:Int}{h:List UInt8}(b:aM w g t (cL s h))(hh:h.length=32):(Instr.loadAt 23 (Pq g 1)).run prog w=.ok (.agg (aA h)) w:=
 bY w ⟨g,1,none⟩ 23 (bv h) _ (aLv b) underlying23 rfl (by rw [aX,hh];exact bBy)
def txt (s:Int) (h:Bs):List UInt8:=if s < 0 then [] else fK s.toNat h
def txE (s:Int):Int:=if s < 0 then 2 else 0
def tW (s:Int) (h:Bs) (w:World) (e:Ending) (w':World):Prop:=e=.returned (.tuple #[.string ⟨(txt s h).toArray⟩,.int .i64 (txE s)]) ∧ Kp [] w w'
theorem yL(n:Nat)(h:Bs):((({ data:=#[110,111,116,97,114,121,10] }:ByteArray) ++ ⟨(wE n).toArray⟩ ++ { data:=#[10] }) ++ ⟨(fA h).toArray⟩ ++ { data:=#[10] })=⟨(fK n h).toArray⟩:=by
 rw [show ({ data:=#[110,111,116,97,114,121,10] }:ByteArray)=⟨([110,111,116,97,114,121,10]:Bs).toArray⟩ from rfl,show ({ data:=#[10] }:ByteArray)=⟨([10]:Bs).toArray⟩ from rfl];rw [jK,jK,jK,jK]
 congr 2
 simp [fK,aBo]
theorem vS(s:Int)(hs:-9223372036854775808<=s ∧ s<=9223372036854775807)(h:Bs)(hh:h.length=32)(w:World)(L:LD w):Calls prog 70 #[.agg (cL s h)] w (tW s h w):=by
 have B0:=LH (aM.new w 25 (cL s h));have K0:=LH ((Kp.refl [] w).alloc (.cells (cL s h) 25));have HL:=LH L;have HH:=LH hh;clear L hh
 by_cases h0:s < 0
 . have HT:Hid (txt s h=[] ∧ txE s=2):=LH ⟨if_pos h0,if_pos h0⟩;have c0:=aCv B0.out;obtain ⟨cs,HC⟩:∃ cs,Hid (cL s h=cs):=⟨_,LH rfl⟩;rw [HC.out] at B0 K0 c0 ⊢;go_enter func70,ntmps70;go_wp2
   go_ret2
   exact ⟨by rw [HT.out.1,HT.out.2];rfl,K0.out⟩
 . obtain ⟨n,rfl⟩:∃ n:Nat,s=n:=⟨s.toNat,by omega⟩;have HT:Hid (txt n h=fK n h ∧ txE n=0):=LH ⟨by unfold txt;rw [if_neg h0,Int.toNat_natCast],if_neg h0⟩;have hl1:(wE n).length<=19:=sR (by omega);have hl2:(fA h).length<=64:=by rw [iD,HH.out];omega
   have c0:=aCv B0.out;have T0:=LH ((K0.out).drew);have BF:=LH (fun V (kk:Kp [] (w.alloc (.cells (cL n h) 25)) V)=>B0.out.kp kk (by simp));have HF:=LH (fun V (LV:LD V)=>aMh n (by omega) V LV);have HX:=LH (fun V=>aKp h HH.out V);have HLD:=LH (fun V (kk:Kp [] (w.alloc (.cells (cL n h) 25)) V)=>HL.out.kp (K0.out.trans kk (by simp)));obtain ⟨cs,HC⟩:∃ cs,Hid (cL n h=cs):=⟨_,LH rfl⟩;rw [HC.out] at B0 K0 c0 BF T0 HLD ⊢;go_enter func70,ntmps70;go_wp2;generalize hW1:w.alloc (.cells cs 25)=w1 at *;generalize hg1:w.heap.size=g1 at *;have T1:=LH ((Kp.refl [] w1).drew);refine aS6 n (wE n) (fA h) g1 (aA h) (fun V k=>aCv (HC.out ▸ BF.out V (T1.out.trans k (by simp)))) (fun V k=>rG (HC.out ▸ BF.out V (T1.out.trans k (by simp))) HH.out) (fun V k=>HF.out V (HLD.out V (T1.out.trans k (by simp)))) (fun V _=>HX.out V) hl1 hl2 rfl (by unfold Sl;simp) (fun a' W hs k2 o2 o3=>?_)
   rename_i hKK
   refine hKK _ _ (wp_ret ?_);exact bodyPost_ret (gH (by rfl) (o2.eval (by rw [hs.size];simp)) (o3.eval (by rw [hs.size];simp))) hs.defers ⟨by rw [HT.out.1,HT.out.2,<- yL],K0.out.trans (T1.out.trans k2 (by simp)) (by simp)⟩
theorem aDt(n:Nat)(hn:n < 9223372036854775808)(h:Bs)(hh:h.length=32)(w:World):Calls prog 115 #[.agg (cL n h)] w fun e w'=>e=.returned (.string ⟨(fK n h).toArray⟩) ∧ Kp [] w w':=by
 have B0:=LH (aM.new w 25 (cL n h));have K0:=LH ((Kp.refl [] w).alloc (.cells (cL n h) 25));have HH:=LH hh;clear hh;have hl1:(wE n).length<=19:=sR (by omega);have hl2:(fA h).length<=64:=by rw [iD,HH.out];omega
 have T0:=LH ((K0.out).drew);have BF:=LH (fun V (kk:Kp [] (w.alloc (.cells (cL n h) 25)) V)=>B0.out.kp kk (by simp));have HF:=LH (fun V=>yT n (by omega) V);have HX:=LH (fun V=>aH1 h HH.out V);obtain ⟨cs,HC⟩:∃ cs,Hid (cL n h=cs):=⟨_,LH rfl⟩;rw [HC.out] at B0 K0 BF T0 ⊢;go_enter func115,ntmps115;go_wp2;generalize hW1:w.alloc (.cells cs 25)=w1 at *;generalize hg1:w.heap.size=g1 at *;have T1:=LH ((Kp.refl [] w1).drew);refine aVr n (wE n) (fA h) g1 (aA h) (fun V k=>aCv (HC.out ▸ BF.out V (T1.out.trans k (by simp)))) (fun V k=>rG (HC.out ▸ BF.out V (T1.out.trans k (by simp))) HH.out) (fun V _=>HF.out V) (fun V _=>HX.out V) hl1 hl2 rfl (by unfold Sl;simp) (fun a' W hs k2 o2=>?_);simp only [Exit.then]
 rename_i hKK
 refine hKK _ _ (wp_ret ?_);exact bodyPost_ret (bA (by rfl) (o2.eval (by rw [hs.size];simp))) hs.defers ⟨by rw [<- yL],K0.out.trans (T1.out.trans k2 (by simp)) (by simp)⟩
def aH6:Array Value:=cL 0 (List.replicate 32 0)
theorem eW{P:Program}{o:Oper}{a:Act}{w:World}{K:Act->World->Prop}{Q:Exit->Act->World->Prop}(x y:Operand)(ty:TypeId)(ho:o.op=.store ty x y)(g off:Nat)(hx:a.eval x=.pointer (some ⟨g,off,none⟩))(xs:Array Value)(hy:a.eval y=.agg xs)
 (t:TypeId) (cur:Array Value) (hb:aM w g t cur) (hi:(P.info? ty).map (·.size)=some xs.size) (hfit:off+xs.size<=cur.size) (h1:∀ u,u ∈ xs.toList->u.oneCell'=true)
 (hK:∀ w',aM w' g t (cur.toList.take off ++ xs.toList ++ cur.toList.drop (off+xs.size)).toArray->Kp [g] w w'->K (a.put o.dst undef) w'):o.wp P a w K Q:=by
 unfold Oper.wp;rw [uK ho hx hy (lI w g off t ty xs cur hb hi hfit h1)];exact hK _ (fU hb).1 (fU hb).2
theorem aX3(z:Int)(h0 h:Bs)(hh:h.length=32)(h0l:h0.length=32):((cL z h0).toList.take 1 ++ (aA h).toList ++ (cL z h0).toList.drop (1+(aA h).size)).toArray=cL z h:=by
 rw [aC,hh];unfold cL;rw [List.toList_toArray];simp [fV,aX,h0l]
end
section
variable {Q:Exit->Act->World->Prop} {a:Act} {w:World}
open Go.RowKit
theorem aRs(A:Option Addr)(n c:Nat)(hsz:a.tmps.size=48)(o1:Sl a 1 (.slice A n c)):bK 0 f134 Q a w fun a' q'=>Sl a' 8 (.bool (decide (0 < n)))->q':=rO
theorem aYx(w0:World)(g n:Nat)(st:List Nat)(blk:Bs)(hs:st.length=8)(hb:blk.length=64)(L:List Res)(S:Held w0 w (aB g 214 (cV st blk n) :: L))(hsz:a.tmps.size=48)(o0:Sl a 0 (Pq g 0)):bK 1 f134 Q a w fun a' q'=>Sl a' 4 (Nq (n % 64))->q':=by
 have c1:w.cell? ⟨g,72,none⟩=some (.int .i64 (n:Int)):=by rw [(S.at_ (l1:=[])).cell];exact kI hs hb
 have ht:Int.tmod (n:Int) 64=((n % 64:Nat):Int):=rfl;clear S hs hb;exact rO
theorem aX1(w0:World)(g n:Nat)(st:List Nat)(blk:Bs)(hs:st.length=8)(hb:blk.length=64)(L:List Res)(S:Held w0 w (aB g 214 (cV st blk n) :: L))(k:Nat)(hk:k < 64)(y:Value)(l:Bs)(hy:Rd w 1 y l.length (bv l))(A:Option Addr)(c:Nat)(hyf:y=.slice A l.length c)(hsz:a.tmps.size=48)(o0:Sl a 0 (Pq g 0))(o1:Sl a 1 (.slice A l.length c))(o4:Sl a 4 (.int .i64 (k:Int))):bC false 2 f134 Q a w fun a' W q'=>Sl a' 5 (.int .i64 ((min l.length (64 - k):Nat):Int))->(Kp [g] w W)->(Held w0 W (aB g 214 (cV st (pH blk k (l.take (64 - k))) n) :: L))->q':=by
 refine bU fun hend=>?_;unfold Sl at o0 o1 o4;subst hyf;have hsl:=bDk g 8 w k (k:Int) rfl hk;have HB:=LH hb;have HS:=LH hs;have S:=LH S;have Hy:=LH hy;clear hb hs hy;obtain ⟨ll,hll⟩:∃ ll,l.length=ll:=⟨_,rfl⟩;have HLL:=LH hll;rw [hll] at o1 Hy;clear hll;obtain ⟨mm,hmm⟩:∃ mm,min ll (64 - k)=mm:=⟨_,rfl⟩;have HM:=LH hmm;clear hmm;go_wp2_with (refine lJ rfl (.tmp 18) (.tmp 19) 32 32 rfl 5 underlying32 (by kernel_rfl) g (8+k) (64 - k) (64 - k) aE _ aE ll (bv l) Hy.out 214 _ (S.out.at_ (l1:=[])) (by rw [pQ HS.out HB.out];omega) (eI l) mm HM.out ?_;intro w2 b2 k2;have S2:=LH (Held.setBlk (l1:=[]) S.out b2 k2);have K2:=LH k2;clear b2 k2)
 rw [show (bv l).take (64 - k)=bv (l.take (64 - k)) from by simp [bv,List.map_take],zR HS.out HB.out k _ (by rw [List.length_take];omega)] at S2;have e5:min l.length (64 - k)=mm:=by rw [HLL.out];exact HM.out
 rw [e5] at hend
 try simp only [Act.put]
 exact hend _ _ tS sP (K2.out) (S2.out)
theorem aSn(A A1:Option Addr)(n m c c1 k:Nat)(hr:∀ w,(Instr.sliceAt 32 (.slice A n c) (some (.int .i64 (k:Int))) none none).run prog w=.ok (.slice A1 m c1) w)(hsz:a.tmps.size=48)(o1:Sl a 1 (.slice A n c))(o5:Sl a 5 (.int .i64 (k:Int))):bK 3 f134 Q a w fun a' q'=>Sl a' 1 (.slice A1 m c1)->q':=rO
theorem aQ2(w0:World)(g n:Nat)(st:List Nat)(blk:Bs)(hs:st.length=8)(hb:blk.length=64)(L:List Res)(S:Held w0 w (aB g 214 (cV st blk n) :: L))(k:Nat)(hn:n+k < 9223372036854775808)(hsz:a.tmps.size=48)(o0:Sl a 0 (Pq g 0))(o5:Sl a 5 (.int .i64 (k:Int))):bC false 4 f134 Q a w fun a' W q'=>(Kp [g] w W)->(Held w0 W (aB g 214 (cV st blk (n+k)) :: L))->q':=by
 refine bU fun hend=>?_;unfold Sl at o0 o5;have c1:w.cell? ⟨g,72,none⟩=some (.int .i64 (n:Int)):=by rw [(S.at_ (l1:=[])).cell];exact kI hs hb
 have c2:=(S.at_ (l1:=[])).frozen 72;have S2:Hid (Held w0 (w.setCell ⟨g,72,none⟩ (Nq (n+k))) _):=LH (S.set (l1:=[]) 72 (Nq (n+k)));rw [zK hs hb] at S2;have hw:=LH (show wrap64 ((n:Int)+(k:Int))=((n+k:Nat):Int) from by unfold wrap64;omega);have K2:=LH ((Kp.refl [g] w).setCell (p:=⟨g,72,none⟩) (.inl (by simp)) (Nq (n+k)));clear S hs hb hn;go_wp2;rw [hw.out]
 try simp only [Act.put]
 exact hend _ _ tS (K2.out) (S2.out)
theorem aX8(k j:Nat)(hk:k+j<=64)(hsz:a.tmps.size=48)(o4:Sl a 4 (.int .i64 (k:Int)))(o5:Sl a 5 (.int .i64 (j:Int))):bK 5 f134 Q a w fun a' q'=>Sl a' 35 (.bool ((k:Int)+(j:Int) == 64))->q':=by
 have hw:wrap64 ((k:Int)+(j:Int))=((k+j:Nat):Int):=by unfold wrap64;omega
 exact rO
theorem aQb(w0:World)(g n:Nat)(st:List Nat)(blk:Bs)(hs:st.length=8)(hst:Ws st)(hb:blk.length=64)(L:List Res)(hsz:a.tmps.size=48)(o0:Sl a 0 (Pq g 0))
 (S0:Held w0 w (aB g 214 (cV st blk n) :: L)):bC true 6 f134 Q a w fun a' W q'=>Held w0 W (aB g 214 (cV (iM st blk) blk n) :: L)->q':=by
 intro hend;have hap:=pa 6 f134
 refine aP (Γ:=Unit) (l:=(aK 6 f134)) 2 [0,1,2,3,4,5,6,7,8,9,10,11,12,14]
  (fun i vs gs=>match i with|0=>vs 0=Pq g 0|1=>vs 1=Pq g 0|2=>vs 2=Pq g 0|3=>vs 3=Pq g 0|4=>vs 4=.agg (aW st)|5=>vs 5=Pq g 0|6=>vs 6=Pq g 0|7=>vs 7=Pq g 8|8=>vs 8=.agg (aA blk)|9=>vs 9=.agg (aW (iM st blk))|10=>vs 10=Pq g 0|11=>vs 11=Pq g 0|_=>True)
  (fun i vs gs=>match i with|12=>[aB g 214 (cV (iM st blk) blk n)]|13=>[aB g 214 (cV st blk n)]|14=>L|_=>[])
  (fun i=>match i with|12=>[13]|_=>[]) (fun i=>match i with|4=>[13]|8=>[13]|_=>[]) S0 (by kernel_rfl) hap (by kernel_rfl) (by kernel_rfl) (fun i=>match i with|0=>[0]|1=>[1]|2=>[2]|3=>[3]|4=>[4]|5=>[5]|6=>[6]|7=>[7]|8=>[8]|9=>[9]|10=>[10]|11=>[11]|_=>[]) (by kernel_rfl) ?_ (by kernel_rfl) ?_ ?_ ?_
 . intro s vs vs' gs gs' h
   iterate 15 (rcases s with _|s;· (first|exact ⟨rfl,id⟩|(simp only [List.mem_cons,List.not_mem_nil,or_false,forall_eq] at h;simp [h])))
   exact ⟨rfl,id⟩
 . simp only [List.range,List.range.loop,List.flatMap_cons,List.flatMap_nil,List.append_nil];exact List.Perm.refl _
 . clear S0 hend
   and_intros <;> try intro vs gs A' W LF hA S hR hd hu K hK
   . exact aJ (eO 0 o0)
   . exact aJ (eO 0 o0)
   . exact aJ (vD 37 1)
   . exact aJ (vD 38 2)
   . exact dC (aW st) (vD 39 3) (qL (show aM W g 214 (cV st blk n) from S.ok (aB g 214 (cV st blk n)) (hR 13 (List.mem_singleton.2 rfl) _ (List.mem_singleton.2 rfl))) hs) underlying205 (by rw [bI,hs];exact bC1)
   . exact aJ (eO 0 o0)
   . exact aJ (vD 41 5)
   . exact aJ (vD 42 6)
   . exact dC (aA blk) (vD 43 7) (zN (show aM W g 214 (cV st blk n) from S.ok (aB g 214 (cV st blk n)) (hR 13 (List.mem_singleton.2 rfl) _ (List.mem_singleton.2 rfl))) hs hb) underlying181 (by rw [aC,hb];exact bCj)
   . replace hK:=hK default;have e40:=vD 40 4;have e44:=vD 44 8;clear hA o0;generalize hca:aW st=ca at *;generalize hcb:aA blk=cb at *;go_step;rw [<- hca,<- hcb];refine (aAq st hst hs blk hb _).mono ?_;rintro e w' ⟨rfl,kq⟩;exact hK _ _ (S.kp kq) rfl
   . exact aJ (vD 36 0)
   . exact aJ (vD 46 10)
   . replace hK:=hK default;have e47:=vD 47 11;have e45:=vD 45 9;clear hA o0;have S1:Held w0 W (aB g 214 (cV st blk n) :: LF):=S;refine eW (.tmp 47) (.tmp 45) 205 rfl g 0 (by simpa [Act.eval] using e47) (aW (iM st blk)) (by simpa [Act.eval] using e45) 214 _ (S1.at_ (l1:=[])) (by rw [bI,dY,hs];exact bC1) (by rw [bI,dY,hs,pQ hs hb];omega) (fO _) (fun w' hbk k=>hK undef _ ?_ trivial);rw [aBj hs _ ((dY _ _).trans hs)] at hbk;exact Held.setBlk (l1:=[]) S1 hbk k
   . trivial
 . intro vs gs W S hp;have S:Held w0 W (aB g 214 (cV (iM st blk) blk n) :: L):=by simpa only [List.flatMap_cons,List.flatMap_nil,List.append_nil,List.nil_append,List.cons_append,List.append_assoc] using S
   rw [aF];exact hend _ W sQ  S
end
section
open Go.RowKit
def bBp:List Nat:=[1,4,5,6,7,8,9,10,11,12,13,14,15,16,17,18,19,20,21,22,23,24,25,26,27,28,29,30,31,32,33,34,35,36,37,38,39,40,41,42,43,44,45,46,47]
def rK:Value->Nat
 |.slice _ n _=>n
 |_=>0
theorem Und.len8{m:List UInt8}{st:List Nat}{blk:List UInt8}(h:Und m st blk):st.length=8:=by rw [h.st];exact iI _ _
theorem Und.ws{m:List UInt8}{st:List Nat}{blk:List UInt8}(h:Und m st blk):Ws st:=by rw [h.st];exact aCk _ _
theorem jW(w0:World)(g:Nat)(m l:Bs)(st:List Nat)(blk:Bs)(hU:Und m st blk)(hml:m.length+l.length < 4611686018427387904)(x:Value)(L:List Res)(w:World)(HB:∀ V cs,Held w0 V (aB g 214 cs :: L)->Rd V 1 x l.length (bv l))
 (S:Held w0 w (aB g 214 (cV st blk m.length) :: L)):
 Calls prog 134 #[Pq g 0,x] w fun e w'=>e=.returned (.tuple #[]) ∧ ∃ st' blk',Und (m ++ l) st' blk' ∧ Held w0 w' (aB g 214 (cV st' blk' (m ++ l).length) :: L):=by
 obtain ⟨A0,c0,rfl⟩:=eG (HB w _ S);refine aR func134 rfl 48 rfl (fun a hsz hdf hAr=>?_);have hsz:a.tmps.size=48:=hsz;have o0:=hAr 0 _ rfl;have o1:=hAr 1 _ rfl;refine wp_block ?_
 refine wp_loop (fun a' w'=>∃ (pre suf:Bs) (st:List Nat) (blk:Bs) (A:Option Addr) (c:Nat),pre ++ suf=l ∧ Und (m ++ pre) st blk ∧ Same a a' bBp ∧ Sl a' 1 (.slice A suf.length c) ∧ (∀ V cs,Held w0 V (aB g 214 cs :: L)->Rd V 1 (.slice A suf.length c) suf.length (bv suf)) ∧ Held w0 w' (aB g 214 (cV st blk (m ++ pre).length) :: L))
  (fun a' _=>rK (a'.eval (.tmp 1))) ⟨[],l,st,blk,A0,c0,rfl,by rw [List.append_nil];exact hU,Same.refl _ _,o1,HB,by rw [List.append_nil];exact S⟩ ?_
 clear hU S HB o1;rintro a1 w1 ⟨pre,suf,st,blk,A,c,hps,hU,T,o1,HB,S⟩;have hz1:=T.size.trans hsz;have o0:=T.keep 0 _ (by decide) o0;have h8:=hU.len8;have h64:=hU.len;have hlen:(m ++ pre).length+suf.length=m.length+l.length:=by rw [<- hps];simp only [List.length_append];omega
 have eCtr:=o1.eval (by rw [hz1];decide);refine wp_seq (wp_seq (aRs A suf.length c hz1 o1 (fun a2 hs2 o8=>?_)));obtain ⟨hz2,-,o0,o1⟩:=dU hs2 hz1 rfl o0 o1;have T:=T.trans hs2
 by_cases hlt:0 < suf.length
 . refine cS o8 (wp_skip ?_) (by rw [decide_eq_true hlt]);generalize hnn:(m ++ pre).length=n at *;refine wp_block ?_;refine wp_seq (aYx w0 g n st blk h8 h64 L S hz2 o0 (fun a3 hs3 o4=>?_));obtain ⟨hz3,-,o0,o1,o8⟩:=dF hs3 hz2 rfl o0 o1 o8;have T:=T.trans hs3;have hk:n % 64 < 64:=Nat.mod_lt _ (by decide);refine wp_seq (aX1 w0 g n st blk h8 h64 L S (n % 64) hk _ suf (HB w1 _ S) A c rfl hz3 o0 o1 o4 (fun a4 w2 hs4 o5 K2 S=>?_));obtain ⟨hz4,-,o0,o1,o8,o4⟩:=fH hs4 hz3 rfl o0 o1 o8 o4;have T:=T.trans hs4;have hb2:(pH blk (n % 64) (suf.take (64 - n % 64))).length=64:=by rw [kY (by rw [List.length_take];omega)];exact h64
   obtain ⟨q,hq⟩:∃ q,min suf.length (64 - n % 64)=q:=⟨_,rfl⟩;rw [hq] at o5;have hxl:(suf.take (64 - n % 64)).length=q:=by rw [List.length_take,Nat.min_comm];exact hq
   obtain ⟨A1,c1,run1,rd1,-⟩:=aFj A suf.length c q (suf.length - q) (q:Int) rfl (by omega);refine wp_seq (aSn A A1 suf.length (suf.length - q) c c1 q run1 hz4 o1 o5 (fun a5 hs5 o1=>?_));obtain ⟨hz5,-,o0,o8,o4,o5⟩:=fH hs5 hz4 rfl o0 o8 o4 o5;have T:=T.trans hs5;refine wp_seq (aQ2 w0 g n st _ h8 hb2 L S q (by omega) hz5 o0 o5 (fun a6 w3 hs6 K3 S=>?_));obtain ⟨hz6,-,o0,o1,o8,o4,o5⟩:=jJ hs6 hz5 rfl o0 o1 o8 o4 o5;have T:=T.trans hs6;refine wp_seq (aX8 (n % 64) q (by omega) hz6 o4 o5 (fun a7 hs7 o35=>?_));obtain ⟨hz7,-,o0,o1,o8,o4,o5⟩:=jJ hs7 hz6 rfl o0 o1 o8 o4 o5;have T:=T.trans hs7
   have hsuf:suf.take (64 - n % 64) ++ suf.drop q=suf:=by
    by_cases hc:suf.length<=64 - n % 64
    . rw [List.take_of_length_le hc,List.drop_of_length_le (by omega),List.append_nil]
    . rw [show q=64 - n % 64 from by omega,List.take_append_drop]
   have hdl:(suf.drop q).length=suf.length - q:=List.length_drop
   have HB1:∀ V cs,Held w0 V (aB g 214 cs :: L)->Rd V 1 (.slice A1 (suf.drop q).length c1) (suf.drop q).length (bv (suf.drop q)):=fun V cs kv=>by
    have:=rd1 V suf (HB V cs kv)
    rw [List.take_of_length_le (by omega)] at this;rw [hdl];exact this
   have hpl:(m ++ (pre ++ suf.take (64 - n % 64))).length=n+q:=by rw [<- List.append_assoc,List.length_append,hnn,hxl]
   have hmu:∀ (a':Act),a'.tmps.size=48->Sl a' 1 (.slice A1 (suf.length - q) c1)->rK (a'.eval (.tmp 1)) < rK (a1.eval (.tmp 1)):=fun a' hz' h=>by
    rw [eCtr,h.eval (by rw [hz'];decide)]
    show suf.length - q < suf.length
    omega
   rw [<- hdl] at o1;have hU0:=hU
   by_cases hfull:n % 64+q=64
   . refine cS o35 ?_ (by rw [show ((((n % 64:Nat):Int)+(q:Int)) == 64)=true from by rw [beq_iff_eq];omega]);refine aQb w0 g (n+q) st _ h8 hU.ws hb2 L hz7 o0 S (fun a8 w4 hs8 S=>?_);obtain ⟨hz8,-,o0,o1,o8,o4,o5,o35⟩:=jF hs8 hz7 rfl o0 o1 o8 o4 o5 o35;have T:=T.trans hs8;have hU:=hU.full (x:=suf.take (64 - n % 64)) (by rw [hnn,hxl];exact hfull);rw [hnn,List.append_assoc] at hU;exact ⟨⟨pre ++ suf.take (64 - n % 64),suf.drop q,_,_,A1,c1,by rw [List.append_assoc,hsuf,hps],hU,T.more (by decide +kernel),o1,HB1,by rw [hpl];exact S⟩,hmu _ hz8 (by rw [<- hdl];exact o1)⟩
   . refine dD o35 (wp_skip ?_) (by rw [show ((((n % 64:Nat):Int)+(q:Int)) == 64)=false from by rw [beq_eq_false_iff_ne];omega]);have hU:=hU.part (x:=suf.take (64 - n % 64)) (by rw [hnn,hxl];omega);rw [hnn,List.append_assoc] at hU;exact ⟨⟨pre ++ suf.take (64 - n % 64),suf.drop q,_,_,A1,c1,by rw [List.append_assoc,hsuf,hps],hU,T.more (by decide +kernel),o1,HB1,by rw [hpl];exact S⟩,hmu _ hz7 (by rw [<- hdl];exact o1)⟩
 . obtain rfl:suf=[]:=List.eq_nil_of_length_eq_zero (by omega)
   refine dD o8 (wp_exit ?_) (by rw [decide_eq_false hlt]);rw [List.append_nil] at hps;subst hps;exact ⟨T.defers.trans hdf,.tuple #[],results_none rfl _ _ _,rfl,st,blk,hU,S⟩
end
end Go.Proofs.YtmkfopmdingaoaaGreatDoor
