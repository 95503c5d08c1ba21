/- Several texts in one: Mem, Lex, Inv, InvG, Reg, Agg, InvU, InvS, Held, Sep, Num, Arr, Base, App, SepO, Sq, CrcM, CrcA, CrcB, CrcC, ShaM, TreM, ShaN, ShaA, CrcD, CrcE, SpM, PtM, Texts, Equal, WireA, WireB, WireC, WireD, WireR, WireS, Txt. -/
import Derived.WalkKit
import Derived.WalkSpells
import Derived.WalkLawsBesides
import Derived.Maps.AppendAt
import Derived.Deep.AppendLies
import Derived.Deep.Draws
import Derived.Lib.Hide
import Derived.Deep.RegionWith
import Derived.Deep.QuietTactic
import Derived.BigQuiet
import Derived.BigRegion
import Derived.Deep.RegionHeld3
import Derived.Deep.RegionLaw
import Derived.Deep.DeepCutAuto
import Derived.Deep.DeepFit
import Derived.Outline
import Derived.OrdersHeld
import Derived.ChangeKeysEq
import Derived.Test.YtmkfopmdingaoaaGreatDoorRows
import Derived.Laws.BitsAllLaws
set_option linter.unusedVariables false
set_option linter.unusedSimpArgs false
set_option maxRecDepth 100000
set_option maxHeartbeats 8000000
open Go.Proofs.Tryz
namespace Go.Proofs.YtmkfopmdingaoaaGreatDoor
section
open Go.RowKit
structure Kp (S:List Nat) (w w':World):Prop where
 os:w'.os=w.os
 tape:w'.tape=w.tape
 output:w'.output=w.output
 size:w.heap.size<=w'.heap.size
 block:∀ k,k < w.heap.size->k ∉ S->w'.heap[k]?=w.heap[k]?
theorem Kp.refl(S:List Nat)(w:World):Kp S w w:=⟨rfl,rfl,rfl,Nat.le_refl _,fun _ _ _=>rfl⟩
theorem Kp.drew{S:List Nat}{a w:World}(h:Kp S a w):Kp S a w.drew:=⟨h.os,h.tape,h.output,h.size,h.block⟩
theorem Kp.drewN{S:List Nat}{a w:World}(h:Kp S a w)(n:Nat):Kp S a (w.drewN n):=⟨h.os,h.tape,h.output,h.size,h.block⟩
theorem Kp.trans{S T:List Nat}{a b c:World}(h:Kp S a b)(k:Kp T b c)(hT:∀ g,g ∈ T->g ∈ S ∨ a.heap.size<=g):Kp S a c:=
 ⟨k.os.trans h.os,k.tape.trans h.tape,k.output.trans h.output,Nat.le_trans h.size k.size,fun i hi hn=>(k.block i (Nat.lt_of_lt_of_le hi h.size) (fun hm=>by
  rcases hT i hm with h1|h1
  . exact hn h1
  . omega)).trans (h.block i hi hn)⟩
theorem Kp.more{S T:List Nat}{a b:World}(h:Kp S a b)(hT:∀ g,g ∈ S->g ∈ T ∨ a.heap.size<=g):Kp T a b:=(Kp.refl T a).trans h hT
theorem Kp.alloc{S:List Nat}{a w:World}(h:Kp S a w)(o:Obj):Kp S a (w.alloc o):=
 ⟨h.os,h.tape,h.output,Nat.le_trans h.size (by simp),fun i hi hn=>(Below.heap_alloc w o i (Nat.lt_of_lt_of_le hi h.size)).trans (h.block i hi hn)⟩
theorem Kp.setCell{S:List Nat}{a w:World}(h:Kp S a w){p:Addr}(hp:p.block ∈ S ∨ a.heap.size<=p.block)(u:Value):Kp S a (w.setCell p u):=
 ⟨h.os,h.tape,h.output,by simpa [World.setCell] using h.size,fun i hi hn=>(Below.heap_setCell w p u i (by
  rintro rfl
  rcases hp with hp|hp
  . exact hn hp
  . omega)).trans (h.block i hi hn)⟩
theorem Kp.of_grown{w w':World}{row:Option Nat}(h:w.grownBy w' row):Kp row.toList w w':=
 ⟨h.os,h.tape,h.output,h.size,fun k hk hn=>h.block k hk (fun e=>hn (by rw [<- e];simp))⟩
theorem Kp.grown{S:List Nat}{a w w':World}{row:Option Nat}(h:Kp S a w)(hg:w.grownBy w' row)(hr:∀ g,row=some g->g ∈ S ∨ a.heap.size<=g):Kp S a w':=
 h.trans (Kp.of_grown hg) (fun g hm=>hr g (by cases row <;> simp_all))
theorem Kp.below{S:List Nat}{B:Nat}{w w':World}(h:Kp S w w')(hB:B<=w.heap.size)(hS:∀ g,g ∈ S->B<=g):Below B w w':=
 ⟨h.os,h.tape,h.output,h.size,fun k hk=>h.block k (by omega) (fun hm=>by have:=hS k hm;omega)⟩
def aM (w:World) (g:Nat) (t:TypeId) (cs:Array Value):Prop:=w.heap[g]?=some (.cells cs t (0,0))
section
variable {w w':World} {g:Nat} {t:TypeId} {cs:Array Value}
theorem aM.lt(h:aM w g t cs):g < w.heap.size:=(Array.getElem?_eq_some_iff.1 h).1
theorem aM.cell(h:aM w g t cs)(i:Nat):w.cell? ⟨g,i,none⟩=cs[i]?:=cell_of_row w g i cs t (0,0) h
theorem aM.frozen(h:aM w g t cs)(i:Nat):w.frozen? ⟨g,i,none⟩=false:=by
 unfold aM at h
 simp [World.frozen?,h]
theorem aM.new(w:World)(t:TypeId)(cs:Array Value):aM (w.alloc (.cells cs t)) w.heap.size t cs:=heap_alloc_new w _
theorem aM.drew(h:aM w g t cs):aM w.drew g t cs:=h
theorem aM.set_(h:aM w g t cs)(i:Nat)(u:Value):aM (w.setCell ⟨g,i,none⟩ u) g t (cs.setIfInBounds i u):=by
 unfold aM at h ⊢
 simp [World.setCell,Array.getElem?_modify,h]
theorem aM.kp{S:List Nat}(h:aM w g t cs)(hk:Kp S w w')(hg:g ∉ S):aM w' g t cs:=(hk.block g h.lt hg).trans h
end
theorem oP(a:Addr)(n:Nat):(a.add n).block=a.block:=by unfold Addr.add;split <;> rfl
theorem dZ(a:Addr)(i j:Nat):(a.add i).add j=a.add (i+j):=by
 unfold Addr.add
 by_cases hi:i=0 <;> by_cases hj:j=0 <;> simp [hi,hj,Nat.add_assoc]
def Rd (w:World) (s:Nat) (v:Value) (n:Nat) (xs:List Value):Prop:=
 xs.length=n * s ∧ ∃ A c,v=.slice A n c ∧ n<=c ∧ c<=maxLen ∧ (A=none->n=0 ∧ c=0) ∧ ∀ ad,A=some ad->∀ j u,xs[j]?=some u->w.cell? (ad.add j)=some u
section
variable {w w':World} {s n:Nat} {v:Value} {xs:List Value}
theorem aCx{w:World}{a:Addr}{u:Value}(h:w.cell? a=some u):a.block < w.heap.size:=by
 unfold World.cell? at h
 rcases Nat.lt_or_ge a.block w.heap.size with hlt|hge
 . exact hlt
 . rw [Array.getElem?_eq_none hge] at h;simp at h
theorem Rd.keep(h:Rd w s v n xs)(hk:∀ p:Addr,v.ownBlock=some p.block->p.block < w.heap.size->w'.cell? p=w.cell? p):Rd w' s v n xs:=by
 obtain ⟨h1,A,c,rfl,h2,h3,h4,h5⟩:=h
 refine ⟨h1,A,c,rfl,h2,h3,h4,fun ad had j u hu=>?_⟩
 have h6:=h5 ad had j u hu
 subst had
 exact (hk _ (by rw [oP];rfl) (aCx h6)).trans h6
theorem Rd.kp{S:List Nat}(h:Rd w s v n xs)(hk:Kp S w w')(hn:∀ g,v.ownBlock=some g->g ∉ S):Rd w' s v n xs:=
 h.keep fun p hp hlt=>World.cell?_of_block (hk.block p.block hlt (hn _ hp))
theorem Rd.alloc(h:Rd w s v n xs)(o:Obj):Rd (w.alloc o) s v n xs:=h.kp ((Kp.refl [] w).alloc o) (by simp)
theorem Rd.nil(w:World)(s:Nat):Rd w s (.slice none 0 0) 0 []:=⟨by simp,none,0,rfl,by simp,by simp,fun _=>⟨rfl,rfl⟩,fun ad h=>by cases h⟩
theorem Rd.of_own{base:Nat}{e:TypeId}(h:w.ownsRow base e s v n xs):Rd w s v n xs:=by
 refine ⟨h.1,?_⟩
 rcases h.2 with ⟨rfl,rfl⟩|⟨g,cap,cur,rfl,_,_,hnc,hcm,_⟩
 . exact ⟨none,0,rfl,by simp,by simp,(fun _=>⟨rfl,rfl⟩),(fun ad h0=>by cases h0)⟩
 . exact ⟨_,cap,rfl,hnc,hcm,(fun h0=>by cases h0),(fun ad had=>by cases had;exact h.cells (g:=g) rfl)⟩
end
abbrev Ow (w:World) (e:TypeId) (s:Nat) (v:Value) (n:Nat) (xs:List Value):Prop:=w.ownsRow 0 e s v n xs
section
variable {w w':World} {e:TypeId} {s n:Nat} {v:Value} {xs:List Value}
theorem bAr{S:List Nat}(h:Ow w e s v n xs)(hk:Kp S w w')(hn:∀ g,v.ownBlock=some g->g ∉ S):Ow w' e s v n xs:=by
 refine ⟨h.1,?_⟩
 rcases h.2 with hv|⟨g,cap,cur,rfl,hb,hgg,rest⟩
 . exact .inl hv
 . refine .inr ⟨g,cap,cur,rfl,hb,?_,rest⟩
   rw [hk.block g (Array.getElem?_eq_some_iff.1 hgg).1 (hn g rfl)]
   exact hgg
theorem bAk(h:Ow w e s v n xs){g:Nat}(hg:v.ownBlock=some g):g < w.heap.size:=(h.lt g hg).2
theorem aS(h:Ow w e s v n xs):∃ A c,v=.slice A n c ∧ n<=c ∧ c<=maxLen:=by
 rcases h.2 with ⟨rfl,rfl⟩|⟨g',cap,cur,rfl,_,_,hn,hc,_⟩
 . exact ⟨none,0,rfl,Nat.le_refl _,by simp⟩
 . exact ⟨_,cap,rfl,hn,hc⟩
end
def bv (l:List UInt8):List Value:=l.map fun b=>Value.int .u8 (b.toNat:Int)
theorem aZs:bv []=[]:=rfl
theorem aMk(b:UInt8)(l:List UInt8):bv (b :: l)=Value.int .u8 (b.toNat:Int) :: bv l:=rfl
theorem fX(a b:List UInt8):bv (a ++ b)=bv a ++ bv b:=List.map_append
theorem aX(a:List UInt8):(bv a).length=a.length:=List.length_map ..
theorem eI(a:List UInt8):∀ u ∈ bv a,u.oneCell'=true:=by
 intro u hu
 obtain ⟨_,_,rfl⟩:=List.mem_map.1 hu
 rfl
theorem iA(l:List UInt8)(j:Nat):(bv l)[j]?=l[j]?.map fun b=>Value.int .u8 (b.toNat:Int):=List.getElem?_map ..
theorem aSl(w:World)(t:TypeId)(u:Value):Rd (w.alloc (.cells #[u] t)) 1 (.slice (some ⟨w.heap.size,0,none⟩) 1 1) 1 [u]:=
 ⟨rfl,_,1,rfl,Nat.le_refl _,by simp [maxLen],(fun h=>by cases h),(fun ad had j x hx=>by
  cases had
  rcases j with _|j
  . simp at hx;subst hx;exact (aM.new w t #[u]).cell 0
  . simp at hx)⟩
section
variable {P:Program} (w:World)
theorem rN(t ty e:TypeId)(i:TypeInfo)(size:Nat)(ht:P.underlying t=some (.slice e))(hi:P.info? e=some i)
 (v:Value) (n:Nat) (xs:List Value) (hown:Ow w e size v n xs) (c:Nat):(Builtin.append_ #[t,t] ty #[v,.slice none 0 c]).run P w=.ok v w:=by
 rcases hown.2 with ⟨rfl,rfl⟩|⟨g,cap,cur,rfl,_,_,hnc,_⟩
 . simp [Builtin.append_,run_underlying ht,sizeOf,typeInfo,hi,Builtin.lenOf,Builtin.firstCells]
 . simp [Builtin.append_,run_underlying ht,sizeOf,typeInfo,hi,Builtin.lenOf,Builtin.firstCells,hnc,storeCells]
theorem aC1(t ty e:TypeId)(i:TypeInfo)(z:Value)(size bytes:Nat)(ht:P.underlying t=some (.slice e))(hi:P.info? e=some i)(hz:i.zero=some z)
 (hsize:i.size=size) (hby:i.bytes=bytes) (hzs:z.cells.size=size) (hsz:0 < size)
 (v:Value) (n:Nat) (xs:List Value) (hown:Ow w e size v n xs)
 (x:Value) (m:Nat) (news:List Value) (hr:Rd w size x m news) (h1:∀ u ∈ news,u.oneCell'=true)
 (h63:n+m<=maxLen) (hbytes:(n+m) * bytes<=140737488355328):
 ∃ v' w',(Builtin.append_ #[t,t] ty #[v,x]).run P w=.ok v' w' ∧ Ow w' e size v' (n+m) (xs ++ news) ∧ w.grownBy w' v.ownBlock ∧
  (v'.ownBlock=v.ownBlock ∨ v'.ownBlock=some w.heap.size):=by
 obtain ⟨hl,A,c,rfl,hc1,hc2,hA,hcells⟩:=hr
 rcases A with _|ad
 . obtain ⟨rfl,rfl⟩:=hA rfl
   have hn:news=[]:=List.eq_nil_of_length_eq_zero (by simpa using hl)
   subst hn
   exact ⟨v,w,rN w t ty e i size ht hi v n xs hown 0,by simpa using hown,World.grownBy.refl w _,.inl rfl⟩
 . obtain ⟨v',w',hrun,h2,h3,_,h5⟩:=run_append_own_at (P:=P) w 0 t ty e i z size bytes ht hi hz hsize hby hzs hsz v n xs hown ad m c news hl (hcells ad rfl) h1 h63 hbytes (Nat.zero_le _)
   exact ⟨v',w',hrun,h2,h3,h5⟩
theorem gR{ops:Array Oper}{rest:List Oper}{o:Oper}{a:Act}{Q:Exit->Act->World->Prop}(hgd:o.guard=none)(s x:Operand)(t:TypeId)
 (ho:o.op=.call { callee:=.builtin .append,args:=#[s,x],argTypes:=#[t,t] })
 (e:TypeId) (i:TypeInfo) (z:Value) (size bytes:Nat) (ht:P.underlying t=some (.slice e)) (hi:P.info? e=some i) (hz:i.zero=some z)
 (hsize:i.size=size) (hby:i.bytes=bytes) (hzs:z.cells.size=size) (hsz:0 < size)
 (v:Value) (n:Nat) (xs:List Value) (hs:a.eval s=v) (hown:Ow w e size v n xs)
 (y:Value) (m:Nat) (news:List Value) (hx:a.eval x=y) (hr:Rd w size y m news) (h1:∀ u ∈ news,u.oneCell'=true)
 (h63:n+m<=maxLen) (hbytes:(n+m) * bytes<=140737488355328)
 (h:∀ v' w',Ow w' e size v' (n+m) (xs ++ news)->w.grownBy w' v.ownBlock->(v'.ownBlock=v.ownBlock ∨ v'.ownBlock=some w.heap.size)->wpList P ops Q rest (a.put o.dst v') w'):wpList P ops Q (o :: rest) a w:=
 wpList_plain hgd fun K hK=>by
  obtain ⟨v',w',hrun,h2,h3,h4⟩:=aC1 (P:=P) w t o.type e i z size bytes ht hi hz hsize hby hzs hsz v n xs hown y m news hr h1 h63 hbytes
  unfold Oper.wp execOp
  simp only [ho,resolve,invoke,builtin,Sem.run_bind,Sem.run_pure,Result.andThen_ok,List.map_toArray,List.map_cons,List.map_nil,hs,hx,hrun]
  exact hK _ _ (h v' w' h2 h3 h4)
end
theorem Rd.cut{w:World}{A:Option Addr}{n c a k:Nat}{xs:List Value}(h:Rd w 1 (.slice A n c) n xs)(hk:a+k<=n)(hca:¬ c=a):Rd w 1 (.slice (A.map (fun x=>x.add a)) k (c - a)) k ((xs.drop a).take k):=by
 obtain ⟨hl,A',c',hv,h1,h2,h3,h4⟩:=h
 cases hv
 have hl':xs.length=n:=by omega
 refine ⟨by rw [List.length_take,List.length_drop];omega,_,_,rfl,by omega,by omega,(fun hA=>?_),(fun ad had j u hu=>?_)⟩
 . have:A=none:=by cases A <;> simp_all
   have:=h3 this
   omega
 . rcases A with _|ad0
   . cases had
   . cases had
     rw [dZ]
     refine h4 ad0 rfl _ u ?_
     rw [List.getElem?_take] at hu
     split at hu
     . rw [List.getElem?_drop] at hu;exact hu
     . cases hu
theorem Rd.cut0{w:World}{A:Option Addr}{n c a k:Nat}{xs:List Value}(h:Rd w 1 (.slice A n c) n xs)(hk:a+k<=n)(hca:c=a):Rd w 1 (.slice A k (c - a)) k ((xs.drop a).take k):=by
 obtain ⟨hl,A',c',hv,h1,h2,h3,h4⟩:=h
 cases hv
 have hk0:k=0:=by omega
 subst hk0
 refine ⟨by simp,_,_,rfl,by omega,by omega,(fun hA=>?_),(fun ad had j u hu=>by simp at hu)⟩
 have:=h3 hA
 omega
theorem aC6(l:List UInt8)(a k:Nat):((bv l).drop a).take k=bv ((l.drop a).take k):=by simp [bv,List.map_take,List.map_drop]
theorem aB6(l:List UInt8):∀ (s:List UInt8),(l.map fun b:UInt8=>(b.toNat:Int)).foldl (fun (r:ByteArray) n=>r.push (UInt8.ofNat n.toNat)) ⟨s.toArray⟩=⟨(s ++ l).toArray⟩:=by
 induction l with
 |nil=>intro s;simp
 |cons b l ih=>
  intro s
  simp only [List.map_cons,List.foldl_cons,Int.toNat_natCast,UInt8.ofNat_toNat]
  have:(ByteArray.mk s.toArray).push b=⟨(s ++ [b]).toArray⟩:=by simp [ByteArray.push]
  rw [this,ih (s ++ [b])]
  simp
theorem aM8{P:Program}{w:World}{x:Value}{bs:List UInt8}{n:Nat}(src dst e:TypeId)(hs:P.underlying src=some (.slice e))(he:P.underlying e=some (.int .u8))(hd:P.underlying dst=some .string)(h:Rd w 1 x n (bv bs)):
 (convert src dst x).run P w=.ok (.string ⟨bs.toArray⟩) w:=by
 obtain ⟨hl,A,c,rfl,_,_,hA,hc⟩:=h
 rw [run_convert_bytes_string w src dst e A n c hs he hd]
 rcases A with _|a
 . obtain ⟨rfl,_⟩:=hA rfl
   have:bs=[]:=List.eq_nil_of_length_eq_zero (by rw [aX] at hl;omega)
   subst this
   simp [Conv.bytesToString]
   rfl
 . have hn:n=bs.length:=by rw [aX] at hl;omega
   subst hn
   have hbv:bv bs=(bs.map fun b:UInt8=>(b.toNat:Int)).map (Value.int .u8):=by simp [bv]
   have h1:=run_loadCells_list (P:=P) (w:=w) a (bv bs) (hc a rfl)
   rw [aX,hbv] at h1
   rw [run_bytesToString w a bs.length c (bs.map fun b:UInt8=>(b.toNat:Int)) h1]
   have h2:=aB6 bs []
   simp only [List.nil_append] at h2
   rw [show (ByteArray.empty:ByteArray)=⟨([]:List UInt8).toArray⟩ from rfl,h2]
end
section
section
variable {P:Program} {ops:Array Oper} {Q:Exit->Act->World->Prop} {md:Region.Mode} {S:World->Prop} {qf lst:Nat->Bool}
def Qn (Q:Exit->Act->World->Prop):Exit->Act->World->Prop:=fun e a w=>e=.normal ∧ Q .normal a w
theorem pG{i:Nat}{a:Act}{w:World}{K:Act->World->Prop}(h:wpOp P ops (Qn Q) i K a w):wpOp P ops Q i K a w:=by
 unfold wpOp at *
 split
 . rename_i ho;simp only [ho] at h;exact h
 . rename_i o ho
   simp only [ho] at h
   split
   . rename_i hw
     simp only [hw,if_true] at h
     rcases h with h|⟨_,_,_,h,_⟩
     . left
       unfold Oper.wp at *
       generalize (execOp a.eval o).run P w=r at *
       cases r with
       |ok n w'=>
        cases n <;> simp only [Oper.upon] at h ⊢ <;> try exact h
        case enter f args=>
         refine Calls.mono h fun e w'' he=>?_
         cases e with
         |returned u=>exact he
         |panicked c=>cases he.1
         |outgrown=>obtain ⟨_,_,he,_⟩:=he;cases he
       |halt x w'=>
        cases x <;> simp only [Oper.upon] at h ⊢
        cases h.1
     . cases h
   . rename_i hw;simp only [hw] at h;exact h
def oA (md:Region.Mode) (ops:Array Oper) (listed:Array Bool):Prop:=∀ j oj,ops[j]?=some oj->listed.getD j false=true->∀ e ∈ oj.after,Region.binds md e=true->listed.getD e.on false=true
theorem oA.add{listed:Array Bool}{j:Nat}(h:oA md ops listed)(hj:j ∈ Region.ready md ops listed):oA md ops (listed.setIfInBounds j true):=by
 intro k ok hk hl e he hb
 by_cases hkj:j=k
 . subst hkj
   obtain ⟨_,o',ho',hall⟩:=mem_ready.1 hj
   obtain rfl:ok=o':=by rw [hk] at ho';exact Option.some.inj ho'
   exact getD_set_true (hall e he hb)
 . rw [getD_set_ne false hkj] at hl
   exact getD_set_true (h k ok hk hl e he hb)
def pP (md:Region.Mode) (oj:Oper) (i:Nat):Bool:=oj.after.any fun e=>Region.binds md e && e.on == i
theorem jH{oj:Oper}{i:Nat}(h:pP md oj i=true):∃ e ∈ oj.after,Region.binds md e=true ∧ e.on=i:=by
 obtain ⟨e,he,hb⟩:=Array.any_eq_true'.1 h
 simp only [Bool.and_eq_true,beq_iff_eq] at hb
 exact ⟨e,he,hb⟩
def tU (md:Region.Mode) (o:Oper) (F:Array Bool):Array Bool:=o.after.toList.foldl (fun F e=>if Region.binds md e then F.setIfInBounds e.on true else F) F
def uJ (md:Region.Mode) (ops:Array Oper):List Nat->Array Bool->Array Bool
 |[],F=>F
 |i :: is,F=>uJ md ops is (if F.getD i false then (match ops[i]? with|some o=>tU md o F|none=>F) else F)
def bBw (md:Region.Mode) (ops:Array Oper) (j:Nat):Bool:=
 match ops[j]? with
 |none=>false
 |some oj=>(List.range ops.size).all fun i=>i == j || (uJ md ops (List.range ops.size).reverse (tU md oj (Array.replicate ops.size false))).getD i false
theorem oM{listed:Array Bool}(es:List Edge):∀ (F:Array Bool),(∀ i,F.getD i false=true->listed.getD i false=true)->(∀ e ∈ es,Region.binds md e=true->listed.getD e.on false=true)->
 ∀ i,(es.foldl (fun F e=>if Region.binds md e then F.setIfInBounds e.on true else F) F).getD i false=true->listed.getD i false=true:=by
 induction es with
 |nil=>intro F h _ i hi;exact h i hi
 |cons e es ih=>
  intro F h hall i hi
  refine ih _ ?_ (fun e' he'=>hall e' (List.mem_cons_of_mem _ he')) i hi
  intro k hk
  simp only at hk
  split at hk
  . rename_i hb
    by_cases hke:e.on=k
    . subst hke;exact hall e (by simp) hb
    . rw [getD_set_ne false hke] at hk;exact h k hk
  . exact h k hk
theorem tN{listed:Array Bool}(hcl:oA md ops listed):∀ (is:List Nat) (F:Array Bool),(∀ i,F.getD i false=true->listed.getD i false=true)->∀ i,(uJ md ops is F).getD i false=true->listed.getD i false=true
 |[],_,h,i,hi=>h i hi
 |j :: is,F,h,i,hi=>by
  unfold uJ at hi
  refine tN hcl is _ ?_ i hi
  intro k hk
  split at hk
  . rename_i hj
    split at hk
    . rename_i o ho
      exact oM o.after.toList F h (fun e he hb=>hcl j o ho (h j hj) e (by simpa using he) hb) k hk
    . exact h k hk
  . exact h k hk
def iS (md:Region.Mode) (ops:Array Oper) (oj:Oper) (i:Nat):Bool:=pP md oj i || (uJ md ops (List.range ops.size).reverse (tU md oj (Array.replicate ops.size false))).getD i false
theorem fF{oj:Oper}{i:Nat}(h:iS md ops oj i=true)(listed:Array Bool)(hcl:oA md ops listed)(hall:∀ e ∈ oj.after,Region.binds md e=true->listed.getD e.on false=true):listed.getD i false=true:=by
 unfold iS at h
 rw [Bool.or_eq_true] at h
 rcases h with h|h
 . obtain ⟨e,he,hb,heq⟩:=jH h
   rw [<- heq];exact hall e he hb
 . exact tN hcl _ _ (fun k hk=>oM oj.after.toList _ (fun m hm=>by simp [Array.getElem?_replicate] at hm;split at hm <;> simp at hm) (fun e he hb=>hall e (by simpa using he) hb) k hk) i h
def bB7 (md:Region.Mode) (ops:Array Oper) (qf:Nat->Bool) (listed:Array Bool) (i:Nat):Bool:=
 match ops[i]? with
 |none=>false
 |some oi=>(List.range ops.size).all fun j=>j == i || listed.getD j true || (!qf i && !qf j) || match ops[j]? with
  |some oj=>pP md oj i || oi.apart ops oj
  |none=>true
def aHd (md:Region.Mode) (ops:Array Oper) (qf:Nat->Bool):Nat->Nat->Array Bool->Bool
 |0,_,listed=>(Region.ready md ops listed).isEmpty
 |fuel+1,k,listed=>(Region.ready md ops listed).contains k && bB7 md ops qf listed k && aHd md ops qf fuel (k+1) (listed.setIfInBounds k true)
variable {rest:List Oper} {o:Oper} {k:Nat} {a:Act} {w:World}
end
end
section
section
variable {P:Program} {ops:Array Oper} {Q:Exit->Act->World->Prop}
def bG (vs:Nat->Value):List Oper->Nat->Act->Act
 |[],_,a=>a
 |o :: l,k,a=>bG vs l (k+1) (a.put o.dst (vs k))
def lN (vs:Nat->Value) (i:Nat) (v:Value):Nat->Value:=fun k=>if k=i then v else vs k
def cX:List Oper->Bool
 |[]=>true
 |o :: l=>(match o.dst with|none=>true|some d=>l.all fun x=>x.dst != some d) && cX l
theorem rJ(vs:Nat->Value)(i:Nat)(v:Value):∀ (l:List Oper) (k:Nat) (a:Act),i < k->bG (lN vs i v) l k a=bG vs l k a
 |[],_,_,_=>rfl
 |o :: l,k,a,h=>by
  show bG (lN vs i v) l (k+1) (a.put o.dst (lN vs i v k))=bG vs l (k+1) (a.put o.dst (vs k))
  rw [rJ vs i v l (k+1) _ (by omega)]
  congr 2
  simp [lN,show k ≠ i by omega]
theorem sJ(vs:Nat->Value)(x:Option Tmp)(v:Value):∀ (l:List Oper) (k:Nat) (a:Act),(∀ d,x=some d->∀ o ∈ l,o.dst ≠ some d)->(bG vs l k a).put x v=bG vs l k (a.put x v)
 |[],_,_,_=>rfl
 |o :: l,k,a,h=>by
  show (bG vs l (k+1) (a.put o.dst (vs k))).put x v=bG vs l (k+1) ((a.put x v).put o.dst (vs k))
  rw [sJ vs x v l (k+1) _ (fun d hd o ho=>h d hd o (List.mem_cons_of_mem _ ho)),Act.put_comm a (x:=o.dst) (y:=x) (vs k) v]
  intro d hd hx
  exact h d hx o (by simp) hd
theorem aL4(a:Act)(x:Option Tmp)(v u:Value):(a.put x v).put x u=a.put x u:=by
 cases x with
 |none=>rfl
 |some d=>simp [Act.put]
theorem fW(vs:Nat->Value)(i:Nat)(v:Value):∀ (l:List Oper) (k:Nat) (a:Act) (o:Oper),cX l=true->k<=i->l[i - k]?=some o->(bG vs l k a).put o.dst v=bG (lN vs i v) l k a
 |[],_,_,_,_,_,h=>by simp at h
 |x :: l,k,a,o,hB,hk,h=>by
  simp only [cX,Bool.and_eq_true] at hB
  by_cases e:k=i
  . subst e
    rw [Nat.sub_self] at h
    obtain rfl:x=o:=by simpa using h
    show (bG vs l (k+1) (a.put x.dst (vs k))).put x.dst v=bG (lN vs k v) l (k+1) (a.put x.dst (lN vs k v k))
    rw [rJ vs k v l (k+1) _ (by omega),sJ vs x.dst v l (k+1) _ ?_,aL4]
    . simp [lN]
    . intro d hd o ho hod
      have h1:=hB.1
      rw [hd] at h1
      have:=(List.all_eq_true.1 h1) o ho
      rw [hod] at this
      simp at this
  . have e2:i - k=(i - (k+1))+1:=by omega
    rw [e2,List.getElem?_cons_succ] at h
    show (bG vs l (k+1) (a.put x.dst (vs k))).put o.dst v=bG (lN vs i v) l (k+1) (a.put x.dst (lN vs i v k))
    rw [fW vs i v l (k+1) _ o hB.2 (by omega) h]
    congr 2
    simp [lN,e]
def lZ (a:Act):Option Tmp->Value
 |none=>undef
 |some d=>a.tmps.getD d undef
def nH (a:Act) (l:List Oper):Nat->Value:=fun k=>match l[k]? with|none=>undef|some o=>lZ a o.dst
theorem aG5(a:Act)(x:Option Tmp):a.put x (lZ a x)=a:=by
 cases x with
 |none=>rfl
 |some d=>
  have:a.tmps.setIfInBounds d (a.tmps.getD d undef)=a.tmps:=by
   apply Array.ext_getElem?
   intro i
   rw [Array.getElem?_setIfInBounds]
   split
   . rename_i h;subst h
     by_cases hl:d < a.tmps.size
     . simp [hl]
     . simp [hl]
   . rfl
  simp only [Act.put,lZ]
  first|rw [this]|(simp only [this])
theorem gB(a:Act):∀ (l:List Oper) (k:Nat) (vs:Nat->Value),(∀ j o,l[j]?=some o->vs (k+j)=lZ a o.dst)->bG vs l k a=a
 |[],_,_,_=>rfl
 |o :: l,k,vs,h=>by
  have h0:=h 0 o rfl
  show bG vs l (k+1) (a.put o.dst (vs k))=a
  rw [Nat.add_zero] at h0
  rw [h0,aG5]
  exact gB a l (k+1) vs (fun j x hx=>by rw [show k+1+j=k+(j+1) from by omega];exact h (j+1) x (by simpa using hx))
def jE:List Oper->Nat->Bool
 |[],_=>true
 |o :: l,k=>(o.after.all fun e=>!Region.binds .any e || decide (e.on < k)) && o.guard.isNone && jE l (k+1)
theorem fN:∀ (l:List Oper) (k i:Nat) (o:Oper),jE l k=true->l[i]?=some o->(∀ e ∈ o.after,Region.binds .any e=true->e.on < k+i) ∧ o.guard=none
 |[],_,_,_,_,h=>by simp at h
 |x :: l,k,i,o,hB,h=>by
  simp only [jE,Bool.and_eq_true] at hB
  rcases i with _|i
  . obtain rfl:x=o:=by simpa using h
    refine ⟨fun e he hb=>?_,by simpa using hB.1.2⟩
    have:=(Array.all_eq_true_iff_forall_mem.1 hB.1.1) e he
    simpa [hb] using this
  . have:=fN l (k+1) i o hB.2 (by simpa using h)
    exact ⟨fun e he hb=>by have:=this.1 e he hb;omega,this.2⟩
def aCr (P:Program) (Q:Exit->Act->World->Prop) (PV:Nat->Value->World->Prop) (W0:World) (fr:(Nat->Value)->Act) (o:Oper) (i:Nat):Prop:=
 ∀ (vs:Nat->Value) (A:Act) (W:World),fr vs=A->Kp [] W0 W->(∀ j,pP .any o j=true->PV j (vs j) W)->
  ∀ K:Act->World->Prop,(∀ v W',Kp [] W W'->PV i v W'->K (A.put o.dst v) W')->o.wp P A W K (Qn Q)
def mD (P:Program) (Q:Exit->Act->World->Prop) (PV:Nat->Value->World->Prop) (W0:World) (fr:(Nat->Value)->Act):List Oper->Nat->Prop
 |[],_=>True
 |o :: l,i=>aCr P Q PV W0 fr o i ∧ mD P Q PV W0 fr l (i+1)
theorem mD.at_{PV:Nat->Value->World->Prop}{W0:World}{fr:(Nat->Value)->Act}:∀ {l:List Oper} {k:Nat},mD P Q PV W0 fr l k->∀ {i o},l[i]?=some o->aCr P Q PV W0 fr o (k+i)
 |[],_,_,_,_,h=>by simp at h
 |x :: l,k,hs,i,o,h=>by
  rcases i with _|i
  . obtain rfl:x=o:=by simpa using h
    exact hs.1
  . have:=hs.2.at_ (i:=i) (o:=o) (by simpa using h)
    rwa [show k+1+i=k+(i+1) from by omega] at this
theorem aIa{PV:Nat->Value->World->Prop}{W0:World}{a0:Act}{l:List Oper}(hst:∀ i v W W',PV i v W->Kp [] W W'->PV i v W')(hap:cX l=true)(hea:jE l 0=true)
 (hs:mD P Q PV W0 (fun vs=>bG vs l 0 a0) l 0)
 (hend:∀ vs W,Kp [] W0 W->(∀ i,i < l.length->PV i (vs i) W)->Q .normal (bG vs l 0 a0) W):
 ∀ (fuel:Nat) (listed:Array Bool) (vs:Nat->Value) (W:World),listed.size=l.length->(listed.toList.filter (fun b=>!b)).length=fuel->Kp [] W0 W->(∀ i,listed.getD i false=true->PV i (vs i) W)->
  wpAny P .any l.toArray Q fuel listed (bG vs l 0 a0) W:=by
 have all_of:∀ (listed:Array Bool),listed.size=l.length->Region.ready .any l.toArray listed=[]->∀ i,i < l.length->listed.getD i false=true:=by
  intro listed hsz hr i
  induction i using Nat.strongRecOn with
  |_ i ih=>
   intro hi
   cases hl:listed.getD i false with
   |true=>rfl
   |false=>
    exfalso
    have hlt:i < listed.size:=by omega
    have hmem:i ∈ Region.ready .any l.toArray listed:=mem_ready.2 ⟨by simp [hlt] at hl ⊢;exact hl,l[i],by simp [hi],fun e he hb=>by
     have:=(fN l 0 i l[i] hea (by simp [hi])).1 e he hb
     exact ih e.on (by omega) (by omega)⟩
    rw [hr] at hmem;cases hmem
 have hnil:∀ (listed:Array Bool) vs W,listed.size=l.length->Kp [] W0 W->(∀ i,listed.getD i false=true->PV i (vs i) W)->Region.ready .any l.toArray listed=[]->Q .normal (bG vs l 0 a0) W:=
  fun listed vs W hsz hk hp hr=>hend vs W hk (fun i hi=>hp i (all_of listed hsz hr i hi))
 intro fuel
 induction fuel with
 |zero=>
  intro listed vs W hsz hf hk hp
  have hr:Region.ready .any l.toArray listed=[]:=by
   refine List.eq_nil_iff_forall_not_mem.2 fun i hi=>?_
   have h0:=(mem_ready.1 hi).1
   obtain ⟨_,o,ho,_⟩:=mem_ready.1 hi
   have hlt:i < listed.size:=by
    have:=(Array.getElem?_eq_some_iff.1 ho).1
    simp at this;omega
   have:listed[i] ∈ listed.toList.filter (fun b=>!b):=by
    rw [List.mem_filter]
    simp [hlt] at h0
    refine ⟨by simp,by simp [h0]⟩
   rw [List.eq_nil_of_length_eq_zero hf] at this
   cases this
  exact ⟨hr,hnil listed vs W hsz hk hp hr⟩
 |succ fuel ih=>
  intro listed vs W hsz hf hk hp
  refine ⟨hnil listed vs W hsz hk hp,fun i hi=>?_⟩
  obtain ⟨h0,o,ho,hall⟩:=mem_ready.1 hi
  have hol:l[i]?=some o:=by simpa using ho
  have hlt:i < listed.size:=by
   have:=(List.getElem?_eq_some_iff.1 hol).1
   omega
  have hgd:=(fN l 0 i o hea hol).2
  refine pG ?_
  unfold wpOp
  simp only [ho]
  rw [if_pos (by simp [Region.wanted,hgd])]
  refine .inl ?_
  have hstep:=hs.at_ hol
  rw [Nat.zero_add] at hstep
  refine hstep vs _ W rfl hk (fun j hj=>by obtain ⟨e,he,hb,rfl⟩:=jH hj;exact hp e.on (hall e he hb)) _ fun v W' hk' hv=>?_
  rw [fW vs i v l 0 a0 o hap (Nat.zero_le _) (by simpa using hol)]
  refine ih _ _ W' (by simpa using hsz) ?_ (hk.trans hk' (by simp)) (fun j hj=>?_)
  . simp [hlt] at h0
    have h1:listed.toList=listed.toList.take i ++ false :: listed.toList.drop (i+1):=by
     rw [<- h0]
     have:=List.take_append_drop i listed.toList
     rw [List.drop_eq_getElem_cons (by simpa using hlt)] at this
     simpa using this.symm
    have h2:(listed.setIfInBounds i true).toList=listed.toList.take i ++ true :: listed.toList.drop (i+1):=by
     rw [Array.toList_setIfInBounds]
     conv=>lhs;rw [h1]
     rw [List.set_append_right _ _ (by simp;omega)]
     simp [Nat.min_eq_left (Nat.le_of_lt hlt)]
    rw [h1] at hf
    rw [h2]
    simp only [List.filter_append,List.filter_cons,List.length_append] at hf ⊢
    simp at hf ⊢
    omega
  . by_cases e:i=j
    . subst e;simpa [lN] using hv
    . rw [getD_set_ne false e] at hj
      simp only [lN,show j ≠ i from fun h=>e h.symm,if_false]
      exact hst j _ W W' (hp j hj) hk'
theorem bZ{id:Nat}{a:Act}{w:World}{l:List Oper}(PV:Nat->Value->World->Prop)(hm:P.follows .mixedOrders=true)(hap:cX l=true)(hea:jE l 0=true)
 (hst:∀ i v W W',PV i v W->Kp [] W W'->PV i v W')
 (hs:mD P Q PV w.drew (fun vs=>bG vs l 0 a) l 0)
 (hend:∀ vs W,Kp [] w.drew W->(∀ i,i < l.length->PV i (vs i) W)->Q .normal (bG vs l 0 a) W):(Code.region id l.toArray true).wp P Q a w:=by
 refine wp_region_any hm ?_
 have h:=aIa (P:=P) (Q:=Q) hst hap hea hs hend l.length (Array.replicate l.length false) (nH a l) w.drew (by simp) (by simp) (Kp.refl _ _) (fun i hi=>by
  simp [Array.getElem?_replicate] at hi
  split at hi <;> simp at hi)
 rw [gB a l 0 (nH a l) (fun j o ho=>by simp [nH,ho])] at h
 simpa using h
def wS (vs:Nat->Value):List Oper->Nat->Nat->Option Value
 |[],_,_=>none
 |o :: l,k,d=>if o.dst=some d then some (vs k) else wS vs l (k+1) d
theorem aGy(a:Act)(x:Option Tmp)(v:Value):(a.put x v).tmps.size=a.tmps.size:=by cases x <;> simp [Act.put]
theorem qR(vs:Nat->Value):∀ (l:List Oper) (k:Nat) (a:Act) (d:Nat),d < a.tmps.size->cX l=true->(bG vs l k a).eval (.tmp d)=(wS vs l k d).getD (a.eval (.tmp d))
 |[],_,_,_,_,_=>rfl
 |o :: l,k,a,d,hd,hB=>by
  show (bG vs l (k+1) (a.put o.dst (vs k))).eval (.tmp d)=_
  simp only [cX,Bool.and_eq_true] at hB
  rw [qR vs l (k+1) _ d (by rw [aGy];exact hd) hB.2]
  rw [show wS vs (o :: l) k d=(if o.dst=some d then some (vs k) else wS vs l (k+1) d) from rfl]
  by_cases e:o.dst=some d
  . rw [if_pos e]
    have hn:wS vs l (k+1) d=none:=by
     have h1:=hB.1
     rw [e] at h1
     have:∀ (l:List Oper) (k:Nat),(∀ x ∈ l,x.dst ≠ some d)->wS vs l k d=none:=by
      intro l
      induction l with
      |nil=>intro _ _;rfl
      |cons x l ih=>
       intro k h
       unfold wS
       rw [if_neg (h x (by simp))]
       exact ih (k+1) (fun y hy=>h y (by simp [hy]))
     refine this l (k+1) fun x hx hxd=>?_
     have:=(List.all_eq_true.1 h1) x hx
     rw [hxd] at this
     simp at this
    rw [hn,e]
    simp [Act.put,Act.eval,hd]
  . rw [if_neg e]
    congr 1
    cases ho:o.dst with
    |none=>rfl
    |some d'=>
     have hne:d' ≠ d:=fun h=>e (by rw [ho,h])
     simp [Act.put,Act.eval,Array.getElem?_setIfInBounds_ne hne]
theorem aMz{vs:Nat->Value}{l:List Oper}{a A:Act}{d:Nat}{X:Value}(hA:(fun vs=>bG vs l 0 a) vs=A)(hB:cX l=true)(hd:d < a.tmps.size)(h:(wS vs l 0 d).getD (a.eval (.tmp d))=X):A.eval (.tmp d)=X:=by
 subst hA
 show (bG vs l 0 a).eval _=X
 rw [qR vs l 0 a d hd hB,h]
theorem cD{vs:Nat->Value}{l:List Oper}{a A:Act}{d:Nat}{X:Value}(hA:(fun vs=>bG vs l 0 a) vs=A)(hB:cX l=true)(hd:d < a.tmps.size)(h:(wS vs l 0 d).getD (a.eval (.tmp d))=X):A.tmps[d]?.getD undef=X:=by
 have:=aMz hA hB hd h
 simpa [Act.eval] using this
end
end
section
section
variable {P:Program} {ops:Array Oper} {Q:Exit->Act->World->Prop}
def jB:List Oper->Nat->Bool
 |[],_=>true
 |o :: l,k=>(o.after.all fun e=>!Region.binds .any e || decide (e.on < k)) && jB l (k+1)
theorem jR:∀ (l:List Oper) (k i:Nat) (o:Oper),jB l k=true->l[i]?=some o->(∀ e ∈ o.after,Region.binds .any e=true->e.on < k+i)
 |[],_,_,_,_,h=>by simp at h
 |x :: l,k,i,o,hB,h=>by
  simp only [jB,Bool.and_eq_true] at hB
  rcases i with _|i
  . obtain rfl:x=o:=by simpa using h
    intro e he hb
    have:=(Array.all_eq_true_iff_forall_mem.1 hB.1) e he
    simpa [hb] using this
  . have:=jR l (k+1) i o hB.2 (by simpa using h)
    exact fun e he hb=>by have:=this e he hb;omega
def aA8 (P:Program) (Q:Exit->Act->World->Prop) (PV:Nat->Value->World->Prop) (W0:World) (fr:(Nat->Value)->Act) (ops:Array Oper) (o:Oper) (i:Nat):Prop:=
 ∀ (vs:Nat->Value) (A:Act) (W:World),fr vs=A->Kp [] W0 W->(∀ j,pP .any o j=true->PV j (vs j) W)->
  ∀ K:Act->World->Prop,(∀ v W',Kp [] W W'->PV i v W'->K (A.put o.dst v) W')->wpOp P ops (Qn Q) i K A W
def kC (P:Program) (Q:Exit->Act->World->Prop) (PV:Nat->Value->World->Prop) (W0:World) (fr:(Nat->Value)->Act) (ops:Array Oper):List Oper->Nat->Prop
 |[],_=>True
 |o :: l,i=>aA8 P Q PV W0 fr ops o i ∧ kC P Q PV W0 fr ops l (i+1)
theorem kC.at_{PV:Nat->Value->World->Prop}{W0:World}{fr:(Nat->Value)->Act}:∀ {l:List Oper} {k:Nat},kC P Q PV W0 fr ops l k->∀ {i o},l[i]?=some o->aA8 P Q PV W0 fr ops o (k+i)
 |[],_,_,_,_,h=>by simp at h
 |x :: l,k,hs,i,o,h=>by
  rcases i with _|i
  . obtain rfl:x=o:=by simpa using h
    exact hs.1
  . have:=hs.2.at_ (i:=i) (o:=o) (by simpa using h)
    rwa [show k+1+i=k+(i+1) from by omega] at this
theorem aL{i:Nat}{K:Act->World->Prop}{a:Act}{w:World}(o:Oper)(ho:ops[i]?=some o)(hg:o.guard=none)(h:o.wp P a w K Q):wpOp P ops Q i K a w:=by
 unfold wpOp
 simp only [ho]
 rw [if_pos (by simp [Region.wanted,hg])]
 exact .inl h
theorem gY{a:Act}{j d:Nat}{b:Bool}(hj:(ops[j]?).bind (·.dst)=some d)(hd:a.tmps[d]?.getD undef=.bool b):yielded ops a.tmps j=some b:=by
 unfold yielded
 rw [hj]
 show (match a.tmps[d]? with|some (.bool b)=>some b|_=>none)=some b
 cases h:a.tmps[d]? with
 |none=>rw [h] at hd;cases hd
 |some v=>rw [h] at hd;obtain rfl:v=.bool b:=hd;rfl
theorem fQ{i:Nat}{K:Act->World->Prop}{a:Act}{w:World}(o:Oper)(ho:ops[i]?=some o)(j d:Nat)(b:Bool)(hg:o.guard=some (j,b))(hj:(ops[j]?).bind (·.dst)=some d)(hd:a.tmps[d]?.getD undef=.bool b)(h:o.wp P a w K Q):wpOp P ops Q i K a w:=by
 unfold wpOp
 simp only [ho]
 rw [if_pos (by simp [Region.wanted,hg,gY hj hd])]
 exact .inl h
theorem vO{i:Nat}{K:Act->World->Prop}{a:Act}{w:World}(o:Oper)(ho:ops[i]?=some o)(j d:Nat)(b:Bool)(hg:o.guard=some (j,b))(hj:(ops[j]?).bind (·.dst)=some d)(hd:a.tmps[d]?.getD undef=.bool (!b))(h:K (a.put o.dst undef) w):wpOp P ops Q i K a w:=by
 unfold wpOp
 simp only [ho]
 rw [if_neg (by simp [Region.wanted,hg,gY hj hd])]
 exact h
theorem aHv{PV:Nat->Value->World->Prop}{W0:World}{a0:Act}{l:List Oper}(hst:∀ i v W W',PV i v W->Kp [] W W'->PV i v W')(hap:cX l=true)(hea:jB l 0=true)
 (hs:kC P Q PV W0 (fun vs=>bG vs l 0 a0) l.toArray l 0)
 (hend:∀ vs W,Kp [] W0 W->(∀ i,i < l.length->PV i (vs i) W)->Q .normal (bG vs l 0 a0) W):
 ∀ (fuel:Nat) (listed:Array Bool) (vs:Nat->Value) (W:World),listed.size=l.length->(listed.toList.filter (fun b=>!b)).length=fuel->Kp [] W0 W->(∀ i,listed.getD i false=true->PV i (vs i) W)->
  wpAny P .any l.toArray Q fuel listed (bG vs l 0 a0) W:=by
 have all_of:∀ (listed:Array Bool),listed.size=l.length->Region.ready .any l.toArray listed=[]->∀ i,i < l.length->listed.getD i false=true:=by
  intro listed hsz hr i
  induction i using Nat.strongRecOn with
  |_ i ih=>
   intro hi
   cases hl:listed.getD i false with
   |true=>rfl
   |false=>
    exfalso
    have hlt:i < listed.size:=by omega
    have hmem:i ∈ Region.ready .any l.toArray listed:=mem_ready.2 ⟨by simp [hlt] at hl ⊢;exact hl,l[i],by simp [hi],fun e he hb=>by
     have:=(jR l 0 i l[i] hea (by simp [hi])) e he hb
     exact ih e.on (by omega) (by omega)⟩
    rw [hr] at hmem;cases hmem
 have hnil:∀ (listed:Array Bool) vs W,listed.size=l.length->Kp [] W0 W->(∀ i,listed.getD i false=true->PV i (vs i) W)->Region.ready .any l.toArray listed=[]->Q .normal (bG vs l 0 a0) W:=
  fun listed vs W hsz hk hp hr=>hend vs W hk (fun i hi=>hp i (all_of listed hsz hr i hi))
 intro fuel
 induction fuel with
 |zero=>
  intro listed vs W hsz hf hk hp
  have hr:Region.ready .any l.toArray listed=[]:=by
   refine List.eq_nil_iff_forall_not_mem.2 fun i hi=>?_
   have h0:=(mem_ready.1 hi).1
   obtain ⟨_,o,ho,_⟩:=mem_ready.1 hi
   have hlt:i < listed.size:=by
    have:=(Array.getElem?_eq_some_iff.1 ho).1
    simp at this;omega
   have:listed[i] ∈ listed.toList.filter (fun b=>!b):=by
    rw [List.mem_filter]
    simp [hlt] at h0
    refine ⟨by simp,by simp [h0]⟩
   rw [List.eq_nil_of_length_eq_zero hf] at this
   cases this
  exact ⟨hr,hnil listed vs W hsz hk hp hr⟩
 |succ fuel ih=>
  intro listed vs W hsz hf hk hp
  refine ⟨hnil listed vs W hsz hk hp,fun i hi=>?_⟩
  obtain ⟨h0,o,ho,hall⟩:=mem_ready.1 hi
  have hol:l[i]?=some o:=by simpa using ho
  have hlt:i < listed.size:=by
   have:=(List.getElem?_eq_some_iff.1 hol).1
   omega
  refine pG ?_
  have hstep:=hs.at_ hol
  rw [Nat.zero_add] at hstep
  refine hstep vs _ W rfl hk (fun j hj=>by obtain ⟨e,he,hb,rfl⟩:=jH hj;exact hp e.on (hall e he hb)) _ fun v W' hk' hv=>?_
  rw [fW vs i v l 0 a0 o hap (Nat.zero_le _) (by simpa using hol)]
  refine ih _ _ W' (by simpa using hsz) ?_ (hk.trans hk' (by simp)) (fun j hj=>?_)
  . simp [hlt] at h0
    have h1:listed.toList=listed.toList.take i ++ false :: listed.toList.drop (i+1):=by
     rw [<- h0]
     have:=List.take_append_drop i listed.toList
     rw [List.drop_eq_getElem_cons (by simpa using hlt)] at this
     simpa using this.symm
    have h2:(listed.setIfInBounds i true).toList=listed.toList.take i ++ true :: listed.toList.drop (i+1):=by
     rw [Array.toList_setIfInBounds]
     conv=>lhs;rw [h1]
     rw [List.set_append_right _ _ (by simp;omega)]
     simp [Nat.min_eq_left (Nat.le_of_lt hlt)]
    rw [h1] at hf
    rw [h2]
    simp only [List.filter_append,List.filter_cons,List.length_append] at hf ⊢
    simp at hf ⊢
    omega
  . by_cases e:i=j
    . subst e;simpa [lN] using hv
    . rw [getD_set_ne false e] at hj
      simp only [lN,show j ≠ i from fun h=>e h.symm,if_false]
      exact hst j _ W W' (hp j hj) hk'
theorem cO{id:Nat}{a:Act}{w:World}{l:List Oper}(PV:Nat->Value->World->Prop)(hm:P.follows .mixedOrders=true)(hap:cX l=true)(hea:jB l 0=true)
 (hst:∀ i v W W',PV i v W->Kp [] W W'->PV i v W')
 (hs:kC P Q PV w.drew (fun vs=>bG vs l 0 a) l.toArray l 0)
 (hend:∀ vs W,Kp [] w.drew W->(∀ i,i < l.length->PV i (vs i) W)->Q .normal (bG vs l 0 a) W):(Code.region id l.toArray true).wp P Q a w:=by
 refine wp_region_any hm ?_
 have h:=aHv (P:=P) (Q:=Q) hst hap hea hs hend l.length (Array.replicate l.length false) (nH a l) w.drew (by simp) (by simp) (Kp.refl _ _) (fun i hi=>by
  simp [Array.getElem?_replicate] at hi
  split at hi <;> simp at hi)
 rw [gB a l 0 (nH a l) (fun j o ho=>by simp [nH,ho])] at h
 simpa using h
end
end
section
def nM (n:Nat):Code->Option (Array Oper)
 |.region id ops _=>if id=n then some ops else none
 |.seq a b=>match nM n a with
  |some x=>some x
  |none=>nM n b
 |.cond _ a b=>match nM n a with
  |some x=>some x
  |none=>nM n b
 |.block _ c=>nM n c
 |.loop c=>nM n c
 |.scope c=>nM n c
 |.rangeFunc _ _ a b=>match nM n a with
  |some x=>some x
  |none=>nM n b
 |_=>none
def aK (n:Nat) (f:Func):List Oper:=match f.body with
 |some c=>match nM n c with
  |some x=>x.toList
  |none=>[]
 |none=>[]
def nL (n:Nat):Code->Option Code
 |.block id c=>if id=n then some c else nL n c
 |.seq a b=>match nL n a with
  |some x=>some x
  |none=>nL n b
 |.cond _ a b=>match nL n a with
  |some x=>some x
  |none=>nL n b
 |.loop c=>nL n c
 |.scope c=>nL n c
 |.rangeFunc _ _ a b=>match nL n a with
  |some x=>some x
  |none=>nL n b
 |_=>none
def dR (n:Nat) (f:Func):Code:=match f.body with
 |some c=>(nL n c).getD .skip
 |none=>.skip
def jP (n:Nat):Code->Bool
 |.region id _ _=>id == n
 |.seq a b=>jP n a || jP n b
 |.cond _ a b=>jP n a || jP n b
 |.block _ c=>jP n c
 |.loop c=>jP n c
 |.scope c=>jP n c
 |.rangeFunc _ _ a b=>jP n a || jP n b
 |_=>false
def aGr (n:Nat):Code->Code
 |.seq a b=>if jP n a then b else aGr n b
 |c=>c
def wK (n:Nat) (f:Func):Code:=match f.body with
 |some c=>aGr n c
 |none=>.skip
def mJ:List (Nat × Value)->Act->Act
 |[],a=>a
 |(d,v) :: l,a=>mJ l (a.put (some d) v)
def Sl (a:Act) (d:Nat) (v:Value):Prop:=∀ h:d < a.tmps.size,a.tmps[d]'h=v
structure Same (a a':Act) (ds:List Nat):Prop where
 size:a'.tmps.size=a.tmps.size
 defers:a'.defers=a.defers
 keep:∀ d v,(ds.contains d)=false->Sl a d v->Sl a' d v
def oU:List (Nat × Value)->Nat->Option Value
 |[],_=>none
 |(e,v) :: l,d=>match oU l d with
  |some u=>some u
  |none=>if e=d then some v else none
theorem oZ{a:Act}{d:Nat}{v:Value}(h:a.tmps[d]?=some v):Sl a d v:=by
 intro hd
 rw [Array.getElem?_eq_getElem hd] at h
 exact Option.some.inj h
theorem Sl.some{a:Act}{d:Nat}{v:Value}(h:Sl a d v)(hd:d < a.tmps.size):a.tmps[d]?=some v:=by
 rw [Array.getElem?_eq_getElem hd,h hd]
theorem xX{a:Act}{d e:Nat}{v u:Value}(h:Sl a d v)(hne:e ≠ d):Sl (a.put (some e) u) d v:=by
 by_cases hd:d < a.tmps.size
 . refine oZ ?_
   show (a.tmps.setIfInBounds e u)[d]?=_
   rw [Array.getElem?_setIfInBounds_ne hne]
   exact h.some hd
 . intro hd'
   exact absurd (by simpa [Act.put] using hd') hd
theorem vP:∀ (l:List (Nat × Value)) (a:Act),(mJ l a).tmps.size=a.tmps.size
 |[],_=>rfl
 |(d,v) :: l,a=>by
  show (mJ l (a.put (some d) v)).tmps.size=_
  rw [vP l]
  simp [Act.put]
theorem qU:∀ (l:List (Nat × Value)) (a:Act),(mJ l a).defers=a.defers
 |[],_=>rfl
 |(d,v) :: l,a=>by
  show (mJ l (a.put (some d) v)).defers=_
  rw [qU l]
  rfl
theorem lQ:∀ (l:List (Nat × Value)) (a:Act) (d:Nat) (v:Value),(l.map (·.1)).contains d=false->Sl a d v->Sl (mJ l a) d v
 |[],_,_,_,_,h=>h
 |(e,u) :: l,a,d,v,hn,h=>by
  simp only [List.map_cons,List.contains_cons,Bool.or_eq_false_iff] at hn
  exact lQ l _ d v hn.2 (xX h (fun e=>by simp [e] at hn))
theorem wF(l:List (Nat × Value))(a:Act):Same a (mJ l a) (l.map (·.1)):=
 ⟨vP l a,qU l a,fun d v hn h=>lQ l a d v hn h⟩
theorem yG{a:Act}{ds:List Nat}:Same a { tmps:=a.tmps,defers:=a.defers } ds:=⟨rfl,rfl,fun _ _ _ h=>h⟩
theorem zP{a:Act}{t:Array Value}{D:List Deferred}{ds:List Nat}{d:Nat}{v:Value}(hd:ds.contains d=true)(h:Same a { tmps:=t,defers:=D } ds):Same a { tmps:=t.setIfInBounds d v,defers:=D } ds:=by
 refine ⟨by rw [<- h.size];simp,h.defers,fun e u hn hs=>?_⟩
 have h1:=h.keep e u hn hs
 have hne:d ≠ e:=by
  rintro rfl
  rw [hd] at hn
  cases hn
 have:=xX (u:=v) h1 hne
 exact this
theorem uO:∀ (l:List (Nat × Value)) (d:Nat),oU l d=none->(l.map (·.1)).contains d=false
 |[],_,_=>rfl
 |(e,u) :: l,d,h=>by
  unfold oU at h
  cases hl:oU l d with
  |some x=>rw [hl] at h;cases h
  |none=>
   rw [hl] at h
   simp only at h
   by_cases he:e=d
   . rw [if_pos he] at h;cases h
   . simp only [List.map_cons,List.contains_cons,Bool.or_eq_false_iff]
     exact ⟨by simpa using fun h=>he h.symm,uO l d hl⟩
theorem oT:∀ (l:List (Nat × Value)) (a:Act) (d:Nat) (v:Value),oU l d=some v->Sl (mJ l a) d v
 |[],_,_,_,h=>by cases h
 |(e,u) :: l,a,d,v,h=>by
  unfold oU at h
  cases hl:oU l d with
  |some x=>
   rw [hl] at h
   cases h
   exact oT l _ d v hl
  |none=>
   rw [hl] at h
   simp only at h
   by_cases he:e=d
   . rw [if_pos he] at h
     cases h
     subst he
     refine lQ l _ e _ (uO l e hl) ?_
     intro hd
     simp [Act.put]
   . rw [if_neg he] at h;cases h
theorem Same.trans{a b c:Act}{d1 d2:List Nat}(h:Same a b d1)(k:Same b c d2):Same a c (d1 ++ d2):=
 ⟨k.size.trans h.size,k.defers.trans h.defers,fun d v hn hs=>by
  rw [List.contains_eq_any_beq,List.any_append,Bool.or_eq_false_iff] at hn
  exact k.keep d v (by rw [List.contains_eq_any_beq];exact hn.2) (h.keep d v (by rw [List.contains_eq_any_beq];exact hn.1) hs)⟩
theorem Same.more{a b:Act}{d1 d2:List Nat}(h:Same a b d1)(hd:(d1.all fun d=>d2.contains d)=true):Same a b d2:=
 ⟨h.size,h.defers,fun d v hn hs=>h.keep d v (by
  cases hc:d1.contains d with
  |false=>rfl
  |true=>
   have:=List.all_eq_true.1 hd d (by simpa using hc)
   rw [hn] at this
   cases this) hs⟩
theorem Same.refl(a:Act)(ds:List Nat):Same a a ds:=⟨rfl,rfl,fun _ _ _ h=>h⟩
theorem Sl.eval{a:Act}{d:Nat}{v:Value}(h:Sl a d v)(hd:d < a.tmps.size):a.eval (.tmp d)=v:=by
 simp only [Act.eval]
 rw [Array.getD_eq_getD_getElem?,Array.getElem?_eq_getElem hd]
 exact h hd
theorem aR{P:Program}{f:FuncId}{fn:Func}{c:Code}{args:Array Value}{w:World}{R:Ending->World->Prop}(hf:P.funcs[f]?=some fn)(hb:fn.body=some c)(N:Nat)(hN:args.size+(fn.ntmps - args.size)=N)
 (h:∀ a:Act,a.tmps.size=N->a.defers=[]->(∀ i v,args[i]?=some v->Sl a i v)->c.wp P (bodyPost P fn R) a w):Calls P f args w R:=
 calls_of_wp hf hb (h _ (by simp only [Array.size_append,Array.size_replicate];exact hN) rfl (fun i v hi=>oZ (by
  rw [Array.getElem?_append_left (Array.getElem?_eq_some_iff.1 hi).1];exact hi)))
section
variable {vs:Nat->Value} {l:List Oper} {a A:Act} {d j:Nat}
theorem aBy(hA:(fun vs=>bG vs l 0 a) vs=A)(hB:cX l=true)(hd:d < a.tmps.size)(h:wS vs l 0 d=some (vs j)):A.tmps[d]?.getD undef=vs j:=
 cD hA hB hd (by rw [h];rfl)
theorem aGu{v:Value}(hA:(fun vs=>bG vs l 0 a) vs=A)(hB:cX l=true)(hd:d < a.tmps.size)(h:wS vs l 0 d=none)(o:Sl a d v):A.tmps[d]?.getD undef=v:=
 cD hA hB hd (by rw [h];exact o.eval hd)
end
theorem sH{n N:Nat}(d:Nat)(h:n=N)(hd:Nat.ble (d+1) N=true):d < n:=Nat.lt_of_lt_of_eq (Nat.le_of_ble_eq_true hd) h.symm
theorem sV{vs:Nat->Value}{l:List Oper}{a A:Act}{N j:Nat}{v:Value}(d:Nat)(f:vs j=v)(hA:(fun vs=>bG vs l 0 a) vs=A)(hB:cX l=true)(h:a.tmps.size=N)(hd:Nat.ble (d+1) N=true:=by rfl)(e:wS vs l 0 d=some (vs j):=by kernel_rfl):A.tmps[d]?.getD undef=v:=
 (aBy hA hB (sH d h hd) e).trans f
theorem sO{vs:Nat->Value}{l:List Oper}{a A:Act}{N:Nat}{v:Value}(d:Nat)(o:Sl a d v)(hA:(fun vs=>bG vs l 0 a) vs=A)(hB:cX l=true)(h:a.tmps.size=N)(hd:Nat.ble (d+1) N=true:=by rfl)(e:wS vs l 0 d=none:=by kernel_rfl):A.tmps[d]?.getD undef=v:=
 aGu hA hB (sH d h hd) e o
theorem Same.k{a a':Act}{ds:List Nat}{d:Nat}{v:Value}(hs:Same a a' ds)(o:Sl a d v)(h:ds.contains d=false:=by decide):Sl a' d v:=hs.keep d v h o
theorem sS{a a':Act}{ds:List Nat}(h:Same a a' ds:=by repeat (first|(with_reducible refine zP (by decide) ?_)|(with_reducible exact yG))):Same a a' ds:=h
theorem sP{a:Act}{d:Nat}{v:Value}(h:Sl a d v:=by unfold Sl;first|(simp [hsz];done)|(simp [hsz];omega)):Sl a d v:=h
theorem cH{a:Act}{d:Nat}{v:Value}(h:Sl a d v:=by unfold Sl;simp [hsz]):Sl a d v:=h
theorem sU{vs:Nat->Value}{l:List Oper}{a A:Act}{N:Nat}(d j:Nat)(hA:(fun vs=>bG vs l 0 a) vs=A)(hB:cX l=true)(h:a.tmps.size=N)(hd:Nat.ble (d+1) N=true:=by rfl)(e:wS vs l 0 d=some (vs j):=by kernel_rfl):A.tmps[d]?.getD undef=vs j:=
 aBy hA hB (sH d h hd) e
def uX (vs:Nat->Value):List Oper->Nat->List (Nat × Value)
 |[],_=>[]
 |o :: l,k=>match o.dst with
  |some d=>(d,vs k) :: uX vs l (k+1)
  |none=>uX vs l (k+1)
theorem aF(vs:Nat->Value):∀ (l:List Oper) (k:Nat) (a:Act),bG vs l k a=mJ (uX vs l k) a
 |[],_,_=>rfl
 |o :: l,k,a=>by
  unfold bG uX
  rw [aF vs l (k+1)]
  cases h:o.dst <;> rfl
theorem sQ{vs:Nat->Value}{l:List Oper}{a:Act}{ds:List Nat}(h:(uX vs l 0).map (·.1)=ds:=by kernel_rfl):Same a (mJ (uX vs l 0) a) ds:=h ▸ wF _ a
theorem sX{vs:Nat->Value}{l:List Oper}{a:Act}{d:Nat}{v:Value}(h:oU (uX vs l 0) d=some v:=by kernel_rfl):Sl (mJ (uX vs l 0) a) d v:=oT _ a d v h
theorem sW{vs:Nat->Value}{l:List Oper}{a:Act}{d j:Nat}{v:Value}(e:vs j=v)(h:oU (uX vs l 0) d=some (vs j):=by kernel_rfl):Sl (mJ (uX vs l 0) a) d v:=oT _ a d v (h.trans (congrArg some e))
theorem sB{a b:Nat}(h:Nat.ble a b=true:=by kernel_rfl):a<=b:=Nat.le_of_ble_eq_true h
theorem kR{S:List Nat}{w:World}:Kp S w w:=Kp.refl S w
end
section
open Go.RowKit
section
variable {P:Program}
def nW:TypeDesc->Bool
 |.struct _=>true
 |.array _ _=>true
 |_=>false
theorem gX{w:World}{ty:TypeId}{d:TypeDesc}(hu:P.underlying ty=some d)(hd:nW d=true):(isAgg ty).run P w=.ok true w:=by
 unfold isAgg
 rw [Sem.run_bind,run_underlying hu w]
 cases d <;> simp_all [nW]
theorem bY(w:World)(ad:Addr)(ty:TypeId)(xs:List Value)(d:TypeDesc)(hc:∀ j u,xs[j]?=some u->w.cell? (ad.add j)=some u)
 (hu:P.underlying ty=some d) (hd:nW d=true) (hi:(P.info? ty).map (·.size)=some xs.length):
 (Instr.loadAt ty (.pointer (some ad))).run P w=.ok (.agg xs.toArray) w:=by
 have hl:(loadCells ad xs.length).run P w=.ok xs.toArray w:=run_loadCells_list (P:=P) w ad xs hc
 cases hq:P.info? ty with
 |none=>simp [hq] at hi
 |some i=>
  have hs:i.size=xs.length:=by simpa [hq] using hi
  simp [Instr.loadAt,Instr.sureAddr,loadVar,Sem.run_bind,gX hu hd,sizeOf,typeInfo,hq,hs,hl]
theorem dK{w:World}{ρ:Operand->Value}{o:Oper}{ty:TypeId}{x:Operand}{p v:Value}(ho:o.op=.load ty x)(hx:ρ x=p)(h:(Instr.loadAt ty p).run P w=.ok v w):
 (execOp ρ o).run P w=.ok (.value v) w:=by
 unfold execOp
 simp only [ho,hx,Sem.run_bind,h,Result.andThen_ok,Sem.run_pure]
theorem bW{ops:Array Oper}{rest:List Oper}{o:Oper}{a:Act}{w:World}{Q:Exit->Act->World->Prop}(hgd:o.guard=none)(ty:TypeId)(x:Operand)(ho:o.op=.load ty x)(ad:Addr)(hx:a.eval x=.pointer (some ad))
 (xs:List Value) (d:TypeDesc) (hc:∀ j u,xs[j]?=some u->w.cell? (ad.add j)=some u) (hu:P.underlying ty=some d) (hd:nW d=true) (hi:(P.info? ty).map (·.size)=some xs.length)
 (h:wpList P ops Q rest (a.put o.dst (.agg xs.toArray)) w):wpList P ops Q (o :: rest) a w:=
 wpList_plain hgd fun K hK=>by
  unfold Oper.wp
  rw [dK ho hx (bY w ad ty xs d hc hu hd hi)]
  exact hK _ _ h
theorem lI(w:World)(g off:Nat)(t ty:TypeId)(xs:Array Value)(cur:Array Value)(hb:aM w g t cur)(hi:(P.info? ty).map (·.size)=some xs.size)(hfit:off+xs.size<=cur.size)(h1:∀ u,u ∈ xs.toList->u.oneCell'=true):
 (Instr.storeAt ty (.pointer (some ⟨g,off,none⟩)) (.agg xs)).run P w=.ok () (w.setRow g (cur.toList.take off ++ xs.toList ++ cur.toList.drop (off+xs.size)).toArray):=by
 cases hq:P.info? ty with
 |none=>simp [hq] at hi
 |some i=>
  have hs:i.size=xs.size:=by simpa [hq] using hi
  have hst:=run_storeCells_at P g off t xs.toList 0 cur w hb (by simpa using hfit) h1
  simp only [Nat.add_zero,Array.length_toList] at hst
  simp [Instr.storeAt,Instr.sureAddr,storeVar,Sem.run_bind,sizeOf,typeInfo,hq,hs,Value.cells,hst]
theorem uK{w w':World}{ρ:Operand->Value}{o:Oper}{ty:TypeId}{x y:Operand}{p v:Value}(ho:o.op=.store ty x y)(hx:ρ x=p)(hy:ρ y=v)(h:(Instr.storeAt ty p v).run P w=.ok () w'):
 (execOp ρ o).run P w=.ok .skip w':=by
 unfold execOp
 simp only [ho,hx,hy,Sem.run_bind,h,Result.andThen_ok,Sem.run_pure]
theorem fU{w:World}{g:Nat}{t:TypeId}{cur cs:Array Value}(h:aM w g t cur):aM (w.setRow g cs) g t cs ∧ Kp [g] w (w.setRow g cs):=
 ⟨setRow_heap w g cur cs t (0,0) h,⟨rfl,rfl,rfl,by simp,fun k _ hk=>setRow_other w g k cs (by simpa using hk)⟩⟩
theorem gZ{ops:Array Oper}{rest:List Oper}{o:Oper}{a:Act}{w:World}{Q:Exit->Act->World->Prop}(hgd:o.guard=none)(ty:TypeId)(x y:Operand)(ho:o.op=.store ty x y)(g off:Nat)(hx:a.eval x=.pointer (some ⟨g,off,none⟩))
 (xs:Array Value) (hy:a.eval y=.agg xs) (t:TypeId) (cur:Array Value) (hb:aM w g t cur) (hi:(P.info? ty).map (·.size)=some xs.size) (hfit:off+xs.size<=cur.size) (h1:∀ u,u ∈ xs.toList->u.oneCell'=true)
 (h:∀ w',aM w' g t (cur.toList.take off ++ xs.toList ++ cur.toList.drop (off+xs.size)).toArray->Kp [g] w w'->wpList P ops Q rest (a.put o.dst undef) w'):wpList P ops Q (o :: rest) a w:=
 wpList_plain hgd fun K hK=>by
  unfold Oper.wp
  rw [uK ho hx hy (lI w g off t ty xs cur hb hi hfit h1)]
  exact hK _ _ (h _ (fU hb).1 (fU hb).2)
end
end
section
section
variable {P:Program} {ops:Array Oper} {Q:Exit->Act->World->Prop}
def zU (P:Program) (Q:Exit->Act->World->Prop) (PV:Nat->Value->World->Prop) (W0:World) (a0:Act) (fr:(Nat->Value)->Act) (ops:Array Oper) (o:Oper) (i:Nat):Prop:=
 ∀ (vs:Nat->Value) (A:Act) (W:World),fr vs=A->Kp [] W0 W->(∀ j,pP .any o j=true->PV j (vs j) W)->(∀ (j:Nat) (oj:Oper),ops[j]?=some oj->iS .any ops oj i=true->vs j=lZ a0 oj.dst)->
  ∀ K:Act->World->Prop,(∀ v W',Kp [] W W'->PV i v W'->K (A.put o.dst v) W')->wpOp P ops (Qn Q) i K A W
def kJ (P:Program) (Q:Exit->Act->World->Prop) (PV:Nat->Value->World->Prop) (W0:World) (a0:Act) (fr:(Nat->Value)->Act) (ops:Array Oper):List Oper->Nat->Prop
 |[],_=>True
 |o :: l,i=>zU P Q PV W0 a0 fr ops o i ∧ kJ P Q PV W0 a0 fr ops l (i+1)
theorem kJ.at_{PV:Nat->Value->World->Prop}{W0:World}{a0:Act}{fr:(Nat->Value)->Act}:∀ {l:List Oper} {k:Nat},kJ P Q PV W0 a0 fr ops l k->∀ {i o},l[i]?=some o->zU P Q PV W0 a0 fr ops o (k+i)
 |[],_,_,_,_,h=>by simp at h
 |x :: l,k,hs,i,o,h=>by
  rcases i with _|i
  . obtain rfl:x=o:=by simpa using h
    exact hs.1
  . have:=hs.2.at_ (i:=i) (o:=o) (by simpa using h)
    rwa [show k+1+i=k+(i+1) from by omega] at this
theorem uZ{a:Act}{j d:Nat}(hj:(ops[j]?).bind (·.dst)=some d)(hd:a.tmps[d]?.getD undef=undef):yielded ops a.tmps j=none:=by
 unfold yielded
 rw [hj]
 show (match a.tmps[d]? with|some (.bool b)=>some b|_=>none)=none
 cases h:a.tmps[d]? with
 |none=>rfl
 |some v=>rw [h] at hd;obtain rfl:v=undef:=hd;rfl
theorem aAc{i:Nat}{K:Act->World->Prop}{a:Act}{w:World}(o:Oper)(ho:ops[i]?=some o)(j d:Nat)(b:Bool)(hg:o.guard=some (j,b))(hj:(ops[j]?).bind (·.dst)=some d)(hd:a.tmps[d]?.getD undef=undef)(h:K (a.put o.dst undef) w):wpOp P ops Q i K a w:=by
 unfold wpOp
 simp only [ho]
 rw [if_neg (by simp [Region.wanted,hg,uZ hj hd])]
 exact h
theorem aF0{PV:Nat->Value->World->Prop}{W0:World}{a0:Act}{l:List Oper}(hst:∀ i v W W',PV i v W->Kp [] W W'->PV i v W')(hap:cX l=true)(hea:jB l 0=true)
 (hs:kJ P Q PV W0 a0 (fun vs=>bG vs l 0 a0) l.toArray l 0)
 (hend:∀ vs W,Kp [] W0 W->(∀ i,i < l.length->PV i (vs i) W)->Q .normal (bG vs l 0 a0) W):
 ∀ (fuel:Nat) (listed:Array Bool) (vs:Nat->Value) (W:World),listed.size=l.length->(listed.toList.filter (fun b=>!b)).length=fuel->Kp [] W0 W->(∀ i,listed.getD i false=true->PV i (vs i) W)->oA .any l.toArray listed->(∀ (j:Nat) (oj:Oper),l[j]?=some oj->listed.getD j false=false->vs j=lZ a0 oj.dst)->
  wpAny P .any l.toArray Q fuel listed (bG vs l 0 a0) W:=by
 have all_of:∀ (listed:Array Bool),listed.size=l.length->Region.ready .any l.toArray listed=[]->∀ i,i < l.length->listed.getD i false=true:=by
  intro listed hsz hr i
  induction i using Nat.strongRecOn with
  |_ i ih=>
   intro hi
   cases hl:listed.getD i false with
   |true=>rfl
   |false=>
    exfalso
    have hlt:i < listed.size:=by omega
    have hmem:i ∈ Region.ready .any l.toArray listed:=mem_ready.2 ⟨by simp [hlt] at hl ⊢;exact hl,l[i],by simp [hi],fun e he hb=>by
     have:=(jR l 0 i l[i] hea (by simp [hi])) e he hb
     exact ih e.on (by omega) (by omega)⟩
    rw [hr] at hmem;cases hmem
 have hnil:∀ (listed:Array Bool) vs W,listed.size=l.length->Kp [] W0 W->(∀ i,listed.getD i false=true->PV i (vs i) W)->Region.ready .any l.toArray listed=[]->Q .normal (bG vs l 0 a0) W:=
  fun listed vs W hsz hk hp hr=>hend vs W hk (fun i hi=>hp i (all_of listed hsz hr i hi))
 intro fuel
 induction fuel with
 |zero=>
  intro listed vs W hsz hf hk hp hcl hv0
  have hr:Region.ready .any l.toArray listed=[]:=by
   refine List.eq_nil_iff_forall_not_mem.2 fun i hi=>?_
   have h0:=(mem_ready.1 hi).1
   obtain ⟨_,o,ho,_⟩:=mem_ready.1 hi
   have hlt:i < listed.size:=by
    have:=(Array.getElem?_eq_some_iff.1 ho).1
    simp at this;omega
   have:listed[i] ∈ listed.toList.filter (fun b=>!b):=by
    rw [List.mem_filter]
    simp [hlt] at h0
    refine ⟨by simp,by simp [h0]⟩
   rw [List.eq_nil_of_length_eq_zero hf] at this
   cases this
  exact ⟨hr,hnil listed vs W hsz hk hp hr⟩
 |succ fuel ih=>
  intro listed vs W hsz hf hk hp hcl hv0
  refine ⟨hnil listed vs W hsz hk hp,fun i hi=>?_⟩
  obtain ⟨h0,o,ho,hall⟩:=mem_ready.1 hi
  have hol:l[i]?=some o:=by simpa using ho
  have hlt:i < listed.size:=by
   have:=(List.getElem?_eq_some_iff.1 hol).1
   omega
  refine pG ?_
  have hstep:=hs.at_ hol
  rw [Nat.zero_add] at hstep
  refine hstep vs _ W rfl hk (fun j hj=>by obtain ⟨e,he,hb,rfl⟩:=jH hj;exact hp e.on (hall e he hb)) (fun j oj hj hw=>hv0 j oj (by simpa using hj) (by
   cases hjl:listed.getD j false with
   |false=>rfl
   |true=>
    have:=fF hw listed hcl (hcl j oj hj hjl)
    have hli:listed.getD i false=false:=by simp [hlt] at h0 ⊢;exact h0
    rw [hli] at this
    cases this)) _ fun v W' hk' hv=>?_
  rw [fW vs i v l 0 a0 o hap (Nat.zero_le _) (by simpa using hol)]
  refine ih _ _ W' (by simpa using hsz) ?_ (hk.trans hk' (by simp)) (fun j hj=>?_) (hcl.add hi) (fun j oj hj hjl=>?_)
  . simp [hlt] at h0
    have h1:listed.toList=listed.toList.take i ++ false :: listed.toList.drop (i+1):=by
     rw [<- h0]
     have:=List.take_append_drop i listed.toList
     rw [List.drop_eq_getElem_cons (by simpa using hlt)] at this
     simpa using this.symm
    have h2:(listed.setIfInBounds i true).toList=listed.toList.take i ++ true :: listed.toList.drop (i+1):=by
     rw [Array.toList_setIfInBounds]
     conv=>lhs;rw [h1]
     rw [List.set_append_right _ _ (by simp;omega)]
     simp [Nat.min_eq_left (Nat.le_of_lt hlt)]
    rw [h1] at hf
    rw [h2]
    simp only [List.filter_append,List.filter_cons,List.length_append] at hf ⊢
    simp at hf ⊢
    omega
  . by_cases e:i=j
    . subst e;simpa [lN] using hv
    . rw [getD_set_ne false e] at hj
      simp only [lN,show j ≠ i from fun h=>e h.symm,if_false]
      exact hst j _ W W' (hp j hj) hk'
  . have hne:j ≠ i:=by
     rintro rfl
     simp [hlt] at hjl
    rw [getD_set_ne false (fun h=>hne h.symm)] at hjl
    simp only [lN,if_neg hne]
    exact hv0 j oj hj hjl
theorem gI{id:Nat}{a:Act}{w:World}{l:List Oper}(PV:Nat->Value->World->Prop)(hm:P.follows .mixedOrders=true)(hap:cX l=true)(hea:jB l 0=true)
 (hst:∀ i v W W',PV i v W->Kp [] W W'->PV i v W')
 (hs:kJ P Q PV w.drew a (fun vs=>bG vs l 0 a) l.toArray l 0)
 (hend:∀ vs W,Kp [] w.drew W->(∀ i,i < l.length->PV i (vs i) W)->Q .normal (bG vs l 0 a) W):(Code.region id l.toArray true).wp P Q a w:=by
 refine wp_region_any hm ?_
 have h00:∀ i,(Array.replicate l.length false).getD i false=false:=fun i=>by
  simp [Array.getElem?_replicate]
  split <;> rfl
 have h:=aF0 (P:=P) (Q:=Q) hst hap hea hs hend l.length (Array.replicate l.length false) (nH a l) w.drew (by simp) (by simp) kR (fun i hi=>by
  simp [Array.getElem?_replicate] at hi
  split at hi <;> simp at hi) (fun j oj _ hl=>by rw [h00] at hl;cases hl) (fun j oj hj _=>by simp [nH,hj])
 rw [gB a l 0 (nH a l) (fun j o ho=>by simp [nH,ho])] at h
 simpa using h
end
end
section
section
variable {P:Program} {Q:Exit->Act->World->Prop}
def aHs (P:Program) (Q:Exit->Act->World->Prop) (PV:Nat->Value->World->Prop) (W0:World) (fr:(Nat->Value)->Act) (u0:Nat->Value) (ops:Array Oper) (o:Oper) (i:Nat):Prop:=
 ∀ (vs:Nat->Value) (A:Act) (W:World),fr vs=A->Kp [] W0 W->(∀ j,Nat.blt j i=true->PV j (vs j) W)->(∀ j,Nat.ble i j=true->vs j=u0 j)->
  ∀ K:Act->World->Prop,(∀ v W',Kp [] W W'->PV i v W'->K (A.put o.dst v) W')->wpOp P ops (Qn Q) i K A W
def mX (P:Program) (Q:Exit->Act->World->Prop) (PV:Nat->Value->World->Prop) (W0:World) (fr:(Nat->Value)->Act) (u0:Nat->Value) (ops:Array Oper):List Oper->Nat->Prop
 |[],_=>True
 |o :: l,i=>aHs P Q PV W0 fr u0 ops o i ∧ mX P Q PV W0 fr u0 ops l (i+1)
theorem oL{ops:Array Oper}{o:Oper}{rest:List Oper}{a:Act}{w:World}{i:Nat}(ho:ops[i]?=some o)(h:wpOp P ops Q i (wpList P ops Q rest) a w):wpList P ops Q (o :: rest) a w:=by
 unfold wpOp at h
 simp only [ho] at h
 unfold wpList
 exact h
theorem xO{PV:Nat->Value->World->Prop}{W0:World}{a0:Act}{l l2:List Oper}{ops:Array Oper}(hops:∀ (i:Nat) (o:Oper),l[i]?=some o->ops[i]?=some o)(hst:∀ i v W W',PV i v W->Kp [] W W'->PV i v W')(hap:cX l=true)
 (hend:∀ vs W,Kp [] W0 W->(∀ i,i < l.length->PV i (vs i) W)->wpList P ops Q l2 (bG vs l 0 a0) W):
 ∀ (rest:List Oper) (i:Nat) (vs:Nat->Value) (W:World),l.drop i=rest->mX P Q PV W0 (fun vs=>bG vs l 0 a0) (nH a0 l) ops rest i->Kp [] W0 W->(∀ j,j < i->PV j (vs j) W)->(∀ j,i<=j->vs j=nH a0 l j)->
  wpList P ops Q (rest ++ l2) (bG vs l 0 a0) W
 |[],i,vs,W,hr,_,hk,hp,_=>by
  have hi:l.length<=i:=List.drop_eq_nil_iff.1 hr
  exact hend vs W hk (fun j hj=>hp j (by omega))
 |o :: rest,i,vs,W,hr,hs,hk,hp,hu=>by
  have hol:l[i]?=some o:=by
   have:(l.drop i)[0]?=some o:=by rw [hr];rfl
   rwa [List.getElem?_drop,Nat.add_zero] at this
  have hr2:l.drop (i+1)=rest:=by
   rw [<- List.drop_drop,hr];rfl
  refine oL (i:=i) (hops i o hol) (pG ?_)
  refine hs.1 vs _ W rfl hk (fun j hj=>hp j (by simpa [Nat.blt_eq] using hj)) (fun j hj=>hu j (by simpa [Nat.ble_eq] using hj)) _ fun v W' hk' hv=>?_
  rw [fW vs i v l 0 a0 o hap (Nat.zero_le _) (by simpa using hol)]
  refine xO hops hst hap hend rest (i+1) _ W' hr2 hs.2 (hk.trans hk' (by simp)) (fun j hj=>?_) (fun j hj=>?_)
  . by_cases e:j=i
    . subst e;simpa [lN] using hv
    . simp only [lN,if_neg e]
      exact hst j _ W W' (hp j (by omega)) hk'
  . simp only [lN,if_neg (show j ≠ i by omega)]
    exact hu j (by omega)
theorem rL{id:Nat}{a:Act}{w:World}{l:List Oper}(k:Nat)(PV:Nat->Value->World->Prop)(hap:cX (l.take k)=true)
 (hst:∀ i v W W',PV i v W->Kp [] W W'->PV i v W')
 (hs:mX P Q PV w (fun vs=>bG vs (l.take k) 0 a) (nH a (l.take k)) l.toArray (l.take k) 0)
 (hend:∀ vs W,Kp [] w W->(∀ i,i < (l.take k).length->PV i (vs i) W)->wpList P l.toArray Q (l.drop k) (bG vs (l.take k) 0 a) W):(Code.region id l.toArray false).wp P Q a w:=by
 refine wp_region_lit (l:=l) ?_
 have h:=xO (P:=P) (Q:=Q) (a0:=a) (l:=l.take k) (l2:=l.drop k) (ops:=l.toArray) (fun i o h=>by
  rw [List.getElem?_take] at h
  split at h
  . simpa using h
  . cases h) hst hap hend (l.take k) 0 (nH a (l.take k)) w rfl hs kR (fun j hj=>by omega) (fun _ _=>rfl)
 rwa [List.take_append_drop,gB a (l.take k) 0 (nH a (l.take k)) (fun j o ho=>by simp only [nH,Nat.zero_add,ho])] at h
theorem aH{id:Nat}{a:Act}{w:World}{l:List Oper}(PV:Nat->Value->World->Prop)(hap:cX l=true)
 (hst:∀ i v W W',PV i v W->Kp [] W W'->PV i v W')
 (hs:mX P Q PV w (fun vs=>bG vs l 0 a) (nH a l) l.toArray l 0)
 (hend:∀ vs W,Kp [] w W->(∀ i,i < l.length->PV i (vs i) W)->Q .normal (bG vs l 0 a) W):(Code.region id l.toArray false).wp P Q a w:=by
 refine wp_region_lit (l:=l) ?_
 have h:=xO (P:=P) (Q:=Q) (a0:=a) (l:=l) (l2:=[]) (ops:=l.toArray) (fun i o h=>by simpa using h) hst hap hend l 0 (nH a l) w rfl hs kR (fun j hj=>by omega) (fun _ _=>rfl)
 rwa [List.append_nil,gB a l 0 (nH a l) (fun j o ho=>by simp [nH,ho])] at h
end
end
section
open Go.RowKit
structure Res where
 fp:List Nat
 ok:World->Prop
 keep:∀ w w' S,ok w->Kp S w w'->(∀ b,b ∈ fp->b ∉ S)->ok w'
 lt:∀ w,ok w->∀ b,b ∈ fp->b < w.heap.size
def aCe (r s:Res):Prop:=∀ b,b ∈ r.fp->b ∉ s.fp
theorem aCe.symm{r s:Res}(h:aCe r s):aCe s r:=fun b hb hr=>h b hr hb
structure Held (w0 w:World) (L:List Res):Prop where
 k:Kp [] w0 w
 ok:∀ r,r ∈ L->r.ok w
 base:∀ r,r ∈ L->∀ b,b ∈ r.fp->w0.heap.size<=b
 apart:L.Pairwise aCe
theorem Held.start(w:World):Held w w []:=⟨Kp.refl _ _,by simp,by simp,List.Pairwise.nil⟩
theorem Held.at_{w0 w:World}{l1 l2:List Res}{r:Res}(h:Held w0 w (l1 ++ r :: l2)):r.ok w:=h.ok r (by simp)
theorem Held.kp{w0 w w':World}{L:List Res}(h:Held w0 w L)(hk:Kp [] w w'):Held w0 w' L:=
 ⟨h.k.trans hk (by simp),fun r hr=>r.keep w w' [] (h.ok r hr) hk (by simp),h.base,h.apart⟩
theorem Held.alloc{w0 w:World}{L:List Res}(h:Held w0 w L)(o:Obj):Held w0 (w.alloc o) L:=h.kp ((Kp.refl [] w).alloc o)
theorem Held.new{w0 w w':World}{L:List Res}(h:Held w0 w L)(r:Res)(hk:Kp [] w w')(hr:r.ok w')(hf:∀ b,b ∈ r.fp->w.heap.size<=b):Held w0 w' (r :: L):=by
 have h':=h.kp hk
 refine ⟨h'.k,fun s hs=>?_,fun s hs=>?_,List.pairwise_cons.2 ⟨fun s hs b hb hs'=>?_,h.apart⟩⟩
 . rcases List.mem_cons.1 hs with rfl|hs
   . exact hr
   . exact h'.ok s hs
 . rcases List.mem_cons.1 hs with rfl|hs
   . exact fun b hb=>Nat.le_trans h.k.size (hf b hb)
   . exact h.base s hs
 . have h1:=s.lt w (h.ok s hs) b hs'
   have h2:=hf b hb
   omega
theorem Held.drop{w0 w:World}{L:List Res}{r:Res}(h:Held w0 w (r :: L)):Held w0 w L:=
 ⟨h.k,fun s hs=>h.ok s (List.mem_cons_of_mem _ hs),fun s hs=>h.base s (List.mem_cons_of_mem _ hs),(List.pairwise_cons.1 h.apart).2⟩
theorem Held.perm{w0 w:World}{L L':List Res}(h:Held w0 w L)(hp:L.Perm L'):Held w0 w L':=
 ⟨h.k,fun r hr=>h.ok r (hp.mem_iff.2 hr),fun r hr=>h.base r (hp.mem_iff.2 hr),hp.pairwise h.apart (fun hx=>hx.symm)⟩
theorem Held.turn{w0 w w':World}{L:List Res}{r:Res}(h:Held w0 w (r :: L))(r':Res)(hk:Kp r.fp w w')(hr:r'.ok w')(hf:∀ b,b ∈ r'.fp->b ∈ r.fp ∨ w.heap.size<=b):Held w0 w' (r' :: L):=by
 have hap:=List.pairwise_cons.1 h.apart
 refine ⟨h.k.trans hk (fun g hg=>.inr (h.base r (by simp) g hg)),fun s hs=>?_,fun s hs=>?_,List.pairwise_cons.2 ⟨fun s hs b hb hs'=>?_,hap.2⟩⟩
 . rcases List.mem_cons.1 hs with rfl|hs
   . exact hr
   . exact s.keep w w' r.fp (h.ok s (List.mem_cons_of_mem _ hs)) hk (fun b hb hr=>(hap.1 s hs) b hr hb)
 . rcases List.mem_cons.1 hs with rfl|hs
   . intro b hb
     rcases hf b hb with h1|h1
     . exact h.base r (by simp) b h1
     . exact Nat.le_trans h.k.size h1
   . exact h.base s (List.mem_cons_of_mem _ hs)
 . rcases hf b hb with h1|h1
   . exact hap.1 s hs b h1 hs'
   . have:=s.lt w (h.ok s (List.mem_cons_of_mem _ hs)) b hs'
     omega
theorem tR{l1 l2:List Res}{r:Res}:(l1 ++ r :: l2).Perm (r :: (l1 ++ l2)):=List.perm_middle
theorem Held.turnAt{w0 w w':World}{l1 l2:List Res}{r:Res}(h:Held w0 w (l1 ++ r :: l2))(r':Res)(hk:Kp r.fp w w')(hr:r'.ok w')(hf:∀ b,b ∈ r'.fp->b ∈ r.fp ∨ w.heap.size<=b):Held w0 w' (l1 ++ r' :: l2):=
 ((h.perm tR).turn r' hk hr hf).perm tR.symm
theorem Held.dropAt{w0 w:World}{l1 l2:List Res}{r:Res}(h:Held w0 w (l1 ++ r :: l2)):Held w0 w (l1 ++ l2):=(h.perm tR).drop
def aG (e:TypeId) (s:Nat) (v:Value) (n:Nat) (xs:List Value):Res where
 fp:=v.ownBlock.toList
 ok:=fun w=>Ow w e s v n xs
 keep:=fun _ _ _ h hk hn=>bAr h hk (fun g hg=>hn g (by simp [hg]))
 lt:=fun _ h b hb=>bAk h (by simpa using hb)
def aB (g:Nat) (t:TypeId) (cs:Array Value):Res where
 fp:=[g]
 ok:=fun w=>aM w g t cs
 keep:=fun _ _ _ h hk hn=>h.kp hk (hn g (by simp))
 lt:=fun _ h b hb=>by simp at hb;subst hb;exact h.lt
end
section
section
variable {P:Program} {Q:Exit->Act->World->Prop} {Γ:Type}
def upg (gs:Nat->Γ) (i:Nat) (γ:Γ):Nat->Γ:=fun k=>if k=i then γ else gs k
def bB9 (l:List Oper) (m:Nat) (tk rd:Nat->List Nat):Bool:=
 (List.range l.length).all fun i=>match l[i]? with
  |none=>false
  |some o=>(tk i ++ rd i).all (fun s=>decide (s < m) && (decide (s < i) || decide (l.length<=s)) && (decide (l.length<=s) || iS .any l.toArray o s)) && decide (tk i).Nodup && (tk i).all (fun s=>!(rd i).contains s) &&
   (List.range l.length).all fun k=>decide (k=i) || match l[k]? with
    |none=>false
    |some ok=>(tk k).all fun s=>!(tk i).contains s && (!(rd i).contains s || iS .any l.toArray ok i)
structure SepOk (l:List Oper) (m:Nat) (tk rd:Nat->List Nat):Prop where
 lt:∀ i o s,l[i]?=some o->s ∈ tk i ∨ s ∈ rd i->s < m
 early:∀ i o s,l[i]?=some o->s ∈ tk i ∨ s ∈ rd i->s < i ∨ l.length<=s
 wait:∀ i o s,l[i]?=some o->s ∈ tk i ∨ s ∈ rd i->s < l.length->iS .any l.toArray o s=true
 nodup:∀ i o,l[i]?=some o->(tk i).Nodup
 own:∀ i o s,l[i]?=some o->s ∈ tk i->s ∉ rd i
 one:∀ i k o ok s,l[i]?=some o->l[k]?=some ok->i ≠ k->s ∈ tk k->s ∉ tk i
 late:∀ i k o ok s,l[i]?=some o->l[k]?=some ok->i ≠ k->s ∈ tk k->s ∈ rd i->iS .any l.toArray ok i=true
theorem aEf{l:List Oper}{m:Nat}{tk rd:Nat->List Nat}(h:bB9 l m tk rd=true):SepOk l m tk rd:=by
 have h1:∀ i o,l[i]?=some o->_:=fun i o ho=>by
  have hi:i < l.length:=(List.getElem?_eq_some_iff.1 ho).1
  have:=(List.all_eq_true.1 h) i (List.mem_range.2 hi)
  rw [ho] at this
  simp only [Bool.and_eq_true] at this
  exact this
 refine ⟨fun i o s ho hs=>?_,fun i o s ho hs=>?_,fun i o s ho hs hl=>?_,fun i o ho=>?_,fun i o s ho hs hr=>?_,fun i k o ok s ho hk hne hs ht=>?_,fun i k o ok s ho hk hne hs hr=>?_⟩
 . have:=(List.all_eq_true.1 (h1 i o ho).1.1.1) s (List.mem_append.2 hs)
   simp only [Bool.and_eq_true,decide_eq_true_eq] at this
   exact this.1.1
 . have:=(List.all_eq_true.1 (h1 i o ho).1.1.1) s (List.mem_append.2 hs)
   simp only [Bool.and_eq_true,Bool.or_eq_true,decide_eq_true_eq] at this
   exact this.1.2
 . have:=(List.all_eq_true.1 (h1 i o ho).1.1.1) s (List.mem_append.2 hs)
   simp only [Bool.and_eq_true,Bool.or_eq_true,decide_eq_true_eq] at this
   rcases this.2 with h|h
   . omega
   . exact h
 . simpa using (h1 i o ho).1.1.2
 . have:=(List.all_eq_true.1 (h1 i o ho).1.2) s hs
   simp at this
   exact this hr
 . have:=(List.all_eq_true.1 (h1 i o ho).2) k (List.mem_range.2 (List.getElem?_eq_some_iff.1 hk).1)
   rw [hk] at this
   simp only [Bool.or_eq_true,decide_eq_true_eq] at this
   rcases this with e|this
   . exact hne e.symm
   . have:=(List.all_eq_true.1 this) s hs
     simp only [Bool.and_eq_true] at this
     have:=this.1
     simp at this
     exact this ht
 . have:=(List.all_eq_true.1 (h1 i o ho).2) k (List.mem_range.2 (List.getElem?_eq_some_iff.1 hk).1)
   rw [hk] at this
   simp only [Bool.or_eq_true,decide_eq_true_eq] at this
   rcases this with e|this
   . exact absurd e.symm hne
   . have:=(List.all_eq_true.1 this) s hs
     simp only [Bool.and_eq_true,Bool.or_eq_true] at this
     rcases this.2 with h|h
     . simp at h;exact absurd hr h
     . exact h
def lX (n:Nat) (tk:Nat->List Nat) (listed:Array Bool) (s:Nat):Bool:=
 (decide (n<=s) || listed.getD s false) && (List.range n).all fun k=>!(listed.getD k false) || !(tk k).contains s
def oG (n m:Nat) (tk:Nat->List Nat) (RS:Nat->(Nat->Value)->(Nat->Γ)->List Res) (listed:Array Bool) (vs:Nat->Value) (gs:Nat->Γ):List Res:=
 (List.range m).flatMap fun s=>if lX n tk listed s then RS s vs gs else []
theorem fC{n:Nat}{tk:Nat->List Nat}{listed:Array Bool}{s:Nat}:lX n tk listed s=true ↔ (n<=s ∨ listed.getD s false=true) ∧ ∀ k,k < n->listed.getD k false=true->s ∉ tk k:=by
 simp only [lX,Bool.and_eq_true,Bool.or_eq_true,decide_eq_true_eq,List.all_eq_true,List.mem_range]
 constructor
 . rintro ⟨h1,h2⟩
   refine ⟨h1,fun k hk hl hm=>?_⟩
   have:=h2 k hk
   rw [hl] at this
   simp at this
   exact this hm
 . rintro ⟨h1,h2⟩
   refine ⟨h1,fun k hk=>?_⟩
   cases hl:listed.getD k false with
   |false=>simp
   |true=>simpa using h2 k hk hl
theorem iQ{α β:Type}:∀ {l:List α} {f g:α->List β},(∀ x ∈ l,f x=g x)->l.flatMap f=l.flatMap g
 |[],_,_,_=>rfl
 |x :: l,f,g,h=>by
  rw [List.flatMap_cons,List.flatMap_cons,h x (by simp),iQ (fun y hy=>h y (by simp [hy]))]
theorem xP{α β:Type}(l:List α)(f g:α->List β):(l.flatMap fun s=>f s ++ g s).Perm (l.flatMap f ++ l.flatMap g):=by
 induction l with
 |nil=>exact List.Perm.refl _
 |cons x l ih=>
  simp only [List.flatMap_cons,List.append_assoc]
  exact (List.Perm.append_left (f x) ((List.Perm.append_left (g x) ih).trans (List.perm_append_comm_assoc _ _ _)))
theorem xJ{α β:Type}{l l':List α}(h:l.Perm l')(f:α->List β):(l.flatMap f).Perm (l'.flatMap f):=by
 induction h with
 |nil=>exact List.Perm.refl _
 |cons x _ ih=>simp only [List.flatMap_cons];exact ih.append_left _
 |swap x y l=>simp only [List.flatMap_cons];exact List.perm_append_comm_assoc _ _ _
 |trans _ _ ih1 ih2=>exact ih1.trans ih2
theorem jL{α β:Type}(l:List α)(p:α->Bool)(f:α->List β):(l.flatMap fun s=>if p s then f s else [])=(l.filter p).flatMap f:=by
 induction l with
 |nil=>rfl
 |cons x l ih=>
  by_cases h:p x=true
  . simp only [List.flatMap_cons,List.filter_cons,h,if_true,ih]
  . simp only [List.flatMap_cons,List.filter_cons,h,ih];simp
theorem uF{l T:List Nat}(hl:l.Nodup)(hT:T.Nodup)(hs:∀ x ∈ T,x ∈ l):(l.filter fun x=>T.contains x).Perm T:=
 (List.perm_ext_iff_of_nodup (hl.filter _) hT).2 fun x=>by
  rw [List.mem_filter]
  constructor
  . rintro ⟨_,h⟩;simpa using h
  . intro h;exact ⟨hs x h,by simpa using h⟩
theorem aA1{β:Type}{m:Nat}{T:List Nat}(hT:T.Nodup)(hs:∀ x ∈ T,x < m)(p:Nat->Bool)(hp:∀ x ∈ T,p x=true)(f:Nat->List β):
 ((List.range m).flatMap fun s=>if p s then f s else []).Perm (T.flatMap f ++ (List.range m).flatMap fun s=>if p s && !T.contains s then f s else []):=by
 have h1:((List.range m).flatMap fun s=>if p s then f s else [])=(List.range m).flatMap fun s=>(if T.contains s then f s else []) ++ (if p s && !T.contains s then f s else []):=by
  congr 1
  funext s
  by_cases hc:T.contains s=true
  . have:=hp s (by simpa using hc)
    simp only [this,hc,if_true,Bool.not_true,Bool.and_false,Bool.false_eq_true,if_false,List.append_nil]
  . have hc':T.contains s=false:=by simpa using hc
    simp only [hc',Bool.false_eq_true,if_false,Bool.not_false,Bool.and_true,List.nil_append]
 rw [h1]
 refine (xP _ _ _).trans (List.Perm.append_right _ ?_)
 rw [jL]
 exact xJ (uF List.nodup_range hT (fun x hx=>List.mem_range.2 (hs x hx))) f
def aXj (l:List Oper) (m:Nat) (dp:Nat->List Nat):Bool:=
 (List.range m).all fun s=>match l[s]? with
  |none=>(dp s).isEmpty
  |some o=>(dp s).all fun j=>decide (j=s) || (decide (j < l.length) && iS .any l.toArray o j)
theorem vM{l:List Oper}{m:Nat}{dp:Nat->List Nat}(h:aXj l m dp=true){s:Nat}(hs:s < m):(l.length<=s->dp s=[]) ∧ ∀ o,l[s]?=some o->∀ j,j ∈ dp s->j=s ∨ iS .any l.toArray o j=true:=by
 have:=(List.all_eq_true.1 h) s (List.mem_range.2 hs)
 constructor
 . intro hl
   rw [List.getElem?_eq_none hl] at this
   simpa using this
 . intro o ho j hj
   rw [ho] at this
   have:=(List.all_eq_true.1 this) j hj
   simp only [Bool.or_eq_true,Bool.and_eq_true,decide_eq_true_eq] at this
   exact this.imp id (·.2)
def aC8 (P:Program) (Q:Exit->Act->World->Prop) (PV:Nat->(Nat->Value)->(Nat->Γ)->Prop) (RS:Nat->(Nat->Value)->(Nat->Γ)->List Res) (tk rd:Nat->List Nat) (w0:World) (a0:Act) (fr:(Nat->Value)->Act) (ops:Array Oper) (o:Oper) (i:Nat):Prop:=
 ∀ (vs:Nat->Value) (gs:Nat->Γ) (A:Act) (W:World) (L:List Res),fr vs=A->Held w0 W ((tk i).flatMap (fun s=>RS s vs gs) ++ L)->(∀ s,s ∈ rd i->∀ r,r ∈ RS s vs gs->r ∈ L)->(∀ j,iS .any ops o j=true->PV j vs gs)->(∀ j oj,ops[j]?=some oj->iS .any ops oj i=true->vs j=lZ a0 oj.dst)->
  ∀ K:Act->World->Prop,(∀ γ v W',Held w0 W' (RS i (lN vs i v) (upg gs i γ) ++ L)->PV i (lN vs i v) (upg gs i γ)->K (A.put o.dst v) W')->o.wp P A W K (Qn Q)
def lY (P:Program) (Q:Exit->Act->World->Prop) (PV:Nat->(Nat->Value)->(Nat->Γ)->Prop) (RS:Nat->(Nat->Value)->(Nat->Γ)->List Res) (tk rd:Nat->List Nat) (w0:World) (a0:Act) (fr:(Nat->Value)->Act) (ops:Array Oper):List Oper->Nat->Prop
 |[],_=>True
 |o :: l,i=>aC8 P Q PV RS tk rd w0 a0 fr ops o i ∧ lY P Q PV RS tk rd w0 a0 fr ops l (i+1)
theorem lY.at_{PV:Nat->(Nat->Value)->(Nat->Γ)->Prop}{RS:Nat->(Nat->Value)->(Nat->Γ)->List Res}{tk rd:Nat->List Nat}{w0:World}{a0:Act}{fr:(Nat->Value)->Act}{ops:Array Oper}:∀ {l:List Oper} {k:Nat},lY P Q PV RS tk rd w0 a0 fr ops l k->∀ {i o},l[i]?=some o->aC8 P Q PV RS tk rd w0 a0 fr ops o (k+i)
 |[],_,_,_,_,h=>by simp at h
 |x :: l,k,hs,i,o,h=>by
  rcases i with _|i
  . obtain rfl:x=o:=by simpa using h
    exact hs.1
  . have:=hs.2.at_ (i:=i) (o:=o) (by simpa using h)
    rwa [show k+1+i=k+(i+1) from by omega] at this
theorem aJk{PV:Nat->(Nat->Value)->(Nat->Γ)->Prop}{RS:Nat->(Nat->Value)->(Nat->Γ)->List Res}{tk rd:Nat->List Nat}{m:Nat}{w0:World}{a0:Act}{l:List Oper}(hsep:SepOk l m tk rd)(hnm:l.length<=m)(dp:Nat->List Nat)(hdp:aXj l m dp=true)(hd:∀ s vs vs' gs gs',(∀ j,j ∈ dp s->vs j=vs' j ∧ gs j=gs' j)->RS s vs gs=RS s vs' gs' ∧ (PV s vs gs->PV s vs' gs'))(hap:cX l=true)(hea:jE l 0=true)
 (hs:lY P Q PV RS tk rd w0 a0 (fun vs=>bG vs l 0 a0) l.toArray l 0)
 (hend:∀ vs gs W listed,(∀ i,i < l.length->listed.getD i false=true)->Held w0 W (oG l.length m tk RS listed vs gs)->(∀ i,i < l.length->PV i vs gs)->Q .normal (bG vs l 0 a0) W):
 ∀ (fuel:Nat) (listed:Array Bool) (vs:Nat->Value) (gs:Nat->Γ) (W:World),listed.size=l.length->(listed.toList.filter (fun b=>!b)).length=fuel->oA .any l.toArray listed->Held w0 W (oG l.length m tk RS listed vs gs)->(∀ i,listed.getD i false=true->PV i vs gs)->(∀ j oj,l[j]?=some oj->listed.getD j false=false->vs j=lZ a0 oj.dst)->
  wpAny P .any l.toArray Q fuel listed (bG vs l 0 a0) W:=by
 have all_of:∀ (listed:Array Bool),listed.size=l.length->Region.ready .any l.toArray listed=[]->∀ i,i < l.length->listed.getD i false=true:=by
  intro listed hsz hr i
  induction i using Nat.strongRecOn with
  |_ i ih=>
   intro hi
   cases hl:listed.getD i false with
   |true=>rfl
   |false=>
    exfalso
    have hlt:i < listed.size:=by omega
    have hmem:i ∈ Region.ready .any l.toArray listed:=mem_ready.2 ⟨by simp [hlt] at hl ⊢;exact hl,l[i],by simp [hi],fun e he hb=>by
     have:=(fN l 0 i l[i] hea (by simp [hi])).1 e he hb
     exact ih e.on (by omega) (by omega)⟩
    rw [hr] at hmem;cases hmem
 have hnil:∀ (listed:Array Bool) vs gs W,listed.size=l.length->Held w0 W (oG l.length m tk RS listed vs gs)->(∀ i,listed.getD i false=true->PV i vs gs)->Region.ready .any l.toArray listed=[]->Q .normal (bG vs l 0 a0) W:=
  fun listed vs gs W hsz hS hp hr=>hend vs gs W listed (all_of listed hsz hr) hS (fun i hi=>hp i (all_of listed hsz hr i hi))
 intro fuel
 induction fuel with
 |zero=>
  intro listed vs gs W hsz hf hcl hS hp _
  have hr:Region.ready .any l.toArray listed=[]:=by
   refine List.eq_nil_iff_forall_not_mem.2 fun i hi=>?_
   have h0:=(mem_ready.1 hi).1
   obtain ⟨_,o,ho,_⟩:=mem_ready.1 hi
   have hlt:i < listed.size:=by
    have:=(Array.getElem?_eq_some_iff.1 ho).1
    simp at this;omega
   have:listed[i] ∈ listed.toList.filter (fun b=>!b):=by
    rw [List.mem_filter]
    simp [hlt] at h0
    refine ⟨by simp,by simp [h0]⟩
   rw [List.eq_nil_of_length_eq_zero hf] at this
   cases this
  exact ⟨hr,hnil listed vs gs W hsz hS hp hr⟩
 |succ fuel ih=>
  intro listed vs gs W hsz hf hcl hS hp hv0
  refine ⟨hnil listed vs gs W hsz hS hp,fun i hi=>?_⟩
  obtain ⟨h0,o,ho,hall⟩:=mem_ready.1 hi
  have hol:l[i]?=some o:=by simpa using ho
  have hil:i < l.length:=(List.getElem?_eq_some_iff.1 hol).1
  have hlt:i < listed.size:=by omega
  have hli:listed.getD i false=false:=by simp [hlt] at h0 ⊢;exact h0
  have hgd:=(fN l 0 i o hea hol).2
  have hlive:∀ s,s ∈ tk i ∨ s ∈ rd i->lX l.length tk listed s=true:=fun s hs=>by
   refine fC.2 ⟨?_,fun k hk hkl hm=>?_⟩
   . by_cases hsl:s < l.length
     . exact .inr (fF (hsep.wait i o s hol hs hsl) listed hcl hall)
     . exact .inl (by omega)
   . have hkl':l[k]?=some l[k]:=List.getElem?_eq_getElem hk
     have hne:i ≠ k:=by rintro rfl;rw [hli] at hkl;cases hkl
     rcases hs with hs|hs
     . exact hsep.one i k o _ s hol hkl' hne hm hs
     . have hw:=hsep.late i k o _ s hol hkl' hne hm hs
       have:=fF hw listed hcl (hcl k l[k] (by simp [hk]) hkl)
       rw [hli] at this
       cases this
  have hnot:lX l.length tk listed i=false:=by
   apply Bool.eq_false_iff.2
   intro h
   rcases (fC.1 h).1 with h|h
   . omega
   . rw [hli] at h;cases h
  have hnew:∀ s,lX l.length tk (listed.setIfInBounds i true) s=(decide (s=i) || (lX l.length tk listed s && !(tk i).contains s)):=fun s=>by
   apply Bool.eq_iff_iff.2
   rw [Bool.or_eq_true,decide_eq_true_eq,Bool.and_eq_true,fC,fC]
   have hni:∀ k,k < l.length->(listed.setIfInBounds i true).getD k false=true->i ∉ tk k:=fun k hk hkl hm=>by
    by_cases hki:k=i
    . subst hki
      have:=hsep.early k o k hol (.inl hm)
      omega
    . rw [getD_set_ne false (fun h=>hki h.symm)] at hkl
      have hkl':l[k]?=some l[k]:=List.getElem?_eq_getElem hk
      have hw:=hsep.wait k l[k] i hkl' (.inl hm) hil
      have:=fF hw listed hcl (hcl k l[k] (by simp [hk]) hkl)
      rw [hli] at this
      cases this
   constructor
   . rintro ⟨h1,h2⟩
     by_cases hsi:s=i
     . exact .inl hsi
     . right
       rw [getD_set_ne false (fun h=>hsi h.symm)] at h1
       refine ⟨⟨h1,fun k hk hkl=>h2 k hk (getD_set_true hkl)⟩,?_⟩
       have:=h2 i hil (by simp [hlt])
       simpa using this
   . rintro (rfl|⟨⟨h1,h2⟩,h3⟩)
     . exact ⟨.inr (by simp [hlt]),hni⟩
     . refine ⟨h1.imp id getD_set_true,fun k hk hkl hm=>?_⟩
       by_cases hki:k=i
       . subst hki
         simp at h3
         exact h3 hm
       . rw [getD_set_ne false (fun h=>hki h.symm)] at hkl
         exact h2 k hk hkl hm
  obtain ⟨L,hL⟩:∃ L,L=(List.range m).flatMap fun s=>if lX l.length tk listed s && !(tk i).contains s then RS s vs gs else []:=⟨_,rfl⟩
  have hperm:(oG l.length m tk RS listed vs gs).Perm ((tk i).flatMap (fun s=>RS s vs gs) ++ L):=by
   rw [hL]
   exact aA1 (hsep.nodup i o hol) (fun x hx=>hsep.lt i o x hol (.inl hx)) _ (fun x hx=>hlive x (.inl hx)) _
  have hread:∀ s,s ∈ rd i->∀ r,r ∈ RS s vs gs->r ∈ L:=fun s hs r hr=>by
   rw [hL]
   refine List.mem_flatMap.2 ⟨s,List.mem_range.2 (hsep.lt i o s hol (.inr hs)),?_⟩
   have h1:=hlive s (.inr hs)
   have h2:(tk i).contains s=false:=by
    have:s ∉ tk i:=fun h=>hsep.own i o s hol h hs
    simpa using this
   simp only [h1,h2,Bool.not_false,Bool.and_true,if_true]
   exact hr
  have hsame:∀ v γ s,s < m->s ≠ i->(l.length<=s ∨ listed.getD s false=true)->RS s vs gs=RS s (lN vs i v) (upg gs i γ) ∧ (PV s vs gs->PV s (lN vs i v) (upg gs i γ)):=fun v γ s hsm hsi hs=>by
   refine hd s vs _ gs _ (fun j hj=>?_)
   obtain ⟨d1,d2⟩:=vM hdp hsm
   by_cases hsl:s < l.length
   . have hls:listed.getD s false=true:=by
      rcases hs with h|h
      . omega
      . exact h
     have hji:j ≠ i:=by
      rintro rfl
      rcases d2 l[s] (List.getElem?_eq_getElem hsl) _ hj with h|h
      . exact hsi h.symm
      . have:=fF h listed hcl (hcl s l[s] (by simp [hsl]) hls)
        rw [hli] at this
        cases this
     simp [lN,upg,hji]
   . rw [d1 (by omega)] at hj
     cases hj
  have hafter:∀ v γ,(oG l.length m tk RS (listed.setIfInBounds i true) (lN vs i v) (upg gs i γ)).Perm (RS i (lN vs i v) (upg gs i γ) ++ L):=fun v γ=>by
   unfold oG
   have h1:=aA1 (T:=[i]) (by simp) (m:=m) (fun x hx=>by simp at hx;omega) (fun s=>lX l.length tk (listed.setIfInBounds i true) s) (fun x hx=>by
    simp at hx;subst hx;rw [hnew];simp) (fun s=>RS s (lN vs i v) (upg gs i γ))
   refine h1.trans ?_
   have h2:([i].flatMap fun s=>RS s (lN vs i v) (upg gs i γ))=RS i (lN vs i v) (upg gs i γ):=by simp
   rw [h2,hL]
   refine List.Perm.append_left _ (List.Perm.of_eq ?_)
   apply iQ
   intro s hsm
   have hsm:=List.mem_range.1 hsm
   by_cases hsi:s=i
   . subst hsi
     simp [hnot]
   . rw [hnew]
     have h3:[i].contains s=false:=by simpa using hsi
     simp only [h3,hsi,decide_false,Bool.false_or,Bool.not_false,Bool.and_true]
     by_cases hlv:(lX l.length tk listed s && !(tk i).contains s)=true
     . rw [if_pos hlv,if_pos hlv]
       rw [Bool.and_eq_true] at hlv
       exact (hsame v γ s hsm hsi (fC.1 hlv.1).1).1.symm
     . rw [if_neg hlv,if_neg hlv]
  refine pG ?_
  unfold wpOp
  simp only [ho]
  rw [if_pos (by simp [Region.wanted,hgd])]
  refine .inl ?_
  have hstep:=hs.at_ hol
  rw [Nat.zero_add] at hstep
  refine hstep vs gs _ W L rfl (hS.perm hperm) hread (fun j hj=>hp j (fF hj listed hcl hall)) (fun j oj hj hw=>hv0 j oj (by simpa using hj) (by
   cases hjl:listed.getD j false with
   |false=>rfl
   |true=>
    have:=fF hw listed hcl (hcl j oj hj hjl)
    rw [hli] at this
    cases this)) _ fun γ v W' hS' hv=>?_
  rw [fW vs i v l 0 a0 o hap (Nat.zero_le _) (by simpa using hol)]
  refine ih _ _ (upg gs i γ) W' (by simpa using hsz) ?_ (hcl.add hi) (hS'.perm (hafter v γ).symm) (fun j hj=>?_) (fun j oj hj hjl=>?_)
  . simp [hlt] at h0
    have h1:listed.toList=listed.toList.take i ++ false :: listed.toList.drop (i+1):=by
     rw [<- h0]
     have:=List.take_append_drop i listed.toList
     rw [List.drop_eq_getElem_cons (by simpa using hlt)] at this
     simpa using this.symm
    have h2:(listed.setIfInBounds i true).toList=listed.toList.take i ++ true :: listed.toList.drop (i+1):=by
     rw [Array.toList_setIfInBounds]
     conv=>lhs;rw [h1]
     rw [List.set_append_right _ _ (by simp;omega)]
     simp [Nat.min_eq_left (Nat.le_of_lt hlt)]
    rw [h1] at hf
    rw [h2]
    simp only [List.filter_append,List.filter_cons,List.length_append] at hf ⊢
    simp at hf ⊢
    omega
  . by_cases e:i=j
    . subst e;exact hv
    . rw [getD_set_ne false e] at hj
      have hjm:j < m:=by
       by_cases hjl:j < l.length
       . omega
       . simp [show ¬ j < listed.size by omega] at hj
      exact (hsame v γ j hjm (fun h=>e h.symm) (.inr hj)).2 (hp j hj)
  . by_cases e:i=j
    . subst e
      simp [hlt] at hjl
    . rw [getD_set_ne false e] at hjl
      rw [<- hv0 j oj hj hjl]
      simp [lN,show j ≠ i from fun h=>e h.symm]
def bAh (n:Nat) (tk:Nat->List Nat) (s:Nat):Bool:=(List.range n).all fun k=>!(tk k).contains s
theorem aP [Inhabited Γ] {id:Nat} {a:Act} {w0 w:World} {l:List Oper} (m:Nat) (fin:List Nat) (PV:Nat->(Nat->Value)->(Nat->Γ)->Prop) (RS:Nat->(Nat->Value)->(Nat->Γ)->List Res) (tk rd:Nat->List Nat) {L0:List Res} (hS:Held w0 w L0) (hm:P.follows .mixedOrders=true)
 (hap:cX l=true) (hea:jE l 0=true) (hsep:bB9 l (l.length+m) tk rd=true) (dp:Nat->List Nat) (hdp:aXj l (l.length+m) dp=true) (hd:∀ s vs vs' gs gs',(∀ j,j ∈ dp s->vs j=vs' j ∧ gs j=gs' j)->RS s vs gs=RS s vs' gs' ∧ (PV s vs gs->PV s vs' gs')) (hfin:(List.range (l.length+m)).filter (bAh l.length tk)=fin)
 (hL0:((List.range m).flatMap fun j=>RS (l.length+j) (fun _=>undef) (fun _=>default)).Perm L0)
 (hs:lY P Q PV RS tk rd w0 a (fun vs=>bG vs l 0 a) l.toArray l 0)
 (hend:∀ vs gs W,Held w0 W (fin.flatMap fun s=>RS s vs gs)->(∀ i,i < l.length->PV i vs gs)->Q .normal (bG vs l 0 a) W):(Code.region id l.toArray true).wp P Q a w:=by
 refine wp_region_any hm ?_
 have h0:∀ i,(Array.replicate l.length false).getD i false=false:=fun i=>by
  simp [Array.getElem?_replicate]
  split <;> rfl
 have h:=aJk (P:=P) (Q:=Q) (m:=l.length+m) (aEf hsep) (by omega) dp hdp hd hap hea hs (fun vs gs W listed hall hS hp=>hend vs gs W (by
  have:oG l.length (l.length+m) tk RS listed vs gs=fin.flatMap fun s=>RS s vs gs:=by
   unfold oG
   rw [jL,<- hfin]
   congr 1
   apply List.filter_congr
   intro s hs
   have hs:=List.mem_range.1 hs
   apply Bool.eq_iff_iff.2
   rw [fC]
   simp only [bAh,List.all_eq_true,List.mem_range]
   constructor
   . rintro ⟨_,h⟩ k hk
     simpa using h k hk (hall k hk)
   . intro h
     refine ⟨?_,fun k hk _=>by simpa using h k hk⟩
     by_cases hsl:s < l.length
     . exact .inr (hall s hsl)
     . exact .inl (by omega)
  rw [this] at hS
  exact hS) hp) l.length (Array.replicate l.length false) (nH a l) (fun _=>default) w.drew (by simp) (by simp) (fun j oj _ hl=>by rw [h0] at hl;cases hl) (by
  refine (hS.kp ((Kp.refl [] w).drew)).perm ?_
  refine hL0.symm.trans (List.Perm.of_eq ?_)
  unfold oG
  rw [List.range_add,List.flatMap_append]
  have h1:((List.range l.length).flatMap fun s=>if lX l.length tk (Array.replicate l.length false) s then RS s (nH a l) (fun _=>default) else [])=[]:=by
   rw [List.flatMap_eq_nil_iff]
   intro s hs
   have hs:=List.mem_range.1 hs
   rw [if_neg]
   intro h
   rcases (fC.1 h).1 with h|h
   . omega
   . rw [h0] at h;cases h
  rw [h1,List.nil_append,List.flatMap_map]
  apply iQ
  intro j hj
  have hj:=List.mem_range.1 hj
  rw [if_pos (fC.2 ⟨.inl (by simp),fun k _ hk=>by rw [h0] at hk;cases hk⟩)]
  refine (hd _ _ _ _ _ (fun x hx=>?_)).1
  rw [(vM hdp (by omega)).1 (by omega)] at hx
  cases hx) (fun i hi=>by rw [h0] at hi;cases hi) (fun j oj hj _=>by simp [nH,hj])
 rw [gB a l 0 (nH a l) (fun j o ho=>by simp [nH,ho])] at h
 simpa using h
end
end
section
def be:Nat->Nat->List UInt8
 |0,_=>[]
 |k+1,x=>UInt8.ofNat (x / 256 ^ k) :: be k x
@[simp] theorem aMb (x:Nat):be 0 x=[]:=rfl
theorem aC3(k x:Nat):be (k+1) x=UInt8.ofNat (x / 256 ^ k) :: be k x:=rfl
@[simp] theorem fY (k x:Nat):(be k x).length=k:=by
 induction k with
 |zero=>rfl
 |succ k ih=>rw [aC3,List.length_cons,ih]
def lM (l:List UInt8):Nat:=l.foldl (fun a b=>256 * a+b.toNat) 0
theorem oI(l:List UInt8)(b:UInt8):lM (l ++ [b])=256 * lM l+b.toNat:=by simp [lM]
@[simp] theorem bBk:lM []=0:=rfl
end
section
open Go.RowKit
def aA (cs:List UInt8):Array Value:=(bv cs).toArray
theorem aC(cs:List UInt8):(aA cs).size=cs.length:=by simp [aA,aX]
theorem fV(cs:List UInt8):(aA cs).toList=bv cs:=rfl
theorem aM.agg{w:World}{g:Nat}{t:TypeId}{cs:Array Value}(h:aM w g t cs):∀ j u,cs.toList[j]?=some u->w.cell? ((⟨g,0,none⟩:Addr).add j)=some u:=by
 intro j u hu
 have:=h.cell j
 rw [Array.getElem?_toList] at hu
 rw [hu] at this
 by_cases hj:j=0
 . subst hj;simpa [Addr.add] using this
 . simpa [Addr.add,hj] using this
theorem rZ(cur cs:Array Value)(h:cur.size=cs.size):(cur.toList.take 0 ++ cs.toList ++ cur.toList.drop (0+cs.size)).toArray=cs:=by
 rw [List.drop_eq_nil_of_le (by rw [Array.length_toList];omega)]
 simp
theorem cG{P:Program}{fn:Func}{w:World}{tmps:Array Value}{a t u g:Nat}{t':TypeId}{cs:Array Value}{d:TypeDesc}(h:fn.results=#[.cell a t,.tmp u])(ha:tmps.getD a undef=.pointer (some ⟨g,0,none⟩))(hb:aM w g t' cs)
 (hu:P.underlying t=some d) (hd:nW d=true) (hi:(P.info? t).map (·.size)=some cs.size):(results fn tmps).run P w=.ok (.tuple #[.agg cs,tmps.getD u undef]) w:=by
 have hl:(loadCells ⟨g,0,none⟩ cs.size).run P w=.ok cs w:=by
  have:=run_loadCells_list (P:=P) w ⟨g,0,none⟩ cs.toList hb.agg
  simpa using this
 cases hq:P.info? t with
 |none=>simp [hq] at hi
 |some i=>
  have hs:i.size=cs.size:=by simpa [hq] using hi
  simp only [Array.getD_eq_getD_getElem?] at ha
  simp [results,h,ha,loadVar,asAddr,Sem.run_bind,gX hu hd,sizeOf,typeInfo,hq,hs,hl]
section
variable {P:Program} (w:World)
end
end
section
open Go.RowKit
theorem cZ(w:World)(e:TypeId)(s n:Nat)(cs:Array Value)(h:cs.size=n * s)(hn:n<=maxLen):Ow (w.alloc (.cells cs e)) e s (.slice (some ⟨w.heap.size,0,none⟩) n n) n cs.toList:=
 ⟨by simpa using h,.inr ⟨w.heap.size,n,cs,rfl,Nat.zero_le _,heap_alloc_new w _,Nat.le_refl _,hn,h,by rw [<- h,<- Array.length_toList,List.take_length]⟩⟩
theorem aCl{w:World}{s n c:Nat}{ad:Addr}{xs:List Value}(hl:xs.length=n * s)(h1:n<=c)(h2:c<=maxLen)(h:∀ a,some ad=some a->∀ j u,xs[j]?=some u->w.cell? (a.add j)=some u):Rd w s (.slice (some ad) n c) n xs:=
 ⟨hl,some ad,c,rfl,h1,h2,(fun h=>by cases h),h⟩
theorem xD(w:World)(a:Option Addr)(n c:Nat):(binOp .eql 32 (.slice a n c) (.slice none 0 0)).run prog w=.ok (.bool a.isNone) w:=
 Lib.run_eql_slice_nil (P:=prog) w 32 5 a n c 0 0 underlying32
attribute [go_sem] xD
theorem bC2:(prog.info? 5).map (fun i=>(i.zero,i.size,i.bytes))=some (some (.int .u8 0),1,1):=by kernel_rfl
theorem jM(w:World)(e:TypeId)(cs:Array Value)(l:List UInt8)(h:cs.toList=bv l)(hn:l.length<=4096):Rd (w.alloc (.cells cs e)) 1 (.slice (some ⟨w.heap.size,0,none⟩) l.length l.length) l.length (bv l):=by
 have:=cZ w e 1 l.length cs (by rw [<- Array.length_toList,h,aX];simp) (by unfold maxLen;omega)
 rw [h] at this
 exact Rd.of_own this
theorem aNc{w:World}{x:Value}{bs:List UInt8}{n:Nat}(h:Rd w 1 x n (bv bs)):(convert 32 9 x).run prog w=.ok (.string ⟨bs.toArray⟩) w:=
 aM8 32 9 5 underlying32 underlying5 underlying9 h
theorem eG{w:World}{s:Nat}{x:Value}{n:Nat}{xs:List Value}(h:Rd w s x n xs):∃ A c,x=.slice A n c:=by
 obtain ⟨_,A,c,rfl,_⟩:=h;exact ⟨A,c,rfl⟩
theorem aKv{g' g o n c:Nat}(h:g' ∈ (Value.slice (some ⟨g,o,none⟩) n c).ownBlock.toList):g'=g:=by simpa [Value.ownBlock,eq_comm] using h
theorem sC{w:World}{e:TypeId}{s n:Nat}{v:Value}{xs:List Value}(h:Ow w e s v n xs)(hn:0 < n):∃ g c,v=.slice (some ⟨g,0,none⟩) n c ∧ n<=c ∧ c<=maxLen:=by
 rcases h.2 with ⟨_,h0⟩|⟨g,cap,cur,rfl,_,_,hnc,hcm,_⟩
 . omega
 . exact ⟨g,cap,rfl,hnc,hcm⟩
theorem aT{w w':World}{s n:Nat}{v:Value}{xs:List Value}(h:Rd w s v n xs)(hk:Kp [] w w'):Rd w' s v n xs:=h.kp hk (by simp)
theorem Held.grow{w0 w w':World}{l1 l2:List Res}{e:TypeId}{s n n':Nat}{v v':Value}{xs xs':List Value}(h:Held w0 w (l1 ++ aG e s v n xs :: l2))(ho:Ow w' e s v' n' xs')(hg:w.grownBy w' v.ownBlock)(hv:v'.ownBlock=v.ownBlock ∨ v'.ownBlock=some w.heap.size):
 Held w0 w' (l1 ++ aG e s v' n' xs' :: l2):=
 h.turnAt (aG e s v' n' xs') (Kp.of_grown hg) ho (fun b hb=>by
  rcases hv with e|e
  . exact .inl (by simpa [aG,e] using hb)
  . simp only [aG,e,Option.toList_some,List.mem_singleton] at hb;exact .inr (by omega))
theorem Held.set{w0 w:World}{l1 l2:List Res}{g:Nat}{t:TypeId}{cs:Array Value}(h:Held w0 w (l1 ++ aB g t cs :: l2))(i:Nat)(u:Value):Held w0 (w.setCell ⟨g,i,none⟩ u) (l1 ++ aB g t (cs.setIfInBounds i u) :: l2):=
 h.turnAt (aB g t (cs.setIfInBounds i u)) ((Kp.refl [g] w).setCell (.inl (by simp)) u) (h.at_.set_ i u) (fun _ hb=>.inl hb)
theorem Held.rownew{w0 w w':World}{L:List Res}{e:TypeId}{s n:Nat}{v:Value}{xs:List Value}(h:Held w0 w L)(ho:Ow w' e s v n xs)(hk:Kp [] w w')(hf:∀ g,v.ownBlock=some g->w.heap.size<=g):Held w0 w' (aG e s v n xs :: L):=
 h.new _ hk ho (fun b hb=>hf b (by simpa [aG] using hb))
theorem yN(x:Nat):IntKind.u8.wrap (x:Int)=((x % 256:Nat):Int):=by
 simp [IntKind.wrap,IntKind.bits,IntKind.signed]
theorem aNs{z:Int}(h:(Lit.int .i64 z).wf=true):-9223372036854775808<=z ∧ z<=9223372036854775807:=by simpa [Lit.wf,IntKind.min,IntKind.max,IntKind.signed,IntKind.bits] using h
theorem mV{cs:List Value}{i:Nat}{v:Value}(h:(cs.drop i).take 1=[v]):cs[i]?=some v:=by
 have h0:((cs.drop i).take 1)[0]?=some v:=by rw [h];rfl
 rw [List.getElem?_take] at h0
 simpa using h0
theorem aIy(cs:List Value)(i:Nat):(cs.drop i).take 1=(cs[i]?).toList:=by
 rcases h:cs[i]? with _|v
 . rw [List.drop_eq_nil_of_le (by simpa using h)];rfl
 . obtain ⟨hlt,rfl⟩:=List.getElem?_eq_some_iff.1 h
   rw [List.drop_eq_getElem_cons hlt];rfl
theorem bCc:prog.cellsOf 5=1:=by kernel_rfl
theorem aBb{B:Nat}{w1:World}{v v':Value}(h:B<=w1.heap.size)(hf:∀ g,v.ownBlock=some g->B<=g)(ha:v'.ownBlock=v.ownBlock ∨ v'.ownBlock=some w1.heap.size):∀ g,v'.ownBlock=some g->B<=g:=by
 intro g hg
 rcases ha with e|e
 . exact hf g (by rw [<- e];exact hg)
 . rw [e] at hg;injection hg with hg;omega
theorem Held.newBlk{w0 w:World}{L:List Res}(h:Held w0 w L)(t:TypeId)(cs:Array Value):Held w0 (w.alloc (.cells cs t)) (aB w.heap.size t cs :: L):=
 h.new (aB w.heap.size t cs) ((Kp.refl [] w).alloc (.cells cs t)) (aM.new w t cs) (fun b hb=>by
  have hb:b=w.heap.size:=by simpa [aB] using hb
  omega)
theorem Held.newBlkN{w0 w:World}{L:List Res}(h:Held w0 w L)(t:TypeId)(cs:Array Value){g:Nat}(hg:w.heap.size=g):Held w0 (w.alloc (.cells cs t)) (aB g t cs :: L):=hg ▸ h.newBlk t cs
theorem aM.newN(w:World)(t:TypeId)(cs:Array Value){g:Nat}(hg:w.heap.size=g):aM (w.alloc (.cells cs t)) g t cs:=hg ▸ aM.new w t cs
theorem aM.c1{w:World}{g:Nat}{t:TypeId}{a:Value}(h:aM w g t #[a]):w.cell? ⟨g,0,none⟩=some a ∧ w.frozen? ⟨g,0,none⟩=false ∧ g < w.heap.size:=⟨h.cell 0,h.frozen 0,h.lt⟩
theorem aM.c2{w:World}{g:Nat}{t:TypeId}{a b:Value}(h:aM w g t #[a,b]):w.cell? ⟨g,0,none⟩=some a ∧ w.cell? ⟨g,1,none⟩=some b ∧ w.frozen? ⟨g,0,none⟩=false ∧ w.frozen? ⟨g,1,none⟩=false ∧ g < w.heap.size:=⟨h.cell 0,h.cell 1,h.frozen 0,h.frozen 1,h.lt⟩
theorem qE{ops:Array Oper}{rest:List Oper}{o:Oper}{a:Act}{w:World}{Q:Exit->Act->World->Prop}(hgd:o.guard=none)(s x:Operand)
 (ho:o.op=.call { callee:=.builtin .append,args:=#[s,x],argTypes:=#[32,32] })
 (v:Value) (xs:List UInt8) (hs:a.eval s=v) (hown:Ow w 5 1 v xs.length (bv xs))
 (y:Value) (ys:List UInt8) (hx:a.eval x=y) (hr:Rd w 1 y ys.length (bv ys))
 (w0:World) (h0:Kp [] w0 w) (hf:∀ g,v.ownBlock=some g->w0.heap.size<=g) (hb:xs.length+ys.length<=140737488355328)
 (h:∀ v' w',Ow w' 5 1 v' (xs ++ ys).length (bv (xs ++ ys))->Kp [] w0 w'->Kp v.ownBlock.toList w w'->(∀ g,v'.ownBlock=some g->w0.heap.size<=g)->(v'.ownBlock=v.ownBlock ∨ v'.ownBlock=some w.heap.size)->wpList prog ops Q rest (a.put o.dst v') w'):wpList prog ops Q (o :: rest) a w:=by
 obtain ⟨i0,hi,hz0,hz1,hz2⟩:=info_parts bC2
 refine gR (P:=prog) w hgd s x 32 ho 5 i0 _ 1 1 underlying32 hi hz0 hz1 hz2 rfl (by decide) v xs.length (bv xs) hs hown y ys.length (bv ys) hx hr (eI _) (by unfold maxLen;omega) (by omega) ?_
 intro v' w' h1 h2 h3
 rw [<- fX,<- List.length_append] at h1
 exact h v' w' h1 (h0.grown h2 (fun g hg=>.inr (hf g hg))) (Kp.of_grown h2) (aBb h0.size hf h3) h3
theorem bQ{P:Program}{o:Oper}{a:Act}{w w':World}{K:Act->World->Prop}{Q:Exit->Act->World->Prop}{v:Value}(h:(execOp a.eval o).run P w=.ok (.value v) w')(hK:K (a.put o.dst v) w'):o.wp P a w K Q:=by
 unfold Oper.wp
 rw [h]
 exact hK
theorem lO{P:Program}{o:Oper}{a:Act}{w0 w:World}{K:Act->World->Prop}{Q:Exit->Act->World->Prop}{L:List Res}(s x:Operand)(t e:TypeId)
 (ho:o.op=.call { callee:=.builtin .append,args:=#[s,x],argTypes:=#[t,t] })
 {size bytes:Nat} {z:Value} (hI:(P.info? e).map (fun i=>(i.zero,i.size,i.bytes))=some (some z,size,bytes)) (ht:P.underlying t=some (.slice e)) (hzs:z.cells.size=size) (hsz:0 < size)
 (v:Value) (n:Nat) (xs:List Value) (hs:a.eval s=v) (S:Held w0 w (aG e size v n xs :: L))
 (y:Value) (m:Nat) (news:List Value) (hx:a.eval x=y) (hr:Rd w size y m news) (h1:∀ u ∈ news,u.oneCell'=true)
 (h63:n+m<=maxLen) (hbytes:(n+m) * bytes<=140737488355328)
 (h:∀ v' w',Held w0 w' (aG e size v' (n+m) (xs ++ news) :: L)->K (a.put o.dst v') w'):o.wp P a w K Q:=by
 obtain ⟨i0,hi,hz,hsize,hby⟩:=info_parts hI
 obtain ⟨v',w',hrun,h2,h3,h4⟩:=aC1 (P:=P) w t o.type e i0 z size bytes ht hi hz hsize hby hzs hsz v n xs (S.at_ (l1:=[])) y m news hr h1 h63 hbytes
 refine bQ (v:=v') (w':=w') ?_ (h v' w' (S.grow (l1:=[]) h2 h3 h4))
 unfold execOp
 simp only [ho,resolve,invoke,builtin,Sem.run_bind,Sem.run_pure,Result.andThen_ok,List.map_toArray,List.map_cons,List.map_nil,hs,hx,hrun]
theorem nV{P:Program}{o:Oper}{a:Act}{w0 w:World}{K:Act->World->Prop}{Q:Exit->Act->World->Prop}{L:List Res}(s x:Operand)(t e:TypeId)
 (ho:o.op=.call { callee:=.builtin .append,args:=#[s,x],argTypes:=#[t,t] })
 {size bytes:Nat} {z:Value} (hI:(P.info? e).map (fun i=>(i.zero,i.size,i.bytes))=some (some z,size,bytes)) (ht:P.underlying t=some (.slice e)) (hzs:z.cells.size=size) (hsz:0 < size)
 (hs:a.eval s=.slice none 0 0) (S:Held w0 w L)
 (y:Value) (m:Nat) (news:List Value) (hx:a.eval x=y) (hr:Rd w size y m news) (h1:∀ u ∈ news,u.oneCell'=true)
 (h63:m<=maxLen) (hbytes:m * bytes<=140737488355328)
 (h:∀ v' w',Held w0 w' (aG e size v' m news :: L)->K (a.put o.dst v') w'):o.wp P a w K Q:=
 lO s x t e ho hI ht hzs hsz (.slice none 0 0) 0 [] hs (S.rownew (World.ownsRow_nil _ _ _ _) (Kp.refl [] w) (by simp [Value.ownBlock])) y m news hx hr h1 (by omega) (by simpa using hbytes) (fun v' w' S'=>h v' w' (by simpa using S'))
def aFq:Value->Value
 |.slice A n c=>.slice A (n+1) c
 |v=>v
theorem iN{w0 w:World}{L:List Res}{e:TypeId}{s:Nat}{v:Value}{n:Nat}{xs:List Value}(S:Held w0 w L)(h:aG e s v n xs ∈ L):Rd w s v n xs:=Rd.of_own (S.ok _ h)
end
section
section
variable {vs:Nat->Value} {l:List Oper} {a A:Act} {N j:Nat} {v:Value}
theorem eV(d:Nat)(f:vs j=v)(hA:(fun vs=>bG vs l 0 a) vs=A:=by exact hA)(hB:cX l=true:=by exact hap)(h:a.tmps.size=N:=by exact hsz)(hd:Nat.ble (d+1) N=true:=by rfl)(e:wS vs l 0 d=some (vs j):=by kernel_rfl):A.tmps[d]?.getD undef=v:=sV d f hA hB h hd e
theorem eO(d:Nat)(o:Sl a d v)(hA:(fun vs=>bG vs l 0 a) vs=A:=by exact hA)(hB:cX l=true:=by exact hap)(h:a.tmps.size=N:=by exact hsz)(hd:Nat.ble (d+1) N=true:=by rfl)(e:wS vs l 0 d=none:=by kernel_rfl):A.tmps[d]?.getD undef=v:=sO d o hA hB h hd e
theorem eU(d j:Nat)(hA:(fun vs=>bG vs l 0 a) vs=A:=by exact hA)(hB:cX l=true:=by exact hap)(h:a.tmps.size=N:=by exact hsz)(hd:Nat.ble (d+1) N=true:=by rfl)(e:wS vs l 0 d=some (vs j):=by kernel_rfl):A.tmps[d]?.getD undef=vs j:=sU d j hA hB h hd e
theorem vD(d j:Nat)(hA:(fun vs=>bG vs l 0 a) vs=A:=by exact hA){H C:Nat->Prop}(h:∀ j,C j->H j:=by exact hd)(c:C j:=by kernel_rfl)(f:H j->vs j=v:=by exact id)(hB:cX l=true:=by exact hap)(hz:a.tmps.size=N:=by exact hsz)(hd:Nat.ble (d+1) N=true:=by rfl)(e:wS vs l 0 d=some (vs j):=by kernel_rfl):A.tmps[d]?.getD undef=v:=sV d (f (h j c)) hA hB hz hd e
def GV (_:Nat) (p:Prop):Prop:=p
theorem vG{d j:Nat}(hA:(fun vs=>bG vs l 0 a) vs=A:=by exact hA){H C:Nat->Prop}(h:∀ j,C j->H j:=by exact hd)(c:C j:=by kernel_rfl)(f:H j->vs j=v:=by exact id)(hB:cX l=true:=by exact hap)(hz:a.tmps.size=N:=by exact hsz)(hd:Nat.ble (d+1) N=true:=by rfl)(e:wS vs l 0 d=some (vs j):=by kernel_rfl):GV j (A.tmps[d]?.getD undef=v):=sV d (f (h j c)) hA hB hz hd e
end
theorem kf{G:Prop}(h:G:=by kernel_rfl):G:=h
theorem lK{G:Prop}(k:G:=by ((try clear hA);(try clear hd);(try clear hu);go_step;(first|exact hK _ _ kR rfl|exact hK _ _ kR trivial|exact hK _ _ S rfl|exact hK _ _ S trivial|exact hK default _ _ S rfl|exact hK default _ _ S trivial|exact hK _ _ rfl S|exact hK _ _ trivial S|exact hK _ _ kR (by first|(refine congrArg Value.bool ?_;simp;done)|(refine congrArg Value.bool ?_;simp;omega)|(refine congrArg Value.bool ?_;omega))))):G:=k
theorem aJ{P1 G:Prop}(e1:P1)(k:P1->G:=by (intro _;exact lK)):G:=k e1
theorem cM{P1 P2 G:Prop}(e1:P1)(e2:P2)(k:P1->P2->G:=by (intro _ _;exact lK)):G:=k e1 e2
theorem qa3{P1 P2 P3 G:Prop}(e1:P1)(e2:P2)(e3:P3)(k:P1->P2->P3->G:=by (intro _ _ _;exact lK)):G:=k e1 e2 e3
theorem qa4{P1 P2 P3 P4 G:Prop}(e1:P1)(e2:P2)(e3:P3)(e4:P4)(k:P1->P2->P3->P4->G:=by (intro _ _ _ _;exact lK)):G:=k e1 e2 e3 e4
theorem qa5{P1 P2 P3 P4 P5 G:Prop}(e1:P1)(e2:P2)(e3:P3)(e4:P4)(e5:P5)(k:P1->P2->P3->P4->P5->G:=by (intro _ _ _ _ _;exact lK)):G:=k e1 e2 e3 e4 e5
theorem qB{G:Prop}(k:G:=by first|exact hK _ _ kR rfl|exact hK _ _ S rfl|exact hK default _ _ S rfl|exact hK _ _ rfl S):G:=k
section
variable {P:Program} {ops:Array Oper} {Q:Exit->Act->World->Prop} {i:Nat} {K:Act->World->Prop} {a:Act} {w:World}
theorem qS(j:Nat){d:Nat}(b:Bool)(hd:a.tmps[d]?.getD undef=.bool (!b)){o:Oper}(h:K (a.put o.dst undef) w:=by first|exact hK _ _ kR trivial|exact hK _ _ kR rfl|exact hK _ _ trivial S|exact hK _ _ rfl S)(ho:ops[i]?=some o:=by rfl)(hg:o.guard=some (j,b):=by rfl)(hj:(ops[j]?).bind (·.dst)=some d:=by rfl):wpOp P ops Q i K a w:=vO o ho j d b hg hj hd h
theorem qT(j:Nat){d:Nat}(b:Bool)(hd:a.tmps[d]?.getD undef=undef){o:Oper}(h:K (a.put o.dst undef) w:=by first|exact hK _ _ kR trivial|exact hK _ _ kR rfl|exact hK _ _ trivial S|exact hK _ _ rfl S)(ho:ops[i]?=some o:=by rfl)(hg:o.guard=some (j,b):=by rfl)(hj:(ops[j]?).bind (·.dst)=some d:=by rfl):wpOp P ops Q i K a w:=aAc o ho j d b hg hj hd h
theorem qG(j:Nat){d:Nat}{b:Bool}(hd:a.tmps[d]?.getD undef=.bool b){o:Oper}(h:o.wp P a w K Q)(ho:ops[i]?=some o:=by rfl)(hg:o.guard=some (j,b):=by rfl)(hj:(ops[j]?).bind (·.dst)=some d:=by rfl):wpOp P ops Q i K a w:=fQ o ho j d b hg hj hd h
theorem gq0(j:Nat){d:Nat}{b:Bool}(hd:a.tmps[d]?.getD undef=.bool b){o:Oper}(ho:ops[i]?=some o:=by rfl)(hg:o.guard=some (j,b):=by rfl)(hj:(ops[j]?).bind (·.dst)=some d:=by rfl)(h:o.wp P a w K Q:=by ((conv=>arg 2;whnf);exact lK)):wpOp P ops Q i K a w:=fQ o ho j d b hg hj hd (h)
theorem gq1{P1:Prop}(j:Nat){d:Nat}{b:Bool}(hd:a.tmps[d]?.getD undef=.bool b)(e1:P1){o:Oper}(ho:ops[i]?=some o:=by rfl)(hg:o.guard=some (j,b):=by rfl)(hj:(ops[j]?).bind (·.dst)=some d:=by rfl)(h:P1->o.wp P a w K Q:=by (intro _;(conv=>arg 2;whnf);exact lK)):wpOp P ops Q i K a w:=fQ o ho j d b hg hj hd (h e1)
theorem gq2{P1:Prop}{P2:Prop}(j:Nat){d:Nat}{b:Bool}(hd:a.tmps[d]?.getD undef=.bool b)(e1:P1)(e2:P2){o:Oper}(ho:ops[i]?=some o:=by rfl)(hg:o.guard=some (j,b):=by rfl)(hj:(ops[j]?).bind (·.dst)=some d:=by rfl)(h:P1->P2->o.wp P a w K Q:=by (intro _ _;(conv=>arg 2;whnf);exact lK)):wpOp P ops Q i K a w:=fQ o ho j d b hg hj hd (h e1 e2)
theorem gq3{P1:Prop}{P2:Prop}{P3:Prop}(j:Nat){d:Nat}{b:Bool}(hd:a.tmps[d]?.getD undef=.bool b)(e1:P1)(e2:P2)(e3:P3){o:Oper}(ho:ops[i]?=some o:=by rfl)(hg:o.guard=some (j,b):=by rfl)(hj:(ops[j]?).bind (·.dst)=some d:=by rfl)(h:P1->P2->P3->o.wp P a w K Q:=by (intro _ _ _;(conv=>arg 2;whnf);exact lK)):wpOp P ops Q i K a w:=fQ o ho j d b hg hj hd (h e1 e2 e3)
theorem gq4{P1:Prop}{P2:Prop}{P3:Prop}{P4:Prop}(j:Nat){d:Nat}{b:Bool}(hd:a.tmps[d]?.getD undef=.bool b)(e1:P1)(e2:P2)(e3:P3)(e4:P4){o:Oper}(ho:ops[i]?=some o:=by rfl)(hg:o.guard=some (j,b):=by rfl)(hj:(ops[j]?).bind (·.dst)=some d:=by rfl)(h:P1->P2->P3->P4->o.wp P a w K Q:=by (intro _ _ _ _;(conv=>arg 2;whnf);exact lK)):wpOp P ops Q i K a w:=fQ o ho j d b hg hj hd (h e1 e2 e3 e4)
theorem sk{j d:Nat}{b:Bool}{o:Oper}(ho:ops[i]?=some o:=by rfl)(hg:o.guard=some (j,b):=by rfl)(hj:(ops[j]?).bind (·.dst)=some d:=by rfl)(hd:GV j (a.tmps[d]?.getD undef=.bool (!b)):=by exact vG)(h:K (a.put o.dst undef) w:=by first|exact hK _ _ kR trivial|exact hK _ _ kR rfl|exact hK _ _ trivial S|exact hK _ _ rfl S):wpOp P ops Q i K a w:=vO o ho j d b hg hj hd h
theorem qH{j d:Nat}{b:Bool}{o:Oper}(h:o.wp P a w K Q)(ho:ops[i]?=some o:=by rfl)(hg:o.guard=some (j,b):=by rfl)(hj:(ops[j]?).bind (·.dst)=some d:=by rfl)(hd:GV j (a.tmps[d]?.getD undef=.bool b):=by exact vG):wpOp P ops Q i K a w:=fQ o ho j d b hg hj hd h
theorem g0'{j d:Nat}{b:Bool}{o:Oper}(ho:ops[i]?=some o:=by rfl)(hg:o.guard=some (j,b):=by rfl)(hj:(ops[j]?).bind (·.dst)=some d:=by rfl)(hd:GV j (a.tmps[d]?.getD undef=.bool b):=by exact vG)(h:o.wp P a w K Q:=by ((conv=>arg 2;whnf);exact lK)):wpOp P ops Q i K a w:=fQ o ho j d b hg hj hd (h)
theorem cC{P1:Prop}{j d:Nat}{b:Bool}(e1:P1){o:Oper}(ho:ops[i]?=some o:=by rfl)(hg:o.guard=some (j,b):=by rfl)(hj:(ops[j]?).bind (·.dst)=some d:=by rfl)(hd:GV j (a.tmps[d]?.getD undef=.bool b):=by exact vG)(h:P1->o.wp P a w K Q:=by (intro _;(conv=>arg 2;whnf);exact lK)):wpOp P ops Q i K a w:=fQ o ho j d b hg hj hd (h e1)
theorem xZ{P1:Prop}{P2:Prop}{j d:Nat}{b:Bool}(e1:P1)(e2:P2){o:Oper}(ho:ops[i]?=some o:=by rfl)(hg:o.guard=some (j,b):=by rfl)(hj:(ops[j]?).bind (·.dst)=some d:=by rfl)(hd:GV j (a.tmps[d]?.getD undef=.bool b):=by exact vG)(h:P1->P2->o.wp P a w K Q:=by (intro _ _;(conv=>arg 2;whnf);exact lK)):wpOp P ops Q i K a w:=fQ o ho j d b hg hj hd (h e1 e2)
theorem g3'{P1:Prop}{P2:Prop}{P3:Prop}{j d:Nat}{b:Bool}(e1:P1)(e2:P2)(e3:P3){o:Oper}(ho:ops[i]?=some o:=by rfl)(hg:o.guard=some (j,b):=by rfl)(hj:(ops[j]?).bind (·.dst)=some d:=by rfl)(hd:GV j (a.tmps[d]?.getD undef=.bool b):=by exact vG)(h:P1->P2->P3->o.wp P a w K Q:=by (intro _ _ _;(conv=>arg 2;whnf);exact lK)):wpOp P ops Q i K a w:=fQ o ho j d b hg hj hd (h e1 e2 e3)
theorem g4'{P1:Prop}{P2:Prop}{P3:Prop}{P4:Prop}{j d:Nat}{b:Bool}(e1:P1)(e2:P2)(e3:P3)(e4:P4){o:Oper}(ho:ops[i]?=some o:=by rfl)(hg:o.guard=some (j,b):=by rfl)(hj:(ops[j]?).bind (·.dst)=some d:=by rfl)(hd:GV j (a.tmps[d]?.getD undef=.bool b):=by exact vG)(h:P1->P2->P3->P4->o.wp P a w K Q:=by (intro _ _ _ _;(conv=>arg 2;whnf);exact lK)):wpOp P ops Q i K a w:=fQ o ho j d b hg hj hd (h e1 e2 e3 e4)
theorem dC(X:Array Value){d ty:Nat}{ad:Addr}{ds:TypeDesc}{o:Oper}(e:a.tmps[d]?.getD undef=.pointer (some ad))(hc:∀ j u,X.toList[j]?=some u->w.cell? (ad.add j)=some u)(hu:P.underlying ty=some ds)(hi:(P.info? ty).map (·.size)=some X.size)(hk:K (a.put o.dst (.agg X)) w:=by exact qB)(ho:o.op=.load ty (.tmp d):=by rfl)(hs:nW ds=true:=by rfl):o.wp P a w K Q:=
  bQ (v:=.agg X) (w':=w) (dK ho (by simpa [Act.eval] using e) (bY w ad ty X.toList _ hc hu hs (by rw [hi,Array.length_toList]))) hk
theorem aM.sub{g off:Nat}{t:TypeId}{cs:Array Value}{X:List Value}(hb:aM w g t cs)(h:∀ j u,X[j]?=some u->cs[j+off]?=some u):∀ j u,X[j]?=some u->w.cell? ((⟨g,off,none⟩:Addr).add j)=some u:=fun j u hj=>by
  rw [Addr.add_lit,Nat.add_comm off j,hb.cell]
  exact h j u hj
theorem aM.k0{w w':World}{g:Nat}{t:TypeId}{cs:Array Value}(hb:aM w g t cs)(k:Kp [] w w'):aM w' g t cs:=hb.kp k (by simp)
end
theorem pA{G:Prop}(k:G:=by (simp only [List.range,List.range.loop,List.flatMap_cons,List.flatMap_nil,List.append_nil,List.cons_append,List.nil_append];exact List.Perm.refl _)):G:=k
theorem lA{G:Prop}(k:G:=by (intro s vs vs' gs gs' h;(repeat (first|exact ⟨rfl,id⟩|(rcases s with _|s;· (first|exact ⟨rfl,id⟩|(simp only [List.mem_cons,List.not_mem_nil,or_false,forall_eq_or_imp,forall_eq] at h;simp [h]))))))):G:=k
abbrev Pq (g o:Nat):Value:=.pointer (some ⟨g,o,none⟩)
abbrev Nq (n:Nat):Value:=.int .i64 (n:Int)
def dsT (i:Nat) (f:Func):List Nat:=(aK i f).filterMap (·.dst)
theorem Same.q{a a':Act}{ds:List Nat}{d:Nat}{v:Value}(hs:Same a a' ds)(o:Sl a d v)(h:ds.contains d=false:=by kernel_rfl):Sl a' d v:=hs.keep d v h o
def bK (i:Nat) (f:Func) (Q:Exit->Act->World->Prop) (a:Act) (w:World) (R:Act->Prop->Prop):Prop:=(∀ a',Same a a' (dsT i f)->R a' (Q .normal a' w))->(Code.region i (aK i f).toArray false).wp prog Q a w
def bC (b:Bool) (i:Nat) (f:Func) (Q:Exit->Act->World->Prop) (a:Act) (w:World) (R:Act->World->Prop->Prop):Prop:=(∀ a' W,Same a a' (dsT i f)->R a' W (Q .normal a' W))->(Code.region i (aK i f).toArray b).wp prog Q a w
theorem bU{i:Nat}{f:Func}{Q:Exit->Act->World->Prop}{a:Act}{w:World}{R:Act->World->Prop->Prop}{X:List Oper}(h:(∀ a' W,Same a a' (dsT i f)->R a' W (Q .normal a' W))->wpList prog (aK i f).toArray Q X a w)(e:aK i f=X:=by (conv=>lhs;whnf);(try exact rfl)):bC false i f Q a w R:=fun he=>by subst e;exact wp_region_lit (h he)
theorem jG{i:Nat}{f:Func}{Q:Exit->Act->World->Prop}{a:Act}{w:World}{R:Act->Prop->Prop}{X:List Oper}(h:(∀ a',Same a a' (dsT i f)->R a' (Q .normal a' w))->wpList prog (aK i f).toArray Q X a w)(e:aK i f=X:=by (conv=>lhs;whnf);(try exact rfl)):bK i f Q a w R:=fun he=>by subst e;exact wp_region_lit (h he)
theorem tS{a a':Act}{ds:List Nat}(h:Same a a' ds:=by repeat (first|(with_reducible refine zP (by kernel_rfl) ?_)|(with_reducible exact yG))):Same a a' ds:=h
theorem LH{p:Prop}(h:p):Go.RowKit.Hid p:=h
theorem pa(i:Nat)(f:Func)(h:cX (aK i f)=true:=by kernel_rfl):cX (aK i f)=true:=h
theorem aE{G:Prop}(k:G:=by simp [Act.eval,Act.put,hsz]):G:=k
theorem aO{p G:Prop}(o:p)(k:p->G:=by (intro o;simp [Act.eval,Act.put,hsz,o])):G:=k o
abbrev Bs:=List UInt8
theorem rO{G:Prop}(k:G:=by (intro hend;refine wp_region_lit ?_;(conv=>arg 4;whnf);(try unfold Sl at o0);(try unfold Sl at o1);(try unfold Sl at o2);(try unfold Sl at o3);(try unfold Sl at o4);(try unfold Sl at o5);(try unfold Sl at o6);(try unfold Sl at o7);(try unfold Sl at o8);(try unfold Sl at o9);(try unfold Sl at o10);(try unfold Sl at o11);(try unfold Sl at o12);(try unfold Sl at o13);(try unfold Sl at o14);(try unfold Sl at o15);(try unfold Sl at o16);(try unfold Sl at o17);(try unfold Sl at o18);(try unfold Sl at o19);(try unfold Sl at o20);(try unfold Sl at o21);(try unfold Sl at o22);(try unfold Sl at o23);(try unfold Sl at o24);(try unfold Sl at o25);(try unfold Sl at o26);(try unfold Sl at o27);(try unfold Sl at o28);(try unfold Sl at o29);(try unfold Sl at o30);(try unfold Sl at o31);(try unfold Sl at o32);(try unfold Sl at o33);(try unfold Sl at o34);(try unfold Sl at o35);(try unfold Sl at o36);(try unfold Sl at o37);(try unfold Sl at o38);(try unfold Sl at o39);(try unfold Sl at o40);go_wp2_with fail;(try simp only [Act.put]);(first|exact hend _ tS sP|exact hend _ tS sP sP|exact hend _ tS sP sP sP|exact hend _ tS sP sP sP sP|exact hend _ tS))):G:=k
def RG2 (i:Nat) (f:Func) (Q:Exit->Act->World->Prop) (a:Act) (w:World) (R:Act->(Nat->Value)->(Nat->Unit)->World->Prop->Prop):Prop:=(∀ a' vs gs W,Same a a' (dsT i f)->R a' vs gs W (Q .normal a' W))->(Code.region i (aK i f).toArray true).wp prog Q a w
theorem cS{P:Program}{Q:Exit->Act->World->Prop}{a:Act}{w:World}{d:Nat}{x:Value}{p q:Code}{N:Nat}(o:Sl a d x)(h:p.wp P Q a w)(e:x=.bool true:=by rfl)(hz:a.tmps.size=N:=by assumption)(hd:Nat.ble (d+1) N=true:=by rfl):(Code.cond (.tmp d) p q).wp P Q a w:=wp_cond_true ((o.eval (Nat.lt_of_lt_of_eq (Nat.le_of_ble_eq_true hd) hz.symm)).trans e) h
theorem dD{P:Program}{Q:Exit->Act->World->Prop}{a:Act}{w:World}{d:Nat}{x:Value}{p q:Code}{N:Nat}(o:Sl a d x)(h:q.wp P Q a w)(e:x=.bool false:=by rfl)(hz:a.tmps.size=N:=by assumption)(hd:Nat.ble (d+1) N=true:=by rfl):(Code.cond (.tmp d) p q).wp P Q a w:=wp_cond_false ((o.eval (Nat.lt_of_lt_of_eq (Nat.le_of_ble_eq_true hd) hz.symm)).trans e) h
section
variable {a a':Act} {X:List Deferred} {N:Nat} {ds:List Nat} {x0 x1 x2 x3 x4 x5 x6 x7 x8 x9 x10 x11 x12 x13 x14:Value} {d0 d1 d2 d3 d4 d5 d6 d7 d8 d9 d10 d11 d12 d13 d14:Nat}
theorem dS(h:Same a a' ds)(z:a.tmps.size=N)(D:a.defers=X):a'.tmps.size=N ∧ a'.defers=X:=⟨h.size.trans z,h.defers.trans D⟩
theorem eY(h:Same a a' ds)(z:a.tmps.size=N)(D:a.defers=X)(o0:Sl a d0 x0)(c0:ds.contains d0=false:=by kernel_rfl):a'.tmps.size=N ∧ a'.defers=X ∧ Sl a' d0 x0:=⟨h.size.trans z,h.defers.trans D,h.keep _ _ c0 o0⟩
theorem dU(h:Same a a' ds)(z:a.tmps.size=N)(D:a.defers=X)(o0:Sl a d0 x0)(o1:Sl a d1 x1)(c0:ds.contains d0=false:=by kernel_rfl)(c1:ds.contains d1=false:=by kernel_rfl):a'.tmps.size=N ∧ a'.defers=X ∧ Sl a' d0 x0 ∧ Sl a' d1 x1:=⟨h.size.trans z,h.defers.trans D,h.keep _ _ c0 o0,h.keep _ _ c1 o1⟩
theorem dF(h:Same a a' ds)(z:a.tmps.size=N)(D:a.defers=X)(o0:Sl a d0 x0)(o1:Sl a d1 x1)(o2:Sl a d2 x2)(c0:ds.contains d0=false:=by kernel_rfl)(c1:ds.contains d1=false:=by kernel_rfl)(c2:ds.contains d2=false:=by kernel_rfl):a'.tmps.size=N ∧ a'.defers=X ∧ Sl a' d0 x0 ∧ Sl a' d1 x1 ∧ Sl a' d2 x2:=⟨h.size.trans z,h.defers.trans D,h.keep _ _ c0 o0,h.keep _ _ c1 o1,h.keep _ _ c2 o2⟩
theorem fH(h:Same a a' ds)(z:a.tmps.size=N)(D:a.defers=X)(o0:Sl a d0 x0)(o1:Sl a d1 x1)(o2:Sl a d2 x2)(o3:Sl a d3 x3)(c0:ds.contains d0=false:=by kernel_rfl)(c1:ds.contains d1=false:=by kernel_rfl)(c2:ds.contains d2=false:=by kernel_rfl)(c3:ds.contains d3=false:=by kernel_rfl):a'.tmps.size=N ∧ a'.defers=X ∧ Sl a' d0 x0 ∧ Sl a' d1 x1 ∧ Sl a' d2 x2 ∧ Sl a' d3 x3:=⟨h.size.trans z,h.defers.trans D,h.keep _ _ c0 o0,h.keep _ _ c1 o1,h.keep _ _ c2 o2,h.keep _ _ c3 o3⟩
theorem jJ(h:Same a a' ds)(z:a.tmps.size=N)(D:a.defers=X)(o0:Sl a d0 x0)(o1:Sl a d1 x1)(o2:Sl a d2 x2)(o3:Sl a d3 x3)(o4:Sl a d4 x4)(c0:ds.contains d0=false:=by kernel_rfl)(c1:ds.contains d1=false:=by kernel_rfl)(c2:ds.contains d2=false:=by kernel_rfl)(c3:ds.contains d3=false:=by kernel_rfl)(c4:ds.contains d4=false:=by kernel_rfl):a'.tmps.size=N ∧ a'.defers=X ∧ Sl a' d0 x0 ∧ Sl a' d1 x1 ∧ Sl a' d2 x2 ∧ Sl a' d3 x3 ∧ Sl a' d4 x4:=⟨h.size.trans z,h.defers.trans D,h.keep _ _ c0 o0,h.keep _ _ c1 o1,h.keep _ _ c2 o2,h.keep _ _ c3 o3,h.keep _ _ c4 o4⟩
theorem jF(h:Same a a' ds)(z:a.tmps.size=N)(D:a.defers=X)(o0:Sl a d0 x0)(o1:Sl a d1 x1)(o2:Sl a d2 x2)(o3:Sl a d3 x3)(o4:Sl a d4 x4)(o5:Sl a d5 x5)(c0:ds.contains d0=false:=by kernel_rfl)(c1:ds.contains d1=false:=by kernel_rfl)(c2:ds.contains d2=false:=by kernel_rfl)(c3:ds.contains d3=false:=by kernel_rfl)(c4:ds.contains d4=false:=by kernel_rfl)(c5:ds.contains d5=false:=by kernel_rfl):a'.tmps.size=N ∧ a'.defers=X ∧ Sl a' d0 x0 ∧ Sl a' d1 x1 ∧ Sl a' d2 x2 ∧ Sl a' d3 x3 ∧ Sl a' d4 x4 ∧ Sl a' d5 x5:=⟨h.size.trans z,h.defers.trans D,h.keep _ _ c0 o0,h.keep _ _ c1 o1,h.keep _ _ c2 o2,h.keep _ _ c3 o3,h.keep _ _ c4 o4,h.keep _ _ c5 o5⟩
theorem vQ(h:Same a a' ds)(z:a.tmps.size=N)(D:a.defers=X)(o0:Sl a d0 x0)(o1:Sl a d1 x1)(o2:Sl a d2 x2)(o3:Sl a d3 x3)(o4:Sl a d4 x4)(o5:Sl a d5 x5)(o6:Sl a d6 x6)(c0:ds.contains d0=false:=by kernel_rfl)(c1:ds.contains d1=false:=by kernel_rfl)(c2:ds.contains d2=false:=by kernel_rfl)(c3:ds.contains d3=false:=by kernel_rfl)(c4:ds.contains d4=false:=by kernel_rfl)(c5:ds.contains d5=false:=by kernel_rfl)(c6:ds.contains d6=false:=by kernel_rfl):a'.tmps.size=N ∧ a'.defers=X ∧ Sl a' d0 x0 ∧ Sl a' d1 x1 ∧ Sl a' d2 x2 ∧ Sl a' d3 x3 ∧ Sl a' d4 x4 ∧ Sl a' d5 x5 ∧ Sl a' d6 x6:=⟨h.size.trans z,h.defers.trans D,h.keep _ _ c0 o0,h.keep _ _ c1 o1,h.keep _ _ c2 o2,h.keep _ _ c3 o3,h.keep _ _ c4 o4,h.keep _ _ c5 o5,h.keep _ _ c6 o6⟩
theorem kq8(h:Same a a' ds)(z:a.tmps.size=N)(D:a.defers=X)(o0:Sl a d0 x0)(o1:Sl a d1 x1)(o2:Sl a d2 x2)(o3:Sl a d3 x3)(o4:Sl a d4 x4)(o5:Sl a d5 x5)(o6:Sl a d6 x6)(o7:Sl a d7 x7)(c0:ds.contains d0=false:=by kernel_rfl)(c1:ds.contains d1=false:=by kernel_rfl)(c2:ds.contains d2=false:=by kernel_rfl)(c3:ds.contains d3=false:=by kernel_rfl)(c4:ds.contains d4=false:=by kernel_rfl)(c5:ds.contains d5=false:=by kernel_rfl)(c6:ds.contains d6=false:=by kernel_rfl)(c7:ds.contains d7=false:=by kernel_rfl):a'.tmps.size=N ∧ a'.defers=X ∧ Sl a' d0 x0 ∧ Sl a' d1 x1 ∧ Sl a' d2 x2 ∧ Sl a' d3 x3 ∧ Sl a' d4 x4 ∧ Sl a' d5 x5 ∧ Sl a' d6 x6 ∧ Sl a' d7 x7:=⟨h.size.trans z,h.defers.trans D,h.keep _ _ c0 o0,h.keep _ _ c1 o1,h.keep _ _ c2 o2,h.keep _ _ c3 o3,h.keep _ _ c4 o4,h.keep _ _ c5 o5,h.keep _ _ c6 o6,h.keep _ _ c7 o7⟩
theorem kq9(h:Same a a' ds)(z:a.tmps.size=N)(D:a.defers=X)(o0:Sl a d0 x0)(o1:Sl a d1 x1)(o2:Sl a d2 x2)(o3:Sl a d3 x3)(o4:Sl a d4 x4)(o5:Sl a d5 x5)(o6:Sl a d6 x6)(o7:Sl a d7 x7)(o8:Sl a d8 x8)(c0:ds.contains d0=false:=by kernel_rfl)(c1:ds.contains d1=false:=by kernel_rfl)(c2:ds.contains d2=false:=by kernel_rfl)(c3:ds.contains d3=false:=by kernel_rfl)(c4:ds.contains d4=false:=by kernel_rfl)(c5:ds.contains d5=false:=by kernel_rfl)(c6:ds.contains d6=false:=by kernel_rfl)(c7:ds.contains d7=false:=by kernel_rfl)(c8:ds.contains d8=false:=by kernel_rfl):a'.tmps.size=N ∧ a'.defers=X ∧ Sl a' d0 x0 ∧ Sl a' d1 x1 ∧ Sl a' d2 x2 ∧ Sl a' d3 x3 ∧ Sl a' d4 x4 ∧ Sl a' d5 x5 ∧ Sl a' d6 x6 ∧ Sl a' d7 x7 ∧ Sl a' d8 x8:=⟨h.size.trans z,h.defers.trans D,h.keep _ _ c0 o0,h.keep _ _ c1 o1,h.keep _ _ c2 o2,h.keep _ _ c3 o3,h.keep _ _ c4 o4,h.keep _ _ c5 o5,h.keep _ _ c6 o6,h.keep _ _ c7 o7,h.keep _ _ c8 o8⟩
theorem aF7(h:Same a a' ds)(z:a.tmps.size=N)(D:a.defers=X)(o0:Sl a d0 x0)(o1:Sl a d1 x1)(o2:Sl a d2 x2)(o3:Sl a d3 x3)(o4:Sl a d4 x4)(o5:Sl a d5 x5)(o6:Sl a d6 x6)(o7:Sl a d7 x7)(o8:Sl a d8 x8)(o9:Sl a d9 x9)(c0:ds.contains d0=false:=by kernel_rfl)(c1:ds.contains d1=false:=by kernel_rfl)(c2:ds.contains d2=false:=by kernel_rfl)(c3:ds.contains d3=false:=by kernel_rfl)(c4:ds.contains d4=false:=by kernel_rfl)(c5:ds.contains d5=false:=by kernel_rfl)(c6:ds.contains d6=false:=by kernel_rfl)(c7:ds.contains d7=false:=by kernel_rfl)(c8:ds.contains d8=false:=by kernel_rfl)(c9:ds.contains d9=false:=by kernel_rfl):a'.tmps.size=N ∧ a'.defers=X ∧ Sl a' d0 x0 ∧ Sl a' d1 x1 ∧ Sl a' d2 x2 ∧ Sl a' d3 x3 ∧ Sl a' d4 x4 ∧ Sl a' d5 x5 ∧ Sl a' d6 x6 ∧ Sl a' d7 x7 ∧ Sl a' d8 x8 ∧ Sl a' d9 x9:=⟨h.size.trans z,h.defers.trans D,h.keep _ _ c0 o0,h.keep _ _ c1 o1,h.keep _ _ c2 o2,h.keep _ _ c3 o3,h.keep _ _ c4 o4,h.keep _ _ c5 o5,h.keep _ _ c6 o6,h.keep _ _ c7 o7,h.keep _ _ c8 o8,h.keep _ _ c9 o9⟩
theorem bB4(h:Same a a' ds)(z:a.tmps.size=N)(D:a.defers=X)(o0:Sl a d0 x0)(o1:Sl a d1 x1)(o2:Sl a d2 x2)(o3:Sl a d3 x3)(o4:Sl a d4 x4)(o5:Sl a d5 x5)(o6:Sl a d6 x6)(o7:Sl a d7 x7)(o8:Sl a d8 x8)(o9:Sl a d9 x9)(o10:Sl a d10 x10)(c0:ds.contains d0=false:=by kernel_rfl)(c1:ds.contains d1=false:=by kernel_rfl)(c2:ds.contains d2=false:=by kernel_rfl)(c3:ds.contains d3=false:=by kernel_rfl)(c4:ds.contains d4=false:=by kernel_rfl)(c5:ds.contains d5=false:=by kernel_rfl)(c6:ds.contains d6=false:=by kernel_rfl)(c7:ds.contains d7=false:=by kernel_rfl)(c8:ds.contains d8=false:=by kernel_rfl)(c9:ds.contains d9=false:=by kernel_rfl)(c10:ds.contains d10=false:=by kernel_rfl):a'.tmps.size=N ∧ a'.defers=X ∧ Sl a' d0 x0 ∧ Sl a' d1 x1 ∧ Sl a' d2 x2 ∧ Sl a' d3 x3 ∧ Sl a' d4 x4 ∧ Sl a' d5 x5 ∧ Sl a' d6 x6 ∧ Sl a' d7 x7 ∧ Sl a' d8 x8 ∧ Sl a' d9 x9 ∧ Sl a' d10 x10:=⟨h.size.trans z,h.defers.trans D,h.keep _ _ c0 o0,h.keep _ _ c1 o1,h.keep _ _ c2 o2,h.keep _ _ c3 o3,h.keep _ _ c4 o4,h.keep _ _ c5 o5,h.keep _ _ c6 o6,h.keep _ _ c7 o7,h.keep _ _ c8 o8,h.keep _ _ c9 o9,h.keep _ _ c10 o10⟩
theorem aMg(h:Same a a' ds)(z:a.tmps.size=N)(D:a.defers=X)(o0:Sl a d0 x0)(o1:Sl a d1 x1)(o2:Sl a d2 x2)(o3:Sl a d3 x3)(o4:Sl a d4 x4)(o5:Sl a d5 x5)(o6:Sl a d6 x6)(o7:Sl a d7 x7)(o8:Sl a d8 x8)(o9:Sl a d9 x9)(o10:Sl a d10 x10)(o11:Sl a d11 x11)(c0:ds.contains d0=false:=by kernel_rfl)(c1:ds.contains d1=false:=by kernel_rfl)(c2:ds.contains d2=false:=by kernel_rfl)(c3:ds.contains d3=false:=by kernel_rfl)(c4:ds.contains d4=false:=by kernel_rfl)(c5:ds.contains d5=false:=by kernel_rfl)(c6:ds.contains d6=false:=by kernel_rfl)(c7:ds.contains d7=false:=by kernel_rfl)(c8:ds.contains d8=false:=by kernel_rfl)(c9:ds.contains d9=false:=by kernel_rfl)(c10:ds.contains d10=false:=by kernel_rfl)(c11:ds.contains d11=false:=by kernel_rfl):a'.tmps.size=N ∧ a'.defers=X ∧ Sl a' d0 x0 ∧ Sl a' d1 x1 ∧ Sl a' d2 x2 ∧ Sl a' d3 x3 ∧ Sl a' d4 x4 ∧ Sl a' d5 x5 ∧ Sl a' d6 x6 ∧ Sl a' d7 x7 ∧ Sl a' d8 x8 ∧ Sl a' d9 x9 ∧ Sl a' d10 x10 ∧ Sl a' d11 x11:=⟨h.size.trans z,h.defers.trans D,h.keep _ _ c0 o0,h.keep _ _ c1 o1,h.keep _ _ c2 o2,h.keep _ _ c3 o3,h.keep _ _ c4 o4,h.keep _ _ c5 o5,h.keep _ _ c6 o6,h.keep _ _ c7 o7,h.keep _ _ c8 o8,h.keep _ _ c9 o9,h.keep _ _ c10 o10,h.keep _ _ c11 o11⟩
end
end
section
def itn {α:Type} (f:α->α):Nat->α->α
 |0,x=>x
 |n+1,x=>itn f n (f x)
def P32:Nat:=2197175160
def stp (x:Nat):Nat:=(x / 2) ^^^ (x % 2 * P32)
def bAy (x:Nat):Nat:=itn stp 8 x
def bBr (x:Nat) (l:Bs):Nat:=l.foldl (fun x c=>bAy (x ^^^ c.toNat)) x
def lG (x:Nat):Nat:=4294967295 - x
theorem aDy{x:Nat}(h:x < 2 ^ 32):lG x=x ^^^ 4294967295:=by
 have h1:(2 ^ 32 - 1:Nat)=4294967295:=by decide
 apply Nat.eq_of_testBit_eq
 intro i;unfold lG;rw [Nat.testBit_xor,<- h1,Nat.testBit_two_pow_sub_one];have h2:=Nat.testBit_two_pow_sub_succ (x:=x) (n:=32) h i;rw [show 2 ^ 32 - 1 - x=2 ^ 32 - (x+1) from by omega,h2]
 by_cases hi:i < 32
 . simp [hi]
 . have:x.testBit i=false:=Nat.testBit_lt_two_pow (Nat.lt_of_lt_of_le h (Nat.pow_le_pow_right (by omega) (by omega)))
   simp [hi,this]
def more (s:Nat) (l:Bs):Nat:=lG (bBr (lG s) l)
def crc (l:Bs):Nat:=more 0 l
end
section
open Go.RowKit
theorem fJ(a b:Nat)(ha:a < 4294967296)(hb:b < 4294967296):bits .xor .u32 (a:Int) (b:Int)=((a ^^^ b:Nat):Int):=u32_xor_nat a b ha hb
theorem aD4(x:Nat)(h:x < 4294967296):bits .xor .u32 IntKind.u32.max (x:Int)=(lG x:Int):=by
 have h1:=u32_xor_nat 4294967295 x (by decide) h;rw [Nat.xor_comm,<- aDy h] at h1;exact h1
end
section
def dG (x n:Nat):Nat:=(x / 2 ^ n) ||| (x * 2 ^ (32 - n) % 4294967296)
def sg0 (x:Nat):Nat:=dG x 7 ^^^ dG x 18 ^^^ (x / 8)
def sg1 (x:Nat):Nat:=dG x 17 ^^^ dG x 19 ^^^ (x / 1024)
def bS0 (a:Nat):Nat:=dG a 2 ^^^ dG a 13 ^^^ dG a 22
def bS1 (e:Nat):Nat:=dG e 6 ^^^ dG e 11 ^^^ dG e 25
def cho (e f g:Nat):Nat:=(e &&& f) ^^^ (lG e &&& g)
def maj (a b c:Nat):Nat:=(a &&& b) ^^^ (a &&& c) ^^^ (b &&& c)
def kT:List Nat:=[1116352408,1899447441,3049323471,3921009573,961987163,1508970993,2453635748,2870763221,3624381080,310598401,607225278,1426881987,1925078388,2162078206,2614888103,3248222580,3835390401,4022224774,264347078,604807628,770255983,1249150122,1555081692,1996064986,2554220882,2821834349,2952996808,3210313671,3336571891,3584528711,113926993,338241895,666307205,773529912,1294757372,1396182291,1695183700,1986661051,2177026350,2456956037,2730485921,2820302411,3259730800,3345764771,3516065817,3600352804,4094571909,275423344,430227734,506948616,659060556,883997877,958139571,1322822218,1537002063,1747873779,1955562222,2024104815,2227730452,2361852424,2428436474,2756734187,3204031479,3329325298]
def hF:List Nat:=[1779033703,3144134277,1013904242,2773480762,1359893119,2600822924,528734635,1541459225]
def lL (b:Bs):Nat->List Nat
 |0=>[]
 |t+1=>lL b t ++ [if t < 16 then lM ((b.drop (4 * t)).take 4) else ((lL b t).getD (t - 16) 0+sg0 ((lL b t).getD (t - 15) 0)+(lL b t).getD (t - 7) 0+sg1 ((lL b t).getD (t - 2) 0)) % 4294967296]
def rX (e f g h k w:Nat):Nat:=(h+bS1 e+cho e f g+k+w) % 4294967296
def rY (a b c:Nat):Nat:=(bS0 a+maj a b c) % 4294967296
def rnd (v:List Nat) (k w:Nat):List Nat:=match v with
 |[a,b,c,d,e,f,g,h]=>[(rX e f g h k w+rY a b c) % 4294967296,a,b,c,(d+rX e f g h k w) % 4294967296,e,f,g]
 |_=>v
def gP (st w:List Nat):Nat->List Nat
 |0=>st
 |t+1=>rnd (gP st w t) (kT.getD t 0) (w.getD t 0)
def iM (st:List Nat) (b:Bs):List Nat:=List.zipWith (fun x y=>(x+y) % 4294967296) (gP st (lL b 64) 64) st
def jO (m:Bs):Nat->List Nat
 |0=>hF
 |n+1=>iM (jO m n) ((m.drop (64 * n)).take 64)
def iE (n:Nat):Nat:=(119 - n % 64) % 64
def pad (m:Bs):List UInt8:=m ++ (128 :: (List.replicate (iE m.length) 0 ++ be 8 (8 * m.length)))
def dE (m:Bs):List UInt8:=(jO (pad m) ((pad m).length / 64)).flatMap (be 4)
def Ws (l:List Nat):Prop:=∀ x,x ∈ l->x < 4294967296
theorem cE{x n:Nat}(h:x < 4294967296):dG x n < 4294967296:=by
 unfold dG;exact Nat.or_lt_two_pow (n:=32) (Nat.lt_of_le_of_lt (Nat.div_le_self _ _) h) (Nat.mod_lt _ (by decide))
theorem jN{x y:Nat}(h:x < 4294967296)(g:y < 4294967296):x ^^^ y < 4294967296:=Nat.xor_lt_two_pow (n:=32) h g
theorem pS{x k:Nat}(h:x < 4294967296):x / k < 4294967296:=Nat.lt_of_le_of_lt (Nat.div_le_self _ _) h
theorem aCm(l:Bs):lM (l.take 4) < 4294967296:=by
 have h1:∀ (l:Bs) (a k:Nat),l.length<=k->l.foldl (fun a b=>256 * a+b.toNat) a < (a+1) * 256 ^ k:=by
  intro l
  induction l with
  |nil=>intro a k _;rw [List.foldl_nil];have:=Nat.one_le_two_pow (n:=8 * k);rw [Nat.pow_mul] at this;have h:1<=256 ^ k:=this;calc a < a+1:=by omega
   _=(a+1) * 1:=by omega
   _<=(a+1) * 256 ^ k:=Nat.mul_le_mul_left _ h
  |cons c l ih=>
   intro a k hk
   cases k with
   |zero=>simp at hk
   |succ k=>
    rw [List.foldl_cons];have:=ih (256 * a+c.toNat) k (by simpa using hk)
    have hc:=c.toNat_lt;refine Nat.lt_of_lt_of_le this ?_;rw [Nat.pow_succ,show (a+1) * (256 ^ k * 256)=((a+1) * 256) * 256 ^ k from by rw [Nat.mul_comm (256 ^ k),Nat.mul_assoc]];exact Nat.mul_le_mul_right _ (by omega)
 have:=h1 (l.take 4) 0 4 (by simp;omega)
 simpa [lM] using this
theorem eP(b:Bs):∀ t,(lL b t).length=t
 |0=>rfl
 |t+1=>by unfold lL;rw [List.length_append,eP b t];rfl
theorem aAy(b:Bs):∀ t,Ws (lL b t)
 |0=>fun x h=>by cases h
 |t+1=>fun x h=>by
  unfold lL at h;rcases List.mem_append.1 h with h|h
  . exact aAy b t x h
  . rw [List.mem_singleton] at h;subst h
    split
    . exact aCm _
    . exact Nat.mod_lt _ (by decide)
theorem sA{l:List Nat}(h:Ws l)(i:Nat):l.getD i 0 < 4294967296:=by
 rw [List.getD_eq_getElem?_getD]
 cases hi:l[i]? with
 |none=>simp
 |some x=>exact h x (List.mem_of_getElem? hi)
theorem aAw(v:List Nat)(k w:Nat):(rnd v k w).length=v.length:=by
 unfold rnd
 split <;> rfl
theorem fZ(st w:List Nat):∀ t,(gP st w t).length=st.length
 |0=>rfl
 |t+1=>by unfold gP;rw [aAw,fZ st w t]
theorem aZr{v:List Nat}(h:Ws v)(k w:Nat):Ws (rnd v k w):=by
 unfold rnd
 split
 . intro x hx;simp only [List.mem_cons,List.not_mem_nil,or_false] at hx;rcases hx with rfl|rfl|rfl|rfl|rfl|rfl|rfl|rfl
   . exact Nat.mod_lt _ (by decide)
   . exact h _ (by simp)
   . exact h _ (by simp)
   . exact h _ (by simp)
   . exact Nat.mod_lt _ (by decide)
   . exact h _ (by simp)
   . exact h _ (by simp)
   . exact h _ (by simp)
 . exact h
theorem wQ{st:List Nat}(h:Ws st)(w:List Nat):∀ t,Ws (gP st w t)
 |0=>h
 |t+1=>aZr (wQ h w t) _ _
theorem dY(st:List Nat)(b:Bs):(iM st b).length=st.length:=by unfold iM;rw [List.length_zipWith,fZ,Nat.min_self]
theorem aC9(st:List Nat)(b:Bs):Ws (iM st b):=by
 intro x hx;unfold iM at hx;obtain ⟨i,hi,rfl⟩:=List.getElem_of_mem hx;rw [List.getElem_zipWith];exact Nat.mod_lt _ (by decide)
theorem aOh:Ws hF:=by unfold Ws hF;decide
theorem iI(m:Bs):∀ n,(jO m n).length=8
 |0=>rfl
 |n+1=>by unfold jO;rw [dY,iI m n]
theorem aCk(m:Bs):∀ n,Ws (jO m n)
 |0=>aOh
 |_+1=>aC9 _ _
theorem oJ(m r:Bs):∀ n,64 * n<=m.length->jO (m ++ r) n=jO m n
 |0,_=>rfl
 |n+1,h=>by
  unfold jO;rw [oJ m r n (by omega),List.drop_append_of_le_length (by omega),List.take_append_of_le_length (by rw [List.length_drop];omega)]
theorem mP(n:Nat):(n+1+iE n) % 64=56 ∧ iE n < 64:=by unfold iE;omega
theorem aAt(m:Bs):(pad m).length=m.length+iE m.length+9:=by
 unfold pad;simp only [List.length_append,List.length_cons,List.length_replicate,fY];omega
theorem aKy(m:Bs):(pad m).length % 64=0:=by
 have:=mP m.length
 rw [aAt];omega
theorem aY(m:Bs):(dE m).length=32:=by
 have h1:∀ l:List Nat,(l.flatMap (be 4)).length=4 * l.length:=by
  intro l
  induction l with
  |nil=>rfl
  |cons a l ih=>rw [List.flatMap_cons,List.length_append,ih,fY,List.length_cons];omega
 unfold dE;rw [h1,iI]
def aU (n:Nat):Nat:=if n < 2 then 0 else 2 ^ (Nat.log2 (n - 1))
theorem iW{n:Nat}(h:2<=n):aU n=2 ^ (Nat.log2 (n - 1)):=if_neg (by omega)
theorem fM{n:Nat}(h:2<=n):0 < aU n:=by rw [iW h];exact Nat.two_pow_pos _
theorem gJ{n:Nat}(h:2<=n):aU n < n:=by
 rw [iW h];have:=Nat.log2_self_le (n:=n - 1) (by omega)
 omega
theorem vT{n:Nat}(h:2<=n):n<=2 * aU n:=by
 rw [iW h];have:=Nat.lt_log2_self (n:=n - 1)
 rw [Nat.pow_succ] at this;omega
theorem aCw{n d:Nat}(h:2<=n)(hd:n<=2 ^ (d+1)):aU n<=2 ^ d:=by
 rw [iW h];refine Nat.pow_le_pow_right (by omega) ?_;have h1:Nat.log2 (n - 1) < d+1:=(Nat.log2_lt (by omega)).2 (by omega);omega
theorem aBu{n j:Nat}(h1:2 ^ j < n)(h2:n<=2 * 2 ^ j):aU n=2 ^ j:=by
 have hp:=Nat.two_pow_pos j;rw [iW (by omega)]
 congr 1
 have h3:Nat.log2 (n - 1) < j+1:=(Nat.log2_lt (by omega)).2 (by rw [Nat.pow_succ];omega);have h4:j<=Nat.log2 (n - 1):=(Nat.le_log2 (by omega)).2 (by omega);omega
def bE (e:Bs):List UInt8:=dE (0 :: e)
def cN (a b:Bs):List UInt8:=dE (1 :: (a ++ b))
def cI:List UInt8:=dE []
theorem eQ(e:Bs):(bE e).length=32:=aY _
theorem bL(a b:Bs):(cN a b).length=32:=aY _
theorem cQ:cI.length=32:=aY _
def qQ:Nat->List (List UInt8)->List UInt8
 |0,_=>cI
 |f+1,l=>match l with
  |[]=>cI
  |[h]=>h
  |_=>cN (qQ f (l.take (aU l.length))) (qQ f (l.drop (aU l.length)))
def bJ (l:List (List UInt8)):List UInt8:=qQ l.length l
theorem qC{f:Nat}{l:List (List UInt8)}(h:2<=l.length):qQ (f+1) l=cN (qQ f (l.take (aU l.length))) (qQ f (l.drop (aU l.length))):=by
 rcases l with _|⟨a,_|⟨b,l⟩⟩
 . simp at h
 . simp at h
 . rfl
theorem kH:∀ (f g:Nat) (l:List (List UInt8)),l.length<=f->l.length<=g->qQ f l=qQ g l
 |0,0,_,_,_=>rfl
 |0,g+1,l,h,_=>by
  have:l=[]:=List.length_eq_zero_iff.1 (by omega)
  subst this
  rfl
 |f+1,0,l,_,h=>by
  have:l=[]:=List.length_eq_zero_iff.1 (by omega)
  subst this
  rfl
 |f+1,g+1,l,hf,hg=>by
  by_cases h2:2<=l.length
  . have h3:=gJ h2;have h4:=fM h2;rw [qC h2,qC h2,kH f g (l.take _) (by rw [List.length_take];omega) (by rw [List.length_take];omega),kH f g (l.drop _) (by rw [List.length_drop];omega) (by rw [List.length_drop];omega)]
  . rcases l with _|⟨a,_|⟨b,l⟩⟩
    . rfl
    . rfl
    . simp at h2
theorem jX{l:List (List UInt8)}(h:2<=l.length):bJ l=cN (bJ (l.take (aU l.length))) (bJ (l.drop (aU l.length))):=by
 have h3:=gJ h;have h4:=fM h;unfold bJ;rw [kH l.length (l.length+1) l (by omega) (by omega),qC h];rw [kH l.length (l.take _).length (l.take (aU l.length)) (by rw [List.length_take];omega) (Nat.le_refl _),kH l.length (l.drop _).length (l.drop (aU l.length)) (by rw [List.length_drop];omega) (Nat.le_refl _)]
theorem bS{l:List (List UInt8)}(h:∀ x ∈ l,x.length=32):(bJ l).length=32:=by
 by_cases h2:2<=l.length
 . rw [jX h2];exact bL _ _
 . rcases l with _|⟨a,_|⟨b,l⟩⟩
   . exact cQ
   . exact h a (List.mem_cons_self ..)
   . simp at h2
def cU:Nat->Nat->Nat->Nat->Bool->List (Nat × Nat)
 |0,_,_,_,_=>[]
 |f+1,m,from_,n,whole=>if m=n then (if whole then [] else [(from_,from_+n)]) else
  if m<=aU n then cU f m from_ (aU n) whole ++ [(from_+aU n,from_+n)]
  else cU f (m - aU n) (from_+aU n) (n - aU n) false ++ [(from_,from_+aU n)]
def Deep (f n:Nat):Prop:=n<=2 ^ f
theorem Deep.next{f n:Nat}(h:Deep (f+1) n)(hn:2<=n):Deep f (aU n) ∧ Deep f (n - aU n):=by
 have h1:=aCw hn h;have h2:=vT hn;exact ⟨h1,by unfold Deep;omega⟩
theorem dL:∀ (f m from_ n:Nat) (whole:Bool),(cU f m from_ n whole).length<=f
 |0,_,_,_,_=>Nat.le_refl _
 |f+1,m,from_,n,whole=>by
  unfold cU
  split
  . split
    . simp
    . simp
  . split
    . rw [List.length_append];have:=dL f m from_ (aU n) whole
      simp;omega
    . rw [List.length_append];have:=dL f (m - aU n) (from_+aU n) (n - aU n) false
      simp;omega
theorem bP(f m from_ n:Nat)(whole:Bool):cU (f+1) m from_ n whole=if m=n then (if whole then [] else [(from_,from_+n)]) else
 if m<=aU n then cU f m from_ (aU n) whole ++ [(from_+aU n,from_+n)]
 else cU f (m - aU n) (from_+aU n) (n - aU n) false ++ [(from_,from_+aU n)]:=rfl
def kS (m n:Nat):List (Nat × Nat):=cU 65 m 0 n true
theorem qD:∀ (f m from_ n:Nat) (whole:Bool),1<=m->m<=n->∀ r ∈ cU f m from_ n whole,from_<=r.1 ∧ r.1 < r.2 ∧ r.2<=from_+n
 |0,_,_,_,_,_,_,r,hr=>by cases hr
 |f+1,m,from_,n,whole,h1,hm,r,hr=>by
  unfold cU at hr
  split at hr
  . split at hr
    . cases hr
    . rw [List.mem_singleton.1 hr];simp only
      omega
  . have h2:2<=n:=by omega
    have h3:=gJ h2;have h4:=fM h2
    split at hr
    . rename_i hk
      rcases List.mem_append.1 hr with h|h
      . have:=qD f m from_ (aU n) whole h1 hk r h
        omega
      . rw [List.mem_singleton.1 h];simp only
        omega
    . rename_i hk
      rcases List.mem_append.1 hr with h|h
      . have:=qD f (m - aU n) (from_+aU n) (n - aU n) false (by omega) (by omega) r h
        omega
      . rw [List.mem_singleton.1 h];simp only
        omega
theorem lP:∀ (f m a b n:Nat) (whole:Bool),(cU f m a n whole).length=(cU f m b n whole).length
 |0,_,_,_,_,_=>rfl
 |f+1,m,a,b,n,whole=>by
  unfold cU
  split
  . split <;> rfl
  . split
    . rw [List.length_append,List.length_append,lP f m a b (aU n) whole];rfl
    . rw [List.length_append,List.length_append,lP f (m - aU n) (a+aU n) (b+aU n) (n - aU n) false];rfl
def eS:Nat->Nat->Nat->Bool->List UInt8->List (List UInt8)->List UInt8 × List UInt8
 |0,_,_,_,first,_=>(first,first)
 |f+1,m,n,whole,first,proof=>if m=n then (if whole then (first,first) else (proof.headD [],proof.headD [])) else
  if m<=aU n then
   ((eS f m (aU n) whole first proof.dropLast).1,cN (eS f m (aU n) whole first proof.dropLast).2 (proof.getLastD []))
  else (cN (proof.getLastD []) (eS f (m - aU n) (n - aU n) false first proof.dropLast).1,cN (proof.getLastD []) (eS f (m - aU n) (n - aU n) false first proof.dropLast).2)
def nI (m n:Nat) (first:Bs) (proof:List (List UInt8)):List UInt8 × List UInt8:=eS 65 m n true first proof
def eL (m n:Int) (first second:Bs) (proof:List (List UInt8)):Nat:=
 if m < 0 ∨ n < m then 4 else
 if m=0 then (if first ≠ cI ∨ proof.length ≠ 0 ∨ (n=0 ∧ second ≠ first) then 220 else 0) else
 if (kS m.toNat n.toNat).length ≠ proof.length then 220 else
 if (nI m.toNat n.toNat first proof).1 ≠ first ∨ (nI m.toNat n.toNat first proof).2 ≠ second then 220 else 0
def fB (st:List Nat) (r:Bs):Nat->List Nat
 |0=>st
 |k+1=>iM (fB st r k) ((r.drop (64 * k)).take 64)
theorem aO5(m:Bs):∀ k,fB hF m k=jO m k
 |0=>rfl
 |k+1=>by unfold fB jO;rw [aO5 m k]
theorem bAb{st:List Nat}(h:Ws st)(r:Bs):∀ k,Ws (fB st r k)
 |0=>h
 |_+1=>aC9 _ _
theorem nC{st:List Nat}(h:st.length=8)(r:Bs):∀ k,(fB st r k).length=8
 |0=>h
 |k+1=>by unfold fB;rw [dY,nC h r k]
theorem aOf{m t:List UInt8}{q:Nat}(hq:64 * q<=m.length):∀ k,fB (jO m q) (m.drop (64 * q) ++ t) k=jO (m ++ t) (q+k)
 |0=>(oJ m t q hq).symm
 |k+1=>by
  unfold fB;rw [aOf hq k]
  show iM (jO (m ++ t) (q+k)) _=iM (jO (m ++ t) (q+k)) (((m ++ t).drop (64 * (q+k))).take 64)
  rw [<- List.drop_append_of_le_length hq,List.drop_drop,Nat.mul_add]
def pH (blk:Bs) (a:Nat) (x:Bs):List UInt8:=blk.take a ++ x ++ blk.drop (a+x.length)
theorem kY{blk:List UInt8}{a:Nat}{x:List UInt8}(h:a+x.length<=blk.length):(pH blk a x).length=blk.length:=by
 unfold pH;simp only [List.length_append,List.length_take,List.length_drop];omega
structure Und (m:Bs) (st:List Nat) (blk:Bs):Prop where
 st:st=jO m (m.length / 64)
 len:blk.length=64
 blk:blk.take (m.length % 64)=m.drop (64 * (m.length / 64))
theorem Und.new:Und [] hF (List.replicate 64 0):=⟨rfl,by simp,by simp⟩
theorem Und.part{m st blk}(h:Und m st blk){x:List UInt8}(hx:m.length % 64+x.length < 64):Und (m ++ x) st (pH blk (m.length % 64) x):=by
 have hl:=h.len;have e1:(m ++ x).length / 64=m.length / 64:=by rw [List.length_append];omega
 have e2:(m ++ x).length % 64=m.length % 64+x.length:=by rw [List.length_append];omega
 refine ⟨?_,by rw [kY (by omega),hl],?_⟩
 . rw [e1,oJ m x _ (by omega)];exact h.st
 . rw [e1,e2,List.drop_append_of_le_length (by omega),<- h.blk];unfold pH;rw [List.take_left' (by rw [List.length_append,List.length_take];omega)]
theorem Und.full{m st blk}(h:Und m st blk){x:List UInt8}(hx:m.length % 64+x.length=64):Und (m ++ x) (iM st (pH blk (m.length % 64) x)) (pH blk (m.length % 64) x):=by
 have hl:=h.len;have e1:(m ++ x).length / 64=m.length / 64+1:=by rw [List.length_append];omega
 have e2:(m ++ x).length % 64=0:=by rw [List.length_append];omega
 have e3:pH blk (m.length % 64) x=m.drop (64 * (m.length / 64)) ++ x:=by
  unfold pH;rw [h.blk,List.drop_of_length_le (l:=blk) (by omega),List.append_nil]
 refine ⟨?_,by rw [kY (by omega),hl],?_⟩
 . rw [e1]
   show _=iM (jO (m ++ x) (m.length / 64)) (((m ++ x).drop (64 * (m.length / 64))).take 64)
   rw [oJ m x _ (by omega),<- h.st,e3,List.drop_append_of_le_length (by omega),List.take_of_length_le (by rw [List.length_append,List.length_drop];omega)]
 . rw [e2,List.take_zero,e1,List.drop_of_length_le (by rw [List.length_append];omega)]
theorem aJ5{w c:Nat}(hw:w < 16777216)(hc:c < 256):(w * 256 % 4294967296) ||| c=256 * w+c:=by
 rw [Nat.mod_eq_of_lt (by omega),show w * 256=2 ^ 8 * w from by omega,<- Nat.two_pow_add_eq_or_of_lt (by omega)]
end
section
open Go.RowKit
theorem aJu{x:Nat}(h:x < 4294967296)(n:Nat):bits .or .u32 ((x:Int) / ((2 ^ n:Nat):Int)) ((x:Int) * ((2 ^ (32 - n):Nat):Int) % 4294967296)=(dG x n:Int):=by
 have h1:x / 2 ^ n < 4294967296:=pS h;have h2:x * 2 ^ (32 - n) % 4294967296 < 4294967296:=Nat.mod_lt _ (by decide);have:=u32_or_nat (x / 2 ^ n) (x * 2 ^ (32 - n) % 4294967296) h1 h2
 unfold dG;rw [<- this,Int.natCast_ediv,Int.natCast_emod,Int.natCast_mul]
 rfl
theorem aHe{x:Nat}(h:x < 4294967296)(n:Nat):bits .or .u32 ((x:Int) * ((2 ^ (32 - n):Nat):Int) % 4294967296) ((x:Int) / ((2 ^ n:Nat):Int))=(dG x n:Int):=by
 have h1:x / 2 ^ n < 4294967296:=pS h;have h2:x * 2 ^ (32 - n) % 4294967296 < 4294967296:=Nat.mod_lt _ (by decide);have:=u32_or_nat (x * 2 ^ (32 - n) % 4294967296) (x / 2 ^ n) h2 h1
 unfold dG;rw [Nat.or_comm,<- this,Int.natCast_ediv,Int.natCast_emod,Int.natCast_mul]
 rfl
def iK (n:Nat):Prop:=n=2 ∨ n=6 ∨ n=7 ∨ n=11 ∨ n=13 ∨ n=17 ∨ n=18 ∨ n=19 ∨ n=22 ∨ n=25
theorem bB3{n:Nat}(h:iK n):bits .and .u64 (IntKind.u64.wrap (-(n:Int))) 31=((32 - n:Nat):Int):=by
 rcases h with rfl|rfl|rfl|rfl|rfl|rfl|rfl|rfl|rfl|rfl <;> decide +kernel
theorem aEz(x n:Nat)(hx:x < 4294967296)(hn:iK n)(w:World):Calls prog 165 #[.int .u32 (x:Int),.int .i64 (-(n:Int))] w fun e w'=>e=.returned (.int .u32 (dG x n:Int)) ∧ w=w':=by
 have HR:=LH (aHe hx n);have hk:=bB3 hn;rcases hn with rfl|rfl|rfl|rfl|rfl|rfl|rfl|rfl|rfl|rfl
 all_goals
  simp only [Int.cast_ofNat_Int,Nat.reduceSub] at hk;go_enter func165,ntmps165;go_wp2
  go_ret
  exact ⟨by rw [<- HR.out];rfl,rfl⟩
end
section
open Go.RowKit
theorem aV{P:Program}{fn:Func}{w:World}{tmps:Array Value}{a t g:Nat}{t':TypeId}{cs:Array Value}{d:TypeDesc}(h:fn.results=#[.cell a t])(ha:tmps.getD a undef=Pq g 0)(hb:aM w g t' cs)
 (hu:P.underlying t=some d) (hd:nW d=true) (hi:(P.info? t).map (·.size)=some cs.size):(results fn tmps).run P w=.ok (.agg cs) w:=by
 have hl:(loadCells ⟨g,0,none⟩ cs.size).run P w=.ok cs w:=by
  have:=run_loadCells_list (P:=P) w ⟨g,0,none⟩ cs.toList hb.agg
  simpa using this
 cases hq:P.info? t with
 |none=>simp [hq] at hi
 |some i=>
  have hs:i.size=cs.size:=by simpa [hq] using hi
  simp only [Array.getD_eq_getD_getElem?] at ha;simp [results,h,ha,loadVar,asAddr,Sem.run_bind,gX hu hd,sizeOf,typeInfo,hq,hs,hl]
section
variable {P:Program} (w:World)
end
end
section
def hx (n:Nat):UInt8:=if n < 10 then UInt8.ofNat (48+n) else UInt8.ofNat (87+n)
theorem aQn{p:Nat->Bool}(h:(List.range 256).all p=true){n:Nat}(hn:n < 256):p n=true:=List.all_eq_true.1 h n (List.mem_range.2 hn)
def oV:List UInt8:=[48,49,50,51,52,53,54,55,56,57,97,98,99,100,101,102]
theorem aGd{n:Nat}(h:n < 16):oV[n]?=some (hx n):=by
 have:=aQn (p:=fun n=>decide (n < 16->oV[n]?=some (hx n))) (by decide +kernel) (show n < 256 by omega)
 exact of_decide_eq_true this h
def yS (c:UInt8):List UInt8:=[hx (c.toNat / 16),hx (c.toNat % 16)]
def fA (h:Bs):List UInt8:=h.flatMap yS
theorem aE3(c:UInt8)(h:Bs):fA (c :: h)=yS c ++ fA h:=rfl
theorem iD(h:Bs):(fA h).length=2 * h.length:=by
 induction h with
 |nil=>rfl
 |cons c h ih=>rw [aE3,List.length_append,ih];simp [yS];omega
theorem lU{h:List UInt8}{k:Nat}{c:UInt8}(e:h[k]?=some c):fA (h.take (k+1))=fA (h.take k) ++ yS c:=by
 rw [List.take_add_one,e];simp [fA]
end
section
open Go.RowKit
def qZ (w:World) (v:Value) (L:List (List UInt8)):Prop:=
 ∃ vs,Rd w 1 v L.length vs ∧ ∀ i (h:i < L.length),∃ u,vs[i]?=some u ∧ Rd w 1 u L[i].length (bv L[i])
def aCu (w:World) (v:Value) (L:List (List UInt8)) (S:List Nat):Prop:=
 ∃ vs,Rd w 1 v L.length vs ∧ (∀ i (h:i < L.length),∃ u,vs[i]?=some u ∧ Rd w 1 u L[i].length (bv L[i]) ∧ ∀ g,u.ownBlock=some g->L[i] ≠ []->g ∈ S) ∧ ∀ g,v.ownBlock=some g->L ≠ []->g ∈ S
section
variable {w w':World} {v:Value} {L:List (List UInt8)} {S T:List Nat}
theorem aCu.txs(h:aCu w v L S):qZ w v L:=by
 obtain ⟨vs,h1,h2,_⟩:=h;exact ⟨vs,h1,fun i hi=>by obtain ⟨u,a,b,_⟩:=h2 i hi;exact ⟨u,a,b⟩⟩
theorem qZ.kp0(h:qZ w v L)(hk:Kp [] w w'):qZ w' v L:=by
 obtain ⟨vs,h1,h2⟩:=h;exact ⟨vs,aT h1 hk,fun i hi=>by obtain ⟨u,a,b⟩:=h2 i hi;exact ⟨u,a,aT b hk⟩⟩
theorem qZ.open_(h:qZ w v L):∃ A c,v=.slice A L.length c ∧ (0 < L.length->∃ ad,A=some ad) ∧ ∀ ad,A=some ad->∀ i (h:i < L.length),∃ u,w.cell? (ad.add i)=some u ∧ Rd w 1 u L[i].length (bv L[i]):=by
 obtain ⟨vs,⟨hl,A,c,rfl,_,_,hA,hc⟩,h2⟩:=h;refine ⟨A,c,rfl,fun h0=>?_,fun ad had i hi=>?_⟩
 . cases A with
   |none=>have:=(hA rfl).1;omega
   |some ad=>exact ⟨ad,rfl⟩
 . obtain ⟨u,a,b⟩:=h2 i hi;exact ⟨u,hc ad had i u a,b⟩
end
def fpB (u:Value) (bs:Bs):List Nat:=if bs=[] then [] else u.ownBlock.toList
theorem xM{u:Value}{bs:List UInt8}{g:Nat}(h:u.ownBlock=some g)(hne:bs ≠ []):g ∈ fpB u bs:=by simp [fpB,hne,h]
theorem aT8{w:World}{u:Value}{bs:List UInt8}{n:Nat}(t:TypeId)(h:Rd w 1 u n (bv bs)):
 aCu (w.alloc (.cells #[u] t)) (.slice (some ⟨w.heap.size,0,none⟩) 1 1) [bs] (w.heap.size :: fpB u bs):=by
 have hn:n=bs.length:=by have:=h.1;rw [aX] at this;omega
 subst hn;refine ⟨[u],aSl w t u,fun i hi=>?_,fun g hg _=>by simp [Value.ownBlock] at hg;simp [hg]⟩;obtain rfl:i=0:=by simpa using hi
 exact ⟨u,rfl,h.alloc _,fun g hg hne=>List.mem_cons_of_mem _ (xM hg hne)⟩
theorem aR7{w:World}{u1 u2:Value}{b1 b2:List UInt8}{n1 n2:Nat}(t:TypeId)(h1:Rd w 1 u1 n1 (bv b1))(h2:Rd w 1 u2 n2 (bv b2)):
 aCu (w.alloc (.cells #[u1,u2] t)) (.slice (some ⟨w.heap.size,0,none⟩) 2 2) [b1,b2] (w.heap.size :: (fpB u1 b1 ++ fpB u2 b2)):=by
 have hn1:n1=b1.length:=by have:=h1.1;rw [aX] at this;omega
 have hn2:n2=b2.length:=by have:=h2.1;rw [aX] at this;omega
 subst hn1 hn2;refine ⟨[u1,u2],Rd.of_own (cZ w t 1 2 #[u1,u2] rfl (by decide)),fun i hi=>?_,fun g hg _=>by simp [Value.ownBlock] at hg;simp [hg]⟩;have:i=0 ∨ i=1:=by simp at hi;omega
 rcases this with rfl|rfl
 . exact ⟨u1,rfl,h1.alloc _,fun g hg hne=>List.mem_cons_of_mem _ (List.mem_append_left _ (xM hg hne))⟩
 . exact ⟨u2,rfl,h2.alloc _,fun g hg hne=>List.mem_cons_of_mem _ (List.mem_append_right _ (xM hg hne))⟩
theorem bBl{w:World}{u:Value}{bs:List UInt8}{n g:Nat}(t:TypeId)(hg:g=w.heap.size)(h:Rd w 1 u n (bv bs)):qZ (w.alloc (.cells #[u] t)) (.slice (some ⟨g,0,none⟩) 1 1) [bs]:=by
 subst hg;exact (aT8 t h).txs
theorem bAu{w:World}{u1 u2:Value}{b1 b2:List UInt8}{n1 n2 g:Nat}(t:TypeId)(hg:g=w.heap.size)(h1:Rd w 1 u1 n1 (bv b1))(h2:Rd w 1 u2 n2 (bv b2)):
 qZ (w.alloc (.cells #[u1,u2] t)) (.slice (some ⟨g,0,none⟩) 2 2) [b1,b2]:=by
 subst hg;exact (aR7 t h1 h2).txs
end
section
open Go.RowKit
theorem iO{w w':World}{p:Addr}{u:Value}(h:w.cell? p=some u)(hk:Kp [] w w'):w'.cell? p=some u:=
 (World.cell?_of_block (hk.block p.block (aCx h) (by simp))).trans h
theorem aBz{w:World}{v:Value}{bs:List UInt8}(h:Rd w 1 v bs.length (bv bs)):∃ A c,v=.slice A bs.length c ∧ bs.length<=c ∧ c<=maxLen ∧ (A=none->bs.length=0) ∧ ∀ ad,A=some ad->∀ i (h:i < bs.length),w.cell? (ad.add i)=some (.int .u8 (bs[i].toNat:Int)):=by
 obtain ⟨_,A,c,hv,h1,h2,h3,h4⟩:=h;exact ⟨A,c,hv,h1,h2,fun hA=>(h3 hA).1,fun ad had i hi=>h4 ad had i _ (by rw [iA,List.getElem?_eq_getElem hi];rfl)⟩
def bB5 (x:Int):Nat:=(x % 18446744073709551616).toNat
theorem bD4:(prog.info? 32).map (fun i=>(i.zero,i.size,i.bytes))=some (some (.slice none 0 0),1,24):=by kernel_rfl
end
end Go.Proofs.YtmkfopmdingaoaaGreatDoor
