/- Several texts in one: Mem, Lex, Inv, InvG, Reg, Agg, InvU, InvS, Held, Sep, Num, Arr, Base, App, SepO. -/
import Derived.WalkKit
import Derived.WalkSpells
import Derived.WalkLawsBesides
import Derived.Maps.AppendAt
import Derived.Deep.AppendLies
import Derived.Deep.Draws
import Derived.Lib.Hide
import Derived.Deep.RegionWith
import Derived.Deep.QuietTactic
import Derived.BigQuiet
import Derived.BigRegion
import Derived.Deep.RegionHeld3
import Derived.Deep.RegionLaw
import Derived.Deep.DeepCutAuto
import Derived.Deep.DeepFit
import Derived.Outline
import Derived.OrdersHeld
import Derived.ChangeKeysEq
import Derived.Test.YtmkfopmdingaoaaGreatDoorRows
import Derived.Laws.BitsAllLaws
set_option linter.unusedVariables false
set_option linter.unusedSimpArgs false
set_option maxRecDepth 100000
set_option maxHeartbeats 8000000
namespace Go.Proofs.YtmkfopmdingaoaaGreatDoor
section
open Go.RowKit
structure Kp (S:List Nat) (w w':World):Prop where
 os:w'.os=w.os
 tape:w'.tape=w.tape
 output:w'.output=w.output
 size:w.heap.size<=w'.heap.size
 block:∀ k,k < w.heap.size->k ∉ S->w'.heap[k]?=w.heap[k]?
theorem Kp.refl(S:List Nat)(w:World):Kp S w w:=⟨rfl,rfl,rfl,Nat.le_refl _,fun _ _ _=>rfl⟩
theorem Kp.drew{S:List Nat}{a w:World}(h:Kp S a w):Kp S a w.drew:=⟨h.os,h.tape,h.output,h.size,h.block⟩
theorem Kp.drewN{S:List Nat}{a w:World}(h:Kp S a w)(n:Nat):Kp S a (w.drewN n):=⟨h.os,h.tape,h.output,h.size,h.block⟩
theorem Kp.trans{S T:List Nat}{a b c:World}(h:Kp S a b)(k:Kp T b c)(hT:∀ g,g ∈ T->g ∈ S ∨ a.heap.size<=g):Kp S a c:=
 ⟨k.os.trans h.os,k.tape.trans h.tape,k.output.trans h.output,Nat.le_trans h.size k.size,fun i hi hn=>(k.block i (Nat.lt_of_lt_of_le hi h.size) (fun hm=>by
  rcases hT i hm with h1|h1
  . exact hn h1
  . omega)).trans (h.block i hi hn)⟩
theorem Kp.more{S T:List Nat}{a b:World}(h:Kp S a b)(hT:∀ g,g ∈ S->g ∈ T ∨ a.heap.size<=g):Kp T a b:=(Kp.refl T a).trans h hT
theorem Kp.alloc{S:List Nat}{a w:World}(h:Kp S a w)(o:Obj):Kp S a (w.alloc o):=
 ⟨h.os,h.tape,h.output,Nat.le_trans h.size (by simp),fun i hi hn=>(Below.heap_alloc w o i (Nat.lt_of_lt_of_le hi h.size)).trans (h.block i hi hn)⟩
theorem Kp.setCell{S:List Nat}{a w:World}(h:Kp S a w){p:Addr}(hp:p.block ∈ S ∨ a.heap.size<=p.block)(u:Value):Kp S a (w.setCell p u):=
 ⟨h.os,h.tape,h.output,by simpa [World.setCell] using h.size,fun i hi hn=>(Below.heap_setCell w p u i (by
  rintro rfl
  rcases hp with hp|hp
  . exact hn hp
  . omega)).trans (h.block i hi hn)⟩
theorem Kp.of_grown{w w':World}{row:Option Nat}(h:w.grownBy w' row):Kp row.toList w w':=
 ⟨h.os,h.tape,h.output,h.size,fun k hk hn=>h.block k hk (fun e=>hn (by rw [<- e];simp))⟩
theorem Kp.grown{S:List Nat}{a w w':World}{row:Option Nat}(h:Kp S a w)(hg:w.grownBy w' row)(hr:∀ g,row=some g->g ∈ S ∨ a.heap.size<=g):Kp S a w':=
 h.trans (Kp.of_grown hg) (fun g hm=>hr g (by cases row <;> simp_all))
theorem Kp.below{S:List Nat}{B:Nat}{w w':World}(h:Kp S w w')(hB:B<=w.heap.size)(hS:∀ g,g ∈ S->B<=g):Below B w w':=
 ⟨h.os,h.tape,h.output,h.size,fun k hk=>h.block k (by omega) (fun hm=>by have:=hS k hm;omega)⟩
def Blk (w:World) (g:Nat) (t:TypeId) (cs:Array Value):Prop:=w.heap[g]?=some (.cells cs t (0,0))
section
variable {w w':World} {g:Nat} {t:TypeId} {cs:Array Value}
theorem Blk.lt(h:Blk w g t cs):g < w.heap.size:=(Array.getElem?_eq_some_iff.1 h).1
theorem Blk.cell(h:Blk w g t cs)(i:Nat):w.cell? ⟨g,i,none⟩=cs[i]?:=cell_of_row w g i cs t (0,0) h
theorem Blk.frozen(h:Blk w g t cs)(i:Nat):w.frozen? ⟨g,i,none⟩=false:=by
 unfold Blk at h
 simp [World.frozen?,h]
theorem Blk.new(w:World)(t:TypeId)(cs:Array Value):Blk (w.alloc (.cells cs t)) w.heap.size t cs:=heap_alloc_new w _
theorem Blk.drew(h:Blk w g t cs):Blk w.drew g t cs:=h
theorem Blk.set_(h:Blk w g t cs)(i:Nat)(u:Value):Blk (w.setCell ⟨g,i,none⟩ u) g t (cs.setIfInBounds i u):=by
 unfold Blk at h ⊢
 simp [World.setCell,Array.getElem?_modify,h]
theorem Blk.kp{S:List Nat}(h:Blk w g t cs)(hk:Kp S w w')(hg:g ∉ S):Blk w' g t cs:=(hk.block g h.lt hg).trans h
end
theorem block_of_add(a:Addr)(n:Nat):(a.add n).block=a.block:=by unfold Addr.add;split <;> rfl
theorem add_of_add(a:Addr)(i j:Nat):(a.add i).add j=a.add (i+j):=by
 unfold Addr.add
 by_cases hi:i=0 <;> by_cases hj:j=0 <;> simp [hi,hj,Nat.add_assoc]
def Rd (w:World) (s:Nat) (v:Value) (n:Nat) (xs:List Value):Prop:=
 xs.length=n * s ∧ ∃ A c,v=.slice A n c ∧ n<=c ∧ c<=maxLen ∧ (A=none->n=0 ∧ c=0) ∧ ∀ ad,A=some ad->∀ j u,xs[j]?=some u->w.cell? (ad.add j)=some u
section
variable {w w':World} {s n:Nat} {v:Value} {xs:List Value}
theorem cell_lt{w:World}{a:Addr}{u:Value}(h:w.cell? a=some u):a.block < w.heap.size:=by
 unfold World.cell? at h
 rcases Nat.lt_or_ge a.block w.heap.size with hlt|hge
 . exact hlt
 . rw [Array.getElem?_eq_none hge] at h;simp at h
theorem Rd.keep(h:Rd w s v n xs)(hk:∀ p:Addr,v.ownBlock=some p.block->p.block < w.heap.size->w'.cell? p=w.cell? p):Rd w' s v n xs:=by
 obtain ⟨h1,A,c,rfl,h2,h3,h4,h5⟩:=h
 refine ⟨h1,A,c,rfl,h2,h3,h4,fun ad had j u hu=>?_⟩
 have h6:=h5 ad had j u hu
 subst had
 exact (hk _ (by rw [block_of_add];rfl) (cell_lt h6)).trans h6
theorem Rd.kp{S:List Nat}(h:Rd w s v n xs)(hk:Kp S w w')(hn:∀ g,v.ownBlock=some g->g ∉ S):Rd w' s v n xs:=
 h.keep fun p hp hlt=>World.cell?_of_block (hk.block p.block hlt (hn _ hp))
theorem Rd.alloc(h:Rd w s v n xs)(o:Obj):Rd (w.alloc o) s v n xs:=h.kp ((Kp.refl [] w).alloc o) (by simp)
theorem Rd.nil(w:World)(s:Nat):Rd w s (.slice none 0 0) 0 []:=⟨by simp,none,0,rfl,by simp,by simp,fun _=>⟨rfl,rfl⟩,fun ad h=>by cases h⟩
theorem Rd.of_own{base:Nat}{e:TypeId}(h:w.ownsRow base e s v n xs):Rd w s v n xs:=by
 refine ⟨h.1,?_⟩
 rcases h.2 with ⟨rfl,rfl⟩|⟨g,cap,cur,rfl,_,_,hnc,hcm,_⟩
 . exact ⟨none,0,rfl,by simp,by simp,(fun _=>⟨rfl,rfl⟩),(fun ad h0=>by cases h0)⟩
 . exact ⟨_,cap,rfl,hnc,hcm,(fun h0=>by cases h0),(fun ad had=>by cases had;exact h.cells (g:=g) rfl)⟩
end
abbrev Ow (w:World) (e:TypeId) (s:Nat) (v:Value) (n:Nat) (xs:List Value):Prop:=w.ownsRow 0 e s v n xs
section
variable {w w':World} {e:TypeId} {s n:Nat} {v:Value} {xs:List Value}
theorem ow_kp{S:List Nat}(h:Ow w e s v n xs)(hk:Kp S w w')(hn:∀ g,v.ownBlock=some g->g ∉ S):Ow w' e s v n xs:=by
 refine ⟨h.1,?_⟩
 rcases h.2 with hv|⟨g,cap,cur,rfl,hb,hgg,rest⟩
 . exact .inl hv
 . refine .inr ⟨g,cap,cur,rfl,hb,?_,rest⟩
   rw [hk.block g (Array.getElem?_eq_some_iff.1 hgg).1 (hn g rfl)]
   exact hgg
theorem ow_lt(h:Ow w e s v n xs){g:Nat}(hg:v.ownBlock=some g):g < w.heap.size:=(h.lt g hg).2
theorem ow_form(h:Ow w e s v n xs):∃ A c,v=.slice A n c ∧ n<=c ∧ c<=maxLen:=by
 rcases h.2 with ⟨rfl,rfl⟩|⟨g',cap,cur,rfl,_,_,hn,hc,_⟩
 . exact ⟨none,0,rfl,Nat.le_refl _,by simp⟩
 . exact ⟨_,cap,rfl,hn,hc⟩
end
def bv (l:List UInt8):List Value:=l.map fun b=>Value.int .u8 (b.toNat:Int)
theorem bv_nil:bv []=[]:=rfl
theorem bv_cons(b:UInt8)(l:List UInt8):bv (b :: l)=Value.int .u8 (b.toNat:Int) :: bv l:=rfl
theorem bv_append(a b:List UInt8):bv (a ++ b)=bv a ++ bv b:=List.map_append
theorem bv_length(a:List UInt8):(bv a).length=a.length:=List.length_map ..
theorem bv_one(a:List UInt8):∀ u ∈ bv a,u.oneCell'=true:=by
 intro u hu
 obtain ⟨_,_,rfl⟩:=List.mem_map.1 hu
 rfl
theorem bv_get(l:List UInt8)(j:Nat):(bv l)[j]?=l[j]?.map fun b=>Value.int .u8 (b.toNat:Int):=List.getElem?_map ..
theorem rd_new(w:World)(t:TypeId)(u:Value):Rd (w.alloc (.cells #[u] t)) 1 (.slice (some ⟨w.heap.size,0,none⟩) 1 1) 1 [u]:=
 ⟨rfl,_,1,rfl,Nat.le_refl _,by simp [maxLen],(fun h=>by cases h),(fun ad had j x hx=>by
  cases had
  rcases j with _|j
  . simp at hx;subst hx;exact (Blk.new w t #[u]).cell 0
  . simp at hx)⟩
section
variable {P:Program} (w:World)
theorem run_append_none(t ty e:TypeId)(i:TypeInfo)(size:Nat)(ht:P.underlying t=some (.slice e))(hi:P.info? e=some i)
 (v:Value) (n:Nat) (xs:List Value) (hown:Ow w e size v n xs) (c:Nat):(Builtin.append_ #[t,t] ty #[v,.slice none 0 c]).run P w=.ok v w:=by
 rcases hown.2 with ⟨rfl,rfl⟩|⟨g,cap,cur,rfl,_,_,hnc,_⟩
 . simp [Builtin.append_,run_underlying ht,sizeOf,typeInfo,hi,Builtin.lenOf,Builtin.firstCells]
 . simp [Builtin.append_,run_underlying ht,sizeOf,typeInfo,hi,Builtin.lenOf,Builtin.firstCells,hnc,storeCells]
theorem run_app(t ty e:TypeId)(i:TypeInfo)(z:Value)(size bytes:Nat)(ht:P.underlying t=some (.slice e))(hi:P.info? e=some i)(hz:i.zero=some z)
 (hsize:i.size=size) (hby:i.bytes=bytes) (hzs:z.cells.size=size) (hsz:0 < size)
 (v:Value) (n:Nat) (xs:List Value) (hown:Ow w e size v n xs)
 (x:Value) (m:Nat) (news:List Value) (hr:Rd w size x m news) (h1:∀ u ∈ news,u.oneCell'=true)
 (h63:n+m<=maxLen) (hbytes:(n+m) * bytes<=140737488355328):
 ∃ v' w',(Builtin.append_ #[t,t] ty #[v,x]).run P w=.ok v' w' ∧ Ow w' e size v' (n+m) (xs ++ news) ∧ w.grownBy w' v.ownBlock ∧
  (v'.ownBlock=v.ownBlock ∨ v'.ownBlock=some w.heap.size):=by
 obtain ⟨hl,A,c,rfl,hc1,hc2,hA,hcells⟩:=hr
 rcases A with _|ad
 . obtain ⟨rfl,rfl⟩:=hA rfl
   have hn:news=[]:=List.eq_nil_of_length_eq_zero (by simpa using hl)
   subst hn
   exact ⟨v,w,run_append_none w t ty e i size ht hi v n xs hown 0,by simpa using hown,World.grownBy.refl w _,.inl rfl⟩
 . obtain ⟨v',w',hrun,h2,h3,_,h5⟩:=run_append_own_at (P:=P) w 0 t ty e i z size bytes ht hi hz hsize hby hzs hsz v n xs hown ad m c news hl (hcells ad rfl) h1 h63 hbytes (Nat.zero_le _)
   exact ⟨v',w',hrun,h2,h3,h5⟩
theorem wpList_app{ops:Array Oper}{rest:List Oper}{o:Oper}{a:Act}{Q:Exit->Act->World->Prop}(hgd:o.guard=none)(s x:Operand)(t:TypeId)
 (ho:o.op=.call { callee:=.builtin .append,args:=#[s,x],argTypes:=#[t,t] })
 (e:TypeId) (i:TypeInfo) (z:Value) (size bytes:Nat) (ht:P.underlying t=some (.slice e)) (hi:P.info? e=some i) (hz:i.zero=some z)
 (hsize:i.size=size) (hby:i.bytes=bytes) (hzs:z.cells.size=size) (hsz:0 < size)
 (v:Value) (n:Nat) (xs:List Value) (hs:a.eval s=v) (hown:Ow w e size v n xs)
 (y:Value) (m:Nat) (news:List Value) (hx:a.eval x=y) (hr:Rd w size y m news) (h1:∀ u ∈ news,u.oneCell'=true)
 (h63:n+m<=maxLen) (hbytes:(n+m) * bytes<=140737488355328)
 (h:∀ v' w',Ow w' e size v' (n+m) (xs ++ news)->w.grownBy w' v.ownBlock->(v'.ownBlock=v.ownBlock ∨ v'.ownBlock=some w.heap.size)->wpList P ops Q rest (a.put o.dst v') w'):wpList P ops Q (o :: rest) a w:=
 wpList_plain hgd fun K hK=>by
  obtain ⟨v',w',hrun,h2,h3,h4⟩:=run_app (P:=P) w t o.type e i z size bytes ht hi hz hsize hby hzs hsz v n xs hown y m news hr h1 h63 hbytes
  unfold Oper.wp execOp
  simp only [ho,resolve,invoke,builtin,Sem.run_bind,Sem.run_pure,Result.andThen_ok,List.map_toArray,List.map_cons,List.map_nil,hs,hx,hrun]
  exact hK _ _ (h v' w' h2 h3 h4)
end
theorem Rd.cut{w:World}{A:Option Addr}{n c a k:Nat}{xs:List Value}(h:Rd w 1 (.slice A n c) n xs)(hk:a+k<=n)(hca:¬ c=a):Rd w 1 (.slice (A.map (fun x=>x.add a)) k (c - a)) k ((xs.drop a).take k):=by
 obtain ⟨hl,A',c',hv,h1,h2,h3,h4⟩:=h
 cases hv
 have hl':xs.length=n:=by omega
 refine ⟨by rw [List.length_take,List.length_drop];omega,_,_,rfl,by omega,by omega,(fun hA=>?_),(fun ad had j u hu=>?_)⟩
 . have:A=none:=by cases A <;> simp_all
   have:=h3 this
   omega
 . rcases A with _|ad0
   . cases had
   . cases had
     rw [add_of_add]
     refine h4 ad0 rfl _ u ?_
     rw [List.getElem?_take] at hu
     split at hu
     . rw [List.getElem?_drop] at hu;exact hu
     . cases hu
theorem Rd.cut0{w:World}{A:Option Addr}{n c a k:Nat}{xs:List Value}(h:Rd w 1 (.slice A n c) n xs)(hk:a+k<=n)(hca:c=a):Rd w 1 (.slice A k (c - a)) k ((xs.drop a).take k):=by
 obtain ⟨hl,A',c',hv,h1,h2,h3,h4⟩:=h
 cases hv
 have hk0:k=0:=by omega
 subst hk0
 refine ⟨by simp,_,_,rfl,by omega,by omega,(fun hA=>?_),(fun ad had j u hu=>by simp at hu)⟩
 have:=h3 hA
 omega
theorem bv_drop(l:List UInt8)(a k:Nat):((bv l).drop a).take k=bv ((l.drop a).take k):=by simp [bv,List.map_take,List.map_drop]
theorem foldl_push(l:List UInt8):∀ (s:List UInt8),(l.map fun b:UInt8=>(b.toNat:Int)).foldl (fun (r:ByteArray) n=>r.push (UInt8.ofNat n.toNat)) ⟨s.toArray⟩=⟨(s ++ l).toArray⟩:=by
 induction l with
 |nil=>intro s;simp
 |cons b l ih=>
  intro s
  simp only [List.map_cons,List.foldl_cons,Int.toNat_natCast,UInt8.ofNat_toNat]
  have:(ByteArray.mk s.toArray).push b=⟨(s ++ [b]).toArray⟩:=by simp [ByteArray.push]
  rw [this,ih (s ++ [b])]
  simp
theorem run_str{P:Program}{w:World}{x:Value}{bs:List UInt8}{n:Nat}(src dst e:TypeId)(hs:P.underlying src=some (.slice e))(he:P.underlying e=some (.int .u8))(hd:P.underlying dst=some .string)(h:Rd w 1 x n (bv bs)):
 (convert src dst x).run P w=.ok (.string ⟨bs.toArray⟩) w:=by
 obtain ⟨hl,A,c,rfl,_,_,hA,hc⟩:=h
 rw [run_convert_bytes_string w src dst e A n c hs he hd]
 rcases A with _|a
 . obtain ⟨rfl,_⟩:=hA rfl
   have:bs=[]:=List.eq_nil_of_length_eq_zero (by rw [bv_length] at hl;omega)
   subst this
   simp [Conv.bytesToString]
   rfl
 . have hn:n=bs.length:=by rw [bv_length] at hl;omega
   subst hn
   have hbv:bv bs=(bs.map fun b:UInt8=>(b.toNat:Int)).map (Value.int .u8):=by simp [bv]
   have h1:=run_loadCells_list (P:=P) (w:=w) a (bv bs) (hc a rfl)
   rw [bv_length,hbv] at h1
   rw [run_bytesToString w a bs.length c (bs.map fun b:UInt8=>(b.toNat:Int)) h1]
   have h2:=foldl_push bs []
   simp only [List.nil_append] at h2
   rw [show (ByteArray.empty:ByteArray)=⟨([]:List UInt8).toArray⟩ from rfl,h2]
end
section
section
variable {P:Program} {ops:Array Oper} {Q:Exit->Act->World->Prop} {md:Region.Mode} {S:World->Prop} {qf lst:Nat->Bool}
def Qn (Q:Exit->Act->World->Prop):Exit->Act->World->Prop:=fun e a w=>e=.normal ∧ Q .normal a w
def wpMix (P:Program) (md:Region.Mode) (ops:Array Oper) (Q:Exit->Act->World->Prop) (S:World->Prop) (qf lst:Nat->Bool):Nat->Array Bool->Act->World->Prop
 |0,listed,a,w=>Region.ready md ops listed=[] ∧ Q .normal a w
 |fuel+1,listed,a,w=>
  (Region.ready md ops listed=[]->Q .normal a w) ∧
  ∀ i ∈ Region.ready md ops listed,∀ o,ops[i]?=some o->
   if qf i=true then ∃ v,YieldsIf P ops S o v a ∧ wpMix P md ops Q S qf lst fuel (listed.setIfInBounds i true) (a.put o.dst v) w
   else wpOp P ops (Qn Q) i (fun a' w'=>(lst i=false->S w') ∧ wpMix P md ops Q S qf lst fuel (listed.setIfInBounds i true) a' w') a w
theorem ready_some{i:Nat}{listed:Array Bool}(h:i ∈ Region.ready md ops listed):∃ o,ops[i]?=some o:=by
 obtain ⟨_,o,ho,_⟩:=mem_ready.1 h
 exact ⟨o,ho⟩
theorem wpOp_n{i:Nat}{a:Act}{w:World}{K:Act->World->Prop}(h:wpOp P ops (Qn Q) i K a w):wpOp P ops Q i K a w:=by
 unfold wpOp at *
 split
 . rename_i ho;simp only [ho] at h;exact h
 . rename_i o ho
   simp only [ho] at h
   split
   . rename_i hw
     simp only [hw,if_true] at h
     rcases h with h|⟨_,_,_,h,_⟩
     . left
       unfold Oper.wp at *
       generalize (execOp a.eval o).run P w=r at *
       cases r with
       |ok n w'=>
        cases n <;> simp only [Oper.upon] at h ⊢ <;> try exact h
        case enter f args=>
         refine Calls.mono h fun e w'' he=>?_
         cases e with
         |returned u=>exact he
         |panicked c=>cases he.1
         |outgrown=>obtain ⟨_,_,he,_⟩:=he;cases he
       |halt x w'=>
        cases x <;> simp only [Oper.upon] at h ⊢
        cases h.1
     . cases h
   . rename_i hw;simp only [hw] at h;exact h
def Closed (md:Region.Mode) (ops:Array Oper) (listed:Array Bool):Prop:=∀ j oj,ops[j]?=some oj->listed.getD j false=true->∀ e ∈ oj.after,Region.binds md e=true->listed.getD e.on false=true
theorem Closed.add{listed:Array Bool}{j:Nat}(h:Closed md ops listed)(hj:j ∈ Region.ready md ops listed):Closed md ops (listed.setIfInBounds j true):=by
 intro k ok hk hl e he hb
 by_cases hkj:j=k
 . subst hkj
   obtain ⟨_,o',ho',hall⟩:=mem_ready.1 hj
   obtain rfl:ok=o':=by rw [hk] at ho';exact Option.some.inj ho'
   exact getD_set_true (hall e he hb)
 . rw [getD_set_ne false hkj] at hl
   exact getD_set_true (h k ok hk hl e he hb)
def LastIs (md:Region.Mode) (ops:Array Oper) (lst:Nat->Bool):Prop:=
 ∀ j oj,lst j=true->ops[j]?=some oj->∀ listed:Array Bool,Closed md ops listed->(∀ e ∈ oj.after,Region.binds md e=true->listed.getD e.on false=true)->∀ i,i < ops.size->i ≠ j->listed.getD i false=true
theorem LastIs.none_left{j:Nat}{oj:Oper}{listed:Array Bool}(hl:LastIs md ops lst)(hlj:lst j=true)(hj:ops[j]?=some oj)(hsz:listed.size=ops.size)(hcl:Closed md ops listed)
 (hall:∀ e ∈ oj.after,Region.binds md e=true->listed.getD e.on false=true):∀ i,i ≠ j->i ∉ Region.ready md ops listed:=by
 intro i hij hr
 obtain ⟨h0,oi,hoi,_⟩:=mem_ready.1 hr
 have hlo:i < ops.size:=(Array.getElem?_eq_some_iff.1 hoi).1
 have h1:=hl j oj hlj hj listed hcl hall i hlo hij
 have hlt:i < listed.size:=by rw [hsz];exact hlo
 simp [hlt] at h0 h1
 rw [h0] at h1;cases h1
theorem any_of_mix(hl:LastIs md ops lst):∀ (fuel:Nat) (listed:Array Bool) (a:Act) (w:World),listed.size=ops.size->Closed md ops listed->(S w ∨ Region.ready md ops listed=[])->wpMix P md ops Q S qf lst fuel listed a w->wpAny P md ops Q fuel listed a w
 |0,_,_,_,_,_,_,h=>h
 |fuel+1,listed,a,w,hsz,hcl,hS,h=>⟨h.1,fun i hi=>by
  obtain ⟨o,ho⟩:=ready_some hi
  have h2:=h.2 i hi o ho
  have hSw:S w:=hS.resolve_right (fun e=>by rw [e] at hi;cases hi)
  have hsz':(listed.setIfInBounds i true).size=ops.size:=by rw [Array.size_setIfInBounds,hsz]
  split at h2
  . obtain ⟨v,hy,hm⟩:=h2
    exact hy.wpOp ho hSw (any_of_mix hl fuel _ _ _ hsz' (hcl.add hi) (.inl hSw) hm)
  . refine wpOp_n (wpOp_mono (fun a' w' ⟨h3,h4⟩=>any_of_mix hl fuel _ a' w' hsz' (hcl.add hi) ?_ h4) h2)
    cases hli:lst i with
    |false=>exact .inl (h3 hli)
    |true=>
     right
     obtain ⟨_,o',ho',hall⟩:=mem_ready.1 hi
     obtain rfl:o=o':=by rw [ho] at ho';exact Option.some.inj ho'
     refine List.eq_nil_iff_forall_not_mem.2 fun k hk=>?_
     by_cases hki:k=i
     . subst hki
       have:=(mem_ready.1 hk).1
       have hlt:k < listed.size:=by rw [hsz];exact (Array.getElem?_eq_some_iff.1 ho).1
       simp [hlt] at this
     . exact LastIs.none_left hl hli ho hsz' (hcl.add hi) (fun e he hb=>getD_set_true (hall e he hb)) k hki hk⟩
theorem not_wait{i:Nat}{listed:Array Bool}{oj:Oper}(hr:i ∈ Region.ready md ops listed)(hall:∀ e ∈ oj.after,Region.binds md e=true->listed.getD e.on false=true):
 ∀ e ∈ oj.after,Region.binds md e=true->e.on ≠ i:=fun e he hb heq=>by
 have h1:=hall e he hb
 have h0:=(mem_ready.1 hr).1
 rw [heq] at h1
 rcases Nat.lt_or_ge i listed.size with h'|h'
 . simp [h'] at h0 h1;rw [h0] at h1;cases h1
 . simp [Array.getElem?_eq_none h'] at h1
theorem YieldsIf.putBack{oi oj:Oper}{v:Value}{a:Act}{u:Value}(hap:oi.apart ops oj=true)(hsj:∀ cs b,oj.op ≠ .select cs b)(h:YieldsIf P ops S oj u (a.put oi.dst v)):YieldsIf P ops S oj u a:=by
 obtain ⟨h1,_,_⟩:=Oper.apart_spec hap
 unfold YieldsIf at *
 rw [execOp_put oj hsj a oi.dst v h1,wanted_put oj a oi.dst v h1] at h
 exact h
theorem YieldsIf.putOn{oi oj:Oper}{v:Value}{a:Act}{u:Value}(hap:oi.apart ops oj=true)(hsi:∀ cs b,oi.op ≠ .select cs b)(h:YieldsIf P ops S oi v a):YieldsIf P ops S oi v (a.put oj.dst u):=by
 obtain ⟨_,_,h3⟩:=Oper.apart_spec hap
 exact YieldsIf.of_same h (execOp_put oi hsi a oj.dst u h3) (wanted_put oi a oj.dst u h3)
theorem wpOp_before{j:Nat}{oi oj:Oper}{v:Value}(hj:ops[j]?=some oj)(hap:oi.apart ops oj=true)
 (hsi:∀ cs b,oi.op ≠ .select cs b) (hsj:∀ cs b,oj.op ≠ .select cs b) {K:Act->World->Prop} {a:Act} {w:World}
 (hy:YieldsIf P ops S oi v a) (h:wpOp P ops (Qn Q) j K (a.put oi.dst v) w):
 wpOp P ops (Qn Q) j (fun a' w'=>YieldsIf P ops S oi v a' ∧ K (a'.put oi.dst v) w') a w:= by
 obtain ⟨h1,h2,h3⟩:=Oper.apart_spec hap
 have keep:∀ (a:Act),YieldsIf P ops S oi v a->∀ u,YieldsIf P ops S oi v (a.put oj.dst u):=fun a hy u=>YieldsIf.putOn hap hsi hy
 have keepD:∀ d,YieldsIf P ops S oi v { a with defers:=d :: a.defers }:=fun d=>hy.of_same rfl rfl
 unfold wpOp at *
 simp only [hj] at *
 rw [wanted_put oj a oi.dst v h1] at h
 split
 . rename_i hw
   simp only [hw,if_true] at h
   rcases h with h|⟨_,_,_,h,_⟩
   case inr=>cases h
   refine .inl ?_
   unfold Oper.wp at *
   rw [execOp_put oj hsj a oi.dst v h1] at h
   generalize (execOp a.eval oj).run P w=r at *
   cases r with
   |ok n w'=>
    cases n <;> simp only [Oper.upon] at h ⊢
    case value u=>exact ⟨keep a hy u,by rw [<- Act.put_comm a v u h2];exact h⟩
    case skip=>exact ⟨keep a hy _,by rw [<- Act.put_comm a v undef h2];exact h⟩
    case defer d=>
     refine ⟨keep _ (keepD d) _,?_⟩
     rw [<- Act.put_comm _ v undef h2,<- Act.put_defers]
     exact h
    case enter f args=>
     refine Calls.mono h fun e w'' he=>?_
     cases e with
     |returned u=>exact ⟨keep a hy u,by rw [<- Act.put_comm a v u h2];exact he⟩
     |panicked c=>cases he.1
     |outgrown=>exact he
    case row row args=>exact Rows.mono h fun u w'' he=>⟨keep a hy u,by rw [<- Act.put_comm a v u h2];exact he⟩
   |halt x w'=>
    cases x <;> simp only [Oper.upon] at h ⊢
    case panic u=>cases h.1
 . rename_i hw
   simp only [hw] at h
   exact ⟨keep a hy _,by rw [<- Act.put_comm a v undef h2];exact h⟩
theorem mix_first_quiet{i:Nat}{oi:Oper}{v:Value}(hi:ops[i]?=some oi)(hsel:∀ (j:Nat) (o:Oper) cs b,ops[j]?=some o->o.op ≠ .select cs b)(_hl:LastIs md ops lst)(hqi:qf i=true):
 ∀ (fuel:Nat) (listed:Array Bool) (a:Act) (w:World),listed.size=ops.size->
  (∀ j oj,ops[j]?=some oj->j ≠ i->listed.getD j true=false->(∀ e ∈ oj.after,Region.binds md e=true->e.on ≠ i)->oi.apart ops oj=true)->
  i ∈ Region.ready md ops listed->YieldsIf P ops S oi v a->
  wpMix P md ops Q S qf lst fuel (listed.setIfInBounds i true) (a.put oi.dst v) w->wpMix P md ops Q S qf lst (fuel+1) listed a w:=by
 intro fuel
 induction fuel with
 |zero=>
  intro listed a w _ _ hr hy H
  refine ⟨fun h=>(by rw [h] at hr;cases hr),fun j hj o ho=>?_⟩
  by_cases hji:j=i
  . subst hji
    obtain rfl:oi=o:=by rw [hi] at ho;exact Option.some.inj ho
    rw [if_pos hqi];exact ⟨v,hy,H⟩
  . have:=ready_mono hj hji
    rw [H.1] at this
    cases this
 |succ fuel ih=>
  intro listed a w hsz hfree hr hy H
  refine ⟨fun h=>(by rw [h] at hr;cases hr),fun j hj oj hoj=>?_⟩
  by_cases hji:j=i
  . subst hji
    obtain rfl:oi=oj:=by rw [hi] at hoj;exact Option.some.inj hoj
    rw [if_pos hqi];exact ⟨v,hy,H⟩
  . have h1:=H.2 j (ready_mono hj hji) oj hoj
    obtain ⟨hjun,oj',hoj',hall⟩:=mem_ready.1 hj
    obtain rfl:oj=oj':=by rw [hoj] at hoj';exact Option.some.inj hoj'
    have hap:=hfree j oj hoj hji hjun (not_wait hr hall)
    have hsi:=fun cs b=>hsel i oi cs b hi
    have hsj:=fun cs b=>hsel j oj cs b hoj
    have hfree':∀ k ok,ops[k]?=some ok->k ≠ i->(listed.setIfInBounds j true).getD k true=false->
     (∀ e ∈ ok.after,Region.binds md e=true->e.on ≠ i)->oi.apart ops ok=true:=fun k ok hk hki hun hno=>by
     refine hfree k ok hk hki ?_ hno
     by_cases hjk:j=k
     . subst hjk;exact hjun
     . rw [getD_set_ne true hjk] at hun;exact hun
    split at h1
    . rename_i hqj
      rw [if_pos hqj]
      obtain ⟨u,hyj,hm⟩:=h1
      refine ⟨u,YieldsIf.putBack hap hsj hyj,ih (listed.setIfInBounds j true) (a.put oj.dst u) w (by rw [Array.size_setIfInBounds,hsz]) hfree' (ready_mono hr (Ne.symm hji)) (YieldsIf.putOn hap hsi hy) ?_⟩
      rw [Array.setIfInBounds_comm _ _ hji,<- Act.put_comm a v u (Oper.apart_spec hap).2.1]
      exact hm
    . rename_i hqj
      rw [if_neg hqj]
      have h2:=wpOp_before hoj hap hsi hsj hy h1
      refine wpOp_mono (fun a' w' h3=>⟨h3.2.1,ih (listed.setIfInBounds j true) a' w' (by rw [Array.size_setIfInBounds,hsz]) hfree' (ready_mono hr (Ne.symm hji)) h3.1 ?_⟩) h2
      rw [Array.setIfInBounds_comm _ _ hji]
      exact h3.2.2
theorem wpOp_some{i:Nat}{oi:Oper}{K:Act->World->Prop}{a:Act}{w:World}(hi:ops[i]?=some oi)(h:wpOp P ops (Qn Q) i K a w):
 ∃ v d w',K ({ a with defers:=d }.put oi.dst v) w':=by
 unfold wpOp at h
 simp only [hi] at h
 split at h
 . rcases h with h|⟨_,_,_,h,_⟩
   case inr=>cases h
   unfold Oper.wp at h
   generalize (execOp a.eval oi).run P w=r at h
   cases r with
   |ok n w'=>
    cases n <;> simp only [Oper.upon] at h
    case value u=>exact ⟨u,a.defers,w',h⟩
    case skip=>exact ⟨undef,a.defers,w',h⟩
    case defer d=>exact ⟨undef,d :: a.defers,w',h⟩
    case enter f args=>
     obtain ⟨e,w'',fr,hR,_⟩:=h []
     cases e with
     |returned u=>exact ⟨u,a.defers,w'',hR⟩
     |panicked c=>cases hR.1
     |outgrown=>obtain ⟨_,_,hR,_⟩:=hR;cases hR
    case row row args=>
     obtain ⟨u,w'',hR,_⟩:=h (Frame.ofRow P row args .normal) []
     exact ⟨u,a.defers,w'',hR⟩
   |halt x w'=>
    cases x <;> simp only [Oper.upon] at h
    cases h.1
 . exact ⟨undef,a.defers,w,h⟩
theorem wpOp_behind{i:Nat}{oi oj:Oper}{u:Value}(hi:ops[i]?=some oi)(hap:oi.apart ops oj=true)(hsi:∀ cs b,oi.op ≠ .select cs b)
 {K K2:Act->World->Prop} {a:Act} {w:World} (h:wpOp P ops (Qn Q) i K a w) (hK:∀ v d w',K ({ a with defers:=d }.put oi.dst v) w'->K2 (({ a with defers:=d }.put oi.dst v).put oj.dst u) w'):
 wpOp P ops (Qn Q) i K2 (a.put oj.dst u) w:=by
 obtain ⟨_,h2,h3⟩:=Oper.apart_spec hap
 have comm:∀ (d:List Deferred) (v:Value),Act.put (Act.put { a with defers:=d } oi.dst v) oj.dst u=Act.put { a.put oj.dst u with defers:=d } oi.dst v:=by
  intro d v
  rw [Act.put_comm _ v u h2]
  cases oj.dst <;> rfl
 unfold wpOp at *
 simp only [hi] at *
 rw [wanted_put oi a oj.dst u h3]
 split
 . rename_i hw
   simp only [hw,if_true] at h
   rcases h with h|⟨_,_,_,h,_⟩
   case inr=>cases h
   refine .inl ?_
   unfold Oper.wp at *
   rw [execOp_put oi hsi a oj.dst u h3]
   generalize (execOp a.eval oi).run P w=r at *
   cases r with
   |ok n w'=>
    cases n <;> simp only [Oper.upon] at h ⊢
    case value x=>have:=hK x a.defers w' h;rw [comm] at this;cases hd:oj.dst <;> (simp only [hd] at this ⊢;exact this)
    case skip=>have:=hK undef a.defers w' h;rw [comm] at this;cases hd:oj.dst <;> (simp only [hd] at this ⊢;exact this)
    case defer d=>have:=hK undef (d :: a.defers) w' h;rw [comm] at this;cases hd:oj.dst <;> (simp only [hd] at this ⊢;exact this)
    case enter f args=>
     refine Calls.mono h fun e w'' he=>?_
     cases e with
     |returned x=>have:=hK x a.defers w'' he;rw [comm] at this;cases hd:oj.dst <;> (simp only [hd] at this ⊢;exact this)
     |panicked c=>cases he.1
     |outgrown=>exact he
    case row row args=>exact Rows.mono h fun x w'' he=>by have:=hK x a.defers w'' he;rw [comm] at this;cases hd:oj.dst <;> (simp only [hd] at this ⊢;exact this)
   |halt x w'=>
    cases x <;> simp only [Oper.upon] at h ⊢
    case panic x=>cases h.1
 . rename_i hw
   simp only [hw] at h
   have:=hK undef a.defers w h
   rw [comm] at this
   cases hd:oj.dst <;> (simp only [hd] at this ⊢;exact this)
def Chain (md:Region.Mode) (ops:Array Oper) (qf:Nat->Bool):Prop:=
 ∀ j oj,qf j=false->ops[j]?=some oj->∀ i,i < j->qf i=false->(∀ k,i < k->k < j->qf k=true)->
  ∀ listed:Array Bool,Closed md ops listed->(∀ e ∈ oj.after,Region.binds md e=true->listed.getD e.on false=true)->listed.getD i false=true
theorem chain_before(hc:Chain md ops qf){listed:Array Bool}(hcl:Closed md ops listed):∀ (n j:Nat) (oj:Oper),j<=n->qf j=false->ops[j]?=some oj->(∀ e ∈ oj.after,Region.binds md e=true->listed.getD e.on false=true)->
 ∀ i,i < j->qf i=false->listed.getD i false=true:=by
 intro n
 induction n with
 |zero=>intro j oj hj _ _ _ i hi;omega
 |succ n ih=>
  intro j oj hjn hqj hj hall i hij hqi
  have hex:∃ p,i<=p ∧ p < j ∧ qf p=false ∧ ∀ k,p < k->k < j->qf k=true:=by
   clear hall ih hj hjn
   induction j with
   |zero=>omega
   |succ j ihj=>
    cases hq:qf j with
    |false=>exact ⟨j,by omega,by omega,hq,fun k h1 h2=>by omega⟩
    |true=>
     by_cases h:i=j
     . subst h;rw [hq] at hqi;cases hqi
     . have:∃ p,i<=p ∧ p < j ∧ qf p=false ∧ ∀ k,p < k->k < j->qf k=true:=by
        clear ihj
        have hlt:i < j:=by omega
        clear h hij hqj
        induction j with
        |zero=>omega
        |succ j ih2=>
         cases hq2:qf j with
         |false=>exact ⟨j,by omega,by omega,hq2,fun k h1 h2=>by omega⟩
         |true=>
          by_cases h:i=j
          . subst h;rw [hq2] at hqi;cases hqi
          . obtain ⟨p,h1,h2,h3,h4⟩:=ih2 hq2 (by omega)
            exact ⟨p,h1,by omega,h3,fun k h5 h6=>by
             by_cases e:k=j
             . subst e;exact hq2
             . exact h4 k h5 (by omega)⟩
       obtain ⟨p,h1,h2,h3,h4⟩:=this
       exact ⟨p,h1,by omega,h3,fun k h5 h6=>by
        by_cases e:k=j
        . subst e;exact hq
        . exact h4 k h5 (by omega)⟩
  obtain ⟨p,hip,hpj,hqp,hbt⟩:=hex
  have hlp:listed.getD p false=true:=hc j oj hqj hj p hpj hqp hbt listed hcl hall
  by_cases hpe:i=p
  . subst hpe;exact hlp
  . have hlt:p < listed.size:=by
     rcases Nat.lt_or_ge p listed.size with h'|h'
     . exact h'
     . simp [Array.getElem?_eq_none h'] at hlp
    have hpo:p < ops.size:=Nat.lt_trans hpj (Array.getElem?_eq_some_iff.1 hj).1
    exact ih p ops[p] (by omega) hqp (Array.getElem?_eq_getElem hpo) (hcl p ops[p] (Array.getElem?_eq_getElem hpo) hlp) i (by omega) hqi
theorem mix_first_effect{i:Nat}{oi:Oper}(hi:ops[i]?=some oi)(hsel:∀ (j:Nat) (o:Oper) cs b,ops[j]?=some o->o.op ≠ .select cs b)(_hl:LastIs md ops lst)(hc:Chain md ops qf)(hqi:qf i=false):
 ∀ (fuel:Nat) (listed:Array Bool) (a:Act) (w:World),listed.size=ops.size->Closed md ops listed->(∀ m,m < i->listed.getD m true=true)->
  (∀ j oj,ops[j]?=some oj->j ≠ i->qf j=true->listed.getD j true=false->(∀ e ∈ oj.after,Region.binds md e=true->e.on ≠ i)->oi.apart ops oj=true)->
  i ∈ Region.ready md ops listed->S w->
  wpOp P ops (Qn Q) i (fun a' w'=>(lst i=false->S w') ∧ wpMix P md ops Q S qf lst fuel (listed.setIfInBounds i true) a' w') a w->wpMix P md ops Q S qf lst (fuel+1) listed a w:=by
 intro fuel
 induction fuel with
 |zero=>
  intro listed a w _ _ _ _ hr _ H
  refine ⟨fun h=>(by rw [h] at hr;cases hr),fun j hj o ho=>?_⟩
  by_cases hji:j=i
  . subst hji
    rw [if_neg (by rw [hqi];simp)];exact H
  . obtain ⟨v,d,w',_,H'⟩:=wpOp_some hi H
    have:=ready_mono hj hji
    rw [H'.1] at this
    cases this
 |succ fuel ih=>
  intro listed a w hsz hcl hbef hfree hr hS H
  refine ⟨fun h=>(by rw [h] at hr;cases hr),fun j hj oj hoj=>?_⟩
  by_cases hji:j=i
  . subst hji
    rw [if_neg (by rw [hqi];simp)];exact H
  . obtain ⟨hjun,oj',hoj',hall⟩:=mem_ready.1 hj
    obtain rfl:oj=oj':=by rw [hoj] at hoj';exact Option.some.inj hoj'
    have hun:listed.getD i true=false:=(mem_ready.1 hr).1
    cases hqj:qf j with
    |false=>
     exfalso
     rcases Nat.lt_or_ge j i with hlt|hge
     . rw [hbef j hlt] at hjun;cases hjun
     . have h1:=chain_before hc hcl j j oj (Nat.le_refl _) hqj hoj hall i (by omega) hqi
       have hlt:i < listed.size:=by rw [hsz];exact (Array.getElem?_eq_some_iff.1 hi).1
       simp [hlt] at h1 hun
       rw [h1] at hun;cases hun
    |true=>
     rw [if_pos rfl]
     have hap:=hfree j oj hoj hji hqj hjun (not_wait hr hall)
     have hsi:=fun cs b=>hsel i oi cs b hi
     have hsj:=fun cs b=>hsel j oj cs b hoj
     have hjr':=ready_mono hj hji
     have back:∀ (d:List Deferred) (v u:Value),YieldsIf P ops S oj u (Act.put { a with defers:=d } oi.dst v)->YieldsIf P ops S oj u a:=fun d v u hy=>
      YieldsIf.of_same (YieldsIf.putBack hap hsj hy) rfl rfl
     have uniq:∀ (u u':Value) (w:World),S w->YieldsIf P ops S oj u a->YieldsIf P ops S oj u' a->u=u':=fun u u' w hw h1 h2=>by
      rcases h1 with ⟨g1,h1⟩|⟨g1,h1⟩ <;> rcases h2 with ⟨g2,h2⟩|⟨g2,h2⟩
      . have:=(h1 w hw).symm.trans (h2 w hw)
        simpa using this
      . rw [g1] at g2;cases g2
      . rw [g1] at g2;cases g2
      . rw [h1,h2]
     obtain ⟨v0,d0,w0,_,H0⟩:=wpOp_some hi H
     have h0:=H0.2 j hjr' oj hoj
     rw [if_pos hqj] at h0
     obtain ⟨u,hyu,_⟩:=h0
     have hya:=back d0 v0 u hyu
     refine ⟨u,hya,ih (listed.setIfInBounds j true) (a.put oj.dst u) w (by rw [Array.size_setIfInBounds,hsz]) (hcl.add hj) ?_ ?_ (ready_mono hr (Ne.symm hji)) hS ?_⟩
     . intro m hm
       by_cases hjm:j=m
       . subst hjm;rw [hbef j hm] at hjun;cases hjun
       . rw [getD_set_ne true hjm];exact hbef m hm
     . intro k ok hk hki hqk hunk hno
       refine hfree k ok hk hki hqk ?_ hno
       by_cases hjk:j=k
       . subst hjk;exact hjun
       . rw [getD_set_ne true hjk] at hunk;exact hunk
     . refine wpOp_behind hi hap hsi H fun v d w' ⟨hS',hm⟩=>⟨hS',?_⟩
       have h1:=hm.2 j hjr' oj hoj
       rw [if_pos hqj] at h1
       obtain ⟨u',hy',hm'⟩:=h1
       obtain rfl:u=u':=uniq u u' w hS hya (back d v u' hy')
       rw [Array.setIfInBounds_comm _ _ hji]
       exact hm'
def wpLex (P:Program) (ops:Array Oper) (Q:Exit->Act->World->Prop) (S:World->Prop) (qf lst:Nat->Bool):List Oper->Nat->Act->World->Prop
 |[],_,a,w=>Q .normal a w
 |o :: rest,k,a,w=>
  if qf k=true then ∃ v,YieldsIf P ops S o v a ∧ wpLex P ops Q S qf lst rest (k+1) (a.put o.dst v) w
  else if Region.wanted o (yielded ops a.tmps) then o.wp P a w (fun a' w'=>(lst k=false->S w') ∧ wpLex P ops Q S qf lst rest (k+1) a' w') (Qn Q)
  else wpLex P ops Q S qf lst rest (k+1) (a.put o.dst undef) w
def qfOf (es:List Nat) (k:Nat):Bool:=!es.contains k
def waitsB (md:Region.Mode) (oj:Oper) (i:Nat):Bool:=oj.after.any fun e=>Region.binds md e && e.on == i
theorem waitsB_spec{oj:Oper}{i:Nat}(h:waitsB md oj i=true):∃ e ∈ oj.after,Region.binds md e=true ∧ e.on=i:=by
 obtain ⟨e,he,hb⟩:=Array.any_eq_true'.1 h
 simp only [Bool.and_eq_true,beq_iff_eq] at hb
 exact ⟨e,he,hb⟩
def addEdges (md:Region.Mode) (o:Oper) (F:Array Bool):Array Bool:=o.after.toList.foldl (fun F e=>if Region.binds md e then F.setIfInBounds e.on true else F) F
def forced (md:Region.Mode) (ops:Array Oper):List Nat->Array Bool->Array Bool
 |[],F=>F
 |i :: is,F=>forced md ops is (if F.getD i false then (match ops[i]? with|some o=>addEdges md o F|none=>F) else F)
def lastB (md:Region.Mode) (ops:Array Oper) (j:Nat):Bool:=
 match ops[j]? with
 |none=>false
 |some oj=>(List.range ops.size).all fun i=>i == j || (forced md ops (List.range ops.size).reverse (addEdges md oj (Array.replicate ops.size false))).getD i false
theorem addEdges_sub{listed:Array Bool}(es:List Edge):∀ (F:Array Bool),(∀ i,F.getD i false=true->listed.getD i false=true)->(∀ e ∈ es,Region.binds md e=true->listed.getD e.on false=true)->
 ∀ i,(es.foldl (fun F e=>if Region.binds md e then F.setIfInBounds e.on true else F) F).getD i false=true->listed.getD i false=true:=by
 induction es with
 |nil=>intro F h _ i hi;exact h i hi
 |cons e es ih=>
  intro F h hall i hi
  refine ih _ ?_ (fun e' he'=>hall e' (List.mem_cons_of_mem _ he')) i hi
  intro k hk
  simp only at hk
  split at hk
  . rename_i hb
    by_cases hke:e.on=k
    . subst hke;exact hall e (by simp) hb
    . rw [getD_set_ne false hke] at hk;exact h k hk
  . exact h k hk
theorem forced_sub{listed:Array Bool}(hcl:Closed md ops listed):∀ (is:List Nat) (F:Array Bool),(∀ i,F.getD i false=true->listed.getD i false=true)->∀ i,(forced md ops is F).getD i false=true->listed.getD i false=true
 |[],_,h,i,hi=>h i hi
 |j :: is,F,h,i,hi=>by
  unfold forced at hi
  refine forced_sub hcl is _ ?_ i hi
  intro k hk
  split at hk
  . rename_i hj
    split at hk
    . rename_i o ho
      exact addEdges_sub o.after.toList F h (fun e he hb=>hcl j o ho (h j hj) e (by simpa using he) hb) k hk
    . exact h k hk
  . exact h k hk
theorem lastB_spec:LastIs md ops (lastB md ops):=by
 intro j oj hl hj listed hcl hall i hi hne
 simp only [lastB,hj,List.all_eq_true,List.mem_range,Bool.or_eq_true,beq_iff_eq] at hl
 have h1:=(hl i hi).resolve_left hne
 exact forced_sub hcl _ _ (fun k hk=>addEdges_sub oj.after.toList _ (fun m hm=>by simp [Array.getElem?_replicate] at hm;split at hm <;> simp at hm) (fun e he hb=>hall e (by simpa using he) hb) k hk) i h1
def lsOf (ls:List Nat) (k:Nat):Bool:=ls.contains k
theorem lsOf_spec{ls:List Nat}(h:ls.all (lastB md ops)=true):LastIs md ops (lsOf ls):=fun j oj hl=>by
 have hm:j ∈ ls:=by simpa [lsOf] using hl
 exact lastB_spec j oj (List.all_eq_true.1 h j hm)
def waitsF (md:Region.Mode) (ops:Array Oper) (oj:Oper) (i:Nat):Bool:=waitsB md oj i || (forced md ops (List.range ops.size).reverse (addEdges md oj (Array.replicate ops.size false))).getD i false
theorem waitsF_spec{oj:Oper}{i:Nat}(h:waitsF md ops oj i=true)(listed:Array Bool)(hcl:Closed md ops listed)(hall:∀ e ∈ oj.after,Region.binds md e=true->listed.getD e.on false=true):listed.getD i false=true:=by
 unfold waitsF at h
 rw [Bool.or_eq_true] at h
 rcases h with h|h
 . obtain ⟨e,he,hb,heq⟩:=waitsB_spec h
   rw [<- heq];exact hall e he hb
 . exact forced_sub hcl _ _ (fun k hk=>addEdges_sub oj.after.toList _ (fun m hm=>by simp [Array.getElem?_replicate] at hm;split at hm <;> simp at hm) (fun e he hb=>hall e (by simpa using he) hb) k hk) i h
def chainB (md:Region.Mode) (ops:Array Oper):List Nat->Bool
 |i :: j :: rest=>decide (i < j) && (match ops[j]? with|some oj=>waitsF md ops oj i|none=>false) && chainB md ops (j :: rest)
 |_=>true
theorem chainB_sorted:∀ (es:List Nat) (i:Nat),chainB md ops (i :: es)=true->∀ j ∈ es,i < j
 |[],_,_,_,hj=>by cases hj
 |k :: es,i,h,j,hj=>by
  simp only [chainB,Bool.and_eq_true,decide_eq_true_eq] at h
  rcases List.mem_cons.1 hj with rfl|hj
  . exact h.1.1
  . exact Nat.lt_trans h.1.1 (chainB_sorted es k h.2 j hj)
theorem chainB_next:∀ (es:List Nat),chainB md ops es=true->∀ j oj,ops[j]?=some oj->j ∈ es->∀ i,i ∈ es->i < j->(∀ k,i < k->k < j->k ∉ es)->
 ∀ listed:Array Bool,Closed md ops listed->(∀ e ∈ oj.after,Region.binds md e=true->listed.getD e.on false=true)->listed.getD i false=true
 |[],_,_,_,_,hj,_,_,_,_=>by cases hj
 |[x],_,j,_,_,hj,i,hi,hij,_=>by
  have h1:j=x:=by simpa using hj
  have h2:i=x:=by simpa using hi
  omega
 |x :: y :: es,h,j,oj,hoj,hj,i,hi,hij,hbt=>by
  have hs:=chainB_sorted _ _ h
  simp only [chainB,Bool.and_eq_true,decide_eq_true_eq] at h
  have hs2:=chainB_sorted _ _ h.2
  by_cases hx:i=x
  . subst hx
    have hy:y=j:=by
     rcases List.mem_cons.1 hj with rfl|hj'
     . omega
     . rcases List.mem_cons.1 hj' with rfl|hj''
       . rfl
       . exact absurd (by simp) (hbt y h.1.1 (hs2 j hj''))
    subst hy
    have:=h.1.2
    rw [hoj] at this
    exact waitsF_spec this
  . have hi':i ∈ y :: es:=(List.mem_cons.1 hi).resolve_left hx
    have hj':j ∈ y :: es:=(List.mem_cons.1 hj).resolve_left (fun e=>by have:=hs i hi';omega)
    exact chainB_next (y :: es) h.2 j oj hoj hj' i hi' hij (fun k h1 h2 hm=>hbt k h1 h2 (List.mem_cons_of_mem _ hm))
theorem chainB_spec{es:List Nat}(h:chainB md ops es=true):Chain md ops (qfOf es):=by
 intro j oj hqj hj i hij hqi hbt
 have mem:∀ k,qfOf es k=false ↔ k ∈ es:=fun k=>by simp [qfOf]
 refine chainB_next es h j oj hj ((mem j).1 hqj) i ((mem i).1 hqi) hij (fun k h1 h2 hm=>?_)
 have:=hbt k h1 h2
 rw [(mem k).2 hm] at this
 cases this
def freeE (md:Region.Mode) (ops:Array Oper) (qf:Nat->Bool) (listed:Array Bool) (i:Nat):Bool:=
 match ops[i]? with
 |none=>false
 |some oi=>(List.range ops.size).all fun j=>j == i || listed.getD j true || (!qf i && !qf j) || match ops[j]? with
  |some oj=>waitsB md oj i || oi.apart ops oj
  |none=>true
theorem freeE_spec{i:Nat}{oi:Oper}{listed:Array Bool}(hi:ops[i]?=some oi)(h:freeE md ops qf listed i=true)(j:Nat)(oj:Oper)
 (hj:ops[j]?=some oj) (hne:j ≠ i) (hq:qf i=true ∨ qf j=true) (hun:listed.getD j true=false) (hno:∀ e ∈ oj.after,Region.binds md e=true->e.on ≠ i):
 oi.apart ops oj=true:=by
 simp only [freeE,hi,List.all_eq_true,List.mem_range] at h
 have h1:=h j (Array.getElem?_eq_some_iff.1 hj).1
 have hqq:(!qf i && !qf j)=false:=by rcases hq with h|h <;> simp [h]
 simp only [hj,Bool.or_eq_true,beq_iff_eq,hne,false_or,hun,Bool.false_eq_true,hqq] at h1
 rcases h1 with h1|h1
 . obtain ⟨e,he,hb,heq⟩:=waitsB_spec h1
   exact absurd heq (hno e he hb)
 . exact h1
def lexFromE (md:Region.Mode) (ops:Array Oper) (qf:Nat->Bool):Nat->Nat->Array Bool->Bool
 |0,_,listed=>(Region.ready md ops listed).isEmpty
 |fuel+1,k,listed=>(Region.ready md ops listed).contains k && freeE md ops qf listed k && lexFromE md ops qf fuel (k+1) (listed.setIfInBounds k true)
def lexE (ops:Array Oper) (es ls:List Nat):Bool:=Region.noSelect ops && (ls.all (lastB .any ops) && chainB .any ops es) && lexFromE .any ops (qfOf es) ops.size 0 (Array.replicate ops.size false)
theorem mix_lex(hs:Region.noSelect ops=true)(hl:LastIs md ops lst)(hc:Chain md ops qf):∀ (l:List Oper) (k:Nat) (listed:Array Bool) (a:Act) (w:World),(∀ j,l[j]?=ops[k+j]?)->
 lexFromE md ops qf l.length k listed=true->listed.size=ops.size->Closed md ops listed->(∀ m,m < k->listed.getD m true=true)->(S w ∨ l=[])->
 wpLex P ops Q S qf lst l k a w->wpMix P md ops Q S qf lst l.length listed a w
 |[],_,_,_,_,_,hB,_,_,_,_,h=>⟨by simpa [lexFromE] using hB,h⟩
 |o :: l,k,listed,a,w,hops,hB,hsz,hcl,hbef,hS,h=>by
  have h0:ops[k]?=some o:=by simpa using (hops 0).symm
  simp only [List.length_cons,lexFromE,Bool.and_eq_true] at hB
  obtain ⟨⟨hr,hf⟩,hB'⟩:=hB
  have hr':k ∈ Region.ready md ops listed:=by simpa using hr
  have hops':∀ j,l[j]?=ops[k+1+j]?:=fun j=>by have:=hops (j+1);simpa [Nat.add_assoc,Nat.add_comm 1 j] using this
  have hsz':(listed.setIfInBounds k true).size=ops.size:=by rw [Array.size_setIfInBounds,hsz]
  have hkl:k < listed.size:=by rw [hsz];exact (Array.getElem?_eq_some_iff.1 h0).1
  have hbef':∀ m,m < k+1->(listed.setIfInBounds k true).getD m true=true:=fun m hm=>by
   by_cases hkm:k=m
   . subst hkm;simp [hkl]
   . rw [getD_set_ne true hkm];exact hbef m (by omega)
  have hSw:S w:=hS.resolve_right (by simp)
  unfold wpLex at h
  cases hq:qf k with
  |true=>
   rw [if_pos hq] at h
   obtain ⟨v,hy,hK⟩:=h
   exact mix_first_quiet h0 (Region.noSelect_spec hs) hl hq l.length listed a w hsz (fun j oj hj hne hun hno=>freeE_spec h0 hf j oj hj hne (.inl hq) hun hno) hr' hy
    (mix_lex hs hl hc l (k+1) _ _ w hops' hB' hsz' (hcl.add hr') hbef' (.inl hSw) hK)
  |false=>
   rw [if_neg (by rw [hq];simp)] at h
   refine mix_first_effect h0 (Region.noSelect_spec hs) hl hc hq l.length listed a w hsz hcl hbef (fun j oj hj hne hqj hun hno=>freeE_spec h0 hf j oj hj hne (.inr hqj) hun hno) hr' hSw ?_
   have step:∀ a' w',((lst k=false->S w') ∧ wpLex P ops Q S qf lst l (k+1) a' w')->((lst k=false->S w') ∧ wpMix P md ops Q S qf lst l.length (listed.setIfInBounds k true) a' w'):=fun a' w' ⟨h1,h2⟩=>
    ⟨h1,mix_lex hs hl hc l (k+1) _ _ w' hops' hB' hsz' (hcl.add hr') hbef' (by
     cases hlk:lst k with
     |false=>exact .inl (h1 hlk)
     |true=>
      right
      refine List.eq_nil_iff_forall_not_mem.2 fun x hx=>?_
      obtain ⟨j,hj,hjx⟩:=List.getElem_of_mem hx
      have hoj:ops[k+1+j]?=some x:=by rw [<- hops' j,List.getElem?_eq_getElem hj,hjx]
      obtain ⟨_,o',ho',hall⟩:=mem_ready.1 hr'
      obtain rfl:o=o':=by rw [h0] at ho';exact Option.some.inj ho'
      have h3:=hl k o hlk h0 listed hcl hall (k+1+j) (Array.getElem?_eq_some_iff.1 hoj).1 (by omega)
      exact absurd h3 (by
       intro h3
       have hlt:k+1+j < listed.size:=by rw [hsz];exact (Array.getElem?_eq_some_iff.1 hoj).1
       have hB2:=hB'
       clear hB'
       exact lex_unlisted (listed:=listed.setIfInBounds k true) l.length (k+1) hB2 j hj (by rw [getD_set_true h3]))) h2⟩
   unfold wpOp
   simp only [h0]
   split
   . rename_i hw
     rw [if_pos hw] at h
     exact .inl (Oper.wp_mono step h)
   . rename_i hw
     rw [if_neg hw] at h
     refine step _ _ ⟨fun _=>hSw,h⟩
where
 lex_unlisted {md:Region.Mode} {ops:Array Oper} {qf:Nat->Bool}:∀ {listed:Array Bool} (n k:Nat),lexFromE md ops qf n k listed=true->∀ j,j < n->listed.getD (k+j) false=true->False
  |listed,0,_,_,j,hj,_=>by omega
  |listed,n+1,k,h,j,hj,hl=>by
   simp only [lexFromE,Bool.and_eq_true] at h
   obtain ⟨⟨hr,_⟩,hB⟩:=h
   rcases j with _|j
   . have h0:=(mem_ready.1 (show k ∈ Region.ready md ops listed by simpa using hr)).1
     rcases Nat.lt_or_ge k listed.size with h'|h'
     . simp [h'] at h0 hl;rw [h0] at hl;cases hl
     . simp [Array.getElem?_eq_none h'] at hl
   . exact lex_unlisted n (k+1) hB j (by omega) (by rw [show k+1+j=k+(j+1) from by omega];exact getD_set_true hl)
theorem wp_region_lex{id:Nat}{a:Act}{w:World}{l:List Oper}(es ls:List Nat)(S:World->Prop)(hm:P.follows .mixedOrders=true)(hB:lexE l.toArray es ls=true)(hS:S w.drew)
 (h:wpLex P l.toArray Q S (qfOf es) (lsOf ls) l 0 a w.drew):(Code.region id l.toArray true).wp P Q a w:=by
 simp only [lexE,Bool.and_eq_true] at hB
 obtain ⟨⟨h1,h4,h2⟩,h3⟩:=hB
 have hm':=mix_lex (md:=.any) h1 (lsOf_spec h4) (chainB_spec h2) l 0 (Array.replicate l.toArray.size false) a w.drew (by simp) (by simpa using h3) (by simp)
  (fun j oj hj hl=>by simp [Array.getElem?_replicate] at hl;split at hl <;> simp at hl) (fun m hm=>by omega) (.inl hS) h
 exact wp_region_any hm (any_of_mix (lsOf_spec h4) _ _ _ _ (by simp) (fun j oj hj hl=>by simp [Array.getElem?_replicate] at hl;split at hl <;> simp at hl) (.inl hS) (by simpa using hm'))
variable {rest:List Oper} {o:Oper} {k:Nat} {a:Act} {w:World}
theorem lex_nil(h:Q .normal a w):wpLex P ops Q S qf lst [] k a w:=h
theorem lex_q(v:Value)(hq:qf k=true)(hw:Region.wanted o (yielded ops a.tmps)=true)(h:∀ W,S W->(execOp a.eval o).run P W=.ok (.value v) W)
 (hk:wpLex P ops Q S qf lst rest (k+1) (a.put o.dst v) w):wpLex P ops Q S qf lst (o :: rest) k a w:=by
 unfold wpLex
 rw [if_pos hq]
 exact ⟨v,.inl ⟨hw,h⟩,hk⟩
theorem lex_e(hq:qf k=false)(hw:Region.wanted o (yielded ops a.tmps)=true)(h:∀ K:Act->World->Prop,(∀ a' w',(lst k=false->S w') ∧ wpLex P ops Q S qf lst rest (k+1) a' w'->K a' w')->o.wp P a w K (Qn Q)):
 wpLex P ops Q S qf lst (o :: rest) k a w:=by
 unfold wpLex
 rw [if_neg (by rw [hq];simp),if_pos hw]
 exact h _ fun _ _ h1=>h1
def plainOp:Op->Bool
 |.store .. | .ready _|.mapUpdate .. | .insert .. | .entryStore .. | .go _|.defer _|.send .. | .recv .. | .select ..=>false
 |.call { callee:=.builtin .len,.. }=>true
 |.call { callee:=.builtin .cap,.. }=>true
 |.call _=>false
 |_=>true
theorem run_vg{α:Type}{s:Sem α}{g:α->Value}{n:Next}{w w':World}(h:(s >>= fun x=>pure (Next.value (g x))).run P w=.ok n w'):∃ x,n=.value x:=by
 rw [Sem.run_bind] at h
 cases hs:s.run P w with
 |ok x w1=>rw [hs] at h;simp only [Result.andThen_ok,Sem.run_pure] at h;cases h;exact ⟨_,rfl⟩
 |halt x w1=>rw [hs] at h;cases h
theorem andThen_v{r:Result Value}{n:Next}{w':World}(h:(r.andThen fun a w'=>Result.ok (Next.value a) w')=.ok n w'):∃ x,n=.value x:=by
 cases r with
 |ok x w1=>simp only [Result.andThen_ok] at h;cases h;exact ⟨x,rfl⟩
 |halt x w1=>cases h
theorem run_pv{x:Value}{n:Next}{w w':World}(h:(pure (Next.value x):Sem Next).run P w=.ok n w'):∃ x,n=.value x:=by
 simp only [Sem.run_pure] at h;cases h;exact ⟨_,rfl⟩
theorem run_plain{o:Oper}{ρ:Operand->Value}{n:Next}{w w':World}(hp:plainOp o.op=true)(h:(execOp ρ o).run P w=.ok n w'):∃ x,n=.value x:=by
 obtain ⟨dst,op,type,pos,after,guard⟩:=o
 simp only at hp
 unfold execOp at h
 cases op <;> first|(cases hp;done)|(exact run_vg (g:=id) h)|(exact run_vg h)|(exact run_pv h)|skip
 case nilCheck x=>
  simp only at h
  split at h
  case h_1=>simp [runtimePanic] at h
  case h_2=>simp [runtimePanic] at h
  case h_3=>simp [runtimePanic] at h
  case h_4=>
   split at h
   . simp [runtimePanic] at h
   . simp only [Sem.run_bind] at h
     cases hp1:(program).run P w with
     |halt x w1=>rw [hp1] at h;cases h
     |ok p1 w1=>
      rw [hp1] at h
      simp only [Result.andThen_ok] at h
      rename_i t v' _
      cases hp2:(nilAhead (p1.types.size+Made.depth) t v' _).run P w1 with
      |halt x w2=>rw [hp2] at h;cases h
      |ok b w2=>
       rw [hp2] at h
       simp only [Result.andThen_ok] at h
       split at h
       . simp [unsupported] at h
       . exact run_pv h
   . exact run_pv h
  case h_5=>exact run_pv h
 case call c=>
  obtain ⟨callee,args,argTypes⟩:=c
  cases callee with
  |value f=>cases hp
  |invoke r m=>cases hp
  |builtin b=>
   cases b <;> first|(cases hp;done)|skip
   all_goals
    simp only [resolve,Sem.run_bind,Sem.run_pure,Result.andThen_ok,invoke,builtin] at h
    exact andThen_v h
theorem wp_region_lexf{id:Nat}{a:Act}{w:World}{l:List Oper}(es ls:List Nat)(S:World->Prop)(hm:P.follows .mixedOrders=true)(hB:lexE l.toArray es ls=true)(hS:S w.drew)
 (h:∀ (σ:Type) (_:Nonempty σ) (f:σ->World) (_:∀ u,S (f u)) (_:∀ W,S W->∃ u,W=f u),wpLex P l.toArray Q S (qfOf es) (lsOf ls) l 0 a w.drew):(Code.region id l.toArray true).wp P Q a w:=
 wp_region_lex es ls S hm hB hS (h { W:World // S W } ⟨⟨_,hS⟩⟩ (fun u=>u.1) (fun u=>u.2) (fun W hW=>⟨⟨W,hW⟩,rfl⟩))
theorem lex_qq{σ:Type}{f:σ->World}(hf:∀ W,S W->∃ u,W=f u)(hq:qf k=true)(hp:plainOp o.op=true)(hw:Region.wanted o (yielded ops a.tmps)=true)
 (h:∀ K:Act->Prop,(∀ a',wpLex P ops Q S qf lst rest (k+1) a' w->K a')->o.quiet P a (fun W=>∃ u,W=f u) K):wpLex P ops Q S qf lst (o :: rest) k a w:=by
 obtain ⟨v,hv,hK⟩:=h _ fun _ h=>h
 have run:∀ W,S W->(execOp a.eval o).run P W=.ok (.value v) W:=fun W hW=>by
  have h1:=hv W (hf W hW)
  unfold Oper.quietAt at h1
  cases hr:(execOp a.eval o).run P W with
  |halt x w1=>rw [hr] at h1;simp [Oper.quietUpon] at h1
  |ok n w1=>
   obtain ⟨x,rfl⟩:=run_plain hp hr
   rw [hr] at h1
   simp only [Oper.quietUpon] at h1
   rw [h1.1,h1.2]
 exact lex_q v hq hw run hK
end
end
section
section
variable {P:Program} {ops:Array Oper} {Q:Exit->Act->World->Prop}
def putAll (vs:Nat->Value):List Oper->Nat->Act->Act
 |[],_,a=>a
 |o :: l,k,a=>putAll vs l (k+1) (a.put o.dst (vs k))
def upd (vs:Nat->Value) (i:Nat) (v:Value):Nat->Value:=fun k=>if k=i then v else vs k
def apartB:List Oper->Bool
 |[]=>true
 |o :: l=>(match o.dst with|none=>true|some d=>l.all fun x=>x.dst != some d) && apartB l
theorem putAll_late(vs:Nat->Value)(i:Nat)(v:Value):∀ (l:List Oper) (k:Nat) (a:Act),i < k->putAll (upd vs i v) l k a=putAll vs l k a
 |[],_,_,_=>rfl
 |o :: l,k,a,h=>by
  show putAll (upd vs i v) l (k+1) (a.put o.dst (upd vs i v k))=putAll vs l (k+1) (a.put o.dst (vs k))
  rw [putAll_late vs i v l (k+1) _ (by omega)]
  congr 2
  simp [upd,show k ≠ i by omega]
theorem putAll_put(vs:Nat->Value)(x:Option Tmp)(v:Value):∀ (l:List Oper) (k:Nat) (a:Act),(∀ d,x=some d->∀ o ∈ l,o.dst ≠ some d)->(putAll vs l k a).put x v=putAll vs l k (a.put x v)
 |[],_,_,_=>rfl
 |o :: l,k,a,h=>by
  show (putAll vs l (k+1) (a.put o.dst (vs k))).put x v=putAll vs l (k+1) ((a.put x v).put o.dst (vs k))
  rw [putAll_put vs x v l (k+1) _ (fun d hd o ho=>h d hd o (List.mem_cons_of_mem _ ho)),Act.put_comm a (x:=o.dst) (y:=x) (vs k) v]
  intro d hd hx
  exact h d hx o (by simp) hd
theorem put_put(a:Act)(x:Option Tmp)(v u:Value):(a.put x v).put x u=a.put x u:=by
 cases x with
 |none=>rfl
 |some d=>simp [Act.put]
theorem putAll_upd(vs:Nat->Value)(i:Nat)(v:Value):∀ (l:List Oper) (k:Nat) (a:Act) (o:Oper),apartB l=true->k<=i->l[i - k]?=some o->(putAll vs l k a).put o.dst v=putAll (upd vs i v) l k a
 |[],_,_,_,_,_,h=>by simp at h
 |x :: l,k,a,o,hB,hk,h=>by
  simp only [apartB,Bool.and_eq_true] at hB
  by_cases e:k=i
  . subst e
    rw [Nat.sub_self] at h
    obtain rfl:x=o:=by simpa using h
    show (putAll vs l (k+1) (a.put x.dst (vs k))).put x.dst v=putAll (upd vs k v) l (k+1) (a.put x.dst (upd vs k v k))
    rw [putAll_late vs k v l (k+1) _ (by omega),putAll_put vs x.dst v l (k+1) _ ?_,put_put]
    . simp [upd]
    . intro d hd o ho hod
      have h1:=hB.1
      rw [hd] at h1
      have:=(List.all_eq_true.1 h1) o ho
      rw [hod] at this
      simp at this
  . have e2:i - k=(i - (k+1))+1:=by omega
    rw [e2,List.getElem?_cons_succ] at h
    show (putAll vs l (k+1) (a.put x.dst (vs k))).put o.dst v=putAll (upd vs i v) l (k+1) (a.put x.dst (upd vs i v k))
    rw [putAll_upd vs i v l (k+1) _ o hB.2 (by omega) h]
    congr 2
    simp [upd,e]
def slotOf (a:Act):Option Tmp->Value
 |none=>undef
 |some d=>a.tmps.getD d undef
def at0 (a:Act) (l:List Oper):Nat->Value:=fun k=>match l[k]? with|none=>undef|some o=>slotOf a o.dst
theorem put_slot(a:Act)(x:Option Tmp):a.put x (slotOf a x)=a:=by
 cases x with
 |none=>rfl
 |some d=>
  have:a.tmps.setIfInBounds d (a.tmps.getD d undef)=a.tmps:=by
   apply Array.ext_getElem?
   intro i
   rw [Array.getElem?_setIfInBounds]
   split
   . rename_i h;subst h
     by_cases hl:d < a.tmps.size
     . simp [hl]
     . simp [hl]
   . rfl
  simp only [Act.put,slotOf]
  first|rw [this]|(simp only [this])
theorem putAll_at(a:Act):∀ (l:List Oper) (k:Nat) (vs:Nat->Value),(∀ j o,l[j]?=some o->vs (k+j)=slotOf a o.dst)->putAll vs l k a=a
 |[],_,_,_=>rfl
 |o :: l,k,vs,h=>by
  have h0:=h 0 o rfl
  show putAll vs l (k+1) (a.put o.dst (vs k))=a
  rw [Nat.add_zero] at h0
  rw [h0,put_slot]
  exact putAll_at a l (k+1) vs (fun j x hx=>by rw [show k+1+j=k+(j+1) from by omega];exact h (j+1) x (by simpa using hx))
def earlierB:List Oper->Nat->Bool
 |[],_=>true
 |o :: l,k=>(o.after.all fun e=>!Region.binds .any e || decide (e.on < k)) && o.guard.isNone && earlierB l (k+1)
theorem earlierB_spec:∀ (l:List Oper) (k i:Nat) (o:Oper),earlierB l k=true->l[i]?=some o->(∀ e ∈ o.after,Region.binds .any e=true->e.on < k+i) ∧ o.guard=none
 |[],_,_,_,_,h=>by simp at h
 |x :: l,k,i,o,hB,h=>by
  simp only [earlierB,Bool.and_eq_true] at hB
  rcases i with _|i
  . obtain rfl:x=o:=by simpa using h
    refine ⟨fun e he hb=>?_,by simpa using hB.1.2⟩
    have:=(Array.all_eq_true_iff_forall_mem.1 hB.1.1) e he
    simpa [hb] using this
  . have:=earlierB_spec l (k+1) i o hB.2 (by simpa using h)
    exact ⟨fun e he hb=>by have:=this.1 e he hb;omega,this.2⟩
def InvStep (P:Program) (Q:Exit->Act->World->Prop) (PV:Nat->Value->World->Prop) (W0:World) (fr:(Nat->Value)->Act) (o:Oper) (i:Nat):Prop:=
 ∀ (vs:Nat->Value) (A:Act) (W:World),fr vs=A->Kp [] W0 W->(∀ j,waitsB .any o j=true->PV j (vs j) W)->
  ∀ K:Act->World->Prop,(∀ v W',Kp [] W W'->PV i v W'->K (A.put o.dst v) W')->o.wp P A W K (Qn Q)
def InvSteps (P:Program) (Q:Exit->Act->World->Prop) (PV:Nat->Value->World->Prop) (W0:World) (fr:(Nat->Value)->Act):List Oper->Nat->Prop
 |[],_=>True
 |o :: l,i=>InvStep P Q PV W0 fr o i ∧ InvSteps P Q PV W0 fr l (i+1)
theorem InvSteps.at_{PV:Nat->Value->World->Prop}{W0:World}{fr:(Nat->Value)->Act}:∀ {l:List Oper} {k:Nat},InvSteps P Q PV W0 fr l k->∀ {i o},l[i]?=some o->InvStep P Q PV W0 fr o (k+i)
 |[],_,_,_,_,h=>by simp at h
 |x :: l,k,hs,i,o,h=>by
  rcases i with _|i
  . obtain rfl:x=o:=by simpa using h
    exact hs.1
  . have:=hs.2.at_ (i:=i) (o:=o) (by simpa using h)
    rwa [show k+1+i=k+(i+1) from by omega] at this
theorem inv_any{PV:Nat->Value->World->Prop}{W0:World}{a0:Act}{l:List Oper}(hst:∀ i v W W',PV i v W->Kp [] W W'->PV i v W')(hap:apartB l=true)(hea:earlierB l 0=true)
 (hs:InvSteps P Q PV W0 (fun vs=>putAll vs l 0 a0) l 0)
 (hend:∀ vs W,Kp [] W0 W->(∀ i,i < l.length->PV i (vs i) W)->Q .normal (putAll vs l 0 a0) W):
 ∀ (fuel:Nat) (listed:Array Bool) (vs:Nat->Value) (W:World),listed.size=l.length->(listed.toList.filter (fun b=>!b)).length=fuel->Kp [] W0 W->(∀ i,listed.getD i false=true->PV i (vs i) W)->
  wpAny P .any l.toArray Q fuel listed (putAll vs l 0 a0) W:=by
 have all_of:∀ (listed:Array Bool),listed.size=l.length->Region.ready .any l.toArray listed=[]->∀ i,i < l.length->listed.getD i false=true:=by
  intro listed hsz hr i
  induction i using Nat.strongRecOn with
  |_ i ih=>
   intro hi
   cases hl:listed.getD i false with
   |true=>rfl
   |false=>
    exfalso
    have hlt:i < listed.size:=by omega
    have hmem:i ∈ Region.ready .any l.toArray listed:=mem_ready.2 ⟨by simp [hlt] at hl ⊢;exact hl,l[i],by simp [hi],fun e he hb=>by
     have:=(earlierB_spec l 0 i l[i] hea (by simp [hi])).1 e he hb
     exact ih e.on (by omega) (by omega)⟩
    rw [hr] at hmem;cases hmem
 have hnil:∀ (listed:Array Bool) vs W,listed.size=l.length->Kp [] W0 W->(∀ i,listed.getD i false=true->PV i (vs i) W)->Region.ready .any l.toArray listed=[]->Q .normal (putAll vs l 0 a0) W:=
  fun listed vs W hsz hk hp hr=>hend vs W hk (fun i hi=>hp i (all_of listed hsz hr i hi))
 intro fuel
 induction fuel with
 |zero=>
  intro listed vs W hsz hf hk hp
  have hr:Region.ready .any l.toArray listed=[]:=by
   refine List.eq_nil_iff_forall_not_mem.2 fun i hi=>?_
   have h0:=(mem_ready.1 hi).1
   obtain ⟨_,o,ho,_⟩:=mem_ready.1 hi
   have hlt:i < listed.size:=by
    have:=(Array.getElem?_eq_some_iff.1 ho).1
    simp at this;omega
   have:listed[i] ∈ listed.toList.filter (fun b=>!b):=by
    rw [List.mem_filter]
    simp [hlt] at h0
    refine ⟨by simp,by simp [h0]⟩
   rw [List.eq_nil_of_length_eq_zero hf] at this
   cases this
  exact ⟨hr,hnil listed vs W hsz hk hp hr⟩
 |succ fuel ih=>
  intro listed vs W hsz hf hk hp
  refine ⟨hnil listed vs W hsz hk hp,fun i hi=>?_⟩
  obtain ⟨h0,o,ho,hall⟩:=mem_ready.1 hi
  have hol:l[i]?=some o:=by simpa using ho
  have hlt:i < listed.size:=by
   have:=(List.getElem?_eq_some_iff.1 hol).1
   omega
  have hgd:=(earlierB_spec l 0 i o hea hol).2
  refine wpOp_n ?_
  unfold wpOp
  simp only [ho]
  rw [if_pos (by simp [Region.wanted,hgd])]
  refine .inl ?_
  have hstep:=hs.at_ hol
  rw [Nat.zero_add] at hstep
  refine hstep vs _ W rfl hk (fun j hj=>by obtain ⟨e,he,hb,rfl⟩:=waitsB_spec hj;exact hp e.on (hall e he hb)) _ fun v W' hk' hv=>?_
  rw [putAll_upd vs i v l 0 a0 o hap (Nat.zero_le _) (by simpa using hol)]
  refine ih _ _ W' (by simpa using hsz) ?_ (hk.trans hk' (by simp)) (fun j hj=>?_)
  . simp [hlt] at h0
    have h1:listed.toList=listed.toList.take i ++ false :: listed.toList.drop (i+1):=by
     rw [<- h0]
     have:=List.take_append_drop i listed.toList
     rw [List.drop_eq_getElem_cons (by simpa using hlt)] at this
     simpa using this.symm
    have h2:(listed.setIfInBounds i true).toList=listed.toList.take i ++ true :: listed.toList.drop (i+1):=by
     rw [Array.toList_setIfInBounds]
     conv=>lhs;rw [h1]
     rw [List.set_append_right _ _ (by simp;omega)]
     simp [Nat.min_eq_left (Nat.le_of_lt hlt)]
    rw [h1] at hf
    rw [h2]
    simp only [List.filter_append,List.filter_cons,List.length_append] at hf ⊢
    simp at hf ⊢
    omega
  . by_cases e:i=j
    . subst e;simpa [upd] using hv
    . rw [getD_set_ne false e] at hj
      simp only [upd,show j ≠ i from fun h=>e h.symm,if_false]
      exact hst j _ W W' (hp j hj) hk'
theorem wp_region_inv{id:Nat}{a:Act}{w:World}{l:List Oper}(PV:Nat->Value->World->Prop)(hm:P.follows .mixedOrders=true)(hap:apartB l=true)(hea:earlierB l 0=true)
 (hst:∀ i v W W',PV i v W->Kp [] W W'->PV i v W')
 (hs:InvSteps P Q PV w.drew (fun vs=>putAll vs l 0 a) l 0)
 (hend:∀ vs W,Kp [] w.drew W->(∀ i,i < l.length->PV i (vs i) W)->Q .normal (putAll vs l 0 a) W):(Code.region id l.toArray true).wp P Q a w:=by
 refine wp_region_any hm ?_
 have h:=inv_any (P:=P) (Q:=Q) hst hap hea hs hend l.length (Array.replicate l.length false) (at0 a l) w.drew (by simp) (by simp) (Kp.refl _ _) (fun i hi=>by
  simp [Array.getElem?_replicate] at hi
  split at hi <;> simp at hi)
 rw [putAll_at a l 0 (at0 a l) (fun j o ho=>by simp [at0,ho])] at h
 simpa using h
def evA (vs:Nat->Value):List Oper->Nat->Nat->Option Value
 |[],_,_=>none
 |o :: l,k,d=>if o.dst=some d then some (vs k) else evA vs l (k+1) d
theorem put_size(a:Act)(x:Option Tmp)(v:Value):(a.put x v).tmps.size=a.tmps.size:=by cases x <;> simp [Act.put]
theorem putAll_eval(vs:Nat->Value):∀ (l:List Oper) (k:Nat) (a:Act) (d:Nat),d < a.tmps.size->apartB l=true->(putAll vs l k a).eval (.tmp d)=(evA vs l k d).getD (a.eval (.tmp d))
 |[],_,_,_,_,_=>rfl
 |o :: l,k,a,d,hd,hB=>by
  show (putAll vs l (k+1) (a.put o.dst (vs k))).eval (.tmp d)=_
  simp only [apartB,Bool.and_eq_true] at hB
  rw [putAll_eval vs l (k+1) _ d (by rw [put_size];exact hd) hB.2]
  rw [show evA vs (o :: l) k d=(if o.dst=some d then some (vs k) else evA vs l (k+1) d) from rfl]
  by_cases e:o.dst=some d
  . rw [if_pos e]
    have hn:evA vs l (k+1) d=none:=by
     have h1:=hB.1
     rw [e] at h1
     have:∀ (l:List Oper) (k:Nat),(∀ x ∈ l,x.dst ≠ some d)->evA vs l k d=none:=by
      intro l
      induction l with
      |nil=>intro _ _;rfl
      |cons x l ih=>
       intro k h
       unfold evA
       rw [if_neg (h x (by simp))]
       exact ih (k+1) (fun y hy=>h y (by simp [hy]))
     refine this l (k+1) fun x hx hxd=>?_
     have:=(List.all_eq_true.1 h1) x hx
     rw [hxd] at this
     simp at this
    rw [hn,e]
    simp [Act.put,Act.eval,hd]
  . rw [if_neg e]
    congr 1
    cases ho:o.dst with
    |none=>rfl
    |some d'=>
     have hne:d' ≠ d:=fun h=>e (by rw [ho,h])
     simp [Act.put,Act.eval,Array.getElem?_setIfInBounds_ne hne]
theorem eval_of{vs:Nat->Value}{l:List Oper}{a A:Act}{d:Nat}{X:Value}(hA:(fun vs=>putAll vs l 0 a) vs=A)(hB:apartB l=true)(hd:d < a.tmps.size)(h:(evA vs l 0 d).getD (a.eval (.tmp d))=X):A.eval (.tmp d)=X:=by
 subst hA
 show (putAll vs l 0 a).eval _=X
 rw [putAll_eval vs l 0 a d hd hB,h]
theorem slot_is{vs:Nat->Value}{l:List Oper}{a A:Act}{d:Nat}{X:Value}(hA:(fun vs=>putAll vs l 0 a) vs=A)(hB:apartB l=true)(hd:d < a.tmps.size)(h:(evA vs l 0 d).getD (a.eval (.tmp d))=X):A.tmps[d]?.getD undef=X:=by
 have:=eval_of hA hB hd h
 simpa [Act.eval] using this
end
end
section
section
variable {P:Program} {ops:Array Oper} {Q:Exit->Act->World->Prop}
def earlierG:List Oper->Nat->Bool
 |[],_=>true
 |o :: l,k=>(o.after.all fun e=>!Region.binds .any e || decide (e.on < k)) && earlierG l (k+1)
theorem earlierG_spec:∀ (l:List Oper) (k i:Nat) (o:Oper),earlierG l k=true->l[i]?=some o->(∀ e ∈ o.after,Region.binds .any e=true->e.on < k+i)
 |[],_,_,_,_,h=>by simp at h
 |x :: l,k,i,o,hB,h=>by
  simp only [earlierG,Bool.and_eq_true] at hB
  rcases i with _|i
  . obtain rfl:x=o:=by simpa using h
    intro e he hb
    have:=(Array.all_eq_true_iff_forall_mem.1 hB.1) e he
    simpa [hb] using this
  . have:=earlierG_spec l (k+1) i o hB.2 (by simpa using h)
    exact fun e he hb=>by have:=this e he hb;omega
def InvStepG (P:Program) (Q:Exit->Act->World->Prop) (PV:Nat->Value->World->Prop) (W0:World) (fr:(Nat->Value)->Act) (ops:Array Oper) (o:Oper) (i:Nat):Prop:=
 ∀ (vs:Nat->Value) (A:Act) (W:World),fr vs=A->Kp [] W0 W->(∀ j,waitsB .any o j=true->PV j (vs j) W)->
  ∀ K:Act->World->Prop,(∀ v W',Kp [] W W'->PV i v W'->K (A.put o.dst v) W')->wpOp P ops (Qn Q) i K A W
def InvStepsG (P:Program) (Q:Exit->Act->World->Prop) (PV:Nat->Value->World->Prop) (W0:World) (fr:(Nat->Value)->Act) (ops:Array Oper):List Oper->Nat->Prop
 |[],_=>True
 |o :: l,i=>InvStepG P Q PV W0 fr ops o i ∧ InvStepsG P Q PV W0 fr ops l (i+1)
theorem InvStepsG.at_{PV:Nat->Value->World->Prop}{W0:World}{fr:(Nat->Value)->Act}:∀ {l:List Oper} {k:Nat},InvStepsG P Q PV W0 fr ops l k->∀ {i o},l[i]?=some o->InvStepG P Q PV W0 fr ops o (k+i)
 |[],_,_,_,_,h=>by simp at h
 |x :: l,k,hs,i,o,h=>by
  rcases i with _|i
  . obtain rfl:x=o:=by simpa using h
    exact hs.1
  . have:=hs.2.at_ (i:=i) (o:=o) (by simpa using h)
    rwa [show k+1+i=k+(i+1) from by omega] at this
theorem wpOp_free{i:Nat}{K:Act->World->Prop}{a:Act}{w:World}(o:Oper)(ho:ops[i]?=some o)(hg:o.guard=none)(h:o.wp P a w K Q):wpOp P ops Q i K a w:=by
 unfold wpOp
 simp only [ho]
 rw [if_pos (by simp [Region.wanted,hg])]
 exact .inl h
theorem yielded_of{a:Act}{j d:Nat}{b:Bool}(hj:(ops[j]?).bind (·.dst)=some d)(hd:a.tmps[d]?.getD undef=.bool b):yielded ops a.tmps j=some b:=by
 unfold yielded
 rw [hj]
 show (match a.tmps[d]? with|some (.bool b)=>some b|_=>none)=some b
 cases h:a.tmps[d]? with
 |none=>rw [h] at hd;cases hd
 |some v=>rw [h] at hd;obtain rfl:v=.bool b:=hd;rfl
theorem wpOp_go{i:Nat}{K:Act->World->Prop}{a:Act}{w:World}(o:Oper)(ho:ops[i]?=some o)(j d:Nat)(b:Bool)(hg:o.guard=some (j,b))(hj:(ops[j]?).bind (·.dst)=some d)(hd:a.tmps[d]?.getD undef=.bool b)(h:o.wp P a w K Q):wpOp P ops Q i K a w:=by
 unfold wpOp
 simp only [ho]
 rw [if_pos (by simp [Region.wanted,hg,yielded_of hj hd])]
 exact .inl h
theorem wpOp_skip{i:Nat}{K:Act->World->Prop}{a:Act}{w:World}(o:Oper)(ho:ops[i]?=some o)(j d:Nat)(b:Bool)(hg:o.guard=some (j,b))(hj:(ops[j]?).bind (·.dst)=some d)(hd:a.tmps[d]?.getD undef=.bool (!b))(h:K (a.put o.dst undef) w):wpOp P ops Q i K a w:=by
 unfold wpOp
 simp only [ho]
 rw [if_neg (by simp [Region.wanted,hg,yielded_of hj hd])]
 exact h
theorem inv_anyG{PV:Nat->Value->World->Prop}{W0:World}{a0:Act}{l:List Oper}(hst:∀ i v W W',PV i v W->Kp [] W W'->PV i v W')(hap:apartB l=true)(hea:earlierG l 0=true)
 (hs:InvStepsG P Q PV W0 (fun vs=>putAll vs l 0 a0) l.toArray l 0)
 (hend:∀ vs W,Kp [] W0 W->(∀ i,i < l.length->PV i (vs i) W)->Q .normal (putAll vs l 0 a0) W):
 ∀ (fuel:Nat) (listed:Array Bool) (vs:Nat->Value) (W:World),listed.size=l.length->(listed.toList.filter (fun b=>!b)).length=fuel->Kp [] W0 W->(∀ i,listed.getD i false=true->PV i (vs i) W)->
  wpAny P .any l.toArray Q fuel listed (putAll vs l 0 a0) W:=by
 have all_of:∀ (listed:Array Bool),listed.size=l.length->Region.ready .any l.toArray listed=[]->∀ i,i < l.length->listed.getD i false=true:=by
  intro listed hsz hr i
  induction i using Nat.strongRecOn with
  |_ i ih=>
   intro hi
   cases hl:listed.getD i false with
   |true=>rfl
   |false=>
    exfalso
    have hlt:i < listed.size:=by omega
    have hmem:i ∈ Region.ready .any l.toArray listed:=mem_ready.2 ⟨by simp [hlt] at hl ⊢;exact hl,l[i],by simp [hi],fun e he hb=>by
     have:=(earlierG_spec l 0 i l[i] hea (by simp [hi])) e he hb
     exact ih e.on (by omega) (by omega)⟩
    rw [hr] at hmem;cases hmem
 have hnil:∀ (listed:Array Bool) vs W,listed.size=l.length->Kp [] W0 W->(∀ i,listed.getD i false=true->PV i (vs i) W)->Region.ready .any l.toArray listed=[]->Q .normal (putAll vs l 0 a0) W:=
  fun listed vs W hsz hk hp hr=>hend vs W hk (fun i hi=>hp i (all_of listed hsz hr i hi))
 intro fuel
 induction fuel with
 |zero=>
  intro listed vs W hsz hf hk hp
  have hr:Region.ready .any l.toArray listed=[]:=by
   refine List.eq_nil_iff_forall_not_mem.2 fun i hi=>?_
   have h0:=(mem_ready.1 hi).1
   obtain ⟨_,o,ho,_⟩:=mem_ready.1 hi
   have hlt:i < listed.size:=by
    have:=(Array.getElem?_eq_some_iff.1 ho).1
    simp at this;omega
   have:listed[i] ∈ listed.toList.filter (fun b=>!b):=by
    rw [List.mem_filter]
    simp [hlt] at h0
    refine ⟨by simp,by simp [h0]⟩
   rw [List.eq_nil_of_length_eq_zero hf] at this
   cases this
  exact ⟨hr,hnil listed vs W hsz hk hp hr⟩
 |succ fuel ih=>
  intro listed vs W hsz hf hk hp
  refine ⟨hnil listed vs W hsz hk hp,fun i hi=>?_⟩
  obtain ⟨h0,o,ho,hall⟩:=mem_ready.1 hi
  have hol:l[i]?=some o:=by simpa using ho
  have hlt:i < listed.size:=by
   have:=(List.getElem?_eq_some_iff.1 hol).1
   omega
  refine wpOp_n ?_
  have hstep:=hs.at_ hol
  rw [Nat.zero_add] at hstep
  refine hstep vs _ W rfl hk (fun j hj=>by obtain ⟨e,he,hb,rfl⟩:=waitsB_spec hj;exact hp e.on (hall e he hb)) _ fun v W' hk' hv=>?_
  rw [putAll_upd vs i v l 0 a0 o hap (Nat.zero_le _) (by simpa using hol)]
  refine ih _ _ W' (by simpa using hsz) ?_ (hk.trans hk' (by simp)) (fun j hj=>?_)
  . simp [hlt] at h0
    have h1:listed.toList=listed.toList.take i ++ false :: listed.toList.drop (i+1):=by
     rw [<- h0]
     have:=List.take_append_drop i listed.toList
     rw [List.drop_eq_getElem_cons (by simpa using hlt)] at this
     simpa using this.symm
    have h2:(listed.setIfInBounds i true).toList=listed.toList.take i ++ true :: listed.toList.drop (i+1):=by
     rw [Array.toList_setIfInBounds]
     conv=>lhs;rw [h1]
     rw [List.set_append_right _ _ (by simp;omega)]
     simp [Nat.min_eq_left (Nat.le_of_lt hlt)]
    rw [h1] at hf
    rw [h2]
    simp only [List.filter_append,List.filter_cons,List.length_append] at hf ⊢
    simp at hf ⊢
    omega
  . by_cases e:i=j
    . subst e;simpa [upd] using hv
    . rw [getD_set_ne false e] at hj
      simp only [upd,show j ≠ i from fun h=>e h.symm,if_false]
      exact hst j _ W W' (hp j hj) hk'
theorem wp_region_invG{id:Nat}{a:Act}{w:World}{l:List Oper}(PV:Nat->Value->World->Prop)(hm:P.follows .mixedOrders=true)(hap:apartB l=true)(hea:earlierG l 0=true)
 (hst:∀ i v W W',PV i v W->Kp [] W W'->PV i v W')
 (hs:InvStepsG P Q PV w.drew (fun vs=>putAll vs l 0 a) l.toArray l 0)
 (hend:∀ vs W,Kp [] w.drew W->(∀ i,i < l.length->PV i (vs i) W)->Q .normal (putAll vs l 0 a) W):(Code.region id l.toArray true).wp P Q a w:=by
 refine wp_region_any hm ?_
 have h:=inv_anyG (P:=P) (Q:=Q) hst hap hea hs hend l.length (Array.replicate l.length false) (at0 a l) w.drew (by simp) (by simp) (Kp.refl _ _) (fun i hi=>by
  simp [Array.getElem?_replicate] at hi
  split at hi <;> simp at hi)
 rw [putAll_at a l 0 (at0 a l) (fun j o ho=>by simp [at0,ho])] at h
 simpa using h
end
end
section
def regOf (n:Nat):Code->Option (Array Oper)
 |.region id ops _=>if id=n then some ops else none
 |.seq a b=>match regOf n a with
  |some x=>some x
  |none=>regOf n b
 |.cond _ a b=>match regOf n a with
  |some x=>some x
  |none=>regOf n b
 |.block _ c=>regOf n c
 |.loop c=>regOf n c
 |.scope c=>regOf n c
 |.rangeFunc _ _ a b=>match regOf n a with
  |some x=>some x
  |none=>regOf n b
 |_=>none
def opsOf (n:Nat) (f:Func):List Oper:=match f.body with
 |some c=>match regOf n c with
  |some x=>x.toList
  |none=>[]
 |none=>[]
def blkOf (n:Nat):Code->Option Code
 |.block id c=>if id=n then some c else blkOf n c
 |.seq a b=>match blkOf n a with
  |some x=>some x
  |none=>blkOf n b
 |.cond _ a b=>match blkOf n a with
  |some x=>some x
  |none=>blkOf n b
 |.loop c=>blkOf n c
 |.scope c=>blkOf n c
 |.rangeFunc _ _ a b=>match blkOf n a with
  |some x=>some x
  |none=>blkOf n b
 |_=>none
def blockOf (n:Nat) (f:Func):Code:=match f.body with
 |some c=>(blkOf n c).getD .skip
 |none=>.skip
def hasReg (n:Nat):Code->Bool
 |.region id _ _=>id == n
 |.seq a b=>hasReg n a || hasReg n b
 |.cond _ a b=>hasReg n a || hasReg n b
 |.block _ c=>hasReg n c
 |.loop c=>hasReg n c
 |.scope c=>hasReg n c
 |.rangeFunc _ _ a b=>hasReg n a || hasReg n b
 |_=>false
def tailIn (n:Nat):Code->Code
 |.seq a b=>if hasReg n a then b else tailIn n b
 |c=>c
def tailOf (n:Nat) (f:Func):Code:=match f.body with
 |some c=>tailIn n c
 |none=>.skip
def putD:List (Nat × Value)->Act->Act
 |[],a=>a
 |(d,v) :: l,a=>putD l (a.put (some d) v)
def Sl (a:Act) (d:Nat) (v:Value):Prop:=∀ h:d < a.tmps.size,a.tmps[d]'h=v
structure Same (a a':Act) (ds:List Nat):Prop where
 size:a'.tmps.size=a.tmps.size
 defers:a'.defers=a.defers
 keep:∀ d v,(ds.contains d)=false->Sl a d v->Sl a' d v
def lastD:List (Nat × Value)->Nat->Option Value
 |[],_=>none
 |(e,v) :: l,d=>match lastD l d with
  |some u=>some u
  |none=>if e=d then some v else none
theorem sl_of{a:Act}{d:Nat}{v:Value}(h:a.tmps[d]?=some v):Sl a d v:=by
 intro hd
 rw [Array.getElem?_eq_getElem hd] at h
 exact Option.some.inj h
theorem Sl.some{a:Act}{d:Nat}{v:Value}(h:Sl a d v)(hd:d < a.tmps.size):a.tmps[d]?=some v:=by
 rw [Array.getElem?_eq_getElem hd,h hd]
theorem sl_put1{a:Act}{d e:Nat}{v u:Value}(h:Sl a d v)(hne:e ≠ d):Sl (a.put (some e) u) d v:=by
 by_cases hd:d < a.tmps.size
 . refine sl_of ?_
   show (a.tmps.setIfInBounds e u)[d]?=_
   rw [Array.getElem?_setIfInBounds_ne hne]
   exact h.some hd
 . intro hd'
   exact absurd (by simpa [Act.put] using hd') hd
theorem putD_size:∀ (l:List (Nat × Value)) (a:Act),(putD l a).tmps.size=a.tmps.size
 |[],_=>rfl
 |(d,v) :: l,a=>by
  show (putD l (a.put (some d) v)).tmps.size=_
  rw [putD_size l]
  simp [Act.put]
theorem putD_defers:∀ (l:List (Nat × Value)) (a:Act),(putD l a).defers=a.defers
 |[],_=>rfl
 |(d,v) :: l,a=>by
  show (putD l (a.put (some d) v)).defers=_
  rw [putD_defers l]
  rfl
theorem sl_putD_out:∀ (l:List (Nat × Value)) (a:Act) (d:Nat) (v:Value),(l.map (·.1)).contains d=false->Sl a d v->Sl (putD l a) d v
 |[],_,_,_,_,h=>h
 |(e,u) :: l,a,d,v,hn,h=>by
  simp only [List.map_cons,List.contains_cons,Bool.or_eq_false_iff] at hn
  exact sl_putD_out l _ d v hn.2 (sl_put1 h (fun e=>by simp [e] at hn))
theorem same_putD(l:List (Nat × Value))(a:Act):Same a (putD l a) (l.map (·.1)):=
 ⟨putD_size l a,putD_defers l a,fun d v hn h=>sl_putD_out l a d v hn h⟩
theorem same_nil{a:Act}{ds:List Nat}:Same a { tmps:=a.tmps,defers:=a.defers } ds:=⟨rfl,rfl,fun _ _ _ h=>h⟩
theorem same_set{a:Act}{t:Array Value}{D:List Deferred}{ds:List Nat}{d:Nat}{v:Value}(hd:ds.contains d=true)(h:Same a { tmps:=t,defers:=D } ds):Same a { tmps:=t.setIfInBounds d v,defers:=D } ds:=by
 refine ⟨by rw [<- h.size];simp,h.defers,fun e u hn hs=>?_⟩
 have h1:=h.keep e u hn hs
 have hne:d ≠ e:=by
  rintro rfl
  rw [hd] at hn
  cases hn
 have:=sl_put1 (u:=v) h1 hne
 exact this
theorem lastD_none:∀ (l:List (Nat × Value)) (d:Nat),lastD l d=none->(l.map (·.1)).contains d=false
 |[],_,_=>rfl
 |(e,u) :: l,d,h=>by
  unfold lastD at h
  cases hl:lastD l d with
  |some x=>rw [hl] at h;cases h
  |none=>
   rw [hl] at h
   simp only at h
   by_cases he:e=d
   . rw [if_pos he] at h;cases h
   . simp only [List.map_cons,List.contains_cons,Bool.or_eq_false_iff]
     exact ⟨by simpa using fun h=>he h.symm,lastD_none l d hl⟩
theorem sl_putD:∀ (l:List (Nat × Value)) (a:Act) (d:Nat) (v:Value),lastD l d=some v->Sl (putD l a) d v
 |[],_,_,_,h=>by cases h
 |(e,u) :: l,a,d,v,h=>by
  unfold lastD at h
  cases hl:lastD l d with
  |some x=>
   rw [hl] at h
   cases h
   exact sl_putD l _ d v hl
  |none=>
   rw [hl] at h
   simp only at h
   by_cases he:e=d
   . rw [if_pos he] at h
     cases h
     subst he
     refine sl_putD_out l _ e _ (lastD_none l e hl) ?_
     intro hd
     simp [Act.put]
   . rw [if_neg he] at h;cases h
theorem Same.trans{a b c:Act}{d1 d2:List Nat}(h:Same a b d1)(k:Same b c d2):Same a c (d1 ++ d2):=
 ⟨k.size.trans h.size,k.defers.trans h.defers,fun d v hn hs=>by
  rw [List.contains_eq_any_beq,List.any_append,Bool.or_eq_false_iff] at hn
  exact k.keep d v (by rw [List.contains_eq_any_beq];exact hn.2) (h.keep d v (by rw [List.contains_eq_any_beq];exact hn.1) hs)⟩
theorem Same.more{a b:Act}{d1 d2:List Nat}(h:Same a b d1)(hd:(d1.all fun d=>d2.contains d)=true):Same a b d2:=
 ⟨h.size,h.defers,fun d v hn hs=>h.keep d v (by
  cases hc:d1.contains d with
  |false=>rfl
  |true=>
   have:=List.all_eq_true.1 hd d (by simpa using hc)
   rw [hn] at this
   cases this) hs⟩
theorem Same.refl(a:Act)(ds:List Nat):Same a a ds:=⟨rfl,rfl,fun _ _ _ h=>h⟩
theorem Sl.eval{a:Act}{d:Nat}{v:Value}(h:Sl a d v)(hd:d < a.tmps.size):a.eval (.tmp d)=v:=by
 simp only [Act.eval]
 rw [Array.getD_eq_getD_getElem?,Array.getElem?_eq_getElem hd]
 exact h hd
theorem calls_fr{P:Program}{f:FuncId}{fn:Func}{c:Code}{args:Array Value}{w:World}{R:Ending->World->Prop}(hf:P.funcs[f]?=some fn)(hb:fn.body=some c)(N:Nat)(hN:args.size+(fn.ntmps - args.size)=N)
 (h:∀ a:Act,a.tmps.size=N->a.defers=[]->(∀ i v,args[i]?=some v->Sl a i v)->c.wp P (bodyPost P fn R) a w):Calls P f args w R:=
 calls_of_wp hf hb (h _ (by simp only [Array.size_append,Array.size_replicate];exact hN) rfl (fun i v hi=>sl_of (by
  rw [Array.getElem?_append_left (Array.getElem?_eq_some_iff.1 hi).1];exact hi)))
section
variable {vs:Nat->Value} {l:List Oper} {a A:Act} {d j:Nat}
theorem slot_in(hA:(fun vs=>putAll vs l 0 a) vs=A)(hB:apartB l=true)(hd:d < a.tmps.size)(h:evA vs l 0 d=some (vs j)):A.tmps[d]?.getD undef=vs j:=
 slot_is hA hB hd (by rw [h];rfl)
theorem slot_out{v:Value}(hA:(fun vs=>putAll vs l 0 a) vs=A)(hB:apartB l=true)(hd:d < a.tmps.size)(h:evA vs l 0 d=none)(o:Sl a d v):A.tmps[d]?.getD undef=v:=
 slot_is hA hB hd (by rw [h];exact o.eval hd)
end
theorem sH{n N:Nat}(d:Nat)(h:n=N)(hd:Nat.ble (d+1) N=true):d < n:=Nat.lt_of_lt_of_eq (Nat.le_of_ble_eq_true hd) h.symm
theorem sV{vs:Nat->Value}{l:List Oper}{a A:Act}{N j:Nat}{v:Value}(d:Nat)(f:vs j=v)(hA:(fun vs=>putAll vs l 0 a) vs=A)(hB:apartB l=true)(h:a.tmps.size=N)(hd:Nat.ble (d+1) N=true:=by rfl)(e:evA vs l 0 d=some (vs j):=by kernel_rfl):A.tmps[d]?.getD undef=v:=
 (slot_in hA hB (sH d h hd) e).trans f
theorem sO{vs:Nat->Value}{l:List Oper}{a A:Act}{N:Nat}{v:Value}(d:Nat)(o:Sl a d v)(hA:(fun vs=>putAll vs l 0 a) vs=A)(hB:apartB l=true)(h:a.tmps.size=N)(hd:Nat.ble (d+1) N=true:=by rfl)(e:evA vs l 0 d=none:=by kernel_rfl):A.tmps[d]?.getD undef=v:=
 slot_out hA hB (sH d h hd) e o
theorem Same.k{a a':Act}{ds:List Nat}{d:Nat}{v:Value}(hs:Same a a' ds)(o:Sl a d v)(h:ds.contains d=false:=by decide):Sl a' d v:=hs.keep d v h o
theorem sS{a a':Act}{ds:List Nat}(h:Same a a' ds:=by repeat (first|(with_reducible refine same_set (by decide) ?_)|(with_reducible exact same_nil))):Same a a' ds:=h
theorem sP{a:Act}{d:Nat}{v:Value}(h:Sl a d v:=by unfold Sl;first|(simp [hsz];done)|(simp [hsz];omega)):Sl a d v:=h
theorem sP0{a:Act}{d:Nat}{v:Value}(h:Sl a d v:=by unfold Sl;simp [hsz]):Sl a d v:=h
theorem sU{vs:Nat->Value}{l:List Oper}{a A:Act}{N:Nat}(d j:Nat)(hA:(fun vs=>putAll vs l 0 a) vs=A)(hB:apartB l=true)(h:a.tmps.size=N)(hd:Nat.ble (d+1) N=true:=by rfl)(e:evA vs l 0 d=some (vs j):=by kernel_rfl):A.tmps[d]?.getD undef=vs j:=
 slot_in hA hB (sH d h hd) e
def dstL (vs:Nat->Value):List Oper->Nat->List (Nat × Value)
 |[],_=>[]
 |o :: l,k=>match o.dst with
  |some d=>(d,vs k) :: dstL vs l (k+1)
  |none=>dstL vs l (k+1)
theorem putAll_eq(vs:Nat->Value):∀ (l:List Oper) (k:Nat) (a:Act),putAll vs l k a=putD (dstL vs l k) a
 |[],_,_=>rfl
 |o :: l,k,a=>by
  unfold putAll dstL
  rw [putAll_eq vs l (k+1)]
  cases h:o.dst <;> rfl
theorem sQ{vs:Nat->Value}{l:List Oper}{a:Act}{ds:List Nat}(h:(dstL vs l 0).map (·.1)=ds:=by kernel_rfl):Same a (putD (dstL vs l 0) a) ds:=h ▸ same_putD _ a
theorem sX{vs:Nat->Value}{l:List Oper}{a:Act}{d:Nat}{v:Value}(h:lastD (dstL vs l 0) d=some v:=by kernel_rfl):Sl (putD (dstL vs l 0) a) d v:=sl_putD _ a d v h
theorem sW{vs:Nat->Value}{l:List Oper}{a:Act}{d j:Nat}{v:Value}(e:vs j=v)(h:lastD (dstL vs l 0) d=some (vs j):=by kernel_rfl):Sl (putD (dstL vs l 0) a) d v:=sl_putD _ a d v (h.trans (congrArg some e))
theorem sB{a b:Nat}(h:Nat.ble a b=true:=by kernel_rfl):a<=b:=Nat.le_of_ble_eq_true h
theorem kR{S:List Nat}{w:World}:Kp S w w:=Kp.refl S w
end
section
open Go.RowKit
section
variable {P:Program}
def aggB:TypeDesc->Bool
 |.struct _=>true
 |.array _ _=>true
 |_=>false
theorem run_isAgg{w:World}{ty:TypeId}{d:TypeDesc}(hu:P.underlying ty=some d)(hd:aggB d=true):(isAgg ty).run P w=.ok true w:=by
 unfold isAgg
 rw [Sem.run_bind,run_underlying hu w]
 cases d <;> simp_all [aggB]
theorem run_loadAt_agg(w:World)(ad:Addr)(ty:TypeId)(xs:List Value)(d:TypeDesc)(hc:∀ j u,xs[j]?=some u->w.cell? (ad.add j)=some u)
 (hu:P.underlying ty=some d) (hd:aggB d=true) (hi:(P.info? ty).map (·.size)=some xs.length):
 (Instr.loadAt ty (.pointer (some ad))).run P w=.ok (.agg xs.toArray) w:=by
 have hl:(loadCells ad xs.length).run P w=.ok xs.toArray w:=run_loadCells_list (P:=P) w ad xs hc
 cases hq:P.info? ty with
 |none=>simp [hq] at hi
 |some i=>
  have hs:i.size=xs.length:=by simpa [hq] using hi
  simp [Instr.loadAt,Instr.sureAddr,loadVar,Sem.run_bind,run_isAgg hu hd,sizeOf,typeInfo,hq,hs,hl]
theorem exec_load{w:World}{ρ:Operand->Value}{o:Oper}{ty:TypeId}{x:Operand}{p v:Value}(ho:o.op=.load ty x)(hx:ρ x=p)(h:(Instr.loadAt ty p).run P w=.ok v w):
 (execOp ρ o).run P w=.ok (.value v) w:=by
 unfold execOp
 simp only [ho,hx,Sem.run_bind,h,Result.andThen_ok,Sem.run_pure]
theorem wpList_load_agg{ops:Array Oper}{rest:List Oper}{o:Oper}{a:Act}{w:World}{Q:Exit->Act->World->Prop}(hgd:o.guard=none)(ty:TypeId)(x:Operand)(ho:o.op=.load ty x)(ad:Addr)(hx:a.eval x=.pointer (some ad))
 (xs:List Value) (d:TypeDesc) (hc:∀ j u,xs[j]?=some u->w.cell? (ad.add j)=some u) (hu:P.underlying ty=some d) (hd:aggB d=true) (hi:(P.info? ty).map (·.size)=some xs.length)
 (h:wpList P ops Q rest (a.put o.dst (.agg xs.toArray)) w):wpList P ops Q (o :: rest) a w:=
 wpList_plain hgd fun K hK=>by
  unfold Oper.wp
  rw [exec_load ho hx (run_loadAt_agg w ad ty xs d hc hu hd hi)]
  exact hK _ _ h
theorem run_storeAt_agg(w:World)(g off:Nat)(t ty:TypeId)(xs:Array Value)(cur:Array Value)(hb:Blk w g t cur)(hi:(P.info? ty).map (·.size)=some xs.size)(hfit:off+xs.size<=cur.size)(h1:∀ u,u ∈ xs.toList->u.oneCell'=true):
 (Instr.storeAt ty (.pointer (some ⟨g,off,none⟩)) (.agg xs)).run P w=.ok () (w.setRow g (cur.toList.take off ++ xs.toList ++ cur.toList.drop (off+xs.size)).toArray):=by
 cases hq:P.info? ty with
 |none=>simp [hq] at hi
 |some i=>
  have hs:i.size=xs.size:=by simpa [hq] using hi
  have hst:=run_storeCells_at P g off t xs.toList 0 cur w hb (by simpa using hfit) h1
  simp only [Nat.add_zero,Array.length_toList] at hst
  simp [Instr.storeAt,Instr.sureAddr,storeVar,Sem.run_bind,sizeOf,typeInfo,hq,hs,Value.cells,hst]
theorem exec_store{w w':World}{ρ:Operand->Value}{o:Oper}{ty:TypeId}{x y:Operand}{p v:Value}(ho:o.op=.store ty x y)(hx:ρ x=p)(hy:ρ y=v)(h:(Instr.storeAt ty p v).run P w=.ok () w'):
 (execOp ρ o).run P w=.ok .skip w':=by
 unfold execOp
 simp only [ho,hx,hy,Sem.run_bind,h,Result.andThen_ok,Sem.run_pure]
theorem setRow_blk{w:World}{g:Nat}{t:TypeId}{cur cs:Array Value}(h:Blk w g t cur):Blk (w.setRow g cs) g t cs ∧ Kp [g] w (w.setRow g cs):=
 ⟨setRow_heap w g cur cs t (0,0) h,⟨rfl,rfl,rfl,by simp,fun k _ hk=>setRow_other w g k cs (by simpa using hk)⟩⟩
theorem wpList_store_agg{ops:Array Oper}{rest:List Oper}{o:Oper}{a:Act}{w:World}{Q:Exit->Act->World->Prop}(hgd:o.guard=none)(ty:TypeId)(x y:Operand)(ho:o.op=.store ty x y)(g off:Nat)(hx:a.eval x=.pointer (some ⟨g,off,none⟩))
 (xs:Array Value) (hy:a.eval y=.agg xs) (t:TypeId) (cur:Array Value) (hb:Blk w g t cur) (hi:(P.info? ty).map (·.size)=some xs.size) (hfit:off+xs.size<=cur.size) (h1:∀ u,u ∈ xs.toList->u.oneCell'=true)
 (h:∀ w',Blk w' g t (cur.toList.take off ++ xs.toList ++ cur.toList.drop (off+xs.size)).toArray->Kp [g] w w'->wpList P ops Q rest (a.put o.dst undef) w'):wpList P ops Q (o :: rest) a w:=
 wpList_plain hgd fun K hK=>by
  unfold Oper.wp
  rw [exec_store ho hx hy (run_storeAt_agg w g off t ty xs cur hb hi hfit h1)]
  exact hK _ _ (h _ (setRow_blk hb).1 (setRow_blk hb).2)
theorem lex_qk{Q:Exit->Act->World->Prop}{S:World->Prop}{qf lst:Nat->Bool}{k:Nat}{ops:Array Oper}{rest:List Oper}{o:Oper}{a:Act}{w:World}(v:Value)(hq:qf k=true)(hw:Region.wanted o (yielded ops a.tmps)=true)(h:∀ W,S W->(execOp a.eval o).run P W=.ok (.value v) W)
 (hk:∀ K:Act->World->Prop,(∀ a' w',wpLex P ops Q S qf lst rest (k+1) a' w'->K a' w')->K (a.put o.dst v) w):wpLex P ops Q S qf lst (o :: rest) k a w:=
 lex_q v hq hw h (hk _ fun _ _ h=>h)
end
end
section
section
variable {P:Program} {ops:Array Oper} {Q:Exit->Act->World->Prop}
theorem yielded_undef{a:Act}{j d:Nat}(hj:(ops[j]?).bind (·.dst)=some d)(hd:a.tmps[d]?.getD undef=undef):yielded ops a.tmps j=none:=by
 unfold yielded
 rw [hj]
 show (match a.tmps[d]? with|some (.bool b)=>some b|_=>none)=none
 cases h:a.tmps[d]? with
 |none=>rfl
 |some v=>rw [h] at hd;obtain rfl:v=undef:=hd;rfl
theorem wpOp_skipU{i:Nat}{K:Act->World->Prop}{a:Act}{w:World}(o:Oper)(ho:ops[i]?=some o)(j d:Nat)(b:Bool)(hg:o.guard=some (j,b))(hj:(ops[j]?).bind (·.dst)=some d)(hd:a.tmps[d]?.getD undef=undef)(h:K (a.put o.dst undef) w):wpOp P ops Q i K a w:=by
 unfold wpOp
 simp only [ho]
 rw [if_neg (by simp [Region.wanted,hg,yielded_undef hj hd])]
 exact h
end
end
section
section
variable {P:Program} {Q:Exit->Act->World->Prop}
def InvStepS (P:Program) (Q:Exit->Act->World->Prop) (PV:Nat->Value->World->Prop) (W0:World) (fr:(Nat->Value)->Act) (u0:Nat->Value) (ops:Array Oper) (o:Oper) (i:Nat):Prop:=
 ∀ (vs:Nat->Value) (A:Act) (W:World),fr vs=A->Kp [] W0 W->(∀ j,Nat.blt j i=true->PV j (vs j) W)->(∀ j,Nat.ble i j=true->vs j=u0 j)->
  ∀ K:Act->World->Prop,(∀ v W',Kp [] W W'->PV i v W'->K (A.put o.dst v) W')->wpOp P ops (Qn Q) i K A W
def InvStepsS (P:Program) (Q:Exit->Act->World->Prop) (PV:Nat->Value->World->Prop) (W0:World) (fr:(Nat->Value)->Act) (u0:Nat->Value) (ops:Array Oper):List Oper->Nat->Prop
 |[],_=>True
 |o :: l,i=>InvStepS P Q PV W0 fr u0 ops o i ∧ InvStepsS P Q PV W0 fr u0 ops l (i+1)
theorem wpList_of_op{ops:Array Oper}{o:Oper}{rest:List Oper}{a:Act}{w:World}{i:Nat}(ho:ops[i]?=some o)(h:wpOp P ops Q i (wpList P ops Q rest) a w):wpList P ops Q (o :: rest) a w:=by
 unfold wpOp at h
 simp only [ho] at h
 unfold wpList
 exact h
theorem seq_inv{PV:Nat->Value->World->Prop}{W0:World}{a0:Act}{l l2:List Oper}{ops:Array Oper}(hops:∀ (i:Nat) (o:Oper),l[i]?=some o->ops[i]?=some o)(hst:∀ i v W W',PV i v W->Kp [] W W'->PV i v W')(hap:apartB l=true)
 (hend:∀ vs W,Kp [] W0 W->(∀ i,i < l.length->PV i (vs i) W)->wpList P ops Q l2 (putAll vs l 0 a0) W):
 ∀ (rest:List Oper) (i:Nat) (vs:Nat->Value) (W:World),l.drop i=rest->InvStepsS P Q PV W0 (fun vs=>putAll vs l 0 a0) (at0 a0 l) ops rest i->Kp [] W0 W->(∀ j,j < i->PV j (vs j) W)->(∀ j,i<=j->vs j=at0 a0 l j)->
  wpList P ops Q (rest ++ l2) (putAll vs l 0 a0) W
 |[],i,vs,W,hr,_,hk,hp,_=>by
  have hi:l.length<=i:=List.drop_eq_nil_iff.1 hr
  exact hend vs W hk (fun j hj=>hp j (by omega))
 |o :: rest,i,vs,W,hr,hs,hk,hp,hu=>by
  have hol:l[i]?=some o:=by
   have:(l.drop i)[0]?=some o:=by rw [hr];rfl
   rwa [List.getElem?_drop,Nat.add_zero] at this
  have hr2:l.drop (i+1)=rest:=by
   rw [<- List.drop_drop,hr];rfl
  refine wpList_of_op (i:=i) (hops i o hol) (wpOp_n ?_)
  refine hs.1 vs _ W rfl hk (fun j hj=>hp j (by simpa [Nat.blt_eq] using hj)) (fun j hj=>hu j (by simpa [Nat.ble_eq] using hj)) _ fun v W' hk' hv=>?_
  rw [putAll_upd vs i v l 0 a0 o hap (Nat.zero_le _) (by simpa using hol)]
  refine seq_inv hops hst hap hend rest (i+1) _ W' hr2 hs.2 (hk.trans hk' (by simp)) (fun j hj=>?_) (fun j hj=>?_)
  . by_cases e:j=i
    . subst e;simpa [upd] using hv
    . simp only [upd,if_neg e]
      exact hst j _ W W' (hp j (by omega)) hk'
  . simp only [upd,if_neg (show j ≠ i by omega)]
    exact hu j (by omega)
theorem wp_region_invSL{id:Nat}{a:Act}{w:World}{l:List Oper}(k:Nat)(PV:Nat->Value->World->Prop)(hap:apartB (l.take k)=true)
 (hst:∀ i v W W',PV i v W->Kp [] W W'->PV i v W')
 (hs:InvStepsS P Q PV w (fun vs=>putAll vs (l.take k) 0 a) (at0 a (l.take k)) l.toArray (l.take k) 0)
 (hend:∀ vs W,Kp [] w W->(∀ i,i < (l.take k).length->PV i (vs i) W)->wpList P l.toArray Q (l.drop k) (putAll vs (l.take k) 0 a) W):(Code.region id l.toArray false).wp P Q a w:=by
 refine wp_region_lit (l:=l) ?_
 have h:=seq_inv (P:=P) (Q:=Q) (a0:=a) (l:=l.take k) (l2:=l.drop k) (ops:=l.toArray) (fun i o h=>by
  rw [List.getElem?_take] at h
  split at h
  . simpa using h
  . cases h) hst hap hend (l.take k) 0 (at0 a (l.take k)) w rfl hs kR (fun j hj=>by omega) (fun _ _=>rfl)
 rwa [List.take_append_drop,putAll_at a (l.take k) 0 (at0 a (l.take k)) (fun j o ho=>by simp only [at0,Nat.zero_add,ho])] at h
theorem wp_region_invS{id:Nat}{a:Act}{w:World}{l:List Oper}(PV:Nat->Value->World->Prop)(hap:apartB l=true)
 (hst:∀ i v W W',PV i v W->Kp [] W W'->PV i v W')
 (hs:InvStepsS P Q PV w (fun vs=>putAll vs l 0 a) (at0 a l) l.toArray l 0)
 (hend:∀ vs W,Kp [] w W->(∀ i,i < l.length->PV i (vs i) W)->Q .normal (putAll vs l 0 a) W):(Code.region id l.toArray false).wp P Q a w:=by
 refine wp_region_lit (l:=l) ?_
 have h:=seq_inv (P:=P) (Q:=Q) (a0:=a) (l:=l) (l2:=[]) (ops:=l.toArray) (fun i o h=>by simpa using h) hst hap hend l 0 (at0 a l) w rfl hs kR (fun j hj=>by omega) (fun _ _=>rfl)
 rwa [List.append_nil,putAll_at a l 0 (at0 a l) (fun j o ho=>by simp [at0,ho])] at h
end
end
section
open Go.RowKit
structure Res where
 fp:List Nat
 ok:World->Prop
 keep:∀ w w' S,ok w->Kp S w w'->(∀ b,b ∈ fp->b ∉ S)->ok w'
 lt:∀ w,ok w->∀ b,b ∈ fp->b < w.heap.size
def Apart (r s:Res):Prop:=∀ b,b ∈ r.fp->b ∉ s.fp
theorem Apart.symm{r s:Res}(h:Apart r s):Apart s r:=fun b hb hr=>h b hr hb
structure Held (w0 w:World) (L:List Res):Prop where
 k:Kp [] w0 w
 ok:∀ r,r ∈ L->r.ok w
 base:∀ r,r ∈ L->∀ b,b ∈ r.fp->w0.heap.size<=b
 apart:L.Pairwise Apart
theorem Held.start(w:World):Held w w []:=⟨Kp.refl _ _,by simp,by simp,List.Pairwise.nil⟩
theorem Held.at_{w0 w:World}{l1 l2:List Res}{r:Res}(h:Held w0 w (l1 ++ r :: l2)):r.ok w:=h.ok r (by simp)
theorem Held.kp{w0 w w':World}{L:List Res}(h:Held w0 w L)(hk:Kp [] w w'):Held w0 w' L:=
 ⟨h.k.trans hk (by simp),fun r hr=>r.keep w w' [] (h.ok r hr) hk (by simp),h.base,h.apart⟩
theorem Held.alloc{w0 w:World}{L:List Res}(h:Held w0 w L)(o:Obj):Held w0 (w.alloc o) L:=h.kp ((Kp.refl [] w).alloc o)
theorem Held.new{w0 w w':World}{L:List Res}(h:Held w0 w L)(r:Res)(hk:Kp [] w w')(hr:r.ok w')(hf:∀ b,b ∈ r.fp->w.heap.size<=b):Held w0 w' (r :: L):=by
 have h':=h.kp hk
 refine ⟨h'.k,fun s hs=>?_,fun s hs=>?_,List.pairwise_cons.2 ⟨fun s hs b hb hs'=>?_,h.apart⟩⟩
 . rcases List.mem_cons.1 hs with rfl|hs
   . exact hr
   . exact h'.ok s hs
 . rcases List.mem_cons.1 hs with rfl|hs
   . exact fun b hb=>Nat.le_trans h.k.size (hf b hb)
   . exact h.base s hs
 . have h1:=s.lt w (h.ok s hs) b hs'
   have h2:=hf b hb
   omega
theorem Held.drop{w0 w:World}{L:List Res}{r:Res}(h:Held w0 w (r :: L)):Held w0 w L:=
 ⟨h.k,fun s hs=>h.ok s (List.mem_cons_of_mem _ hs),fun s hs=>h.base s (List.mem_cons_of_mem _ hs),(List.pairwise_cons.1 h.apart).2⟩
theorem Held.perm{w0 w:World}{L L':List Res}(h:Held w0 w L)(hp:L.Perm L'):Held w0 w L':=
 ⟨h.k,fun r hr=>h.ok r (hp.mem_iff.2 hr),fun r hr=>h.base r (hp.mem_iff.2 hr),hp.pairwise h.apart (fun hx=>hx.symm)⟩
theorem Held.turn{w0 w w':World}{L:List Res}{r:Res}(h:Held w0 w (r :: L))(r':Res)(hk:Kp r.fp w w')(hr:r'.ok w')(hf:∀ b,b ∈ r'.fp->b ∈ r.fp ∨ w.heap.size<=b):Held w0 w' (r' :: L):=by
 have hap:=List.pairwise_cons.1 h.apart
 refine ⟨h.k.trans hk (fun g hg=>.inr (h.base r (by simp) g hg)),fun s hs=>?_,fun s hs=>?_,List.pairwise_cons.2 ⟨fun s hs b hb hs'=>?_,hap.2⟩⟩
 . rcases List.mem_cons.1 hs with rfl|hs
   . exact hr
   . exact s.keep w w' r.fp (h.ok s (List.mem_cons_of_mem _ hs)) hk (fun b hb hr=>(hap.1 s hs) b hr hb)
 . rcases List.mem_cons.1 hs with rfl|hs
   . intro b hb
     rcases hf b hb with h1|h1
     . exact h.base r (by simp) b h1
     . exact Nat.le_trans h.k.size h1
   . exact h.base s (List.mem_cons_of_mem _ hs)
 . rcases hf b hb with h1|h1
   . exact hap.1 s hs b h1 hs'
   . have:=s.lt w (h.ok s (List.mem_cons_of_mem _ hs)) b hs'
     omega
theorem perm_mid{l1 l2:List Res}{r:Res}:(l1 ++ r :: l2).Perm (r :: (l1 ++ l2)):=List.perm_middle
theorem Held.turnAt{w0 w w':World}{l1 l2:List Res}{r:Res}(h:Held w0 w (l1 ++ r :: l2))(r':Res)(hk:Kp r.fp w w')(hr:r'.ok w')(hf:∀ b,b ∈ r'.fp->b ∈ r.fp ∨ w.heap.size<=b):Held w0 w' (l1 ++ r' :: l2):=
 ((h.perm perm_mid).turn r' hk hr hf).perm perm_mid.symm
theorem Held.dropAt{w0 w:World}{l1 l2:List Res}{r:Res}(h:Held w0 w (l1 ++ r :: l2)):Held w0 w (l1 ++ l2):=(h.perm perm_mid).drop
def rowR (e:TypeId) (s:Nat) (v:Value) (n:Nat) (xs:List Value):Res where
 fp:=v.ownBlock.toList
 ok:=fun w=>Ow w e s v n xs
 keep:=fun _ _ _ h hk hn=>ow_kp h hk (fun g hg=>hn g (by simp [hg]))
 lt:=fun _ h b hb=>ow_lt h (by simpa using hb)
def blkR (g:Nat) (t:TypeId) (cs:Array Value):Res where
 fp:=[g]
 ok:=fun w=>Blk w g t cs
 keep:=fun _ _ _ h hk hn=>h.kp hk (hn g (by simp))
 lt:=fun _ h b hb=>by simp at hb;subst hb;exact h.lt
end
section
section
variable {P:Program} {Q:Exit->Act->World->Prop} {Γ:Type}
def upg (gs:Nat->Γ) (i:Nat) (γ:Γ):Nat->Γ:=fun k=>if k=i then γ else gs k
def sepB (l:List Oper) (m:Nat) (tk rd:Nat->List Nat):Bool:=
 (List.range l.length).all fun i=>match l[i]? with
  |none=>false
  |some o=>(tk i ++ rd i).all (fun s=>decide (s < m) && (decide (s < i) || decide (l.length<=s)) && (decide (l.length<=s) || waitsF .any l.toArray o s)) && decide (tk i).Nodup && (tk i).all (fun s=>!(rd i).contains s) &&
   (List.range l.length).all fun k=>decide (k=i) || match l[k]? with
    |none=>false
    |some ok=>(tk k).all fun s=>!(tk i).contains s && (!(rd i).contains s || waitsF .any l.toArray ok i)
structure SepOk (l:List Oper) (m:Nat) (tk rd:Nat->List Nat):Prop where
 lt:∀ i o s,l[i]?=some o->s ∈ tk i ∨ s ∈ rd i->s < m
 early:∀ i o s,l[i]?=some o->s ∈ tk i ∨ s ∈ rd i->s < i ∨ l.length<=s
 wait:∀ i o s,l[i]?=some o->s ∈ tk i ∨ s ∈ rd i->s < l.length->waitsF .any l.toArray o s=true
 nodup:∀ i o,l[i]?=some o->(tk i).Nodup
 own:∀ i o s,l[i]?=some o->s ∈ tk i->s ∉ rd i
 one:∀ i k o ok s,l[i]?=some o->l[k]?=some ok->i ≠ k->s ∈ tk k->s ∉ tk i
 late:∀ i k o ok s,l[i]?=some o->l[k]?=some ok->i ≠ k->s ∈ tk k->s ∈ rd i->waitsF .any l.toArray ok i=true
theorem sepB_spec{l:List Oper}{m:Nat}{tk rd:Nat->List Nat}(h:sepB l m tk rd=true):SepOk l m tk rd:=by
 have h1:∀ i o,l[i]?=some o->_:=fun i o ho=>by
  have hi:i < l.length:=(List.getElem?_eq_some_iff.1 ho).1
  have:=(List.all_eq_true.1 h) i (List.mem_range.2 hi)
  rw [ho] at this
  simp only [Bool.and_eq_true] at this
  exact this
 refine ⟨fun i o s ho hs=>?_,fun i o s ho hs=>?_,fun i o s ho hs hl=>?_,fun i o ho=>?_,fun i o s ho hs hr=>?_,fun i k o ok s ho hk hne hs ht=>?_,fun i k o ok s ho hk hne hs hr=>?_⟩
 . have:=(List.all_eq_true.1 (h1 i o ho).1.1.1) s (List.mem_append.2 hs)
   simp only [Bool.and_eq_true,decide_eq_true_eq] at this
   exact this.1.1
 . have:=(List.all_eq_true.1 (h1 i o ho).1.1.1) s (List.mem_append.2 hs)
   simp only [Bool.and_eq_true,Bool.or_eq_true,decide_eq_true_eq] at this
   exact this.1.2
 . have:=(List.all_eq_true.1 (h1 i o ho).1.1.1) s (List.mem_append.2 hs)
   simp only [Bool.and_eq_true,Bool.or_eq_true,decide_eq_true_eq] at this
   rcases this.2 with h|h
   . omega
   . exact h
 . simpa using (h1 i o ho).1.1.2
 . have:=(List.all_eq_true.1 (h1 i o ho).1.2) s hs
   simp at this
   exact this hr
 . have:=(List.all_eq_true.1 (h1 i o ho).2) k (List.mem_range.2 (List.getElem?_eq_some_iff.1 hk).1)
   rw [hk] at this
   simp only [Bool.or_eq_true,decide_eq_true_eq] at this
   rcases this with e|this
   . exact hne e.symm
   . have:=(List.all_eq_true.1 this) s hs
     simp only [Bool.and_eq_true] at this
     have:=this.1
     simp at this
     exact this ht
 . have:=(List.all_eq_true.1 (h1 i o ho).2) k (List.mem_range.2 (List.getElem?_eq_some_iff.1 hk).1)
   rw [hk] at this
   simp only [Bool.or_eq_true,decide_eq_true_eq] at this
   rcases this with e|this
   . exact absurd e.symm hne
   . have:=(List.all_eq_true.1 this) s hs
     simp only [Bool.and_eq_true,Bool.or_eq_true] at this
     rcases this.2 with h|h
     . simp at h;exact absurd hr h
     . exact h
def liveB (n:Nat) (tk:Nat->List Nat) (listed:Array Bool) (s:Nat):Bool:=
 (decide (n<=s) || listed.getD s false) && (List.range n).all fun k=>!(listed.getD k false) || !(tk k).contains s
def liveL (n m:Nat) (tk:Nat->List Nat) (RS:Nat->(Nat->Value)->(Nat->Γ)->List Res) (listed:Array Bool) (vs:Nat->Value) (gs:Nat->Γ):List Res:=
 (List.range m).flatMap fun s=>if liveB n tk listed s then RS s vs gs else []
theorem liveB_true{n:Nat}{tk:Nat->List Nat}{listed:Array Bool}{s:Nat}:liveB n tk listed s=true ↔ (n<=s ∨ listed.getD s false=true) ∧ ∀ k,k < n->listed.getD k false=true->s ∉ tk k:=by
 simp only [liveB,Bool.and_eq_true,Bool.or_eq_true,decide_eq_true_eq,List.all_eq_true,List.mem_range]
 constructor
 . rintro ⟨h1,h2⟩
   refine ⟨h1,fun k hk hl hm=>?_⟩
   have:=h2 k hk
   rw [hl] at this
   simp at this
   exact this hm
 . rintro ⟨h1,h2⟩
   refine ⟨h1,fun k hk=>?_⟩
   cases hl:listed.getD k false with
   |false=>simp
   |true=>simpa using h2 k hk hl
theorem flatMap_congr'{α β:Type}:∀ {l:List α} {f g:α->List β},(∀ x ∈ l,f x=g x)->l.flatMap f=l.flatMap g
 |[],_,_,_=>rfl
 |x :: l,f,g,h=>by
  rw [List.flatMap_cons,List.flatMap_cons,h x (by simp),flatMap_congr' (fun y hy=>h y (by simp [hy]))]
theorem flatMap_part{α β:Type}(l:List α)(f g:α->List β):(l.flatMap fun s=>f s ++ g s).Perm (l.flatMap f ++ l.flatMap g):=by
 induction l with
 |nil=>exact List.Perm.refl _
 |cons x l ih=>
  simp only [List.flatMap_cons,List.append_assoc]
  exact (List.Perm.append_left (f x) ((List.Perm.append_left (g x) ih).trans (List.perm_append_comm_assoc _ _ _)))
theorem flatMap_perm{α β:Type}{l l':List α}(h:l.Perm l')(f:α->List β):(l.flatMap f).Perm (l'.flatMap f):=by
 induction h with
 |nil=>exact List.Perm.refl _
 |cons x _ ih=>simp only [List.flatMap_cons];exact ih.append_left _
 |swap x y l=>simp only [List.flatMap_cons];exact List.perm_append_comm_assoc _ _ _
 |trans _ _ ih1 ih2=>exact ih1.trans ih2
theorem flatMap_filter_if{α β:Type}(l:List α)(p:α->Bool)(f:α->List β):(l.flatMap fun s=>if p s then f s else [])=(l.filter p).flatMap f:=by
 induction l with
 |nil=>rfl
 |cons x l ih=>
  by_cases h:p x=true
  . simp only [List.flatMap_cons,List.filter_cons,h,if_true,ih]
  . simp only [List.flatMap_cons,List.filter_cons,h,ih];simp
theorem filter_perm_of{l T:List Nat}(hl:l.Nodup)(hT:T.Nodup)(hs:∀ x ∈ T,x ∈ l):(l.filter fun x=>T.contains x).Perm T:=
 (List.perm_ext_iff_of_nodup (hl.filter _) hT).2 fun x=>by
  rw [List.mem_filter]
  constructor
  . rintro ⟨_,h⟩;simpa using h
  . intro h;exact ⟨hs x h,by simpa using h⟩
theorem part_off{β:Type}{m:Nat}{T:List Nat}(hT:T.Nodup)(hs:∀ x ∈ T,x < m)(p:Nat->Bool)(hp:∀ x ∈ T,p x=true)(f:Nat->List β):
 ((List.range m).flatMap fun s=>if p s then f s else []).Perm (T.flatMap f ++ (List.range m).flatMap fun s=>if p s && !T.contains s then f s else []):=by
 have h1:((List.range m).flatMap fun s=>if p s then f s else [])=(List.range m).flatMap fun s=>(if T.contains s then f s else []) ++ (if p s && !T.contains s then f s else []):=by
  congr 1
  funext s
  by_cases hc:T.contains s=true
  . have:=hp s (by simpa using hc)
    simp only [this,hc,if_true,Bool.not_true,Bool.and_false,Bool.false_eq_true,if_false,List.append_nil]
  . have hc':T.contains s=false:=by simpa using hc
    simp only [hc',Bool.false_eq_true,if_false,Bool.not_false,Bool.and_true,List.nil_append]
 rw [h1]
 refine (flatMap_part _ _ _).trans (List.Perm.append_right _ ?_)
 rw [flatMap_filter_if]
 exact flatMap_perm (filter_perm_of List.nodup_range hT (fun x hx=>List.mem_range.2 (hs x hx))) f
def depB (l:List Oper) (m:Nat) (dp:Nat->List Nat):Bool:=
 (List.range m).all fun s=>match l[s]? with
  |none=>(dp s).isEmpty
  |some o=>(dp s).all fun j=>decide (j=s) || (decide (j < l.length) && waitsF .any l.toArray o j)
theorem depB_spec{l:List Oper}{m:Nat}{dp:Nat->List Nat}(h:depB l m dp=true){s:Nat}(hs:s < m):(l.length<=s->dp s=[]) ∧ ∀ o,l[s]?=some o->∀ j,j ∈ dp s->j=s ∨ waitsF .any l.toArray o j=true:=by
 have:=(List.all_eq_true.1 h) s (List.mem_range.2 hs)
 constructor
 . intro hl
   rw [List.getElem?_eq_none hl] at this
   simpa using this
 . intro o ho j hj
   rw [ho] at this
   have:=(List.all_eq_true.1 this) j hj
   simp only [Bool.or_eq_true,Bool.and_eq_true,decide_eq_true_eq] at this
   exact this.imp id (·.2)
def SepStep (P:Program) (Q:Exit->Act->World->Prop) (PV:Nat->(Nat->Value)->(Nat->Γ)->Prop) (RS:Nat->(Nat->Value)->(Nat->Γ)->List Res) (tk rd:Nat->List Nat) (w0:World) (a0:Act) (fr:(Nat->Value)->Act) (ops:Array Oper) (o:Oper) (i:Nat):Prop:=
 ∀ (vs:Nat->Value) (gs:Nat->Γ) (A:Act) (W:World) (L:List Res),fr vs=A->Held w0 W ((tk i).flatMap (fun s=>RS s vs gs) ++ L)->(∀ s,s ∈ rd i->∀ r,r ∈ RS s vs gs->r ∈ L)->(∀ j,waitsF .any ops o j=true->PV j vs gs)->(∀ j oj,ops[j]?=some oj->waitsF .any ops oj i=true->vs j=slotOf a0 oj.dst)->
  ∀ K:Act->World->Prop,(∀ γ v W',Held w0 W' (RS i (upd vs i v) (upg gs i γ) ++ L)->PV i (upd vs i v) (upg gs i γ)->K (A.put o.dst v) W')->o.wp P A W K (Qn Q)
def SepSteps (P:Program) (Q:Exit->Act->World->Prop) (PV:Nat->(Nat->Value)->(Nat->Γ)->Prop) (RS:Nat->(Nat->Value)->(Nat->Γ)->List Res) (tk rd:Nat->List Nat) (w0:World) (a0:Act) (fr:(Nat->Value)->Act) (ops:Array Oper):List Oper->Nat->Prop
 |[],_=>True
 |o :: l,i=>SepStep P Q PV RS tk rd w0 a0 fr ops o i ∧ SepSteps P Q PV RS tk rd w0 a0 fr ops l (i+1)
theorem SepSteps.at_{PV:Nat->(Nat->Value)->(Nat->Γ)->Prop}{RS:Nat->(Nat->Value)->(Nat->Γ)->List Res}{tk rd:Nat->List Nat}{w0:World}{a0:Act}{fr:(Nat->Value)->Act}{ops:Array Oper}:∀ {l:List Oper} {k:Nat},SepSteps P Q PV RS tk rd w0 a0 fr ops l k->∀ {i o},l[i]?=some o->SepStep P Q PV RS tk rd w0 a0 fr ops o (k+i)
 |[],_,_,_,_,h=>by simp at h
 |x :: l,k,hs,i,o,h=>by
  rcases i with _|i
  . obtain rfl:x=o:=by simpa using h
    exact hs.1
  . have:=hs.2.at_ (i:=i) (o:=o) (by simpa using h)
    rwa [show k+1+i=k+(i+1) from by omega] at this
theorem sep_any{PV:Nat->(Nat->Value)->(Nat->Γ)->Prop}{RS:Nat->(Nat->Value)->(Nat->Γ)->List Res}{tk rd:Nat->List Nat}{m:Nat}{w0:World}{a0:Act}{l:List Oper}(hsep:SepOk l m tk rd)(hnm:l.length<=m)(dp:Nat->List Nat)(hdp:depB l m dp=true)(hd:∀ s vs vs' gs gs',(∀ j,j ∈ dp s->vs j=vs' j ∧ gs j=gs' j)->RS s vs gs=RS s vs' gs' ∧ (PV s vs gs->PV s vs' gs'))(hap:apartB l=true)(hea:earlierB l 0=true)
 (hs:SepSteps P Q PV RS tk rd w0 a0 (fun vs=>putAll vs l 0 a0) l.toArray l 0)
 (hend:∀ vs gs W listed,(∀ i,i < l.length->listed.getD i false=true)->Held w0 W (liveL l.length m tk RS listed vs gs)->(∀ i,i < l.length->PV i vs gs)->Q .normal (putAll vs l 0 a0) W):
 ∀ (fuel:Nat) (listed:Array Bool) (vs:Nat->Value) (gs:Nat->Γ) (W:World),listed.size=l.length->(listed.toList.filter (fun b=>!b)).length=fuel->Closed .any l.toArray listed->Held w0 W (liveL l.length m tk RS listed vs gs)->(∀ i,listed.getD i false=true->PV i vs gs)->(∀ j oj,l[j]?=some oj->listed.getD j false=false->vs j=slotOf a0 oj.dst)->
  wpAny P .any l.toArray Q fuel listed (putAll vs l 0 a0) W:=by
 have all_of:∀ (listed:Array Bool),listed.size=l.length->Region.ready .any l.toArray listed=[]->∀ i,i < l.length->listed.getD i false=true:=by
  intro listed hsz hr i
  induction i using Nat.strongRecOn with
  |_ i ih=>
   intro hi
   cases hl:listed.getD i false with
   |true=>rfl
   |false=>
    exfalso
    have hlt:i < listed.size:=by omega
    have hmem:i ∈ Region.ready .any l.toArray listed:=mem_ready.2 ⟨by simp [hlt] at hl ⊢;exact hl,l[i],by simp [hi],fun e he hb=>by
     have:=(earlierB_spec l 0 i l[i] hea (by simp [hi])).1 e he hb
     exact ih e.on (by omega) (by omega)⟩
    rw [hr] at hmem;cases hmem
 have hnil:∀ (listed:Array Bool) vs gs W,listed.size=l.length->Held w0 W (liveL l.length m tk RS listed vs gs)->(∀ i,listed.getD i false=true->PV i vs gs)->Region.ready .any l.toArray listed=[]->Q .normal (putAll vs l 0 a0) W:=
  fun listed vs gs W hsz hS hp hr=>hend vs gs W listed (all_of listed hsz hr) hS (fun i hi=>hp i (all_of listed hsz hr i hi))
 intro fuel
 induction fuel with
 |zero=>
  intro listed vs gs W hsz hf hcl hS hp _
  have hr:Region.ready .any l.toArray listed=[]:=by
   refine List.eq_nil_iff_forall_not_mem.2 fun i hi=>?_
   have h0:=(mem_ready.1 hi).1
   obtain ⟨_,o,ho,_⟩:=mem_ready.1 hi
   have hlt:i < listed.size:=by
    have:=(Array.getElem?_eq_some_iff.1 ho).1
    simp at this;omega
   have:listed[i] ∈ listed.toList.filter (fun b=>!b):=by
    rw [List.mem_filter]
    simp [hlt] at h0
    refine ⟨by simp,by simp [h0]⟩
   rw [List.eq_nil_of_length_eq_zero hf] at this
   cases this
  exact ⟨hr,hnil listed vs gs W hsz hS hp hr⟩
 |succ fuel ih=>
  intro listed vs gs W hsz hf hcl hS hp hv0
  refine ⟨hnil listed vs gs W hsz hS hp,fun i hi=>?_⟩
  obtain ⟨h0,o,ho,hall⟩:=mem_ready.1 hi
  have hol:l[i]?=some o:=by simpa using ho
  have hil:i < l.length:=(List.getElem?_eq_some_iff.1 hol).1
  have hlt:i < listed.size:=by omega
  have hli:listed.getD i false=false:=by simp [hlt] at h0 ⊢;exact h0
  have hgd:=(earlierB_spec l 0 i o hea hol).2
  have hlive:∀ s,s ∈ tk i ∨ s ∈ rd i->liveB l.length tk listed s=true:=fun s hs=>by
   refine liveB_true.2 ⟨?_,fun k hk hkl hm=>?_⟩
   . by_cases hsl:s < l.length
     . exact .inr (waitsF_spec (hsep.wait i o s hol hs hsl) listed hcl hall)
     . exact .inl (by omega)
   . have hkl':l[k]?=some l[k]:=List.getElem?_eq_getElem hk
     have hne:i ≠ k:=by rintro rfl;rw [hli] at hkl;cases hkl
     rcases hs with hs|hs
     . exact hsep.one i k o _ s hol hkl' hne hm hs
     . have hw:=hsep.late i k o _ s hol hkl' hne hm hs
       have:=waitsF_spec hw listed hcl (hcl k l[k] (by simp [hk]) hkl)
       rw [hli] at this
       cases this
  have hnot:liveB l.length tk listed i=false:=by
   apply Bool.eq_false_iff.2
   intro h
   rcases (liveB_true.1 h).1 with h|h
   . omega
   . rw [hli] at h;cases h
  have hnew:∀ s,liveB l.length tk (listed.setIfInBounds i true) s=(decide (s=i) || (liveB l.length tk listed s && !(tk i).contains s)):=fun s=>by
   apply Bool.eq_iff_iff.2
   rw [Bool.or_eq_true,decide_eq_true_eq,Bool.and_eq_true,liveB_true,liveB_true]
   have hni:∀ k,k < l.length->(listed.setIfInBounds i true).getD k false=true->i ∉ tk k:=fun k hk hkl hm=>by
    by_cases hki:k=i
    . subst hki
      have:=hsep.early k o k hol (.inl hm)
      omega
    . rw [getD_set_ne false (fun h=>hki h.symm)] at hkl
      have hkl':l[k]?=some l[k]:=List.getElem?_eq_getElem hk
      have hw:=hsep.wait k l[k] i hkl' (.inl hm) hil
      have:=waitsF_spec hw listed hcl (hcl k l[k] (by simp [hk]) hkl)
      rw [hli] at this
      cases this
   constructor
   . rintro ⟨h1,h2⟩
     by_cases hsi:s=i
     . exact .inl hsi
     . right
       rw [getD_set_ne false (fun h=>hsi h.symm)] at h1
       refine ⟨⟨h1,fun k hk hkl=>h2 k hk (getD_set_true hkl)⟩,?_⟩
       have:=h2 i hil (by simp [hlt])
       simpa using this
   . rintro (rfl|⟨⟨h1,h2⟩,h3⟩)
     . exact ⟨.inr (by simp [hlt]),hni⟩
     . refine ⟨h1.imp id getD_set_true,fun k hk hkl hm=>?_⟩
       by_cases hki:k=i
       . subst hki
         simp at h3
         exact h3 hm
       . rw [getD_set_ne false (fun h=>hki h.symm)] at hkl
         exact h2 k hk hkl hm
  obtain ⟨L,hL⟩:∃ L,L=(List.range m).flatMap fun s=>if liveB l.length tk listed s && !(tk i).contains s then RS s vs gs else []:=⟨_,rfl⟩
  have hperm:(liveL l.length m tk RS listed vs gs).Perm ((tk i).flatMap (fun s=>RS s vs gs) ++ L):=by
   rw [hL]
   exact part_off (hsep.nodup i o hol) (fun x hx=>hsep.lt i o x hol (.inl hx)) _ (fun x hx=>hlive x (.inl hx)) _
  have hread:∀ s,s ∈ rd i->∀ r,r ∈ RS s vs gs->r ∈ L:=fun s hs r hr=>by
   rw [hL]
   refine List.mem_flatMap.2 ⟨s,List.mem_range.2 (hsep.lt i o s hol (.inr hs)),?_⟩
   have h1:=hlive s (.inr hs)
   have h2:(tk i).contains s=false:=by
    have:s ∉ tk i:=fun h=>hsep.own i o s hol h hs
    simpa using this
   simp only [h1,h2,Bool.not_false,Bool.and_true,if_true]
   exact hr
  have hsame:∀ v γ s,s < m->s ≠ i->(l.length<=s ∨ listed.getD s false=true)->RS s vs gs=RS s (upd vs i v) (upg gs i γ) ∧ (PV s vs gs->PV s (upd vs i v) (upg gs i γ)):=fun v γ s hsm hsi hs=>by
   refine hd s vs _ gs _ (fun j hj=>?_)
   obtain ⟨d1,d2⟩:=depB_spec hdp hsm
   by_cases hsl:s < l.length
   . have hls:listed.getD s false=true:=by
      rcases hs with h|h
      . omega
      . exact h
     have hji:j ≠ i:=by
      rintro rfl
      rcases d2 l[s] (List.getElem?_eq_getElem hsl) _ hj with h|h
      . exact hsi h.symm
      . have:=waitsF_spec h listed hcl (hcl s l[s] (by simp [hsl]) hls)
        rw [hli] at this
        cases this
     simp [upd,upg,hji]
   . rw [d1 (by omega)] at hj
     cases hj
  have hafter:∀ v γ,(liveL l.length m tk RS (listed.setIfInBounds i true) (upd vs i v) (upg gs i γ)).Perm (RS i (upd vs i v) (upg gs i γ) ++ L):=fun v γ=>by
   unfold liveL
   have h1:=part_off (T:=[i]) (by simp) (m:=m) (fun x hx=>by simp at hx;omega) (fun s=>liveB l.length tk (listed.setIfInBounds i true) s) (fun x hx=>by
    simp at hx;subst hx;rw [hnew];simp) (fun s=>RS s (upd vs i v) (upg gs i γ))
   refine h1.trans ?_
   have h2:([i].flatMap fun s=>RS s (upd vs i v) (upg gs i γ))=RS i (upd vs i v) (upg gs i γ):=by simp
   rw [h2,hL]
   refine List.Perm.append_left _ (List.Perm.of_eq ?_)
   apply flatMap_congr'
   intro s hsm
   have hsm:=List.mem_range.1 hsm
   by_cases hsi:s=i
   . subst hsi
     simp [hnot]
   . rw [hnew]
     have h3:[i].contains s=false:=by simpa using hsi
     simp only [h3,hsi,decide_false,Bool.false_or,Bool.not_false,Bool.and_true]
     by_cases hlv:(liveB l.length tk listed s && !(tk i).contains s)=true
     . rw [if_pos hlv,if_pos hlv]
       rw [Bool.and_eq_true] at hlv
       exact (hsame v γ s hsm hsi (liveB_true.1 hlv.1).1).1.symm
     . rw [if_neg hlv,if_neg hlv]
  refine wpOp_n ?_
  unfold wpOp
  simp only [ho]
  rw [if_pos (by simp [Region.wanted,hgd])]
  refine .inl ?_
  have hstep:=hs.at_ hol
  rw [Nat.zero_add] at hstep
  refine hstep vs gs _ W L rfl (hS.perm hperm) hread (fun j hj=>hp j (waitsF_spec hj listed hcl hall)) (fun j oj hj hw=>hv0 j oj (by simpa using hj) (by
   cases hjl:listed.getD j false with
   |false=>rfl
   |true=>
    have:=waitsF_spec hw listed hcl (hcl j oj hj hjl)
    rw [hli] at this
    cases this)) _ fun γ v W' hS' hv=>?_
  rw [putAll_upd vs i v l 0 a0 o hap (Nat.zero_le _) (by simpa using hol)]
  refine ih _ _ (upg gs i γ) W' (by simpa using hsz) ?_ (hcl.add hi) (hS'.perm (hafter v γ).symm) (fun j hj=>?_) (fun j oj hj hjl=>?_)
  . simp [hlt] at h0
    have h1:listed.toList=listed.toList.take i ++ false :: listed.toList.drop (i+1):=by
     rw [<- h0]
     have:=List.take_append_drop i listed.toList
     rw [List.drop_eq_getElem_cons (by simpa using hlt)] at this
     simpa using this.symm
    have h2:(listed.setIfInBounds i true).toList=listed.toList.take i ++ true :: listed.toList.drop (i+1):=by
     rw [Array.toList_setIfInBounds]
     conv=>lhs;rw [h1]
     rw [List.set_append_right _ _ (by simp;omega)]
     simp [Nat.min_eq_left (Nat.le_of_lt hlt)]
    rw [h1] at hf
    rw [h2]
    simp only [List.filter_append,List.filter_cons,List.length_append] at hf ⊢
    simp at hf ⊢
    omega
  . by_cases e:i=j
    . subst e;exact hv
    . rw [getD_set_ne false e] at hj
      have hjm:j < m:=by
       by_cases hjl:j < l.length
       . omega
       . simp [show ¬ j < listed.size by omega] at hj
      exact (hsame v γ j hjm (fun h=>e h.symm) (.inr hj)).2 (hp j hj)
  . by_cases e:i=j
    . subst e
      simp [hlt] at hjl
    . rw [getD_set_ne false e] at hjl
      rw [<- hv0 j oj hj hjl]
      simp [upd,show j ≠ i from fun h=>e h.symm]
def endB (n:Nat) (tk:Nat->List Nat) (s:Nat):Bool:=(List.range n).all fun k=>!(tk k).contains s
theorem wp_region_sep [Inhabited Γ] {id:Nat} {a:Act} {w0 w:World} {l:List Oper} (m:Nat) (fin:List Nat) (PV:Nat->(Nat->Value)->(Nat->Γ)->Prop) (RS:Nat->(Nat->Value)->(Nat->Γ)->List Res) (tk rd:Nat->List Nat) {L0:List Res} (hS:Held w0 w L0) (hm:P.follows .mixedOrders=true)
 (hap:apartB l=true) (hea:earlierB l 0=true) (hsep:sepB l (l.length+m) tk rd=true) (dp:Nat->List Nat) (hdp:depB l (l.length+m) dp=true) (hd:∀ s vs vs' gs gs',(∀ j,j ∈ dp s->vs j=vs' j ∧ gs j=gs' j)->RS s vs gs=RS s vs' gs' ∧ (PV s vs gs->PV s vs' gs')) (hfin:(List.range (l.length+m)).filter (endB l.length tk)=fin)
 (hL0:((List.range m).flatMap fun j=>RS (l.length+j) (fun _=>undef) (fun _=>default)).Perm L0)
 (hs:SepSteps P Q PV RS tk rd w0 a (fun vs=>putAll vs l 0 a) l.toArray l 0)
 (hend:∀ vs gs W,Held w0 W (fin.flatMap fun s=>RS s vs gs)->(∀ i,i < l.length->PV i vs gs)->Q .normal (putAll vs l 0 a) W):(Code.region id l.toArray true).wp P Q a w:=by
 refine wp_region_any hm ?_
 have h0:∀ i,(Array.replicate l.length false).getD i false=false:=fun i=>by
  simp [Array.getElem?_replicate]
  split <;> rfl
 have h:=sep_any (P:=P) (Q:=Q) (m:=l.length+m) (sepB_spec hsep) (by omega) dp hdp hd hap hea hs (fun vs gs W listed hall hS hp=>hend vs gs W (by
  have:liveL l.length (l.length+m) tk RS listed vs gs=fin.flatMap fun s=>RS s vs gs:=by
   unfold liveL
   rw [flatMap_filter_if,<- hfin]
   congr 1
   apply List.filter_congr
   intro s hs
   have hs:=List.mem_range.1 hs
   apply Bool.eq_iff_iff.2
   rw [liveB_true]
   simp only [endB,List.all_eq_true,List.mem_range]
   constructor
   . rintro ⟨_,h⟩ k hk
     simpa using h k hk (hall k hk)
   . intro h
     refine ⟨?_,fun k hk _=>by simpa using h k hk⟩
     by_cases hsl:s < l.length
     . exact .inr (hall s hsl)
     . exact .inl (by omega)
  rw [this] at hS
  exact hS) hp) l.length (Array.replicate l.length false) (at0 a l) (fun _=>default) w.drew (by simp) (by simp) (fun j oj _ hl=>by rw [h0] at hl;cases hl) (by
  refine (hS.kp ((Kp.refl [] w).drew)).perm ?_
  refine hL0.symm.trans (List.Perm.of_eq ?_)
  unfold liveL
  rw [List.range_add,List.flatMap_append]
  have h1:((List.range l.length).flatMap fun s=>if liveB l.length tk (Array.replicate l.length false) s then RS s (at0 a l) (fun _=>default) else [])=[]:=by
   rw [List.flatMap_eq_nil_iff]
   intro s hs
   have hs:=List.mem_range.1 hs
   rw [if_neg]
   intro h
   rcases (liveB_true.1 h).1 with h|h
   . omega
   . rw [h0] at h;cases h
  rw [h1,List.nil_append,List.flatMap_map]
  apply flatMap_congr'
  intro j hj
  have hj:=List.mem_range.1 hj
  rw [if_pos (liveB_true.2 ⟨.inl (by simp),fun k _ hk=>by rw [h0] at hk;cases hk⟩)]
  refine (hd _ _ _ _ _ (fun x hx=>?_)).1
  rw [(depB_spec hdp (by omega)).1 (by omega)] at hx
  cases hx) (fun i hi=>by rw [h0] at hi;cases hi) (fun j oj hj _=>by simp [at0,hj])
 rw [putAll_at a l 0 (at0 a l) (fun j o ho=>by simp [at0,ho])] at h
 simpa using h
end
end
section
def be:Nat->Nat->List UInt8
 |0,_=>[]
 |k+1,x=>UInt8.ofNat (x / 256 ^ k) :: be k x
@[simp] theorem be_zero (x:Nat):be 0 x=[]:=rfl
theorem be_succ(k x:Nat):be (k+1) x=UInt8.ofNat (x / 256 ^ k) :: be k x:=rfl
@[simp] theorem be_length (k x:Nat):(be k x).length=k:=by
 induction k with
 |zero=>rfl
 |succ k ih=>rw [be_succ,List.length_cons,ih]
def num (l:List UInt8):Nat:=l.foldl (fun a b=>256 * a+b.toNat) 0
theorem num_snoc(l:List UInt8)(b:UInt8):num (l ++ [b])=256 * num l+b.toNat:=by simp [num]
@[simp] theorem num_nil:num []=0:=rfl
end
section
open Go.RowKit
def hashA (cs:List UInt8):Array Value:=(bv cs).toArray
theorem hashA_size(cs:List UInt8):(hashA cs).size=cs.length:=by simp [hashA,bv_length]
theorem hashA_list(cs:List UInt8):(hashA cs).toList=bv cs:=rfl
theorem Blk.agg{w:World}{g:Nat}{t:TypeId}{cs:Array Value}(h:Blk w g t cs):∀ j u,cs.toList[j]?=some u->w.cell? ((⟨g,0,none⟩:Addr).add j)=some u:=by
 intro j u hu
 have:=h.cell j
 rw [Array.getElem?_toList] at hu
 rw [hu] at this
 by_cases hj:j=0
 . subst hj;simpa [Addr.add] using this
 . simpa [Addr.add,hj] using this
theorem set_all(cur cs:Array Value)(h:cur.size=cs.size):(cur.toList.take 0 ++ cs.toList ++ cur.toList.drop (0+cs.size)).toArray=cs:=by
 rw [List.drop_eq_nil_of_le (by rw [Array.length_toList];omega)]
 simp
theorem results_cell_tmp{P:Program}{fn:Func}{w:World}{tmps:Array Value}{a t u g:Nat}{t':TypeId}{cs:Array Value}{d:TypeDesc}(h:fn.results=#[.cell a t,.tmp u])(ha:tmps.getD a undef=.pointer (some ⟨g,0,none⟩))(hb:Blk w g t' cs)
 (hu:P.underlying t=some d) (hd:aggB d=true) (hi:(P.info? t).map (·.size)=some cs.size):(results fn tmps).run P w=.ok (.tuple #[.agg cs,tmps.getD u undef]) w:=by
 have hl:(loadCells ⟨g,0,none⟩ cs.size).run P w=.ok cs w:=by
  have:=run_loadCells_list (P:=P) w ⟨g,0,none⟩ cs.toList hb.agg
  simpa using this
 cases hq:P.info? t with
 |none=>simp [hq] at hi
 |some i=>
  have hs:i.size=cs.size:=by simpa [hq] using hi
  simp only [Array.getD_eq_getD_getElem?] at ha
  simp [results,h,ha,loadVar,asAddr,Sem.run_bind,run_isAgg hu hd,sizeOf,typeInfo,hq,hs,hl]
section
variable {P:Program} (w:World)
end
end
section
open Go.RowKit
theorem ow_new(w:World)(e:TypeId)(s n:Nat)(cs:Array Value)(h:cs.size=n * s)(hn:n<=maxLen):Ow (w.alloc (.cells cs e)) e s (.slice (some ⟨w.heap.size,0,none⟩) n n) n cs.toList:=
 ⟨by simpa using h,.inr ⟨w.heap.size,n,cs,rfl,Nat.zero_le _,heap_alloc_new w _,Nat.le_refl _,hn,h,by rw [<- h,<- Array.length_toList,List.take_length]⟩⟩
theorem rd_some{w:World}{s n c:Nat}{ad:Addr}{xs:List Value}(hl:xs.length=n * s)(h1:n<=c)(h2:c<=maxLen)(h:∀ a,some ad=some a->∀ j u,xs[j]?=some u->w.cell? (a.add j)=some u):Rd w s (.slice (some ad) n c) n xs:=
 ⟨hl,some ad,c,rfl,h1,h2,(fun h=>by cases h),h⟩
theorem eq_nil_bytes(w:World)(a:Option Addr)(n c:Nat):(binOp .eql 32 (.slice a n c) (.slice none 0 0)).run Tryz.prog w=.ok (.bool a.isNone) w:=
 Lib.run_eql_slice_nil (P:=Tryz.prog) w 32 5 a n c 0 0 Tryz.underlying32
attribute [go_sem] eq_nil_bytes
theorem Tryz.infoU8:(Tryz.prog.info? 5).map (fun i=>(i.zero,i.size,i.bytes))=some (some (.int .u8 0),1,1):=by kernel_rfl
theorem rd_lit(w:World)(e:TypeId)(cs:Array Value)(l:List UInt8)(h:cs.toList=bv l)(hn:l.length<=4096):Rd (w.alloc (.cells cs e)) 1 (.slice (some ⟨w.heap.size,0,none⟩) l.length l.length) l.length (bv l):=by
 have:=ow_new w e 1 l.length cs (by rw [<- Array.length_toList,h,bv_length];simp) (by unfold maxLen;omega)
 rw [h] at this
 exact Rd.of_own this
theorem strB{w:World}{x:Value}{bs:List UInt8}{n:Nat}(h:Rd w 1 x n (bv bs)):(convert 32 9 x).run Tryz.prog w=.ok (.string ⟨bs.toArray⟩) w:=
 run_str 32 9 5 Tryz.underlying32 Tryz.underlying5 Tryz.underlying9 h
theorem rd_form{w:World}{s:Nat}{x:Value}{n:Nat}{xs:List Value}(h:Rd w s x n xs):∃ A c,x=.slice A n c:=by
 obtain ⟨_,A,c,rfl,_⟩:=h;exact ⟨A,c,rfl⟩
theorem mem_own{g' g o n c:Nat}(h:g' ∈ (Value.slice (some ⟨g,o,none⟩) n c).ownBlock.toList):g'=g:=by simpa [Value.ownBlock,eq_comm] using h
theorem ow_some{w:World}{e:TypeId}{s n:Nat}{v:Value}{xs:List Value}(h:Ow w e s v n xs)(hn:0 < n):∃ g c,v=.slice (some ⟨g,0,none⟩) n c ∧ n<=c ∧ c<=maxLen:=by
 rcases h.2 with ⟨_,h0⟩|⟨g,cap,cur,rfl,_,_,hnc,hcm,_⟩
 . omega
 . exact ⟨g,cap,rfl,hnc,hcm⟩
theorem rd_old{w w':World}{s n:Nat}{v:Value}{xs:List Value}(h:Rd w s v n xs)(hk:Kp [] w w'):Rd w' s v n xs:=h.kp hk (by simp)
theorem Held.grow{w0 w w':World}{l1 l2:List Res}{e:TypeId}{s n n':Nat}{v v':Value}{xs xs':List Value}(h:Held w0 w (l1 ++ rowR e s v n xs :: l2))(ho:Ow w' e s v' n' xs')(hg:w.grownBy w' v.ownBlock)(hv:v'.ownBlock=v.ownBlock ∨ v'.ownBlock=some w.heap.size):
 Held w0 w' (l1 ++ rowR e s v' n' xs' :: l2):=
 h.turnAt (rowR e s v' n' xs') (Kp.of_grown hg) ho (fun b hb=>by
  rcases hv with e|e
  . exact .inl (by simpa [rowR,e] using hb)
  . simp only [rowR,e,Option.toList_some,List.mem_singleton] at hb;exact .inr (by omega))
theorem Held.set{w0 w:World}{l1 l2:List Res}{g:Nat}{t:TypeId}{cs:Array Value}(h:Held w0 w (l1 ++ blkR g t cs :: l2))(i:Nat)(u:Value):Held w0 (w.setCell ⟨g,i,none⟩ u) (l1 ++ blkR g t (cs.setIfInBounds i u) :: l2):=
 h.turnAt (blkR g t (cs.setIfInBounds i u)) ((Kp.refl [g] w).setCell (.inl (by simp)) u) (h.at_.set_ i u) (fun _ hb=>.inl hb)
theorem Held.rownew{w0 w w':World}{L:List Res}{e:TypeId}{s n:Nat}{v:Value}{xs:List Value}(h:Held w0 w L)(ho:Ow w' e s v n xs)(hk:Kp [] w w')(hf:∀ g,v.ownBlock=some g->w.heap.size<=g):Held w0 w' (rowR e s v n xs :: L):=
 h.new _ hk ho (fun b hb=>hf b (by simpa [rowR] using hb))
theorem wrap_u8_nat(x:Nat):IntKind.u8.wrap (x:Int)=((x % 256:Nat):Int):=by
 simp [IntKind.wrap,IntKind.bits,IntKind.signed]
theorem i64_lit{z:Int}(h:(Lit.int .i64 z).wf=true):-9223372036854775808<=z ∧ z<=9223372036854775807:=by simpa [Lit.wf,IntKind.min,IntKind.max,IntKind.signed,IntKind.bits] using h
theorem at_of_cut{cs:List Value}{i:Nat}{v:Value}(h:(cs.drop i).take 1=[v]):cs[i]?=some v:=by
 have h0:((cs.drop i).take 1)[0]?=some v:=by rw [h];rfl
 rw [List.getElem?_take] at h0
 simpa using h0
theorem cut_one(cs:List Value)(i:Nat):(cs.drop i).take 1=(cs[i]?).toList:=by
 rcases h:cs[i]? with _|v
 . rw [List.drop_eq_nil_of_le (by simpa using h)];rfl
 . obtain ⟨hlt,rfl⟩:=List.getElem?_eq_some_iff.1 h
   rw [List.drop_eq_getElem_cons hlt];rfl
theorem Tryz.cellsU8:Tryz.prog.cellsOf 5=1:=by kernel_rfl
end
section
open Go.RowKit
theorem fresh_grow{B:Nat}{w1:World}{v v':Value}(h:B<=w1.heap.size)(hf:∀ g,v.ownBlock=some g->B<=g)(ha:v'.ownBlock=v.ownBlock ∨ v'.ownBlock=some w1.heap.size):∀ g,v'.ownBlock=some g->B<=g:=by
 intro g hg
 rcases ha with e|e
 . exact hf g (by rw [<- e];exact hg)
 . rw [e] at hg;injection hg with hg;omega
theorem Held.newBlk{w0 w:World}{L:List Res}(h:Held w0 w L)(t:TypeId)(cs:Array Value):Held w0 (w.alloc (.cells cs t)) (blkR w.heap.size t cs :: L):=
 h.new (blkR w.heap.size t cs) ((Kp.refl [] w).alloc (.cells cs t)) (Blk.new w t cs) (fun b hb=>by
  have hb:b=w.heap.size:=by simpa [blkR] using hb
  omega)
theorem Held.newBlkN{w0 w:World}{L:List Res}(h:Held w0 w L)(t:TypeId)(cs:Array Value){g:Nat}(hg:w.heap.size=g):Held w0 (w.alloc (.cells cs t)) (blkR g t cs :: L):=hg ▸ h.newBlk t cs
theorem Blk.newN(w:World)(t:TypeId)(cs:Array Value){g:Nat}(hg:w.heap.size=g):Blk (w.alloc (.cells cs t)) g t cs:=hg ▸ Blk.new w t cs
theorem Blk.c1{w:World}{g:Nat}{t:TypeId}{a:Value}(h:Blk w g t #[a]):w.cell? ⟨g,0,none⟩=some a ∧ w.frozen? ⟨g,0,none⟩=false ∧ g < w.heap.size:=⟨h.cell 0,h.frozen 0,h.lt⟩
theorem Blk.c2{w:World}{g:Nat}{t:TypeId}{a b:Value}(h:Blk w g t #[a,b]):w.cell? ⟨g,0,none⟩=some a ∧ w.cell? ⟨g,1,none⟩=some b ∧ w.frozen? ⟨g,0,none⟩=false ∧ w.frozen? ⟨g,1,none⟩=false ∧ g < w.heap.size:=⟨h.cell 0,h.cell 1,h.frozen 0,h.frozen 1,h.lt⟩
theorem app_bytes{ops:Array Oper}{rest:List Oper}{o:Oper}{a:Act}{w:World}{Q:Exit->Act->World->Prop}(hgd:o.guard=none)(s x:Operand)
 (ho:o.op=.call { callee:=.builtin .append,args:=#[s,x],argTypes:=#[32,32] })
 (v:Value) (xs:List UInt8) (hs:a.eval s=v) (hown:Ow w 5 1 v xs.length (bv xs))
 (y:Value) (ys:List UInt8) (hx:a.eval x=y) (hr:Rd w 1 y ys.length (bv ys))
 (w0:World) (h0:Kp [] w0 w) (hf:∀ g,v.ownBlock=some g->w0.heap.size<=g) (hb:xs.length+ys.length<=140737488355328)
 (h:∀ v' w',Ow w' 5 1 v' (xs ++ ys).length (bv (xs ++ ys))->Kp [] w0 w'->Kp v.ownBlock.toList w w'->(∀ g,v'.ownBlock=some g->w0.heap.size<=g)->(v'.ownBlock=v.ownBlock ∨ v'.ownBlock=some w.heap.size)->wpList Tryz.prog ops Q rest (a.put o.dst v') w'):wpList Tryz.prog ops Q (o :: rest) a w:=by
 obtain ⟨i0,hi,hz0,hz1,hz2⟩:=info_parts Tryz.infoU8
 refine wpList_app (P:=Tryz.prog) w hgd s x 32 ho 5 i0 _ 1 1 Tryz.underlying32 hi hz0 hz1 hz2 rfl (by decide) v xs.length (bv xs) hs hown y ys.length (bv ys) hx hr (bv_one _) (by unfold maxLen;omega) (by omega) ?_
 intro v' w' h1 h2 h3
 rw [<- bv_append,<- List.length_append] at h1
 exact h v' w' h1 (h0.grown h2 (fun g hg=>.inr (hf g hg))) (Kp.of_grown h2) (fresh_grow h0.size hf h3) h3
end
section
open Go.RowKit
theorem op_runs{P:Program}{o:Oper}{a:Act}{w w':World}{K:Act->World->Prop}{Q:Exit->Act->World->Prop}{v:Value}(h:(execOp a.eval o).run P w=.ok (.value v) w')(hK:K (a.put o.dst v) w'):o.wp P a w K Q:=by
 unfold Oper.wp
 rw [h]
 exact hK
theorem op_app{P:Program}{o:Oper}{a:Act}{w0 w:World}{K:Act->World->Prop}{Q:Exit->Act->World->Prop}{L:List Res}(s x:Operand)(t e:TypeId)
 (ho:o.op=.call { callee:=.builtin .append,args:=#[s,x],argTypes:=#[t,t] })
 {size bytes:Nat} {z:Value} (hI:(P.info? e).map (fun i=>(i.zero,i.size,i.bytes))=some (some z,size,bytes)) (ht:P.underlying t=some (.slice e)) (hzs:z.cells.size=size) (hsz:0 < size)
 (v:Value) (n:Nat) (xs:List Value) (hs:a.eval s=v) (S:Held w0 w (rowR e size v n xs :: L))
 (y:Value) (m:Nat) (news:List Value) (hx:a.eval x=y) (hr:Rd w size y m news) (h1:∀ u ∈ news,u.oneCell'=true)
 (h63:n+m<=maxLen) (hbytes:(n+m) * bytes<=140737488355328)
 (h:∀ v' w',Held w0 w' (rowR e size v' (n+m) (xs ++ news) :: L)->K (a.put o.dst v') w'):o.wp P a w K Q:=by
 obtain ⟨i0,hi,hz,hsize,hby⟩:=info_parts hI
 obtain ⟨v',w',hrun,h2,h3,h4⟩:=run_app (P:=P) w t o.type e i0 z size bytes ht hi hz hsize hby hzs hsz v n xs (S.at_ (l1:=[])) y m news hr h1 h63 hbytes
 refine op_runs (v:=v') (w':=w') ?_ (h v' w' (S.grow (l1:=[]) h2 h3 h4))
 unfold execOp
 simp only [ho,resolve,invoke,builtin,Sem.run_bind,Sem.run_pure,Result.andThen_ok,List.map_toArray,List.map_cons,List.map_nil,hs,hx,hrun]
theorem op_app_nil{P:Program}{o:Oper}{a:Act}{w0 w:World}{K:Act->World->Prop}{Q:Exit->Act->World->Prop}{L:List Res}(s x:Operand)(t e:TypeId)
 (ho:o.op=.call { callee:=.builtin .append,args:=#[s,x],argTypes:=#[t,t] })
 {size bytes:Nat} {z:Value} (hI:(P.info? e).map (fun i=>(i.zero,i.size,i.bytes))=some (some z,size,bytes)) (ht:P.underlying t=some (.slice e)) (hzs:z.cells.size=size) (hsz:0 < size)
 (hs:a.eval s=.slice none 0 0) (S:Held w0 w L)
 (y:Value) (m:Nat) (news:List Value) (hx:a.eval x=y) (hr:Rd w size y m news) (h1:∀ u ∈ news,u.oneCell'=true)
 (h63:m<=maxLen) (hbytes:m * bytes<=140737488355328)
 (h:∀ v' w',Held w0 w' (rowR e size v' m news :: L)->K (a.put o.dst v') w'):o.wp P a w K Q:=
 op_app s x t e ho hI ht hzs hsz (.slice none 0 0) 0 [] hs (S.rownew (World.ownsRow_nil _ _ _ _) (Kp.refl [] w) (by simp [Value.ownBlock])) y m news hx hr h1 (by omega) (by simpa using hbytes) (fun v' w' S'=>h v' w' (by simpa using S'))
theorem rd_of_row{w0 w:World}{L:List Res}{e:TypeId}{s:Nat}{v:Value}{n:Nat}{xs:List Value}(S:Held w0 w L)(h:rowR e s v n xs ∈ L):Rd w s v n xs:=Rd.of_own (S.ok _ h)
end
end Go.Proofs.YtmkfopmdingaoaaGreatDoor
