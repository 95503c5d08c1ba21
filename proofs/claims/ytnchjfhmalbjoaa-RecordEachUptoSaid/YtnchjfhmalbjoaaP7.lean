/- Several texts in one: Fence, Range, Marks, RecAll, Txt, RecWh, RecWi, RecRd, RecSp, RecReads. -/
import Derived.RangeFuncNested
import Derived.RangeFuncBound
import Derived.RangeFuncCalls
import Derived.RangeFuncLeaves
import Derived.Shelf.Abstract
import Derived.Shelf.RegionOpen
import Derived.WalkKit
import Derived.OwnWalkIn
import Derived.TacticsInMore
import Derived.LoopNIn
import Derived.LoopN
import Derived.LoopIn
import Derived.Test.YtnchjfhmalbjoaaP6
/- Walking inside a round: a region's walk outside serves inside; one law for 'for .. range f', whose round is told what holds of what it is handed. -/
namespace Go.Proofs.Ytnchjfhmalbjoaa
open Go.RowKit Go.Shelf

section bridge
variable {P : Program} {ops : Array Oper} {Q : Exit → Act → World → Prop} {n rl : Nat}
def plainB (l : List Oper) : Bool := l.all fun o => match o.op with | .defer _ => false | _ => true
theorem plainB_spec {l : List Oper} (h : plainB l = true) {o : Oper} (ho : o ∈ l) : ∀ c, o.op ≠ .defer c := by
  intro c hc
  have := List.all_eq_true.1 h o ho
  rw [hc] at this
  cases this
theorem oper_in {o : Oper} {a : Act} {w : World} {K : Act → World → Prop} (hd : ∀ c, o.op ≠ .defer c) (hQ : ¬ LetsOut Q) (h : o.wp P a w K Q) : o.wpIn (Fence.wide.inRound rl) n P a w K Q := by
  refine ⟨fun _ _ => trivial, ?_⟩
  rw [Fence.inRound_round, Oper.semAt_some rl a.eval o hd]
  unfold Oper.wp at h
  generalize (execOp a.eval o).run P w = r at *
  have hn : (Fence.wide.inRound rl).depth.isSome = true → 1 ≤ n := fun h => by simp [Fence.wide] at h
  cases r with
  | ok nx w' =>
    cases nx with
    | value v => exact h
    | skip => exact h
    | defer d => exact h
    | enter f args => exact ⟨hn, CallsIn.inRound rl (callsIn_wide.2 h)⟩
    | row r args =>
      refine ⟨hn, fun c cs _ => ?_⟩
      obtain ⟨v, w2, h1, h2⟩ := h c cs
      exact ⟨v, w2, h1, stepsIn_wide.2 h2⟩
    | _ => exact h.elim
  | halt x w' => cases x <;> exact h
theorem not_lets (Q : Exit → Act → World → Prop) : ¬ LetsOut (Qn Q) := fun ⟨_, _, h⟩ => by cases h.1
theorem op_in {l : List Oper} (hp : plainB l = true) {i : Nat} {a : Act} {w : World} {K : Act → World → Prop} (h : wpOp P l.toArray (Qn Q) i K a w) : wpOpIn (Fence.wide.inRound rl) n P l.toArray Q i K a w := by
  unfold wpOp at h
  unfold wpOpIn
  split
  · rename_i ho
    simpa [ho] using h
  · rename_i o ho
    simp only [ho] at h
    have hm : o ∈ l := by
      have := Array.mem_of_getElem? ho
      simpa using this
    split
    · rename_i hw
      rw [if_pos hw] at h
      rcases h with h | ⟨_, h⟩
      · have h2 := oper_in (rl := rl) (n := n) (plainB_spec hp hm) (not_lets Q) h
        unfold Oper.wpIn at h2 ⊢
        refine ⟨h2.1, ?_⟩
        have h3 := h2.2
        generalize (o.semAt (Fence.wide.inRound rl).round a.eval).run P w = r at *
        cases r with
        | ok nx w' =>
          cases nx with
          | value v => exact h3
          | skip => exact h3
          | defer d => exact h3
          | enter f args =>
            refine ⟨h3.1, CallsIn.mono h3.2 (fun e w'' he => ?_)⟩
            cases e with
            | returned v => exact he
            | panicked ch => cases he.1
            | outgrown => exact (not_lets Q he).elim
          | row r args => exact h3
          | round r f t asg bd =>
            refine ⟨h3.1, RoundIn.mono h3.2 (fun e w'' he => ?_)⟩
            cases e with
            | returned v => exact he
            | panicked ch => cases he.1
            | outgrown => exact (not_lets Q he).elim
          | _ => exact h3.elim
        | halt x w' => cases x <;> first | exact h3.elim | cases h3.1
      · exact (not_lets Q h).elim
    · rename_i hw
      rw [if_neg hw] at h
      exact ⟨fun _ _ => trivial, h⟩
theorem wpOpIn_mono' {l : List Oper} {i : Nat} {a : Act} {w : World} {K K' : Act → World → Prop} (h : ∀ a w, K a w → K' a w) (hh : wpOpIn (Fence.wide.inRound rl) n P l.toArray Q i K a w) : wpOpIn (Fence.wide.inRound rl) n P l.toArray Q i K' a w := wpOpIn_mono h hh
theorem any_in {l : List Oper} (hp : plainB l = true) : ∀ (fuel : Nat) (listed : Array Bool) (a : Act) (w : World), wpAny P .any l.toArray (Qn Q) fuel listed a w → wpAnyIn (Fence.wide.inRound rl) n P .any l.toArray Q fuel listed a w
  | 0, _, _, _, h => ⟨h.1, h.2.2⟩
  | fuel + 1, _, _, _, h => ⟨fun h0 => (h.1 h0).2, fun i hi => wpOpIn_mono (fun a' w' h' => any_in hp fuel _ a' w' h') (op_in hp (h.2 i hi))⟩
theorem list_in {l0 : List Oper} (hp : plainB l0 = true) : ∀ (l : List Oper) (a : Act) (w : World), (∀ o ∈ l, o ∈ l0) → wpList P l0.toArray (Qn Q) l a w → wpListIn (Fence.wide.inRound rl) n P l0.toArray Q l a w
  | [], _, _, _, h => h.2
  | o :: l, a, w, hm, h => by
    unfold wpList at h
    unfold wpListIn
    split
    · rename_i hw
      rw [if_pos hw] at h
      rcases h with h | ⟨_, h⟩
      · have hi : ∃ i : Nat, l0.toArray[i]? = some o := by
          obtain ⟨i, hi, he⟩ := List.getElem_of_mem (hm o (by simp))
          exact ⟨i, by simp [hi, he]⟩
        obtain ⟨i, hi⟩ := hi
        have h1 : wpOp P l0.toArray (Qn Q) i (wpList P l0.toArray (Qn Q) l) a w := by
          unfold wpOp
          simp only [hi]
          rw [if_pos hw]
          exact .inl h
        have h2 := op_in (rl := rl) (n := n) hp h1
        have h3 := wpOpIn_mono (fun a' w' h' => list_in hp l a' w' (fun x hx => hm x (List.mem_cons_of_mem _ hx)) h') h2
        unfold wpOpIn at h3
        simp only [hi] at h3
        rwa [if_pos hw] at h3
      · exact (not_lets Q h).elim
    · rename_i hw
      rw [if_neg hw] at h
      exact ⟨fun _ _ => trivial, list_in hp l _ _ (fun x hx => hm x (List.mem_cons_of_mem _ hx)) h⟩
theorem lex_any {a : Act} {w : World} {l : List Oper} (es ls : List Nat) (S : World → Prop) (hB : lexE l.toArray es ls = true) (hS : S w.drew)
    (h : wpLex P l.toArray Q S (qfOf es) (lsOf ls) l 0 a w.drew) : wpAny P .any l.toArray Q l.toArray.size (Array.replicate l.toArray.size false) a w.drew := by
  simp only [lexE, Bool.and_eq_true] at hB
  obtain ⟨⟨h1, h4, h2⟩, h3⟩ := hB
  have hm' := mix_lex (md := .any) h1 (lsOf_spec h4) (chainB_spec h2) l 0 (Array.replicate l.toArray.size false) a w.drew (by simp) (by simpa using h3) (by simp)
    (fun j oj hj hl => by simp [Array.getElem?_replicate] at hl; split at hl <;> simp at hl) (fun m hm => by omega) (.inl hS) h
  exact any_of_mix (lsOf_spec h4) _ _ _ _ (by simp) (fun j oj hj hl => by simp [Array.getElem?_replicate] at hl; split at hl <;> simp at hl) (.inl hS) (by simpa using hm')
/-- A region in a round, walked as outside. -/
theorem in_region {id : Nat} {l : List Oper} {a : Act} {w : World} (hp : plainB l = true) (h : wpList P l.toArray (Qn Q) l a w) : (Code.region id l.toArray false).wpIn (Fence.wide.inRound rl) n P Q a w :=
  wpIn_region_lit (list_in hp l a w (fun _ h => h) h)
/-- A region in a round that draws its order, by the rule of XLex. -/
theorem in_region_lexf {id : Nat} {a : Act} {w : World} {l : List Oper} (es ls : List Nat) (S : World → Prop) (hp : plainB l = true) (hm : P.follows .mixedOrders = true) (hB : lexE l.toArray es ls = true) (hS : S w.drew)
    (h : ∀ (σ : Type) (_ : Nonempty σ) (f : σ → World) (_ : ∀ u, S (f u)) (_ : ∀ W, S W → ∃ u, W = f u), wpLex P l.toArray (Qn Q) S (qfOf es) (lsOf ls) l 0 a w.drew) : (Code.region id l.toArray true).wpIn (Fence.wide.inRound rl) n P Q a w := by
  have h' := h { W : World // S W } ⟨⟨_, hS⟩⟩ (fun u => u.1) (fun u => u.2) (fun W hW => ⟨⟨W, hW⟩, rfl⟩)
  exact wpIn_region_any hm (any_in hp _ _ _ _ (lex_any es ls S hB hS h'))
end bridge
theorem wpListIn_app {F : Fence} {nF : Nat} {P : Program} {w : World} {ops : Array Oper} {rest : List Oper} {o : Oper} {a : Act} {Q : Exit → Act → World → Prop} (hgd : o.guard = none) (s x : Operand) (t : TypeId)
    (ho : o.op = .call { callee := .builtin .append, args := #[s, x], argTypes := #[t, t] })
    (e : TypeId) (i : TypeInfo) (z : Value) (size bytes : Nat) (ht : P.underlying t = some (.slice e)) (hi : P.info? e = some i) (hz : i.zero = some z)
    (hsize : i.size = size) (hby : i.bytes = bytes) (hzs : z.cells.size = size) (hsz : 0 < size)
    (v : Value) (n : Nat) (xs : List Value) (hs : a.eval s = v) (hown : Ow w e size v n xs)
    (y : Value) (m : Nat) (news : List Value) (hx : a.eval x = y) (hr : Rd w size y m news) (h1 : ∀ u ∈ news, u.oneCell' = true)
    (h63 : n + m ≤ maxLen) (hbytes : (n + m) * bytes ≤ 140737488355328)
    (h : ∀ v' w', Ow w' e size v' (n + m) (xs ++ news) → w.grownBy w' v.ownBlock → (v'.ownBlock = v.ownBlock ∨ v'.ownBlock = some w.heap.size) → wpListIn F nF P ops Q rest (a.put o.dst v') w') : wpListIn F nF P ops Q (o :: rest) a w := by
  refine wpListIn_plain hgd fun K hK => ?_
  obtain ⟨v', w', hrun, h2, h3, h4⟩ := run_app (P := P) w t o.type e i z size bytes ht hi hz hsize hby hzs hsz v n xs hown y m news hr h1 h63 hbytes
  unfold Oper.wpIn
  refine ⟨by simp [Oper.about, ho, resolve, Target.leads, Sem.run_pure], ?_⟩
  rw [Oper.semAt_eq F.round _ _ (by rw [ho]; intro c hc'; cases hc')]
  unfold execOp
  simp only [ho, resolve, invoke, builtin, Sem.run_bind, Sem.run_pure, Result.andThen_ok, List.map_toArray, List.map_cons, List.map_nil, hs, hx, hrun]
  exact hK _ _ (h v' w' h2 h3 h4)
end Go.Proofs.Ytnchjfhmalbjoaa
/- One law for 'for .. range f': the iterator tells, at each round, what holds of what it hands over; it makes memory alone between two rounds. -/
namespace Go.Proofs.Ytnchjfhmalbjoaa
open Go.RowKit Go.Shelf

/-- What stays true when memory is made, and when an object that is no row of cells, from B on, is turned. -/
def Stays (B : Nat) (p : World → Prop) : Prop :=
  ∀ W W', p W → (Kp [] W W' ∨ ∃ (l : Nat) (o o' : Obj), B ≤ l ∧ W.heap[l]? = some o ∧ o.isCells = false ∧ W' = W.putObj l o') → p W'
theorem Stays.kp {B : Nat} {p : World → Prop} (h : Stays B p) {W W' : World} (hp : p W) (hk : Kp [] W W') : p W' := h W W' hp (.inl hk)
theorem Stays.put {B : Nat} {p : World → Prop} (h : Stays B p) {W : World} (hp : p W) {l : Nat} {o : Obj} (o' : Obj) (hB : B ≤ l) (hl : W.heap[l]? = some o) (ho : o.isCells = false) : p (W.putObj l o') :=
  h W _ hp (.inr ⟨l, o, o', hB, hl, ho, rfl⟩)
theorem Stays.and {B : Nat} {p q : World → Prop} (h : Stays B p) (h' : Stays B q) : Stays B (fun W => p W ∧ q W) := fun W W' hp hk => ⟨h W W' hp.1 hk, h' W W' hp.2 hk⟩
theorem Stays.pure (B : Nat) (q : Prop) : Stays B (fun _ => q) := fun _ _ h _ => h
theorem Stays.ex {B : Nat} {α : Sort _} {p : α → World → Prop} (h : ∀ x, Stays B (p x)) : Stays B (fun W => ∃ x, p x W) := fun W W' ⟨x, hx⟩ hk => ⟨x, h x W W' hx hk⟩

/-- A round, as the iterator may call it: it has made memory since W0, where the round before had ended (or the loop begun). -/
def RoundOk {α : Type} (P : Program) (n l : Nat) (encs : α → Array Value) (Z : α → World → Prop) (X : List α → α → World → World → Prop) (N : Nat) (J Jx : List α → World → Prop) : Prop :=
  ∀ pre x W0 W1, J pre W0 → Kp [] W0 W1 → X pre x W0 W1 → pre.length < N → YieldAt Fence.wide (n - 1) P l (encs x) W1 fun e W' =>
    (e = .returned (.bool true) ∧ J (pre ++ [x]) W' ∧ Z x W') ∨ (e = .returned (.bool false) ∧ Jx (pre ++ [x]) W')
/-- What is asked of an iterator (function g with what it has captured), called in w or later. -/
def SeqW {α : Type} (P : Program) (n g : Nat) (lb : Array Value) (encs : α → Array Value) (Z : α → World → Prop) (X : List α → α → World → World → Prop) (S Sp : List α → Prop) (N : Nat) (w : World) : Prop :=
  ∀ (l : Nat) (J Jx : List α → World → Prop) (W : World), Kp [] w W → (∀ s A B, J s A → Kp [] A B → J s B) → (∀ s A B, Jx s A → Kp [] A B → Jx s B) → RoundOk P n l encs Z X N J Jx → J [] W →
    CallsIn Fence.wide n P g (#[.func (.yield l) #[] #[]] ++ lb) W fun e W' => (∃ v, e = .returned v) ∧ ((∃ xs, S xs ∧ J xs W') ∨ (∃ pre, Sp pre ∧ Jx pre W'))

/-- How the body of a round may end: the loop's record l and the block D are as they were. -/
def Same2 (l D : Nat) (W W' : World) : Prop := W'.heap[l]? = W.heap[l]? ∧ W'.heap[D]? = W.heap[D]?
def roundEnd {α : Type} (l D : Nat) (Z : World → Prop) (I : List α → World → Prop) (Ix : Code → List α → World → Prop) (xs : List α) (W : World) : Exit → Act → World → Prop
  | .normal, _, W' => Same2 l D W W' ∧ Z W' ∧ I xs W'
  | .ret, _, W' => Same2 l D W W' ∧ Ix .ret xs W'
  | .exit id, _, W' => Same2 l D W W' ∧ Ix (.exit id) xs W'
  | .goto t, _, W' => Same2 l D W W' ∧ Ix (.goto t) xs W'
  | .panic _, _, _ => False
  | .outgrown, _, _ => False
def markOf (D : Nat) : Deferred := { target := .collected D, args := #[] }

variable {P : Program} {n : Nat}
set_option maxHeartbeats 1000000 in
theorem wp_range {α : Type} {g : Operand} {ps : Array Tmp} {assign body : Code} {Q : Exit → Act → World → Prop} {a : Act} {w : World} {gf : Nat} {lb : Array Value} (hg : a.eval g = .func (.func gf) #[] lb)
    (eg : ∀ args w, (callFunc gf args).run P w = .ok (.enter gf args) w) {encs : α → Array Value} {Z : α → World → Prop} {X : List α → α → World → World → Prop} {S Sp : List α → Prop} {N : Nat} (hseq : SeqW P (n - 1) gf lb encs Z X S Sp N w) (hZ : ∀ x, Stays w.heap.size (Z x))
    (hps : ∀ x, (encs x).size = ps.size)
    (I : List α → World → Prop) (Ix : Code → List α → World → Prop) (hI : ∀ pre, Stays w.heap.size (I pre)) (hIx : ∀ c pre, Stays w.heap.size (Ix c pre)) (h0 : I [] w)
    (I' : List α → α → World → Prop) (hI' : ∀ pre x, Stays w.heap.size (I' pre x)) (hprep : ∀ (pre : List α) (x : α) (W0 W1 : World), I pre W0 → Kp [] W0 W1 → X pre x W0 W1 → pre.length < N → I' pre x W1)
    (A : Array Value → List α → α → Act → World → Prop) (hA : ∀ pre x a', Stays w.heap.size (A a.tmps pre x a'))
    (hassign : ∀ (pre : List α) (x : α) (W : World), I' pre x W → ∀ K : Act → World → Prop, (∀ a' W', Kp [] W W' → A a.tmps pre x a' W' → K a' W') →
      assign.wpIn (Fence.wide.inRound (w.heap.size + 1)) (n - 1 - 1) P (Exit.then K (fun _ _ _ => False)) { tmps := (ps.zip (encs x)).foldl (fun t (p, v) => t.setIfInBounds p v) a.tmps, defers := [] } W)
    (hbody : ∀ (pre : List α) (x : α) (a' : Act) (W : World), I' pre x W → A a.tmps pre x a' W → pre.length < N → (∃ o, W.heap[w.heap.size + 1]? = some o ∧ o.isCells = false) → (∃ o, W.heap[w.heap.size]? = some o ∧ o.isCells = false) →
      body.wpIn (Fence.wide.inRound (w.heap.size + 1)) (n - 1 - 1) P (roundEnd (w.heap.size + 1) w.heap.size (Z x) I Ix (pre ++ [x]) W) a' W)
    (hdone : ∀ (xs : List α) (W : World), S xs → I xs W → W.heap[w.heap.size]? = some (.deferred (some [])) → Q .normal { a with defers := markOf w.heap.size :: a.defers } W)
    (hstop : ∀ (c : Code) (pre : List α) (W : World), Sp pre → Ix c pre W → W.heap[w.heap.size]? = some (.deferred (some [])) → c.wp P Q { a with defers := markOf w.heap.size :: a.defers } W) :
    (Code.rangeFunc g ps assign body).wp P Q a w := by
  refine (wpIn_wide (n := n)).1 (wpIn_rangeFunc ?_)
  intro fn hfn
  show ∃ (l : Nat) (mark : List Deferred) (w₁ : World) (d : Deferred) (w₁' : World) (f : FuncId) (args : Array Value) (w₂ : World), (Instr.enterLoop fn a.tmps ps assign body none).run P w = .ok (l, mark) w₁ ∧ _
  obtain ⟨rec, hrec⟩ : ∃ rec : LoopState → Option Code → Loop, rec = fun st pe => { state := st, pending := pe, fn, tmps := a.tmps, params := ps, assign, body, defers := w.heap.size } := ⟨_, rfl⟩
  obtain ⟨W1, hW1⟩ : ∃ W1, (w.alloc (.deferred (some []))).alloc (.loop (rec .ready none)) = W1 := ⟨_, rfl⟩
  have hk1 : Kp [] w W1 := by rw [← hW1]; exact ((Kp.refl [] w).alloc _).alloc _
  have hL1 : W1.heap[w.heap.size + 1]? = some (.loop (rec .ready none)) := by
    rw [← hW1]; have := World.alloc_heap_new (w.alloc (.deferred (some []))) (.loop (rec .ready none)); rwa [World.size_alloc] at this
  have hD1 : W1.heap[w.heap.size]? = some (.deferred (some [])) := by
    rw [← hW1]; exact (Below.heap_alloc _ _ _ (by simp)).trans (World.alloc_heap_new w _)
  have kept : ∀ {A B : World} {k : Nat} {o : Obj}, Kp [] A B → A.heap[k]? = some o → B.heap[k]? = some o := fun hk h => (hk.block _ (Array.getElem?_eq_some_iff.1 h).1 (by simp)).trans h
  refine ⟨w.heap.size + 1, [markOf w.heap.size], W1, { target := .fn (.func gf) lb, args := #[.func (.yield (w.heap.size + 1)) #[] #[]] }, W1, gf, #[.func (.yield (w.heap.size + 1)) #[] #[]] ++ lb, W1, ?_, ?_, fun _ _ => trivial, ?_, fun h => by simp [Fence.wide] at h, ?_⟩
  · rw [← hW1, hrec]; exact run_enterLoop_outer _ _ _ _ _
  · simp only [resolve, hg]
    simp [go_sem]
  · simp [invoke, go_sem, eg]
  · refine (hseq (w.heap.size + 1)
      (fun pre W => I pre W ∧ W.heap[w.heap.size + 1]? = some (.loop (rec .ready none)) ∧ W.heap[w.heap.size]? = some (.deferred (some [])))
      (fun pre W => ∃ c, Ix c pre W ∧ W.heap[w.heap.size + 1]? = some (.loop (rec .done (some c))) ∧ W.heap[w.heap.size]? = some (.deferred (some [])))
      W1 hk1 (fun s A B ⟨h1, h2, h3⟩ hk => ⟨(hI s).kp h1 hk, kept hk h2, kept hk h3⟩) (fun s A B ⟨c, h1, h2, h3⟩ hk => ⟨c, (hIx c s).kp h1 hk, kept hk h2, kept hk h3⟩) ?_ ⟨(hI []).kp h0 hk1, hL1, hD1⟩).mono ?_
    · rintro pre x W0 W ⟨hi0, hl0, hd0⟩ hk0 hx hlen
      have hi := hprep pre x W0 W hi0 hk0 hx hlen
      have hl := kept hk0 hl0
      have hd := kept hk0 hd0
      have hlt : w.heap.size + 1 < W.heap.size := (Array.getElem?_eq_some_iff.1 hl).1
      have hy := run_yield (P := P) (args := encs x) hl (by rw [hrec]; exact hps x)
      rw [hrec] at hy
      refine ⟨fn, _, assign, body, hy, roundIn_of_wpIn hfn (hassign pre x W hi _ fun a' Wa hka hAa => ?_)⟩
      have hla := kept hka hl
      have hda := kept hka hd
      refine ⟨Wa.putObj (w.heap.size + 1) (.loop { rec .ready none with state := .busy }), by have := run_beginRound (P := P) hla (by rw [hrec]); exact this, ?_⟩
      have hlta : w.heap.size + 1 < Wa.heap.size := (Array.getElem?_eq_some_iff.1 hla).1
      have hl2 : (Wa.putObj (w.heap.size + 1) (.loop { rec .ready none with state := .busy })).heap[w.heap.size + 1]? = some (.loop { rec .ready none with state := .busy }) := World.putObj_heap_same hlta
      have hd2 : (Wa.putObj (w.heap.size + 1) (.loop { rec .ready none with state := .busy })).heap[w.heap.size]? = some (.deferred (some [])) := (World.putObj_heap_other (by omega)).trans hda
      refine wpIn_mono (hbody pre x a' _ ((hI' pre x).put ((hI' pre x).kp hi hka) _ (by omega) hla rfl) ((hA pre x a').put hAa _ (by omega) hla rfl) hlen ⟨_, hl2, rfl⟩ ⟨_, hd2, rfl⟩) ?_
      have fin : ∀ (jump : Option Code) (W3 : World), Same2 (w.heap.size + 1) w.heap.size (Wa.putObj (w.heap.size + 1) (.loop { rec .ready none with state := .busy })) W3 →
          (Instr.endRound (w.heap.size + 1) jump).run P W3 = .ok (.bool jump.isNone) (W3.putObj (w.heap.size + 1) (.loop (rec (if jump.isNone then .ready else .done) jump))) ∧
          W3.heap[w.heap.size + 1]? = some (.loop { rec .ready none with state := .busy }) ∧
          (W3.putObj (w.heap.size + 1) (.loop (rec (if jump.isNone then .ready else .done) jump))).heap[w.heap.size + 1]? = some (.loop (rec (if jump.isNone then .ready else .done) jump)) ∧
          (W3.putObj (w.heap.size + 1) (.loop (rec (if jump.isNone then .ready else .done) jump))).heap[w.heap.size]? = some (.deferred (some [])) := fun jump W3 hs => by
        have hl3 := hs.1.trans hl2
        have hd3 := hs.2.trans hd2
        have := run_endRound (P := P) jump hl3
        rw [hrec] at this ⊢
        exact ⟨this, by rw [hrec] at hl3; exact hl3, World.putObj_heap_same (Array.getElem?_eq_some_iff.1 hl3).1, (World.putObj_heap_other (by omega)).trans hd3⟩
      rintro e a3 W3 hp
      cases e with
      | normal =>
        obtain ⟨hs, hk3, hi3⟩ := hp
        obtain ⟨hr, hl3, hl4, hd4⟩ := fin none W3 hs
        exact ⟨_, _, hr, .inl ⟨rfl, ⟨(hI _).put hi3 _ (by omega) hl3 rfl, hl4, hd4⟩, (hZ x).put hk3 _ (by omega) hl3 rfl⟩⟩
      | ret =>
        obtain ⟨hs, hi3⟩ := hp
        obtain ⟨hr, hl3, hl4, hd4⟩ := fin (some .ret) W3 hs
        exact ⟨_, _, hr, .inr ⟨rfl, .ret, (hIx _ _).put hi3 _ (by omega) hl3 rfl, hl4, hd4⟩⟩
      | exit id =>
        obtain ⟨hs, hi3⟩ := hp
        obtain ⟨hr, hl3, hl4, hd4⟩ := fin (some (.exit id)) W3 hs
        exact ⟨_, _, hr, .inr ⟨rfl, .exit id, (hIx _ _).put hi3 _ (by omega) hl3 rfl, hl4, hd4⟩⟩
      | goto t =>
        obtain ⟨hs, hi3⟩ := hp
        obtain ⟨hr, hl3, hl4, hd4⟩ := fin (some (.goto t)) W3 hs
        exact ⟨_, _, hr, .inr ⟨rfl, .goto t, (hIx _ _).put hi3 _ (by omega) hl3 rfl, hl4, hd4⟩⟩
      | panic ch => exact hp.elim
      | outgrown => exact hp.elim
    · rintro e W2 ⟨⟨v, rfl⟩, (⟨xs, hS, hi, hl, hd⟩ | ⟨pre, hSp, c, hi, hl, hd⟩)⟩
      · exact ⟨none, _, by have := run_endLoop (P := P) hl (by rw [hrec]; simp); rw [hrec] at this; exact this, hdone _ _ hS ((hI _).put hi _ (by omega) hl rfl) ((World.putObj_heap_other (by omega)).trans hd)⟩
      · exact ⟨some c, _, by have := run_endLoop (P := P) hl (by rw [hrec]; simp); rw [hrec] at this; exact this, wpIn_wide.2 (hstop c pre _ hSp ((hIx c pre).put hi _ (by omega) hl rfl) ((World.putObj_heap_other (by omega)).trans hd))⟩
end Go.Proofs.Ytnchjfhmalbjoaa
/- Leaving a function that held ranges over functions; what is held stays through such a loop's own steps. -/
namespace Go.Proofs.Ytnchjfhmalbjoaa
open Go.RowKit Go.Shelf

theorem calls_marks {P : Program} {f : FuncId} {fn : Func} {c : Code} {args : Array Value} {w : World} {R : Ending → World → Prop} (hf : P.funcs[f]? = some fn) (hb : fn.body = some c)
    (h : c.wp P (bodyPostM Fence.wide 3 P fn R) { tmps := args ++ Array.replicate (fn.ntmps - args.size) undef, defers := [] } w) : Calls P f args w R :=
  callsIn_wide.1 (callsIn_of_wp_marks hf hb trivial (wpIn_wide.2 h) rfl)
theorem Kp.putObj {w : World} (l : Nat) (o : Obj) : Kp [l] w (w.putObj l o) :=
  ⟨rfl, rfl, rfl, by simp, fun k _ hn => World.putObj_heap_other (fun e => hn (by simp [e]))⟩
/-- The marks of the loops that were left are taken up. -/
theorem leaves_marks {P : Program} {fn : Func} {tmps : Array Value} {R : Ending → World → Prop} : ∀ (ds : List Nat) (w : World), ds.Nodup → (∀ D ∈ ds, w.heap[D]? = some (.deferred (some []))) →
    (∀ W, Kp ds w W → ∃ v, (results fn tmps).run P W = .ok v W ∧ R (.returned v) W) → LeavesInM Fence.wide 3 P fn tmps R (ds.map markOf) .returning w
  | [], w, _, _, h => h w (Kp.refl [] w)
  | D :: ds, w, hn, hd, h => by
    obtain ⟨h1, h2⟩ := List.nodup_cons.1 hn
    refine ⟨by simp, .inl ⟨D, _, rfl, run_takeDeferred (hd D (by simp)), leaves_marks ds _ h2 (fun D' hD' => ?_) (fun W hk => h W ?_)⟩⟩
    · exact (World.putObj_heap_other (fun e => h1 (by rw [← e]; exact hD'))).trans (hd D' (by simp [hD']))
    · exact ((Kp.putObj D (.deferred none)).more (T := D :: ds) (fun g hg => .inl (by simp at hg; simp [hg]))).trans hk (fun g hg => .inl (by simp [hg]))
theorem ret_marks {P : Program} {fn : Func} {R : Ending → World → Prop} {a : Act} {w : World} (ds : List Nat) (ha : a.defers = ds.map markOf) (hn : ds.Nodup) (hd : ∀ D ∈ ds, w.heap[D]? = some (.deferred (some [])))
    (h : ∀ W, Kp ds w W → ∃ v, (results fn a.tmps).run P W = .ok v W ∧ R (.returned v) W) : bodyPostM Fence.wide 3 P fn R .ret a w := by
  show LeavesInM Fence.wide 3 P fn a.tmps R a.defers .returning w
  rw [ha]
  exact leaves_marks ds w hn hd h

theorem run_eql_func_nil {P : Program} (w : World) (t : TypeId) {d : TypeDesc} (h : P.underlying t = some d) (hd : (match d with | .func .. => true | _ => false) = true) (f : Fn) (a b : Array Value) : (binOp .eql t (.func f a b) .nilFunc).run P w = .ok (.bool false) w := by
  cases d <;> first | (cases hd; done) | skip
  have h1 : ∀ d, (Op.equalIn (d + 1) t (.func f a b) .nilFunc).run P w = .ok false w := fun d => by simp [Op.equalIn, run_underlying h]
  simp only [binOp]
  simp [Op.equal, Op.maxDepth, h1 9999]
/-- All its blocks are rows of cells. -/
def Cellular (r : Res) : Prop := ∀ W, r.ok W → ∀ b ∈ r.fp, ∃ o : Obj, W.heap[b]? = some o ∧ o.isCells = true
theorem cellular_row (e : TypeId) (s : Nat) (v : Value) (n : Nat) (xs : List Value) : Cellular (rowR e s v n xs) := by
  intro W h b hb
  have hb : v.ownBlock = some b := by simpa [rowR] using hb
  rcases h.2 with ⟨rfl, _⟩ | ⟨g, cap, cur, rfl, _, hg, _⟩
  · simp [Value.ownBlock] at hb
  · have : g = b := by simpa [Value.ownBlock] using hb
    subst this
    exact ⟨_, hg, rfl⟩
theorem cellular_blk (g : Nat) (t : TypeId) (cs : Array Value) : Cellular (blkR g t cs) := by
  intro W h b hb
  have hb : b = g := by simpa [blkR] using hb
  subst hb
  exact ⟨_, h, rfl⟩
/-- Rows of cells, or blocks below B: what an object from B on is not. -/
def Cells (B : Nat) (L : List Res) : Prop := ∀ r, r ∈ L → Cellular r ∨ ∀ b ∈ r.fp, b < B
theorem Cells.nil {B : Nat} : Cells B [] := by simp [Cells]
theorem Cells.cons {B : Nat} {L : List Res} {r : Res} (hr : Cellular r) (h : Cells B L) : Cells B (r :: L) := fun s hs => by
  rcases List.mem_cons.1 hs with rfl | hs
  · exact .inl hr
  · exact h s hs
theorem Cells.row {B : Nat} {L : List Res} {e : TypeId} {s : Nat} {v : Value} {n : Nat} {xs : List Value} (h : Cells B L) : Cells B (rowR e s v n xs :: L) := h.cons (cellular_row _ _ _ _ _)
theorem Cells.blk {B : Nat} {L : List Res} {g : Nat} {t : TypeId} {cs : Array Value} (h : Cells B L) : Cells B (blkR g t cs :: L) := h.cons (cellular_blk _ _ _)
theorem Cells.tail {B : Nat} {L : List Res} {r : Res} (h : Cells B (r :: L)) : Cells B L := fun s hs => h s (List.mem_cons_of_mem _ hs)
theorem Cells.append {B : Nat} {L L' : List Res} (h : Cells B L) (h' : Cells B L') : Cells B (L ++ L') := fun r hr => (List.mem_append.1 hr).elim (h r) (h' r)
/-- What is held in a world lies below its end. -/
theorem Cells.of {w0 W : World} {L : List Res} (S : Held w0 W L) : Cells W.heap.size L := fun r hr => .inr fun b hb => r.lt W (S.ok r hr) b hb
theorem Cells.not {B : Nat} {L : List Res} (h : Cells B L) {w0 W : World} (S : Held w0 W L) {l : Nat} {o : Obj} (hB : B ≤ l) (hl : W.heap[l]? = some o) (ho : o.isCells = false) : ∀ r ∈ L, l ∉ r.fp := by
  intro r hr hm
  rcases h r hr with h | h
  · obtain ⟨o', h1, h2⟩ := h W (S.ok r hr) l hm
    rw [hl] at h1
    cases h1
    rw [ho] at h2
    cases h2
  · have := h l hm
    omega
/-- An object that is no row of cells.. -/
def objR (l : Nat) (o : Obj) : Res where
  fp := [l]
  ok := fun w => w.heap[l]? = some o
  keep := fun _ _ _ h hk hn => (hk.block l (Array.getElem?_eq_some_iff.1 h).1 (hn l (by simp))).trans h
  lt := fun _ h b hb => by simp at hb; subst hb; exact (Array.getElem?_eq_some_iff.1 h).1
theorem Held.withObj {w0 W : World} {L : List Res} (S : Held w0 W L) {l : Nat} {o : Obj} (hB : w0.heap.size ≤ l) (hl : W.heap[l]? = some o) (hn : ∀ r ∈ L, l ∉ r.fp) : Held w0 W (objR l o :: L) :=
  ⟨S.k, fun r hr => by
    rcases List.mem_cons.1 hr with rfl | hr
    · exact hl
    · exact S.ok r hr, fun r hr b hb => by
    rcases List.mem_cons.1 hr with rfl | hr
    · have : b = l := by simpa [objR] using hb
      omega
    · exact S.base r hr b hb, List.pairwise_cons.2 ⟨fun r hr b hb hb' => by
    have : b = l := by simpa [objR] using hb
    subst this
    exact hn r hr hb', S.apart⟩⟩
/-- What a call holds of its own, behind what was held. -/
theorem Held.join {w0 w1 w2 : World} {L L' : List Res} (S : Held w0 w1 L) (T : Held w1 w2 L') : Held w0 w2 (L ++ L') :=
  ⟨S.k.trans T.k (by simp), fun r hr => (List.mem_append.1 hr).elim (fun h => r.keep w1 w2 [] (S.ok r h) T.k (by simp)) (T.ok r), fun r hr b hb => (List.mem_append.1 hr).elim (fun h => S.base r h b hb) (fun h => Nat.le_trans S.k.size (T.base r h b hb)),
    List.pairwise_append.2 ⟨S.apart, T.apart, fun r hr s hs b hb hb' => by
      have h1 := r.lt w1 (S.ok r hr) b hb
      have h2 := T.base s hs b hb'
      omega⟩⟩
theorem Held.sub {w0 w : World} {L L' : List Res} (S : Held w0 w L) (h : L'.Sublist L) : Held w0 w L' :=
  ⟨S.k, fun r hr => S.ok r (h.subset hr), fun r hr => S.base r (h.subset hr), S.apart.sublist h⟩
/-- The mark of a loop that was left. -/
def obD (D : Nat) : Res := objR D (.deferred (some []))
/-- Both objects of the loop beside what is held. -/
theorem Held.withTwo {w0 W : World} {L : List Res} (S : Held w0 W L) {B : Nat} (hc : Cells B L) (h0 : w0.heap.size ≤ B) {l D : Nat} {o d : Obj} (hB : B ≤ l) (hD : B ≤ D) (hne : l ≠ D) (hl : W.heap[l]? = some o) (ho : o.isCells = false) (hd : W.heap[D]? = some d) (hd0 : d.isCells = false) :
    Held w0 W (objR l o :: objR D d :: L) :=
  (S.withObj (Nat.le_trans h0 hD) hd (hc.not S hD hd hd0)).withObj (Nat.le_trans h0 hB) hl (fun r hr => by
    rcases List.mem_cons.1 hr with rfl | hr
    · simpa [objR] using hne
    · exact hc.not S hB hl ho r hr)
theorem Held.same2 {w0 W W' : World} {L : List Res} {l D : Nat} {o d : Obj} (S : Held w0 W' (objR l o :: objR D d :: L)) (hl : W.heap[l]? = some o) (hd : W.heap[D]? = some d) : Same2 l D W W' :=
  ⟨(S.at_ (l1 := [])).trans hl.symm, (S.at_ (l1 := [_])).trans hd.symm⟩
theorem Held.two {w0 W : World} {L : List Res} {r s : Res} (S : Held w0 W (r :: s :: L)) : Held w0 W L := S.drop.drop
theorem Held.stays {w0 : World} {L : List Res} {B : Nat} (hB : w0.heap.size ≤ B) (hc : Cells B L) : Stays B (fun W => Held w0 W L) := by
  intro W W' S h
  rcases h with hk | ⟨l, o, o', hl, hlo, ho, rfl⟩
  · exact S.kp hk
  · have hn := hc.not S hl hlo ho
    exact ⟨S.k.trans (Kp.putObj l o') (fun g hg => by simp at hg; right; omega), fun r hr => r.keep W _ [l] (S.ok r hr) (Kp.putObj l o') (fun b hb hm => by simp at hm; subst hm; exact hn r hr hb), S.base, S.apart⟩
/-- What was there when the loop began and is read. -/
theorem stays_old {w : World} {p : World → Prop} (h : ∀ W, Kp [] w W → p W) : Stays w.heap.size (fun W => Kp [] w W ∧ p W) := by
  intro W W' ⟨h1, _⟩ hk
  have h2 : Kp [] w W' := by
    rcases hk with hk | ⟨l, o, o', hl, hlo, ho, rfl⟩
    · exact h1.trans hk (by simp)
    · exact h1.trans (Kp.putObj l o') (fun g hg => by simp at hg; right; omega)
  exact ⟨h2, h W' h2⟩
theorem cell_put {W : World} {a : Addr} {u : Value} (h : W.cell? a = some u) {l : Nat} {o : Obj} (o' : Obj) (hl : W.heap[l]? = some o) (ho : o.isCells = false) : (W.putObj l o').cell? a = some u := by
  have hne : a.block ≠ l := by
    intro e
    unfold World.cell? at h
    rw [e, hl] at h
    cases o <;> first | (cases ho; done) | simp at h
  exact (World.cell?_of_block (World.putObj_heap_other hne)).trans h
theorem rd_put {W : World} {s n : Nat} {v : Value} {xs : List Value} (h : Rd W s v n xs) {l : Nat} {o : Obj} (o' : Obj) (hl : W.heap[l]? = some o) (ho : o.isCells = false) : Rd (W.putObj l o') s v n xs := by
  obtain ⟨h1, A, c, h2, h3, h4, h5, h6⟩ := h
  exact ⟨h1, A, c, h2, h3, h4, h5, fun ad had j u hu => cell_put (h6 ad had j u hu) o' hl ho⟩
theorem blk_put {W : World} {g : Nat} {t : TypeId} {cs : Array Value} (h : Blk W g t cs) {l : Nat} {o : Obj} (o' : Obj) (hl : W.heap[l]? = some o) (ho : o.isCells = false) : Blk (W.putObj l o') g t cs := by
  refine (World.putObj_heap_other (fun e => ?_)).trans h
  subst e
  unfold Blk at h
  rw [h] at hl
  cases hl
  cases ho
theorem stays_cell (B : Nat) (a : Addr) (u : Value) : Stays B (fun W => W.cell? a = some u) := fun W W' h hk => by
  rcases hk with hk | ⟨l, o, o', _, hl, ho, rfl⟩
  · exact cell_kept h hk
  · exact cell_put h o' hl ho
theorem stays_rd (B s : Nat) (v : Value) (n : Nat) (xs : List Value) : Stays B (fun W => Rd W s v n xs) := fun W W' h hk => by
  rcases hk with hk | ⟨l, o, o', _, hl, ho, rfl⟩
  · exact rd_old h hk
  · exact rd_put h o' hl ho
theorem stays_blk (B g : Nat) (t : TypeId) (cs : Array Value) : Stays B (fun W => Blk W g t cs) := fun W W' h hk => by
  rcases hk with hk | ⟨l, o, o', _, hl, ho, rfl⟩
  · exact h.kp hk (by simp)
  · exact blk_put h o' hl ho
end Go.Proofs.Ytnchjfhmalbjoaa
/- record.All: the function that it answers, as an iterator. -/
namespace Go.Proofs.Ytnchjfhmalbjoaa
open Go.RowKit Go.Shelf
attribute [local go_sem] Oper.semAt_some

theorem scN_more (b : List UInt8) (j : Nat) : ∀ d, ∃ t u, (scN b (j + d)).recs = (scN b j).recs ++ t ∧ (scN b (j + d)).places = (scN b j).places ++ u
  | 0 => ⟨[], [], by simp, by simp⟩
  | d + 1 => by
    obtain ⟨t, u, h1, h2⟩ := scN_more b j d
    by_cases h : goes b (scN b (j + d))
    · rw [show j + (d + 1) = j + d + 1 from rfl, scN_succ h]
      exact ⟨t ++ [recOf (b.drop (scN b (j + d)).good)], u ++ [(scN b (j + d)).good], by simp [h1], by simp [h2]⟩
    · rw [show j + (d + 1) = j + d + 1 from rfl, show scN b (j + d + 1) = scN b (j + d) from scN_stop h 1]
      exact ⟨t, u, h1, h2⟩
theorem scN_sc {b : List UInt8} {j : Nat} (hj : j ≤ b.length) : ∃ t u, (sc b).recs = (scN b j).recs ++ t ∧ (sc b).places = (scN b j).places ++ u := by
  have := scN_more b j (b.length - j)
  rwa [show j + (b.length - j) = b.length by omega] at this

/-- What All's function hands over: the record's place, the record, its body's slice; the block where the frame lies meanwhile. -/
structure RX where
  at_ : Nat
  r : Rec
  v : Value
  g : Nat
  sz : Nat
def RX.cells (x : RX) : Array Value := #[.int .u8 (x.r.1.toNat : Int), x.v, .int .i64 (x.sz : Int)]
def RX.encs (x : RX) : Array Value := #[.int .i64 (x.at_ : Int), .agg #[.int .u8 (x.r.1.toNat : Int), x.v]]
/-- What it keeps of its own: the variable, the bytes. -/
def AllOwn (bx : Nat) (A : Option Addr) (c : Nat) (b : List UInt8) (W : World) : Prop := W.cell? ⟨bx, 0, none⟩ = some (.slice A b.length c) ∧ Rd W 1 (.slice A b.length c) b.length (bv b)
theorem AllOwn.kp {bx : Nat} {A : Option Addr} {c : Nat} {b : List UInt8} {W W' : World} (h : AllOwn bx A c b W) (hk : Kp [] W W') : AllOwn bx A c b W' := ⟨cell_kept h.1 hk, rd_old h.2 hk⟩
def RX.Z (bx : Nat) (A : Option Addr) (c : Nat) (b : List UInt8) (x : RX) (W : World) : Prop := AllOwn bx A c b W ∧ Blk W x.g 71 x.cells
def RX.X (b : List UInt8) (pre : List RX) (x : RX) (W0 W1 : World) : Prop :=
  (∀ w L, Held w W0 L → Held w W1 (blkR x.g 71 x.cells :: rowR 5 1 x.v x.r.2.length (bv x.r.2) :: L)) ∧
  (sc b).places[pre.length]? = some x.at_ ∧ (sc b).recs[pre.length]? = some x.r ∧ pre.map (·.at_) = (sc b).places.take pre.length ∧ pre.map (·.r) = (sc b).recs.take pre.length
set_option maxRecDepth 100000 in
set_option maxHeartbeats 2000000 in
theorem all1_seq (bx : Nat) (A : Option Addr) (c : Nat) (b : List UInt8) (w : World) (hw : AllOwn bx A c b w) (hnc : b.length ≤ c) (hn : b.length + 64 ≤ 140737488355328) (n : Nat) :
    SeqW Try.prog n 39 #[.pointer (some ⟨bx, 0, none⟩)] RX.encs (RX.Z bx A c b) (RX.X b) (fun xs => xs.map (·.at_) = (sc b).places ∧ xs.map (·.r) = (sc b).recs) (fun _ => True) (sc b).recs.length w := by
  intro l J Jx W hk hJ hJx hY h0
  have HP := Lib.hid (hw.kp hk)
  have HJ := Lib.hid hJ
  have HY := Lib.hid hY
  have hplace := fun j (hj : j ≤ b.length) => scN_sc (b := b) hj
  have Hpl := Lib.hid hplace
  clear hw hk hJ hJx hY hplace
  refine callsIn_of_wp Try.func39 rfl trivial ?_ rfl
  simp only [Try.ntmps39, List.size_toArray, List.length_cons, List.length_nil, Nat.reduceAdd, Nat.reduceSub, Array.replicate_succ, Array.replicate_zero, List.push_toArray, List.append_toArray, List.nil_append, List.cons_append]
  gi_wp2
  gi_loopw [3] (fun at_ wr => ∃ (pre : List RX) (k : Nat), pre.length = k ∧ at_ = .int .i64 ((scN b k).good : Int) ∧ k ≤ (scN b k).good ∧ pre.map (·.at_) = (scN b k).places ∧ pre.map (·.r) = (scN b k).recs ∧ J pre wr ∧ AllOwn bx A c b wr) (fun at_ _ => b.length - (intOf at_).toNat)
  case atStart => exact ⟨[], 0, rfl, rfl, Nat.zero_le _, rfl, rfl, h0, HP.out⟩
  case round =>
    clear h0 HP
    obtain ⟨pre, k, hpk, rfl, hkg, hpa, hpr, hJs, hP⟩ := hrel
    have hgl := scN_good b k
    have hc0 := hP.1
    have Hpa := Lib.hid hpa
    have Hpr := Lib.hid hpr
    have Hpk := Lib.hid hpk
    clear hpa hpr hpk
    by_cases hlt : (scN b k).good < b.length
    · obtain ⟨A1, c1, run1, rd1, _⟩ := cut_lo A b.length c (scN b k).good (b.length - (scN b k).good) ((scN b k).good : Int) rfl (by omega)
      have hdl : (b.drop (scN b k).good).length = b.length - (scN b k).good := List.length_drop ..
      have HR : Hid (Calls Try.prog 37 #[.slice A1 (b.length - (scN b k).good) c1] wr (ReadPost (b.drop (scN b k).good) wr)) := Lib.hid (by
        have h1 := rd1 wr b hP.2
        rw [List.take_of_length_le (by omega)] at h1
        have := read_any A1 c1 (b.drop (scN b k).good) wr (by rw [hdl]; exact h1) (by rw [hdl]; omega)
        rwa [hdl] at this)
      unfold ReadPost at HR
      have HP := Lib.hid hP
      by_cases hE : rE (b.drop (scN b k).good) = 0
      · have hgo : goes b (scN b k) := ⟨hlt, hE⟩
        have Hs := Lib.hid (scN_succ hgo)
        have hsz := rS_of hE
        rw [hdl] at hsz
        have Hrec := Lib.hid (recOf_kind (b.drop (scN b k).good))
        have Hrb : Hid ((recOf (b.drop (scN b k).good)).2 = rB (b.drop (scN b k).good)) := Lib.hid rfl
        rw [hE] at HR
        have Hkl : Hid (rK (b.drop (scN b k).good) < 256) := Lib.hid (rK_lt _)
        have Hex : Hid (∀ x : RX, x.at_ = (scN b k).good → x.r = recOf (b.drop (scN b k).good) → (sc b).places[pre.length]? = some x.at_ ∧ (sc b).recs[pre.length]? = some x.r ∧ pre.map (·.at_) = (sc b).places.take pre.length ∧ pre.map (·.r) = (sc b).recs.take pre.length ∧ pre.length < (sc b).recs.length) := Lib.hid (fun x h1 h2 => by
          have hk1 : k + 1 ≤ b.length := by omega
          obtain ⟨t, u, e1, e2⟩ := Hpl.out (k + 1) hk1
          rw [Hs.out] at e1 e2
          have l1 : (scN b k).recs.length = pre.length := by rw [← Hpr.out, List.length_map]
          have l2 : (scN b k).places.length = pre.length := by rw [← Hpa.out, List.length_map]
          refine ⟨?_, ?_, ?_, ?_, ?_⟩
          · rw [e2, h1, ← l2]; simp
          · rw [e1, h2, ← l1]; simp
          · rw [e2, Hpa.out, ← l2]; simp
          · rw [e1, Hpr.out, ← l1]; simp
          · rw [e1, ← l1]; simp)
        clear rd1
        generalize hs' : scN b k = s at *
        have Hk := Lib.hid hs'
        clear hs'
        generalize hrc : recOf (b.drop s.good) = rc at *
        obtain ⟨kd, bd⟩ := rc
        simp only at Hrec Hrb
        rw [← Hrec.out, ← Hrb.out] at HR
        have hkl := Hkl.out
        clear Hrec Hrb Hkl hE hgo hrc
        generalize rS (b.drop s.good) = sz at *
        gi_wp2_with fail
        refine ⟨trivial, fun h => absurd h (by simp [Fence.wide]), ?_⟩
        gi_at_call 37
        refine (callsIn_wide.2 HR.out).mono ?_
        rintro e w5 ⟨u, rfl, o5, k5, f5⟩
        obtain ⟨Au, cu, hu, _, _⟩ := ow_form o5
        subst hu
        obtain ⟨y1, y2, y3, y4, y5⟩ := Hex.out ⟨s.good, (kd, bd), .slice Au bd.length cu, w5.heap.size, sz⟩ rfl rfl
        obtain ⟨fn, tmps, assign, body, hy, hRd⟩ := HY.out pre ⟨s.good, (kd, bd), .slice Au bd.length cu, w5.heap.size, sz⟩ wr (w5.alloc (.cells #[.int .u8 (kd.toNat : Int), .slice Au bd.length cu, .int .i64 (sz : Int)] 71)) hJs (k5.alloc _) ⟨fun w L S => (S.rownew o5 k5 f5).newBlk _ _, y1, y2, y3, y4⟩ y5
        clear y1 y2 y3 y4 y5 o5 f5
        simp only [RX.encs] at hy
        gi_wp2
        refine ⟨fun h => absurd h (by simp [Fence.wide]), ?_⟩
        refine hRd.mono ?_
        rintro e W3 (⟨rfl, hJ3, hZ3⟩ | ⟨rfl, hJx3⟩)
        · obtain ⟨c1', c2', c3', c4', c5', c6', c7'⟩ := Blk.c3 hZ3.2
          gi_wp2
          go_roundw
          case rel =>
            refine ⟨pre ++ [⟨s.good, (kd, bd), .slice Au bd.length cu, w5.heap.size, sz⟩], k + 1, by rw [List.length_append, Hpk.out]; rfl, ?_, ?_, ?_, ?_, hJ3, hZ3.1⟩
            · rw [Hs.out]; go_num
            · rw [Hs.out]; show k + 1 ≤ s.good + sz; omega
            · rw [Hs.out, List.map_append, Hpa.out]; rfl
            · rw [Hs.out, List.map_append, Hpr.out]; rfl
          case measure => simp [intOf]; omega
        · gi_wp2
          refine bodyPost_ret (results_none rfl _ _ _) rfl ?_
          exact ⟨⟨_, rfl⟩, .inr ⟨_, trivial, hJx3⟩⟩
      · have hee : ¬ ((rE (b.drop (scN b k).good) : Nat) : Int) = 0 := by omega
        have hgo : ¬ goes b (scN b k) := fun h => hE h.2
        have hsc := sc_at (show k ≤ b.length by omega) hgo
        have Hj : Hid (∀ W', J pre W' → ∃ xs : List RX, (xs.map (·.at_) = (sc b).places ∧ xs.map (·.r) = (sc b).recs) ∧ J xs W') := Lib.hid (fun W' h => ⟨pre, by rw [hsc]; exact ⟨Hpa.out, Hpr.out⟩, h⟩)
        clear hgo hsc hE Hpa Hpr Hpl rd1
        generalize rE (b.drop (scN b k).good) = ee at *
        generalize rK (b.drop (scN b k).good) = kd at *
        generalize rB (b.drop (scN b k).good) = bd at *
        generalize rS (b.drop (scN b k).good) = sz at *
        gi_wp2_with fail
        refine ⟨trivial, fun h => absurd h (by simp [Fence.wide]), ?_⟩
        gi_at_call 37
        refine (callsIn_wide.2 HR.out).mono ?_
        rintro e w5 ⟨u, rfl, o5, k5, f5⟩
        obtain ⟨Au, cu, hu, _, _⟩ := ow_form o5
        subst hu
        gi_wp2
        all_goals
          refine ⟨fun _ _ => trivial, ?_⟩
          gi_wp2
          refine bodyPost_ret (results_none rfl _ _ _) rfl ?_
          exact ⟨⟨_, rfl⟩, .inl (Hj.out _ (HJ.out _ _ _ hJs (k5.alloc _)))⟩
    · have hgo : ¬ goes b (scN b k) := fun h => hlt h.1
      have hsc := sc_at (show k ≤ b.length by omega) hgo
      have Hj : Hid (∀ W', J pre W' → ∃ xs : List RX, (xs.map (·.at_) = (sc b).places ∧ xs.map (·.r) = (sc b).recs) ∧ J xs W') := Lib.hid (fun W' h => ⟨pre, by rw [hsc]; exact ⟨Hpa.out, Hpr.out⟩, h⟩)
      clear hgo hsc Hpa Hpr Hpl
      gi_wp2
      go_end0
      exact ⟨⟨_, rfl⟩, .inl (Hj.out _ hJs)⟩
set_option maxRecDepth 100000 in
set_option maxHeartbeats 1000000 in
theorem all_any (x : Value) (b : List UInt8) (n : Nat) (w : World) (hx : Rd w 1 x n (bv b)) (hn : n + 64 ≤ 140737488355328) :
    Calls Try.prog 23 #[x] w fun e w' => ∃ Ac cc, e = .returned (.func (.func 39) #[] #[.pointer (some ⟨w.heap.size, 0, none⟩)]) ∧
      Held w w' [blkR w.heap.size 23 #[.slice Ac n cc], rowR 5 1 (.slice Ac n cc) n (bv b)] := by
  obtain ⟨A, c, rfl⟩ := rd_form hx
  have Hx := Lib.hid hx
  clear hx
  go_enter Try.func23, Try.ntmps23
  have S0 := (Held.start w).newBlk 23 #[.slice A n c]
  have hb := S0.at_ (l1 := [])
  obtain ⟨c1, c2, c3⟩ := Blk.c1 hb
  go_wp2_with fail
  refine (clone_any _ b n _ (Hx.out.alloc _) (by omega)).mono ?_
  rintro e w5 ⟨v, rfl, o5, k5, f5⟩
  obtain ⟨Ac, cc, rfl, _, _⟩ := ow_form o5
  have S1 := S0.rownew o5 k5 f5
  obtain ⟨d1, d2, d3⟩ := Blk.c1 (S1.at_ (l1 := [_]))
  go_wp2
  go_ret
  have S2 := S1.set (l1 := [_]) 0 (.slice Ac n cc)
  exact ⟨Ac, cc, rfl, S2.perm (List.Perm.swap _ _ _)⟩
theorem rB_le (b : List UInt8) : (rB b).length ≤ b.length := by
  unfold rB
  split
  · rw [List.length_take, List.length_drop]; omega
  · simp
theorem sc_body_le (b : List UInt8) : ∀ (k : Nat) (r : Rec), r ∈ (scN b k).recs → r.2.length ≤ b.length
  | 0, r, h => by simp [scN] at h
  | k + 1, r, h => by
    by_cases hg : goes b (scN b k)
    · rw [scN_succ hg] at h
      rcases List.mem_append.1 h with h | h
      · exact sc_body_le b k r h
      · simp at h
        subst h
        have := rB_le (b.drop (scN b k).good)
        rw [List.length_drop] at this
        show (rB _).length ≤ _
        omega
    · rw [show scN b (k + 1) = scN b k from scN_stop hg 1] at h
      exact sc_body_le b k r h
abbrev LX (L : List Res) (x : RX) : List Res := blkR x.g 71 x.cells :: rowR 5 1 x.v x.r.2.length (bv x.r.2) :: L
theorem RX.stays (B bx : Nat) (A : Option Addr) (c : Nat) (b : List UInt8) (x : RX) : Stays B (RX.Z bx A c b x) := ((stays_cell B _ _).and (stays_rd B _ _ _ _)).and (stays_blk B _ _ _)
theorem places_at {W : World} {ap : Addr} {ps : List Nat} {cp i a : Nat} (h : Ow W 3 1 (.slice (some ap) ps.length cp) ps.length (natCells ps)) (hi : ps[i]? = some a) : W.cell? (ap.add i) = some (.int .i64 (a : Int)) := by
  obtain ⟨_, A', c', hv, _, _, _, h4⟩ := Rd.of_own h
  cases hv
  exact h4 ap rfl i _ (by simp [natCells, hi])
theorem recs_at {W : World} {av : Addr} {rs : List Rec} {Bs : List Value} {n cv i : Nat} {r : Rec} {B : Value} (h : Ow W 25 2 (.slice (some av) n cv) n (recCells rs Bs)) (hr : rs[i]? = some r) (hB : Bs[i]? = some B) :
    W.cell? (av.add (i * 2)) = some (.int .u8 (r.1.toNat : Int)) ∧ W.cell? { block := (av.add (i * 2)).block, off := (av.add (i * 2)).off + 1 } = some B := by
  obtain ⟨_, A', c', hv, _, _, _, h4⟩ := Rd.of_own h
  cases hv
  obtain ⟨g1, g2⟩ := recCells_get rs Bs i r B hr hB
  have h1 := h4 av rfl _ _ g1
  have h2 := h4 av rfl _ _ g2
  rw [← add_of_add] at h2
  exact ⟨h1, by first | exact h2 | simpa [World.cell?, Addr.add] using h2⟩
end Go.Proofs.Ytnchjfhmalbjoaa
/- A row of texts of the call's own; one more text appended; two lists of texts held against one another. -/
namespace Go.Proofs.Ytnchjfhmalbjoaa
open Go.RowKit
theorem Try.infoBytes : (Try.prog.info? 23).map (fun i => (i.zero, i.size, i.bytes)) = some (some (.slice none 0 0), 1, 24) := by kernel_rfl
def textR : List (List UInt8) → List Value → List Res
  | l :: ls, B :: Bs => rowR 5 1 B l.length (bv l) :: textR ls Bs
  | _, _ => []
theorem exec_convT {P : Program} {w : World} {ρ : Operand → Value} {o : Oper} {s t : TypeId} {x : Operand} {v u : Value} (ho : o.op = .convert s t x) (hx : ρ x = v) (h : (convert s t v).run P w = .ok u w) : (execOp ρ o).run P w = .ok (.value u) w := by
  unfold execOp
  simp only [ho, hx, Sem.run_bind, h, Result.andThen_ok, Sem.run_pure]
theorem textR_snoc : ∀ (ls : List (List UInt8)) (Bs : List Value) (l : List UInt8) (B : Value), ls.length = Bs.length → textR (ls ++ [l]) (Bs ++ [B]) = textR ls Bs ++ [rowR 5 1 B l.length (bv l)]
  | [], [], _, _, _ => rfl
  | _ :: ls, _ :: Bs, l, B, h => by simp only [List.cons_append, textR, textR_snoc ls Bs l B (by simpa using h)]
  | [], _ :: _, _, _, h => by simp at h
  | _ :: _, [], _, _, h => by simp at h
theorem textR_mem : ∀ (ls : List (List UInt8)) (Bs : List Value) (i : Nat) (l : List UInt8) (B : Value), ls[i]? = some l → Bs[i]? = some B → rowR 5 1 B l.length (bv l) ∈ textR ls Bs
  | l0 :: ls, B0 :: Bs, 0, l, B, h1, h2 => by cases h1; cases h2; exact List.mem_cons_self ..
  | l0 :: ls, B0 :: Bs, i + 1, l, B, h1, h2 => List.mem_cons_of_mem _ (textR_mem ls Bs i l B h1 h2)
  | [], _, _, _, _, h1, _ => by simp at h1
  | _ :: _, [], _, _, _, _, h2 => by simp at h2
/-- Text i, and how the rest stands if it is turned. -/
theorem textR_split : ∀ (ls : List (List UInt8)) (Bs : List Value) (i : Nat) (l : List UInt8) (B : Value), ls[i]? = some l → Bs[i]? = some B →
    ∃ l1 l2, textR ls Bs = l1 ++ rowR 5 1 B l.length (bv l) :: l2 ∧ ∀ (l' : List UInt8) (B' : Value), textR (ls.set i l') (Bs.set i B') = l1 ++ rowR 5 1 B' l'.length (bv l') :: l2
  | l0 :: ls, B0 :: Bs, 0, l, B, h1, h2 => by cases h1; cases h2; exact ⟨[], textR ls Bs, rfl, fun _ _ => rfl⟩
  | l0 :: ls, B0 :: Bs, i + 1, l, B, h1, h2 => by
    obtain ⟨l1, l2, e, h⟩ := textR_split ls Bs i l B h1 h2
    exact ⟨rowR 5 1 B0 l0.length (bv l0) :: l1, l2, by simp only [textR, e, List.cons_append], fun l' B' => by simp only [List.set_cons_succ, textR, h, List.cons_append]⟩
  | [], _, _, _, _, h1, _ => by simp at h1
  | _ :: _, [], _, _, _, _, h2 => by simp at h2
theorem texts_of {w0 W : World} {v : Value} {ls : List (List UInt8)} {Bs : List Value} {L1 L2 : List Res} (hl : ls.length = Bs.length) (S : Held w0 W (L1 ++ rowR 23 1 v ls.length Bs :: L2)) (hm : ∀ r, r ∈ textR ls Bs → r ∈ L2) : Txs W v ls := by
  refine ⟨Bs, Rd.of_own S.at_, fun i hi => ?_⟩
  have hB : Bs[i]? = some (Bs[i]'(by omega)) := List.getElem?_eq_getElem (by omega)
  have hr := textR_mem ls Bs i _ _ (List.getElem?_eq_getElem hi) hB
  exact ⟨_, hB, Rd.of_own (S.ok _ (List.mem_append_right _ (List.mem_cons_of_mem _ (hm _ hr))))⟩
set_option maxRecDepth 100000 in
set_option maxHeartbeats 2000000 in
theorem samel_any (x y : Value) (L M : List (List UInt8)) (w : World) (hx : Txs w x L) (hy : Txs w y M) :
    Calls Try.prog 29 #[x, y] w fun e w' => e = .returned (.bool (L == M)) ∧ Kp [] w w' := by
  have hbL : L.length ≤ 9223372036854775807 := by
    obtain ⟨vs, ⟨_, A', c', _, h1, h2, _⟩, _⟩ := hx
    unfold maxLen at h2
    omega
  obtain ⟨A, c, rfl, hA, hat⟩ := hx.open_
  obtain ⟨B, d, rfl, hB, hbt⟩ := hy.open_
  have HA := Lib.hid hA
  have HB := Lib.hid hB
  have Hx := Lib.hid hx
  have Hy := Lib.hid hy
  clear hx hy hA hB hat hbt
  by_cases hlen : L.length = M.length
  · have hll := Lib.hid hlen
    have hl3 : ((L.length : Int) != (M.length : Int)) = false := by rw [hlen]; simp
    clear hlen
    go_enter Try.func29, Try.ntmps29
    go_wp2
    go_loopw [5] (fun i wr => ∃ k : Nat, k ≤ L.length ∧ i = .int .i64 k ∧ L.take k = M.take k ∧ Kp [] w wr) (fun i _ => L.length - (intOf i).toNat)
    case atStart => exact ⟨0, Nat.zero_le _, rfl, by simp, Kp.refl _ _⟩
    case round =>
      obtain ⟨k, hk, rfl, hpre, hkp⟩ := hrel
      have Hpre := Lib.hid hpre
      clear hpre
      by_cases hlt : k < L.length
      · obtain ⟨ad, rfl⟩ := HA.out (by omega)
        obtain ⟨bd, rfl⟩ := HB.out (by have := hll.out; omega)
        have hltM : k < M.length := by have := hll.out; omega
        have HX : Hid (∃ u, ∀ V, Kp [] w V → V.cell? (ad.add k) = some u ∧ Rd V 1 u L[k].length (bv L[k])) := Lib.hid (by
          obtain ⟨A', c', e, _, h⟩ := Hx.out.open_
          cases e
          obtain ⟨u, h1, h2⟩ := h ad rfl k hlt
          exact ⟨u, fun V kk => ⟨cell_kept h1 kk, rd_old h2 kk⟩⟩)
        have HY : Hid (∃ u, ∀ V, Kp [] w V → V.cell? (bd.add k) = some u ∧ Rd V 1 u M[k].length (bv M[k])) := Lib.hid (by
          obtain ⟨A', c', e, _, h⟩ := Hy.out.open_
          cases e
          obtain ⟨u, h1, h2⟩ := h bd rfl k hltM
          exact ⟨u, fun V kk => ⟨cell_kept h1 kk, rd_old h2 kk⟩⟩)
        obtain ⟨u1, hu1⟩ := HX.out
        obtain ⟨u2, hu2⟩ := HY.out
        have RX := Lib.hid (fun (V : World) (kk : Kp [] w V) => (hu1 V kk).2)
        have RY := Lib.hid (fun (V : World) (kk : Kp [] w V) => (hu2 V kk).2)
        have C1 := Lib.hid (fun (V : World) (kk : Kp [] w V) => (hu1 V kk).1)
        have C2 := Lib.hid (fun (V : World) (kk : Kp [] w V) => (hu2 V kk).1)
        have HnL : Hid (L.take (k + 1) = L.take k ++ [L[k]] ∧ M.take (k + 1) = M.take k ++ [M[k]]) := Lib.hid ⟨take_succ_of (List.getElem?_eq_getElem hlt), take_succ_of (List.getElem?_eq_getElem hltM)⟩
        have HnE : Hid (L[k] ≠ M[k] → (L == M) = false) := Lib.hid (fun hne => by
          apply Bool.eq_false_iff.2
          intro he
          have := eq_of_beq he
          subst this
          exact hne rfl)
        clear HX HY hu1 hu2
        generalize L[k] = a at *
        generalize M[k] = b at *
        go_wp2
        refine wp_region_lexf [] [] (fun V : World => Kp [] w V) (by kernel_rfl) (by kernel_rfl) (hkp.drew) (fun σ hne f hf hsur => ?_); have Hsur := Lib.hid hsur; clear hsur
        have hfa := fun y => C1.out _ (hf y)
        have hfb := fun y => C2.out _ (hf y)
        clear hf
        by_cases hab : a = b
        · subst hab
          have hkd : (a == a) = true := beq_self_eq_true a
          go_wp2_with (first
            | (refine lex_qk (.string ⟨a.toArray⟩) rfl rfl (fun V hV => exec_convT rfl rfl (strB (RX.out V hV))) ?_; intro K hK; go_simp; refine hK _ _ ?_; clear hK K)
            | (refine lex_qk (.string ⟨a.toArray⟩) rfl rfl (fun V hV => exec_convT rfl rfl (strB (RY.out V hV))) ?_; intro K hK; go_simp; refine hK _ _ ?_; clear hK K)
            | (refine lex_qq Hsur.out rfl rfl rfl ?_; intro K hK; go_big_quiet_op; go_big_quiet_on) | (refine lex_skipk rfl ?_; intro K hK; go_simp; refine hK _ _ ?_; clear hK K) | (refine lex_e rfl rfl ?_; intro K hK; go_step) | (refine lex_nil ?_)
            | ((with_reducible apply And.intro); · (intro hl; first | (exact ls_absurd hl rfl) | exact hkp.drew)))
          go_roundw
          case rel => exact ⟨k + 1, by omega, by go_num, by rw [HnL.out.1, HnL.out.2, Hpre.out], hkp.drew⟩
          case measure => simp [intOf]; omega
        · have hkd : (a == b) = false := beq_false_of_ne hab
          go_wp2_with (first
            | (refine lex_qk (.string ⟨a.toArray⟩) rfl rfl (fun V hV => exec_convT rfl rfl (strB (RX.out V hV))) ?_; intro K hK; go_simp; refine hK _ _ ?_; clear hK K)
            | (refine lex_qk (.string ⟨b.toArray⟩) rfl rfl (fun V hV => exec_convT rfl rfl (strB (RY.out V hV))) ?_; intro K hK; go_simp; refine hK _ _ ?_; clear hK K)
            | (refine lex_qq Hsur.out rfl rfl rfl ?_; intro K hK; go_big_quiet_op; go_big_quiet_on) | (refine lex_skipk rfl ?_; intro K hK; go_simp; refine hK _ _ ?_; clear hK K) | (refine lex_e rfl rfl ?_; intro K hK; go_step) | (refine lex_nil ?_)
            | ((with_reducible apply And.intro); · (intro hl; first | (exact ls_absurd hl rfl) | exact hkp.drew)))
          go_ret
          exact ⟨by rw [HnE.out hab]; rfl, hkp.drew⟩
      · obtain rfl : k = L.length := by omega
        have he : L = M := by
          have := Hpre.out
          rwa [List.take_length, hll.out, List.take_length] at this
        subst he
        go_wp2
        go_ret
        exact ⟨by simp, hkp⟩
  · have hne : (L == M) = false := by
      apply Bool.eq_false_iff.2
      intro he
      have := eq_of_beq he
      subst this
      exact hlen rfl
    have Hne := Lib.hid hne
    clear hne
    have hl2 : ¬ (L.length : Int) = (M.length : Int) := by omega
    go_enter Try.func29, Try.ntmps29
    go_wp2
    go_ret
    all_goals first
      | exact ⟨by rw [Hne.out]; rfl, Kp.refl _ _⟩
      | (exfalso; simp at *; omega)
end Go.Proofs.Ytnchjfhmalbjoaa
/- record.Whole. -/
namespace Go.Proofs.Ytnchjfhmalbjoaa
open Go.RowKit Go.Shelf
attribute [local go_sem] Oper.semAt_some
def wholeE (b : List UInt8) (kind : UInt8) : Nat := if why b ≠ 0 then why b else if (sc b).recs.all (fun r => r.1 == kind) then 0 else 171
def wholeL (b : List UInt8) (kind : UInt8) : List (List UInt8) := if wholeE b kind = 0 then (sc b).recs.map (·.2) else []
def WholePost (b : List UInt8) (kind : UInt8) (w : World) (e : Ending) (w' : World) : Prop :=
  ∃ v Bs, e = .returned (.tuple #[v, .int .i64 (wholeE b kind : Int)]) ∧ (wholeL b kind).length = Bs.length ∧ Held w w' (rowR 23 1 v (wholeL b kind).length Bs :: textR (wholeL b kind) Bs)
theorem whole_why {b : List UInt8} {kind : UInt8} (h : why b ≠ 0) : wholeE b kind = why b ∧ wholeL b kind = [] := by
  have h1 : wholeE b kind = why b := if_pos h
  exact ⟨h1, by unfold wholeL; rw [h1, if_neg h]⟩
theorem whole_odd {b : List UInt8} {kind : UInt8} (h : why b = 0) {r : Rec} (hr : r ∈ (sc b).recs) (hk : r.1 ≠ kind) : wholeE b kind = 171 ∧ wholeL b kind = [] := by
  have h1 : wholeE b kind = 171 := by
    unfold wholeE
    rw [if_neg (by rw [h]; simp), if_neg]
    intro ha
    have := List.all_eq_true.1 ha r hr
    exact hk (eq_of_beq this)
  exact ⟨h1, by unfold wholeL; rw [h1]; rfl⟩
theorem whole_all {b : List UInt8} {kind : UInt8} (h : why b = 0) (ha : ∀ r, r ∈ (sc b).recs → r.1 = kind) : wholeE b kind = 0 ∧ wholeL b kind = (sc b).recs.map (·.2) := by
  have h1 : wholeE b kind = 0 := by
    unfold wholeE
    rw [if_neg (by rw [h]; simp), if_pos]
    exact List.all_eq_true.2 fun r hr => by rw [ha r hr]; exact beq_self_eq_true _
  exact ⟨h1, by unfold wholeL; rw [if_pos h1]⟩
/-- What is held between two rounds. -/
abbrev LW (w : World) (g7 bx : Nat) (Ac : Option Addr) (cc : Nat) (b : List UInt8) (kind : UInt8) (v : Value) (Bs : List Value) (pre : List RX) : List Res :=
  rowR 23 1 v pre.length Bs :: blkR g7 55 #[v] :: blkR bx 23 #[.slice Ac b.length cc] :: rowR 5 1 (.slice Ac b.length cc) b.length (bv b) :: blkR (w.heap.size + 1 + 1) 27 #[.int .i64 0] :: blkR (w.heap.size + 1) 55 #[.slice none 0 0] :: blkR w.heap.size 5 #[.int .u8 (kind.toNat : Int)] :: textR (pre.map (·.r.2)) Bs
theorem cells_text {B : Nat} : ∀ (ls : List (List UInt8)) (Bs : List Value), Cells B (textR ls Bs)
  | _ :: ls, _ :: Bs => (cells_text ls Bs).row
  | [], [] => Cells.nil
  | [], _ :: _ => Cells.nil
  | _ :: _, [] => Cells.nil
set_option maxRecDepth 100000 in
set_option maxHeartbeats 4000000 in
theorem whole_any (A : Option Addr) (c : Nat) (b : List UInt8) (kind : UInt8) (w : World) (hx : Rd w 1 (.slice A b.length c) b.length (bv b)) (hn : b.length ≤ 1073741824) :
    Calls Try.prog 26 #[.slice A b.length c, .int .u8 (kind.toNat : Int)] w (WholePost b kind w) := by
  obtain ⟨i0, hi, hz0, hz1, hz2⟩ := info_parts Try.infoBytes
  have Hx := Lib.hid hx
  have hlb : b.length + 64 ≤ 140737488355328 := by omega
  have hkd := kind.toNat_lt
  clear hx
  refine calls_marks Try.func26 rfl ?_
  simp only [Try.ntmps26, List.size_toArray, List.length_cons, List.length_nil, Nat.reduceAdd, Nat.reduceSub, Array.replicate_succ, Array.replicate_zero, List.push_toArray, List.append_toArray, List.nil_append, List.cons_append]
  have S0 := (((Held.start w).newBlk 5 #[.int .u8 (kind.toNat : Int)]).newBlk 55 #[.slice none 0 0]).newBlk 27 #[.int .i64 0]
  rw [World.size_alloc, World.size_alloc] at S0
  have S0 := Lib.hid S0
  go_wp2_with fail
  refine (scan_any A c b _ (rd_old Hx.out S0.out.k) (by omega) (by omega)).mono ?_
  rintro e w1 ⟨v1, p1, Bs1, rfl, hB1, S1'⟩
  obtain ⟨Av, cv, hv, _, _⟩ := ow_form (S1'.at_ (l1 := []))
  obtain ⟨Ap, cp, hp, _, _⟩ := ow_form (S1'.at_ (l1 := [_]))
  subst hv hp
  have S1 := Lib.hid ((S0.out.kp S1'.k).newBlk 40 #[.slice Av (sc b).recs.length cv, .slice Ap (sc b).places.length cp, .int .i64 ((sc b).good : Int), .int .i64 (why b : Int)])
  clear S1' hB1
  obtain ⟨c1, c2, c3, c4, c5, c6, c7, c8, c9⟩ := Blk.c4 (S1.out.at_ (l1 := []))
  obtain ⟨d1, d2, d3⟩ := Blk.c1 (S1.out.at_ (l1 := [_]))
  obtain ⟨e1, e2, e3⟩ := Blk.c1 (S1.out.at_ (l1 := [_, _]))
  by_cases hw : why b = 0
  · have Hw := Lib.hid hw
    rw [hw] at S1 c4 ⊢
    clear hw
    go_wp2_with fail
    have S2 := S1.out.rownew (ow_new _ 23 1 0 #[] rfl (by decide)) ((Kp.refl [] _).alloc _) (fun g hg => by simp [Value.ownBlock] at hg; simp; omega)
    have S3 := Lib.hid (S2.newBlk 55 #[.slice (some ⟨w1.heap.size + 1, 0, none⟩) 0 0])
    simp only [World.size_alloc] at S3
    clear S2
    refine (all_any _ b b.length _ (rd_old Hx.out S3.out.k) (by omega)).mono ?_
    rintro e w2 ⟨Ac, cc, rfl, S4'⟩
    have S4 := Lib.hid (S3.out.join S4')
    simp only [World.size_alloc] at S4
    clear S4'
    go_wp2_with fail
    generalize w1.heap.size = g1 at *
    obtain ⟨bx, hbx⟩ : ∃ bx, g1 + 1 + 1 + 1 = bx := ⟨_, rfl⟩
    obtain ⟨g7, hg7⟩ : ∃ g7, g1 + 1 + 1 = g7 := ⟨_, rfl⟩
    rw [hbx] at S4 ⊢
    rw [hg7] at S4 ⊢
    clear hbx hg7
    have S5 : Hid (Held w w2 (LW w g7 bx Ac cc b kind (.slice (some ⟨g1 + 1, 0, none⟩) 0 0) [] [])) := Lib.hid (by
      have a1 := (S4.out.dropAt (l1 := [_, _]))
      exact a1.perm ((List.Perm.swap _ _ _).trans (List.Perm.cons _ (List.Perm.cons _ (List.perm_append_comm (l₁ := [_, _, _]) (l₂ := [_, _])))))
      )
    clear S4 S3 S1 S0 c1 c2 c3 c4 c5 c6 c7 c8 c9 d1 d2 d3 e1 e2 e3
    have hwb := S5.out.k.size
    have HC := Lib.hid (Cells.of S5.out)
    have hown : AllOwn bx Ac cc b w2 := ⟨((S5.out.at_ (l1 := [_, _])).cell 0 : _), Rd.of_own (S5.out.at_ (l1 := [_, _, _]))⟩
    have hncc : b.length ≤ cc := by obtain ⟨_, _, h, h1, _⟩ := ow_form (S5.out.at_ (l1 := [_, _, _])); cases h; exact h1
    have hsl : (sc b).recs.length ≤ b.length := sc_le b b.length
    refine wp_range (n := 3) (gf := 39) (lb := #[.pointer (some ⟨bx, 0, none⟩)]) rfl (enters_of Try.func39 (by kernel_rfl) rfl) (encs := RX.encs) (Z := RX.Z bx Ac cc b) (X := RX.X b) (all1_seq bx Ac cc b w2 hown hncc hlb _) (fun x => RX.stays _ _ _ _ _ x) (fun _ => rfl)
      (fun pre W => ∃ (v : Value) (Bs : List Value), Bs.length = pre.length ∧ (∀ x ∈ pre, x.r.1 = kind) ∧ Held w W (LW w g7 bx Ac cc b kind v Bs pre))
      (fun c pre W => c = .ret ∧ (∃ r ∈ (sc b).recs, r.1 ≠ kind) ∧ Held w W [blkR (w.heap.size + 1 + 1) 27 #[.int .i64 171], blkR (w.heap.size + 1) 55 #[.slice none 0 0]]) ?hI ?hIx ?h0
      (fun pre x W => (sc b).recs[pre.length]? = some x.r ∧ ∃ (v : Value) (Bs : List Value), Bs.length = pre.length ∧ (∀ x ∈ pre, x.r.1 = kind) ∧ Held w W (LX (LW w g7 bx Ac cc b kind v Bs pre) x)) ?hI' ?hprep
      (fun T pre x a' W => ∃ (Bx : Nat) (v : Value) (Bs : List Value), a' = { tmps := ((T.setIfInBounds 20 (.int .i64 (x.at_ : Int))).setIfInBounds 21 (.agg #[.int .u8 (x.r.1.toNat : Int), x.v])).setIfInBounds 9 (.pointer (some ⟨Bx, 0, none⟩)), defers := [] } ∧ Bs.length = pre.length ∧ (∀ x ∈ pre, x.r.1 = kind) ∧ Held w W (blkR Bx 25 #[.int .u8 (x.r.1.toNat : Int), x.v] :: LX (LW w g7 bx Ac cc b kind v Bs pre) x)) ?hA ?assign ?body ?done ?stop
    case hI => exact fun pre => Stays.ex fun v => Stays.ex fun Bs => (Stays.pure _ _).and ((Stays.pure _ _).and (Held.stays hwb (cells_text _ _).blk.blk.blk.row.blk.blk.row))
    case hIx => exact fun c pre => (Stays.pure _ _).and ((Stays.pure _ _).and (Held.stays hwb Cells.nil.blk.blk))
    case h0 => exact ⟨_, [], rfl, by simp, S5.out⟩
    case hI' => exact fun pre x => (Stays.pure _ _).and (Stays.ex fun v => Stays.ex fun Bs => (Stays.pure _ _).and ((Stays.pure _ _).and (Held.stays hwb (cells_text _ _).blk.blk.blk.row.blk.blk.row.row.blk)))
    case hprep =>
      rintro pre x W0 W1 ⟨v, Bs, h1, h2, S⟩ k ⟨hx, p1, p2, _, _⟩ hlen
      exact ⟨p2, v, Bs, h1, h2, hx w _ S⟩
    case hA => exact fun pre x a' => Stays.ex fun Bx => Stays.ex fun v => Stays.ex fun Bs => (Stays.pure _ _).and ((Stays.pure _ _).and ((Stays.pure _ _).and (Held.stays hwb (cells_text _ _).blk.blk.blk.row.blk.blk.row.row.blk.blk)))
    case assign =>
      rintro pre x W ⟨hx, v, Bs, h1, h2, S⟩ K hK
      obtain ⟨at_, ⟨kd, bd⟩, vx, gx, sz⟩ := x
      obtain ⟨A1, c1, hv, _, _⟩ := ow_form (S.at_ (l1 := [_]))
      simp only at hv
      subst hv
      have hkd2 := kd.toNat_lt
      simp only [RX.encs]
      gi_wp2
      exact hK _ _ ((Kp.refl [] W).alloc _) ⟨W.heap.size, v, Bs, rfl, h1, h2, S.newBlk _ _⟩
    case body =>
      rintro pre x a' W ⟨hx, _⟩ ⟨Bx, v, Bs, rfl, h1, h2, S⟩ hlen ⟨o, ho, hoc⟩ ⟨d, hd, hdc⟩
      obtain ⟨at_, ⟨kd, bd⟩, vx, gx, sz⟩ := x
      obtain ⟨A1, c1, hv, _, _⟩ := ow_form (S.at_ (l1 := [_, _]))
      simp only at hv hx
      subst hv
      have hkd2 := kd.toNat_lt
      simp only at S
      have SB := Lib.hid (S.withTwo ((cells_text _ _).blk.blk.blk.row.blk.blk.row.row.blk.blk) hwb (show w2.heap.size ≤ w2.heap.size + 1 by omega) (Nat.le_refl _) (by omega) ho hoc hd hdc)
      have Ho := Lib.hid ho
      have Hd := Lib.hid hd
      obtain ⟨q1, q2, _⟩ := Blk.c2 (SB.out.at_ (l1 := [_, _]))
      obtain ⟨q3, _⟩ := Blk.c1 (SB.out.at_ (l1 := [_, _, _, _, _, _, _, _, _, _, _]))
      have Hh1 := Lib.hid h1
      clear S ho hd h1
      by_cases hkk : kd = kind
      · subst hkk
        obtain ⟨q4, q5, q6⟩ := Blk.c1 (SB.out.at_ (l1 := [_, _, _, _, _, _]))
        have hbk : (Blk W Bx 25 _) := SB.out.at_ (l1 := [_, _])
        have SA := Lib.hid (SB.out.alloc (.cells #[.slice A1 bd.length c1] 23))
        obtain ⟨Av', cv', hvv, _, _⟩ := ow_form (SB.out.at_ (l1 := [_, _, _, _, _]))
        subst hvv
        gi_wp2_with (gi_at_builtin; refine wpListIn_app rfl (.tmp 26) (.tmp 29) _ rfl 23 i0 _ 1 24 Try.underlying55 hi hz0 hz1 hz2 rfl (by decide) (.slice Av' pre.length cv') pre.length Bs rfl (SA.out.at_ (l1 := [_, _, _, _, _])) (.slice (some ⟨W.heap.size, 0, none⟩) 1 1) 1 [.slice A1 bd.length c1] rfl (rd_one rfl) (by simp [Value.oneCell']) (by unfold maxLen; omega) (by omega) ?_; intro v7 w7 o7 g7' h7; have S7 := Lib.hid (SA.out.grow (l1 := [_, _, _, _, _]) o7 g7' h7); obtain ⟨q4, q5, q6⟩ := Blk.c1 (S7.out.at_ (l1 := [_, _, _, _, _, _])); obtain ⟨A7, c7, hv7, _, _⟩ := ow_form o7; subst hv7; clear o7 g7' h7)
        have S8 := S7.out.set (l1 := [_, _, _, _, _, _]) 0 (.slice A7 (pre.length + 1) c7)
        refine ⟨S8.same2 Ho.out Hd.out, ⟨⟨(S8.at_ (l1 := [_, _, _, _, _, _, _])).cell 0, Rd.of_own (S8.at_ (l1 := [_, _, _, _, _, _, _, _]))⟩, S8.at_ (l1 := [_, _, _])⟩, .slice A7 (pre.length + 1) c7, Bs ++ [.slice A1 bd.length c1], by simp [Hh1.out], fun y hy => ?_, ?_⟩
        · rcases List.mem_append.1 hy with hy | hy
          · exact h2 y hy
          · simp at hy; subst hy; rfl
        · have hm : (pre ++ [(⟨at_, (kd, bd), .slice A1 bd.length c1, gx, sz⟩ : RX)]).map (·.r.2) = pre.map (·.r.2) ++ [bd] := by simp
          unfold LW
          rw [hm, textR_snoc _ _ _ _ (by rw [List.length_map]; exact Hh1.out.symm), List.length_append]
          exact S8.drop.drop.drop.drop.perm (List.perm_append_singleton _ _).symm
      · have hkn : ((kd.toNat : Int) != (kind.toNat : Int)) = true := by
          simp only [bne_iff_ne, ne_eq, Int.natCast_inj]
          exact fun h => hkk (UInt8.toNat_inj.1 h)
        obtain ⟨q4, q5, q6⟩ := Blk.c1 (SB.out.at_ (l1 := [_, _, _, _, _, _, _, _, _, _]))
        obtain ⟨q7, q8, q9⟩ := Blk.c1 (SB.out.at_ (l1 := [_, _, _, _, _, _, _, _, _]))
        gi_wp2
        have S8 := (SB.out.set (l1 := [_, _, _, _, _, _, _, _, _, _]) 0 (.slice none 0 0)).set (l1 := [_, _, _, _, _, _, _, _, _]) 0 (.int .i64 171)
        refine ⟨S8.same2 Ho.out Hd.out, rfl, ⟨kd, ⟨bd, List.mem_of_getElem? hx⟩, hkk⟩, ?_⟩
        exact (S8.drop.drop.drop.drop.drop.drop.drop.drop.drop).sub (.cons_cons _ (.cons_cons _ (List.nil_sublist _)))
    case done =>
      rintro xs W ⟨hp, hr⟩ ⟨v, Bs, h1, h2, S⟩ hD
      obtain ⟨e1, e2⟩ := whole_all (b := b) (kind := kind) Hw.out (fun r hrr => by
        rw [← hr] at hrr
        obtain ⟨x, hx, rfl⟩ := List.mem_map.1 hrr
        exact h2 x hx)
      have e3 : wholeL b kind = xs.map (·.r.2) := by rw [e2, ← hr, List.map_map]; rfl
      have S1 := Lib.hid (S.withObj hwb hD ((cells_text _ _).blk.blk.blk.row.blk.blk.row.not S (Nat.le_refl _) hD rfl))
      obtain ⟨Av', cv', hvv, _, _⟩ := ow_form (S.at_ (l1 := []))
      subst hvv
      have H1 := Lib.hid h1
      obtain ⟨q1, q2, q3⟩ := Blk.c1 (S1.out.at_ (l1 := [_, _]))
      obtain ⟨q4, q5, q6⟩ := Blk.c1 (S1.out.at_ (l1 := [_, _, _, _, _]))
      obtain ⟨q7, q8, q9⟩ := Blk.c1 (S1.out.at_ (l1 := [_, _, _, _, _, _]))
      clear S h1 hp hr
      go_wp2
      have S2 := Lib.hid ((S1.out.set (l1 := [_, _, _, _, _, _]) 0 (.slice Av' xs.length cv')).set (l1 := [_, _, _, _, _]) 0 (.int .i64 0))
      refine ret_marks [w2.heap.size] rfl (by simp) (fun D hDm => by simp at hDm; subst hDm; exact S2.out.at_ (l1 := [])) (fun W' hk => ?_)
      have S3 := S2.out.rest (l1 := [_]) hk (fun g hg => by simp at hg; subst hg; exact ⟨_, List.mem_singleton.2 rfl, by simp [objR]⟩)
      have h4 : W'.cell? ⟨w.heap.size + 1, 0, none⟩ = some (.slice Av' xs.length cv') := (S3.at_ (l1 := [_, _, _, _, _])).cell 0
      have h5 : W'.cell? ⟨w.heap.size + 1 + 1, 0, none⟩ = some (.int .i64 0) := (S3.at_ (l1 := [_, _, _, _])).cell 0
      refine ⟨.tuple #[.slice Av' xs.length cv', .int .i64 0], ?_, .slice Av' xs.length cv', Bs, by rw [e1]; rfl, by rw [e3, List.length_map]; exact H1.out.symm, ?_⟩
      · simp [results, Try.f26, go_sem, h4, h5]
      · rw [e3, List.length_map]
        exact S3.sub (.cons_cons _ (.cons _ (.cons _ (.cons _ (.cons _ (.cons _ (.cons _ (List.Sublist.refl _))))))))
    case stop =>
      rintro c pre W _ ⟨rfl, ⟨r, hr, hk⟩, S⟩ hD
      obtain ⟨e1, e2⟩ := whole_odd Hw.out hr hk
      have S1 := Lib.hid (S.withObj hwb hD (Cells.nil.blk.blk.not S (Nat.le_refl _) hD rfl))
      go_wp2
      refine ret_marks [w2.heap.size] rfl (by simp) (fun D hDm => by simp at hDm; subst hDm; exact S1.out.at_ (l1 := [])) (fun W' hk => ?_)
      have S3 := S1.out.rest (l1 := [_]) hk (fun g hg => by simp at hg; subst hg; exact ⟨_, List.mem_singleton.2 rfl, by simp [objR]⟩)
      have h4 : W'.cell? ⟨w.heap.size + 1, 0, none⟩ = some (.slice none 0 0) := (S3.at_ (l1 := [_])).cell 0
      have h5 : W'.cell? ⟨w.heap.size + 1 + 1, 0, none⟩ = some (.int .i64 171) := (S3.at_ (l1 := [])).cell 0
      refine ⟨.tuple #[.slice none 0 0, .int .i64 171], ?_, .slice none 0 0, [], by rw [e1]; rfl, by rw [e2]; rfl, ?_⟩
      · simp [results, Try.f26, go_sem, h4, h5]
      · rw [e2]
        exact (S3.drop.drop).rownew (World.ownsRow_nil _ _ _ _) (Kp.refl [] W') (fun g hg => by simp [Value.ownBlock] at hg)
  · have hwi : ¬ ((why b : Nat) : Int) = 0 := by omega
    obtain ⟨q1, q2⟩ := whole_why (kind := kind) hw
    go_wp2
    go_region
    all_goals
      go_wp2
      have S2 := (S1.out.set (l1 := [_, _]) 0 (.slice none 0 0)).set (l1 := [_]) 0 (.int .i64 (why b : Int)) |>.kp ((Kp.refl [] _).drew)
      refine ret_marks [] rfl List.nodup_nil (by simp) (fun W hk => ?_)
      have S3 := S2.kp hk
      have h4 : W.cell? ⟨w.heap.size + 1, 0, none⟩ = some (.slice none 0 0) := (S3.at_ (l1 := [_, _])).cell 0
      have h5 : W.cell? ⟨w.heap.size + 1 + 1, 0, none⟩ = some (.int .i64 (why b : Int)) := (S3.at_ (l1 := [_])).cell 0
      refine ⟨.tuple #[.slice none 0 0, .int .i64 (why b : Int)], ?_, .slice none 0 0, [], by rw [q1], by rw [q2]; rfl, ?_⟩
      · simp [results, Try.f26, go_sem, h4, h5]
      · rw [q2]
        exact (S3.drop.drop.drop.drop).rownew (World.ownsRow_nil _ _ _ _) (Kp.refl [] W) (fun g hg => by simp [Value.ownBlock] at hg)
end Go.Proofs.Ytnchjfhmalbjoaa
/- The reference's Whole. -/
namespace Go.Proofs.Ytnchjfhmalbjoaa
open Go.RowKit
theorem bodies_text : ∀ (rs : List Rec) (Bs : List Value), bodiesR rs Bs = textR (rs.map (·.2)) Bs
  | r :: rs, B :: Bs => by simp only [bodiesR, List.map_cons, textR, bodies_text rs Bs]
  | [], [] => rfl
  | [], _ :: _ => rfl
  | _ :: _, [] => rfl
set_option maxRecDepth 100000 in
set_option maxHeartbeats 4000000 in
theorem rwhole_any (A : Option Addr) (c : Nat) (b : List UInt8) (kind : UInt8) (w : World) (hx : Rd w 1 (.slice A b.length c) b.length (bv b)) (hn : b.length ≤ 1073741824) :
    Calls Try.prog 27 #[.slice A b.length c, .int .u8 (kind.toNat : Int)] w (WholePost b kind w) := by
  obtain ⟨i0, hi, hz0, hz1, hz2⟩ := info_parts Try.infoBytes
  have Hx := Lib.hid hx
  have hkd := kind.toNat_lt
  clear hx
  go_enter Try.func27, Try.ntmps27
  go_wp2_with fail
  refine (rscan_any A c b _ Hx.out (by omega) (by omega)).mono ?_
  rintro e w1 ⟨v1, p1, Bs1, rfl, hB1, S1'⟩
  obtain ⟨Av, cv, hv, hcv, hcm⟩ := ow_form (S1'.at_ (l1 := []))
  obtain ⟨Ap, cp, hp, _, _⟩ := ow_form (S1'.at_ (l1 := [_]))
  subst hv hp
  unfold maxLen at hcm
  have S1 := Lib.hid (S1'.newBlk 40 #[.slice Av (sc b).recs.length cv, .slice Ap (sc b).places.length cp, .int .i64 ((sc b).good : Int), .int .i64 (why b : Int)])
  have HB1 := Lib.hid hB1
  have hsl : (sc b).recs.length ≤ b.length := sc_le b b.length
  clear S1' hB1
  obtain ⟨c1, c2, c3, c4, c5⟩ := Blk.c4 (S1.out.at_ (l1 := []))
  by_cases hw : why b = 0
  · have Hw := Lib.hid hw
    rw [hw] at S1 c4 ⊢
    clear hw
    go_wp2
    generalize w1.heap.size = g6 at *
    have S2 := Lib.hid (S1.out.rownew (World.ownsRow_nil _ 0 23 1) (Kp.refl [] _) (fun g hg => by simp [Value.ownBlock] at hg))
    generalize w1.alloc _ = wL at *
    clear S1 c1 c2 c3 c4 c5
    go_loopw [7, 8] (fun v i wr => ∃ k : Nat, k ≤ (sc b).recs.length ∧ i = .int .i64 k ∧ (∀ r ∈ (sc b).recs.take k, r.1 = kind) ∧ Held w wr (rowR 23 1 v k (Bs1.take k) :: blkR g6 40 #[.slice Av (sc b).recs.length cv, .slice Ap (sc b).places.length cp, .int .i64 ((sc b).good : Int), .int .i64 ((0 : Nat) : Int)] :: scR (.slice Av (sc b).recs.length cv) (.slice Ap (sc b).places.length cp) (sc b) Bs1)) (fun _ i _ => (sc b).recs.length - (intOf i).toNat)
    case atStart => exact ⟨0, Nat.zero_le _, rfl, by simp, S2.out⟩
    case round =>
      clear S2
      obtain ⟨k, hk, rfl, hall, S⟩ := hrel
      obtain ⟨Ao, co, ho, _, _⟩ := ow_form (S.at_ (l1 := []))
      subst ho
      have S1 := Lib.hid S
      obtain ⟨c1, _, _, _, _⟩ := Blk.c4 (S.at_ (l1 := [_]))
      by_cases hlt : k < (sc b).recs.length
      · obtain ⟨gv, cv', hv, _, _⟩ := ow_some (S.at_ (l1 := [_, _])) (by omega)
        obtain ⟨av, hav⟩ : ∃ av, Av = some av := by injection hv with e; exact ⟨_, e⟩
        subst hav
        clear hv
        have hr : (sc b).recs[k]? = some (sc b).recs[k] := List.getElem?_eq_getElem hlt
        obtain ⟨B, hB⟩ : ∃ B, Bs1[k]? = some B := ⟨_, List.getElem?_eq_getElem (by rw [← HB1.out]; exact hlt)⟩
        have hBo : Ow wr 5 1 B (sc b).recs[k].2.length (bv (sc b).recs[k].2) := S.ok (rowR 5 1 B (sc b).recs[k].2.length (bv (sc b).recs[k].2)) (List.mem_cons_of_mem _ (List.mem_cons_of_mem _ (List.mem_cons_of_mem _ (List.mem_cons_of_mem _ (bodiesR_mem _ _ k _ _ hr hB)))))
        obtain ⟨Ab, cb, hBv, _, _⟩ := ow_form hBo
        subst hBv
        clear hBo
        obtain ⟨q1, q2⟩ := recs_at (S.at_ (l1 := [_, _])) hr hB
        have Htk := Lib.hid (take_succ_of hr)
        have Htb := Lib.hid (take_succ_of hB)
        have Hr := Lib.hid hr
        have HB := Lib.hid hB
        clear hr hB S
        generalize (sc b).recs[k] = r at *
        obtain ⟨kd, bd⟩ := r
        simp only at q1
        have hkd2 := kd.toNat_lt
        by_cases hkk : kd = kind
        · subst hkk
          have S2 := Lib.hid (S1.out.alloc (.cells #[.slice Ab bd.length cb] 23))
          go_wp2_with (at_builtin; refine wpList_app _ rfl (.tmp 31) (.tmp 38) _ rfl 23 i0 _ 1 24 Try.underlying55 hi hz0 hz1 hz2 rfl (by decide) (.slice Ao k co) k (Bs1.take k) rfl (S2.out.at_ (l1 := [])) (.slice (some ⟨wr.heap.size, 0, none⟩) 1 1) 1 [.slice Ab bd.length cb] rfl (rd_one rfl) (by simp [Value.oneCell']) (by unfold maxLen; omega) (by omega) ?_; intro v7 w7 o7 g7 h7; have S7 := Lib.hid (S2.out.grow (l1 := []) o7 g7 h7); clear o7 g7 h7)
          go_roundw
          case rel =>
            refine ⟨k + 1, by omega, by go_num, fun r hr => ?_, by rw [Htb.out]; exact S7.out⟩
            rw [Htk.out] at hr
            rcases List.mem_append.1 hr with hr | hr
            · exact hall r hr
            · simp at hr; subst hr; rfl
          case measure => simp [intOf]; omega
        · have hkn : ((kd.toNat : Int) != (kind.toNat : Int)) = true := by
            simp only [bne_iff_ne, ne_eq, Int.natCast_inj]
            exact fun h => hkk (UInt8.toNat_inj.1 h)
          go_wp2
          obtain ⟨e1, e2⟩ := whole_odd Hw.out (List.mem_of_getElem? Hr.out) hkk
          refine bodyPost_ret (results_tmp2 rfl _ _ _) rfl ⟨.slice none 0 0, [], by rw [e1]; rfl, by rw [e2]; rfl, ?_⟩
          rw [e2]
          exact (S1.out.sub (List.nil_sublist _)).rownew (World.ownsRow_nil _ _ _ _) (Kp.refl [] wr) (fun g hg => by simp [Value.ownBlock] at hg)
      · obtain rfl : k = (sc b).recs.length := by omega
        go_wp2
        rw [List.take_length] at hall
        obtain ⟨e1, e2⟩ := whole_all Hw.out hall
        refine bodyPost_ret (results_tmp2 rfl _ _ _) rfl ⟨.slice Ao (sc b).recs.length co, Bs1, by rw [e1]; rfl, by rw [e2, List.length_map]; exact HB1.out, ?_⟩
        rw [e2, List.length_map, ← bodies_text]
        have S3 := S1.out
        rw [HB1.out, List.take_length] at S3
        rw [HB1.out]
        exact S3.sub (.cons_cons _ (.cons _ (.cons _ (.cons _ (List.Sublist.refl _)))))
  · have hwi : ¬ ((why b : Nat) : Int) = 0 := by omega
    obtain ⟨q1, q2⟩ := whole_why (kind := kind) hw
    have T0 : Hid (Kp [] w1 ((w1.alloc (.cells #[.slice Av (sc b).recs.length cv, .slice Ap (sc b).places.length cp, .int .i64 ((sc b).good : Int), .int .i64 (why b : Int)] 40)).drew)) := Lib.hid (((Kp.refl [] w1).alloc _).drew)
    go_wp2
    refine wp_region_lexf [] [] (fun V : World => Held w V _) (by kernel_rfl) (by kernel_rfl) (S1.out.kp ((Kp.refl [] _).drew)) (fun σ hne f hf hsur => ?_); have Hsur := Lib.hid hsur; clear hsur
    have q4 := fun y => (Blk.c4 ((hf y).at_ (l1 := []))).2.2.2.1
    clear hf
    go_wp2_with (first | (refine lex_qq Hsur.out rfl rfl rfl ?_; intro K hK; go_big_quiet_op; go_big_quiet_on) | (refine lex_skipk rfl ?_; intro K hK; go_simp; refine hK _ _ ?_; clear hK K) | (refine lex_e rfl rfl ?_; intro K hK; go_step) | (refine lex_nil ?_))
    refine bodyPost_ret (results_tmp2 rfl _ _ _) rfl ⟨.slice none 0 0, [], by rw [q1]; rfl, by rw [q2]; rfl, ?_⟩
    rw [q2]
    exact ((S1.out.kp ((Kp.refl [] _).drew)).sub (List.nil_sublist _)).rownew (World.ownsRow_nil _ _ _ _) (Kp.refl [] _) (fun g hg => by simp [Value.ownBlock] at hg)
end Go.Proofs.Ytnchjfhmalbjoaa
/- RecordReads: the law's helpers. -/
namespace Go.Proofs.Ytnchjfhmalbjoaa
open Go.RowKit
set_option maxRecDepth 100000 in
set_option maxHeartbeats 1000000 in
theorem sameints_true (x y : Value) (l : List Nat) (n m : Nat) (w : World) (hx : Rd w 1 x n (natCells l)) (hy : Rd w 1 y m (natCells l)) (hn : l.length ≤ 1073741824) :
    Calls Try.prog 41 #[x, y] w fun e w' => e = .returned (.bool true) ∧ Kp [] w w' := by
  have hl1 : n = l.length := by have := hx.1; simp [natCells] at this; omega
  have hl2 : m = l.length := by have := hy.1; simp [natCells] at this; omega
  subst hl1 hl2
  obtain ⟨_, A, c, rfl, _, _, hA, hat⟩ := hx
  obtain ⟨_, B, d, rfl, _, _, hB, hbt⟩ := hy
  have HA := Lib.hid hA
  have HB := Lib.hid hB
  have Hat := Lib.hid hat
  have Hbt := Lib.hid hbt
  clear hA hB hat hbt
  go_enter Try.func41, Try.ntmps41
  go_wp2
  go_loopw [5] (fun i wr => ∃ k : Nat, k ≤ l.length ∧ i = .int .i64 k ∧ Kp [] w wr) (fun i _ => l.length - (intOf i).toNat)
  case atStart => exact ⟨0, Nat.zero_le _, rfl, Kp.refl _ _⟩
  case round =>
    obtain ⟨k, hk, rfl, hkp⟩ := hrel
    by_cases hlt : k < l.length
    · obtain ⟨ad, rfl⟩ : ∃ ad, A = some ad := by
        cases A with
        | none => have := (HA.out rfl).1; omega
        | some ad => exact ⟨ad, rfl⟩
      obtain ⟨bd, rfl⟩ : ∃ bd, B = some bd := by
        cases B with
        | none => have := (HB.out rfl).1; omega
        | some ad => exact ⟨ad, rfl⟩
      have hg : (natCells l)[k]? = some (.int .i64 (l[k] : Int)) := by simp [natCells, hlt]
      have C1 := Lib.hid (fun (V : World) (kk : Kp [] w V) => cell_kept (Hat.out ad rfl k _ hg) kk)
      have C2 := Lib.hid (fun (V : World) (kk : Kp [] w V) => cell_kept (Hbt.out bd rfl k _ hg) kk)
      clear hg
      generalize l[k] = a at *
      go_wp2
      refine wp_region_lexf [] [] (fun V : World => Kp [] w V) (by kernel_rfl) (by kernel_rfl) (hkp.drew) (fun σ hne f hf hsur => ?_); have Hsur := Lib.hid hsur; clear hsur
      have hfa := fun y => C1.out _ (hf y)
      have hfb := fun y => C2.out _ (hf y)
      clear hf
      go_wp2_with (first | (refine lex_qq Hsur.out rfl rfl rfl ?_; intro K hK; go_big_quiet_op; go_big_quiet_on) | (refine lex_skipk rfl ?_; intro K hK; go_simp; refine hK _ _ ?_; clear hK K) | (refine lex_e rfl rfl ?_; intro K hK; go_step) | (refine lex_nil ?_) | ((with_reducible apply And.intro); · (intro hl; first | (exact ls_absurd hl rfl) | exact hkp.drew)))
      go_roundw
      case rel => exact ⟨k + 1, by omega, by go_num, hkp.drew⟩
      case measure => simp [intOf]; omega
    · go_wp2
      go_ret
      exact ⟨rfl, hkp⟩
set_option maxRecDepth 100000 in
set_option maxHeartbeats 1000000 in
theorem samesc_true (v p v' p' : Value) (rs : List Rec) (ps : List Nat) (n m : Nat) (gd wy : Nat) (w : World) (hv : RecsIn w v rs) (hv' : RecsIn w v' rs) (hp : Rd w 1 p n (natCells ps)) (hp' : Rd w 1 p' m (natCells ps)) (hn : ps.length ≤ 1073741824) :
    Calls Try.prog 28 #[.agg #[v, p, .int .i64 (gd : Int), .int .i64 (wy : Int)], .agg #[v', p', .int .i64 (gd : Int), .int .i64 (wy : Int)]] w fun e w' => e = .returned (.bool true) ∧ Kp [] w w' := by
  obtain ⟨A, c, rfl, _, _, _⟩ := hv.form
  obtain ⟨A', c', rfl, _, _, _⟩ := hv'.form
  obtain ⟨Ap, cp, rfl⟩ := rd_form hp
  obtain ⟨Ap', cp', rfl⟩ := rd_form hp'
  have Hv := Lib.hid hv
  have Hv' := Lib.hid hv'
  have Hp := Lib.hid hp
  have Hp' := Lib.hid hp'
  clear hv hv' hp hp'
  go_enter Try.func28, Try.ntmps28
  have S0 := ((Held.start w).newBlk 40 #[.slice A rs.length c, .slice Ap n cp, .int .i64 (gd : Int), .int .i64 (wy : Int)]).newBlk 40 #[.slice A' rs.length c', .slice Ap' m cp', .int .i64 (gd : Int), .int .i64 (wy : Int)]
  rw [World.size_alloc] at S0
  have S0 := Lib.hid S0
  go_wp2_with fail
  refine (samer_true _ _ rs _ (Hv.out.old S0.out.k) (Hv'.out.old S0.out.k)).mono ?_
  rintro e w1 ⟨rfl, k1⟩
  have S1 := Lib.hid (S0.out.kp k1)
  obtain ⟨c1, c2, c3, c4, _⟩ := Blk.c4 (S1.out.at_ (l1 := []))
  obtain ⟨d1, d2, d3, d4, _⟩ := Blk.c4 (S1.out.at_ (l1 := [_]))
  go_wp2_with fail
  refine (sameints_true _ _ ps _ _ _ (rd_old Hp.out S1.out.k) (rd_old Hp'.out S1.out.k) hn).mono ?_
  rintro e w2 ⟨rfl, k2⟩
  have S2 := Lib.hid (S1.out.kp k2)
  obtain ⟨c1, c2, c3, c4, _⟩ := Blk.c4 (S2.out.at_ (l1 := []))
  obtain ⟨d1, d2, d3, d4, _⟩ := Blk.c4 (S2.out.at_ (l1 := [_]))
  go_wp2
  go_ret
  exact ⟨rfl, S2.out.k⟩
end Go.Proofs.Ytnchjfhmalbjoaa
/- The law's spoil: records that were told are written over, and grown. -/
namespace Go.Proofs.Ytnchjfhmalbjoaa
open Go.RowKit
theorem bv_nines (n : Nat) : bv (List.replicate n 99) = List.replicate n (.int .u8 99) := by simp [bv]
set_option maxRecDepth 100000 in
set_option maxHeartbeats 2000000 in
theorem spoil07_any {w0 : World} {T : List Res} (v : Value) (rs : List Rec) (Bs : List Value) (w : World) (hB : rs.length = Bs.length) (hb : ∀ r, r ∈ rs → r.2.length ≤ 1073741824) (hl : rs.length ≤ 1073741824)
    (S0 : Held w0 w (rowR 25 2 v rs.length (recCells rs Bs) :: (textR (rs.map (·.2)) Bs ++ T))) :
    Calls Try.prog 30 #[v] w fun e w' => e = .returned (.tuple #[]) ∧ Held w0 w' T := by
  obtain ⟨i1, hj, hy0, hy1, hy2⟩ := info_parts Try.infoU8
  obtain ⟨A, c, rfl, _, _⟩ := ow_form (S0.at_ (l1 := []))
  have Hb := Lib.hid hb
  have HB := Lib.hid hB
  have H0 := Lib.hid S0
  clear hb hB S0
  go_enter Try.func30, Try.ntmps30
  go_wp2
  go_loopw [2] (fun i wr => ∃ (k : Nat) (xs : List Value) (ts : List (List UInt8)) (Bt : List Value), k ≤ rs.length ∧ i = .int .i64 k ∧ Hid (ts.length = rs.length ∧ Bt.length = rs.length ∧ ∀ j, k ≤ j → ts[j]? = (rs.map (·.2))[j]? ∧ Bt[j]? = Bs[j]? ∧ xs[j * 2 + 1]? = Bs[j]?) ∧ Held w0 wr (rowR 25 2 (.slice A rs.length c) rs.length xs :: (textR ts Bt ++ T))) (fun i _ => rs.length - (intOf i).toNat)
  case atStart =>
    refine ⟨0, _, _, _, Nat.zero_le _, rfl, Lib.hid ⟨by simp, HB.out.symm, fun j _ => ⟨rfl, rfl, ?_⟩⟩, H0.out⟩
    by_cases hj : j < rs.length
    · have hB : Bs[j]? = some (Bs[j]'(by rw [← HB.out]; exact hj)) := List.getElem?_eq_getElem _
      rw [hB]
      exact (recCells_get rs Bs j _ _ (List.getElem?_eq_getElem hj) hB).2
    · have h1 := (H0.out.at_ (l1 := [])).1
      rw [List.getElem?_eq_none (by omega), List.getElem?_eq_none (by rw [← HB.out]; omega)]
  case round =>
    clear H0
    obtain ⟨k, xs, ts, Bt, hk, rfl, Hx, S⟩ := hrel
    by_cases hlt : k < rs.length
    · obtain ⟨h1, h2, h3⟩ := Hx.out
      obtain ⟨f1, f2, f3⟩ := h3 k (Nat.le_refl _)
      have hB : Bs[k]? = some (Bs[k]'(by rw [← HB.out]; exact hlt)) := List.getElem?_eq_getElem _
      have hbl := Hb.out _ (List.getElem_mem hlt)
      rw [List.getElem?_map, List.getElem?_eq_getElem hlt] at f1
      rw [hB] at f2 f3
      generalize Bs[k]'_ = B at *
      simp only [Option.map_some] at f1
      generalize rs[k].2 = t at *
      obtain ⟨l1, l2, e, hset⟩ := textR_split ts Bt k t B f1 f2
      have Hset := Lib.hid hset
      rw [e, List.append_assoc, List.cons_append] at S
      have S1 : Hid (Held w0 wr ((rowR 25 2 (.slice A rs.length c) rs.length xs :: l1) ++ rowR 5 1 B t.length (bv t) :: (l2 ++ T))) := Lib.hid S
      obtain ⟨g, c', hv, _, _⟩ := ow_some (S.at_ (l1 := [])) (by omega)
      obtain ⟨Ab, cb, hBv, _, _⟩ := ow_form (S1.out.at_)
      subst hBv
      have hxl := (S.at_ (l1 := [])).1
      injection hv with hA hn hc
      subst hA
      have hcell := (S.at_ (l1 := [])).cellAt (k * 2 + 1) (by omega)
      rw [f3] at hcell
      have F3 := Lib.hid f3
      clear hn hc S h1 h2 h3 f1 f2 f3 hB e hset
      go_wp2_with fail
      refine (over07_any _ t.length _ _ S1.out.at_ (by omega)).mono ?_
      rintro e w2 ⟨rfl, o2, k2⟩
      have S2 := Lib.hid (S1.out.rowset o2 k2)
      have hcell := (S2.out.at_ (l1 := [])).cellAt (k * 2 + 1) (by omega)
      rw [F3.out] at hcell
      clear o2 k2
      have S3 := Lib.hid (S2.out.alloc (.cells #[.int .u8 99, .int .u8 99] 5))
      go_wp2_with (at_builtin; refine wpList_app _ rfl (.tmp 21) (.tmp 22) _ rfl 5 i1 _ 1 1 Try.underlying23 hj hy0 hy1 hy2 rfl (by decide) (.slice Ab t.length cb) t.length (List.replicate t.length (.int .u8 99)) rfl S3.out.at_ (.slice (some ⟨w2.heap.size, 0, none⟩) 2 2) 2 (bv [99, 99]) rfl (rd_lit w2 5 _ [99, 99] rfl (by decide)) (bv_one _) (by unfold maxLen; omega) (by omega) ?_; intro v7 w7 o7 g7 h7; have S7 := Lib.hid (S3.out.grow o7 g7 h7); obtain ⟨A7, c7, hv7, _, _⟩ := ow_form o7; subst hv7; have hc1 := (S7.out.at_ (l1 := [])).cellAt (k * 2 + 1) (by omega); rw [F3.out] at hc1; have hc0 := (S7.out.at_ (l1 := [])).cellAt (k * 2) (by omega); rw [List.getElem?_eq_getElem (by omega)] at hc0; have hf0 := (S7.out.at_ (l1 := [])).frozenAt (k * 2); have hf1 := (S7.out.at_ (l1 := [])).frozenAt (k * 2 + 1); have hlw := ow_lt (S7.out.at_ (l1 := [])) (g := g) rfl; clear o7 g7 h7)
      have S8 := (S7.out.rowset (l1 := []) ((S7.out.at_ (l1 := [])).stored (g := g) (k * 2 + 1) (.slice A7 (t.length + 2) c7)).1 ((Kp.refl [g] w7).setCell (p := ⟨g, k * 2 + 1, none⟩) (.inl (by simp)) (.slice A7 (t.length + 2) c7)))
      have S9 := (S8.rowset (l1 := []) ((S8.at_ (l1 := [])).stored (g := g) (k * 2) (.int .u8 99)).1 ((Kp.refl [g] _).setCell (p := ⟨g, k * 2, none⟩) (.inl (by simp)) (.int .u8 99)))
      go_roundw
      case rel =>
        obtain ⟨h1, h2, h3⟩ := Hx.out
        refine ⟨k + 1, (xs.set (k * 2 + 1) (.slice A7 (t.length + 2) c7)).set (k * 2) (.int .u8 99), ts.set k (List.replicate (t.length + 2) 99), Bt.set k (.slice A7 (t.length + 2) c7), by omega, by go_num, Lib.hid ⟨by rw [List.length_set, h1], by rw [List.length_set, h2], fun j hj2 => ?_⟩, ?_⟩
        · obtain ⟨f1, f2, f3⟩ := h3 j (by omega)
          refine ⟨by rw [List.getElem?_set_ne (by omega)]; exact f1, by rw [List.getElem?_set_ne (by omega)]; exact f2, ?_⟩
          rw [List.getElem?_set_ne (by omega), List.getElem?_set_ne (by omega)]
          exact f3
        · rw [Hset.out, List.append_assoc, List.cons_append, List.length_replicate]
          have e9 : bv (List.replicate (t.length + 2) 99) = List.replicate t.length (.int .u8 99) ++ bv [99, 99] := by rw [bv_nines, ← List.replicate_append_replicate]; rfl
          rw [e9]
          exact S9
      case measure => simp [intOf]; omega
    · go_wp2
      go_end0
      exact ⟨rfl, S.sub (.cons _ (List.sublist_append_right _ _))⟩
end Go.Proofs.Ytnchjfhmalbjoaa
/- RecordReads: the walk. -/
namespace Go.Proofs.Ytnchjfhmalbjoaa
open Go.RowKit
theorem scan_ok {w W : World} {v p : Value} {s : Sc} {Bs : List Value} {L : List Res} (hB : s.recs.length = Bs.length) (h : ∀ r, r ∈ scR v p s Bs → r ∈ L) (S : Held w W L) : RecsIn W v s.recs ∧ Rd W 1 p s.places.length (natCells s.places) := by
  refine ⟨recsIn_row (S.ok _ (h _ (List.mem_cons_self ..))) hB (fun i r B hr hb => ?_), Rd.of_own (S.ok (rowR 3 1 p s.places.length (natCells s.places)) (h _ (List.mem_cons_of_mem _ (List.mem_cons_self ..))))⟩
  exact Rd.of_own (S.ok (rowR 5 1 B r.2.length (bv r.2)) (h _ (List.mem_cons_of_mem _ (List.mem_cons_of_mem _ (bodiesR_mem _ _ i r B hr hb)))))
theorem texts_ok {w W : World} {v : Value} {ls : List (List UInt8)} {Bs : List Value} {L : List Res} (hl : ls.length = Bs.length) (S : Held w W L) (h0 : rowR 23 1 v ls.length Bs ∈ L) (hm : ∀ r, r ∈ textR ls Bs → r ∈ L) : Txs W v ls := by
  refine ⟨Bs, Rd.of_own (S.ok _ h0), fun i hi => ?_⟩
  have hB : Bs[i]? = some (Bs[i]'(by omega)) := List.getElem?_eq_getElem (by omega)
  exact ⟨_, hB, Rd.of_own (S.ok _ (hm _ (textR_mem ls Bs i _ _ (List.getElem?_eq_getElem hi) hB)))⟩
abbrev rX (g : Nat) (b : List UInt8) (A : Option Addr) (c : Nat) : Res := blkR g 25 #[.int .u8 (rK b : Int), .slice A (rB b).length c]
abbrev rU (b : List UInt8) (A : Option Addr) (c : Nat) : Res := rowR 5 1 (.slice A (rB b).length c) (rB b).length (bv (rB b))
abbrev rM (b : List UInt8) (gm cm : Nat) : Res := rowR 5 1 (.slice (some ⟨gm, 0, none⟩) (b.length + 2) cm) (b.length + 2) (bv (b ++ [165, 166]))
abbrev rSc (b : List UInt8) (Av : Option Addr) (cv : Nat) (Ap : Option Addr) (cp : Nat) (Bs : List Value) : List Res := scR (.slice Av (sc b).recs.length cv) (.slice Ap (sc b).places.length cp) (sc b) Bs
abbrev scA (b : List UInt8) (Av : Option Addr) (cv : Nat) (Ap : Option Addr) (cp : Nat) : Array Value := #[.slice Av (sc b).recs.length cv, .slice Ap (sc b).places.length cp, .int .i64 ((sc b).good : Int), .int .i64 (why b : Int)]
abbrev rG (g : Nat) (b : List UInt8) (Av : Option Addr) (cv : Nat) (Ap : Option Addr) (cp : Nat) : Res := blkR g 40 (scA b Av cv Ap cp)
abbrev rT (b : List UInt8) (kind : UInt8) (v : Value) (Bs : List Value) : List Res := rowR 23 1 v (wholeL b kind).length Bs :: textR (wholeL b kind) Bs
theorem samel_true (x y : Value) (L : List (List UInt8)) (w : World) (hx : Txs w x L) (hy : Txs w y L) :
    Calls Try.prog 29 #[x, y] w fun e w' => e = .returned (.bool true) ∧ Kp [] w w' := by
  have := samel_any x y L L w hx hy
  rwa [beq_self_eq_true] at this
theorem perm_spoil (a b c v p : Res) (t R : List Res) : (a :: b :: c :: v :: p :: (t ++ R)).Perm (v :: (t ++ (a :: b :: c :: p :: R))) := by
  have h1 : (a :: b :: c :: v :: p :: (t ++ R)).Perm (v :: (a :: b :: c :: p :: (t ++ R))) := List.perm_middle (l₁ := [a, b, c])
  have h2 : (a :: b :: c :: p :: (t ++ R)).Perm (t ++ (a :: b :: c :: p :: R)) := List.perm_append_comm_assoc [a, b, c, p] t R
  exact h1.trans (h2.cons v)
set_option maxRecDepth 100000 in
set_option maxHeartbeats 4000000 in
theorem reads_true (x : Value) (b : List UInt8) (kind : UInt8) (w : World) (hx : Rd w 1 x b.length (bv b)) (hn : b.length ≤ 1073741824) :
    Calls Try.prog 8 #[x, .int .u8 (kind.toNat : Int)] w fun e w' => e = .returned (.bool true) ∧ Kp [] w w' := by
  obtain ⟨A, c, rfl⟩ := rd_form hx
  have Hx := Lib.hid hx
  have hkd := kind.toNat_lt
  have hrk := rK_lt b
  clear hx
  go_enter Try.func8, Try.ntmps8
  go_wp2_with fail
  refine (lent07_any _ b b.length _ Hx.out (by omega)).mono ?_
  rintro e w1 ⟨gm, cm, rfl, o1, k1, f1⟩
  have S1 := Lib.hid ((Held.start w).rownew o1 k1 (fun g hg => by simp [Value.ownBlock] at hg; subst hg; exact f1))
  have RM := Lib.hid (fun (W : World) (h : Ow W 5 1 (.slice (some ⟨gm, 0, none⟩) (b.length + 2) cm) (b.length + 2) (bv (b ++ [165, 166]))) => lent_row (bs := b) rfl h)
  clear o1 k1 f1
  go_wp2_with fail
  refine (pread_any _ _ b _ (RM.out _ (S1.out.at_ (l1 := []))) (by omega)).mono ?_
  rintro e w2 ⟨u1, rfl, o2, k2, f2⟩
  obtain ⟨A1, c1, hu1, _, _⟩ := ow_form o2
  subst hu1
  have S2 := Lib.hid ((S1.out.rownew o2 k2 f2).newBlk 25 #[.int .u8 (rK b : Int), .slice A1 (rB b).length c1])
  clear o2 k2 f2
  go_wp2_with fail
  refine (rread_any _ _ b _ (rd_old Hx.out S2.out.k) (by omega)).mono ?_
  rintro e w3 ⟨u2, rfl, o3, k3, f3⟩
  obtain ⟨A2, c2, hu2, _, _⟩ := ow_form o3
  subst hu2
  have S3 := Lib.hid ((S2.out.rownew o3 k3 f3).newBlk 25 #[.int .u8 (rK b : Int), .slice A2 (rB b).length c2])
  clear o3 k3 f3
  go_wp2_with fail
  refine (scan_any _ _ b _ (RM.out _ (S3.out.at_ (l1 := [_, _, _, _]))) (by omega) (by omega)).mono ?_
  rintro e w4 ⟨v1, p1, Bs1, rfl, hB1, T4⟩
  have HB1 := Lib.hid hB1
  have S4 := Lib.hid (((S3.out.join T4).perm (List.Perm.append_left [_, _, _, _] (List.perm_append_comm (l₁ := [_])))))
  obtain ⟨Av1, cv1, hv1, _, _⟩ := ow_form (T4.at_ (l1 := []))
  obtain ⟨Ap1, cp1, hp1, _, _⟩ := ow_form (T4.at_ (l1 := [_]))
  subst hv1 hp1
  clear hB1 T4
  go_wp2_with fail
  refine (scan_any _ _ b _ (RM.out _ (S4.out.ok (rM b gm cm) (by simp))) (by omega) (by omega)).mono ?_
  rintro e w5 ⟨v2, p2, Bs2, rfl, hB2, T5⟩
  have HB2 := Lib.hid hB2
  have S5 := S4.out.join T5
  obtain ⟨Av2, cv2, hv2, _, _⟩ := ow_form (T5.at_ (l1 := []))
  obtain ⟨Ap2, cp2, hp2, _, _⟩ := ow_form (T5.at_ (l1 := [_]))
  subst hv2 hp2
  have S5 : Held w w5 (rX w3.heap.size b A2 c2 :: rU b A2 c2 :: rX w2.heap.size b A1 c1 :: rU b A1 c1 :: (rSc b Av1 cv1 Ap1 cp1 Bs1 ++ (rM b gm cm :: rSc b Av2 cv2 Ap2 cp2 Bs2))) := by
    simpa only [List.append_assoc, List.cons_append, List.nil_append] using S5
  have S6 := Lib.hid ((S5.newBlk 40 (scA b Av1 cv1 Ap1 cp1)).newBlk 40 (scA b Av2 cv2 Ap2 cp2))
  rw [World.size_alloc] at S6
  clear hB2 T5 S5 S4 S3 S2 S1
  go_wp2_with fail
  refine (rscan_any _ _ b _ (rd_old Hx.out S6.out.k) (by omega) (by omega)).mono ?_
  rintro e w6 ⟨v3, p3, Bs3, rfl, hB3, T6⟩
  have HB3 := Lib.hid hB3
  have S7 := S6.out.join T6
  obtain ⟨Av3, cv3, hv3, _, _⟩ := ow_form (T6.at_ (l1 := []))
  obtain ⟨Ap3, cp3, hp3, _, _⟩ := ow_form (T6.at_ (l1 := [_]))
  subst hv3 hp3
  have S7 : Held w w6 (rG (w5.heap.size + 1) b Av2 cv2 Ap2 cp2 :: rG w5.heap.size b Av1 cv1 Ap1 cp1 :: rX w3.heap.size b A2 c2 :: rU b A2 c2 :: rX w2.heap.size b A1 c1 :: rU b A1 c1 :: (rSc b Av1 cv1 Ap1 cp1 Bs1 ++ (rM b gm cm :: (rSc b Av2 cv2 Ap2 cp2 Bs2 ++ rSc b Av3 cv3 Ap3 cp3 Bs3)))) := by
    simpa only [List.append_assoc, List.cons_append, List.nil_append] using S7
  have S8 := Lib.hid (S7.newBlk 40 (scA b Av3 cv3 Ap3 cp3))
  clear hB3 T6 S7 S6
  go_wp2_with fail
  refine (whole_any _ _ b kind _ (RM.out _ (S8.out.ok (rM b gm cm) (by simp))) (by omega)).mono ?_
  rintro e w7 ⟨v4, Bs4, rfl, hB4, T7⟩
  have HB4 := Lib.hid hB4
  obtain ⟨Av4, cv4, hv4, _, _⟩ := ow_form (T7.at_ (l1 := []))
  subst hv4
  have S9 := Lib.hid (S8.out.join T7)
  clear hB4 T7 S8
  go_wp2_with fail
  refine (rwhole_any _ _ b kind _ (rd_old Hx.out S9.out.k) (by omega)).mono ?_
  rintro e w8 ⟨v5, Bs5, rfl, hB5, T8⟩
  have HB5 := Lib.hid hB5
  obtain ⟨Av5, cv5, hv5, _, _⟩ := ow_form (T8.at_ (l1 := []))
  subst hv5
  have X5 := Lib.hid (texts_ok hB5 T8 (List.mem_cons_self ..) (fun r hr => List.mem_cons_of_mem _ hr))
  have S10 : Held w w8 (rG w6.heap.size b Av3 cv3 Ap3 cp3 :: rG (w5.heap.size + 1) b Av2 cv2 Ap2 cp2 :: rG w5.heap.size b Av1 cv1 Ap1 cp1 :: rX w3.heap.size b A2 c2 :: rU b A2 c2 :: rX w2.heap.size b A1 c1 :: rU b A1 c1 :: (rSc b Av1 cv1 Ap1 cp1 Bs1 ++ (rM b gm cm :: (rSc b Av2 cv2 Ap2 cp2 Bs2 ++ (rSc b Av3 cv3 Ap3 cp3 Bs3 ++ rT b kind (.slice Av4 (wholeL b kind).length cv4) Bs4))))) := by
    have := (S9.out.join T8).sub (List.sublist_append_left _ _)
    simpa only [List.append_assoc, List.cons_append, List.nil_append] using this
  have S10 := Lib.hid S10
  clear hB5 T8 S9
  obtain ⟨q1, q2, _⟩ := Blk.c2 (S10.out.at_ (l1 := [_, _, _, _, _]))
  obtain ⟨q3, q4, _⟩ := Blk.c2 (S10.out.at_ (l1 := [_, _, _]))
  have hpn : (sc b).places.length ≤ 1073741824 := by
    have h1 := scN_places b b.length
    have h2 := sc_le b b.length
    unfold sc
    omega
  have R1 := Lib.hid (scan_ok HB1.out (fun r hr => by simp only [List.mem_cons, List.mem_append]; exact .inr (.inr (.inr (.inr (.inr (.inr (.inr (.inl hr)))))))) S10.out)
  have R3 := Lib.hid (scan_ok HB3.out (fun r hr => by simp only [List.mem_cons, List.mem_append]; exact .inr (.inr (.inr (.inr (.inr (.inr (.inr (.inr (.inr (.inr (.inl hr))))))))))) S10.out)
  have X4 := Lib.hid (texts_ok HB4.out S10.out (by simp only [rT, List.mem_cons, List.mem_append]; exact .inr (.inr (.inr (.inr (.inr (.inr (.inr (.inr (.inr (.inr (.inr (.inl rfl)))))))))))) (fun r hr => by simp only [rT, List.mem_cons, List.mem_append]; exact .inr (.inr (.inr (.inr (.inr (.inr (.inr (.inr (.inr (.inr (.inr (.inr (hr))))))))))))))
  go_wp2_with fail
  refine (same_true _ _ (rB b) _ _ _ (Rd.of_own (S10.out.at_ (l1 := [_, _, _, _, _, _]))) (Rd.of_own (S10.out.at_ (l1 := [_, _, _, _])))).mono ?_
  rintro e w' ⟨rfl, rfl⟩
  obtain ⟨d1, d2, d3, d4, _⟩ := Blk.c4 (S10.out.at_ (l1 := [_, _]))
  obtain ⟨e1, e2, e3, e4, _⟩ := Blk.c4 (S10.out.at_ (l1 := []))
  go_wp2_with (go_at_call 12; (with_reducible refine (num07_any _ _).mono ?_); rintro e w' ⟨rfl, rfl⟩)
  refine (samesc_true _ _ _ _ (sc b).recs (sc b).places _ _ _ _ _ R1.out.1 R3.out.1 R1.out.2 R3.out.2 hpn).mono ?_
  rintro e w9 ⟨rfl, k9⟩
  have S11 := Lib.hid (S10.out.kp k9)
  go_wp2_with fail
  refine (samel_true _ _ (wholeL b kind) _ (X4.out.kp0 k9) (X5.out.kp0 k9)).mono ?_
  rintro e w10 ⟨rfl, k10⟩
  have S12 := Lib.hid (S11.out.kp k10)
  clear S10 S11 q1 q2 q3 q4 d1 d2 d3 d4 e1 e2 e3 e4
  obtain ⟨q1, q2, _⟩ := Blk.c2 (S12.out.at_ (l1 := [_, _, _, _, _]))
  go_wp2_with (go_at_call 12; (with_reducible refine (num07_any _ _).mono ?_); rintro e w' ⟨rfl, rfl⟩)
  have hbody : (rB b).length ≤ 140737488355328 := by have := rB_le b; omega
  refine (over07_any _ (rB b).length _ _ (S12.out.at_ (l1 := [_, _, _, _, _, _])) hbody).mono ?_
  rintro e w11 ⟨rfl, o11, k11⟩
  have S13 : Held w w11 (rG w6.heap.size b Av3 cv3 Ap3 cp3 :: rG (w5.heap.size + 1) b Av2 cv2 Ap2 cp2 :: rG w5.heap.size b Av1 cv1 Ap1 cp1 :: rowR 25 2 (.slice Av1 (sc b).recs.length cv1) (sc b).recs.length (recCells (sc b).recs Bs1) :: rowR 3 1 (.slice Ap1 (sc b).places.length cp1) (sc b).places.length (natCells (sc b).places) :: (textR ((sc b).recs.map (·.2)) Bs1 ++ (rM b gm cm :: (rSc b Av2 cv2 Ap2 cp2 Bs2 ++ (rSc b Av3 cv3 Ap3 cp3 Bs3 ++ rT b kind (.slice Av4 (wholeL b kind).length cv4) Bs4))))) := by
    rw [← bodies_text]
    exact (S12.out.rowset (l1 := [_, _, _, _, _, _]) o11 k11).sub (.cons_cons _ (.cons_cons _ (.cons_cons _ (.cons _ (.cons _ (.cons _ (.cons _ (List.Sublist.refl _))))))))
  have S14 := Lib.hid (S13.perm (perm_spoil _ _ _ _ _ _ _))
  obtain ⟨d1, d2, d3, d4, _⟩ := Blk.c4 (S13.at_ (l1 := [_, _]))
  clear S13 S12 o11 k11 q1 q2
  have hsl : (sc b).recs.length ≤ b.length := sc_le b b.length
  go_wp2_with fail
  refine (spoil07_any _ (sc b).recs Bs1 _ HB1.out (fun r hr => by have := sc_body_le b b.length r hr; omega) (by omega) S14.out).mono ?_
  rintro e w12 ⟨rfl, S15⟩
  have S16 := Lib.hid S15
  clear S14 S15 d1 d2 d3 d4
  generalize w6.heap.size = g14 at *
  generalize w5.heap.size + 1 = g13 at *
  generalize w5.heap.size = g12 at *
  go_wp2
  go_loopw [19] (fun i wr => ∃ (k : Nat) (xs : List Value), k ≤ (sc b).places.length ∧ i = .int .i64 k ∧ Held w wr (rG g14 b Av3 cv3 Ap3 cp3 :: rG g13 b Av2 cv2 Ap2 cp2 :: rG g12 b Av1 cv1 Ap1 cp1 :: rowR 3 1 (.slice Ap1 (sc b).places.length cp1) (sc b).places.length xs :: (rM b gm cm :: (rSc b Av2 cv2 Ap2 cp2 Bs2 ++ (rSc b Av3 cv3 Ap3 cp3 Bs3 ++ rT b kind (.slice Av4 (wholeL b kind).length cv4) Bs4))))) (fun i _ => (sc b).places.length - (intOf i).toNat)
  case atStart => exact ⟨0, _, Nat.zero_le _, rfl, S16.out⟩
  case round =>
    clear S16
    obtain ⟨k, xs, hk, rfl, S⟩ := hrel
    obtain ⟨d1, d2, d3, d4, _⟩ := Blk.c4 (S.at_ (l1 := [_, _]))
    by_cases hlt : k < (sc b).places.length
    · obtain ⟨g, c', hv, _, _⟩ := ow_some (S.at_ (l1 := [_, _, _])) (by omega)
      have hxl := (S.at_ (l1 := [_, _, _])).1
      injection hv with hA hn1 hc
      subst hA
      have hc0 := (S.at_ (l1 := [_, _, _])).cellAt k (by omega)
      rw [List.getElem?_eq_getElem (by omega)] at hc0
      have hf0 := (S.at_ (l1 := [_, _, _])).frozenAt k
      have hlw := ow_lt (S.at_ (l1 := [_, _, _])) (g := g) rfl
      have S2 := Lib.hid (S.rowset (l1 := [_, _, _]) ((S.at_ (l1 := [_, _, _])).stored (g := g) k (.int .i64 99)).1 ((Kp.refl [g] wr).setCell (p := ⟨g, k, none⟩) (.inl (by simp)) (.int .i64 99)))
      clear S hn1 hc
      go_wp2
      go_roundw
      case rel => exact ⟨k + 1, _, by omega, by go_num, S2.out⟩
      case measure => simp [intOf]; omega
    · have S2 := Lib.hid (S.sub (.cons_cons _ (.cons_cons _ (.cons _ (.cons _ (List.Sublist.refl _))))))
      have Hwl : (wholeL b kind).length ≤ b.length := by
        unfold wholeL
        split
        · rw [List.length_map]; omega
        · simp
      have HbL : Hid (∀ t, t ∈ wholeL b kind → t.length ≤ b.length) := Lib.hid (by
        intro t ht
        unfold wholeL at ht
        split at ht
        · obtain ⟨r, hr, rfl⟩ := List.mem_map.1 ht
          exact sc_body_le b b.length r hr
        · cases ht)
      have S3 := Lib.hid (S2.out.perm (((List.Perm.of_eq (by simp only [List.append_assoc, List.cons_append, List.nil_append])).trans (List.perm_append_comm (l₁ := rG g14 b Av3 cv3 Ap3 cp3 :: rG g13 b Av2 cv2 Ap2 cp2 :: rM b gm cm :: (rSc b Av2 cv2 Ap2 cp2 Bs2 ++ rSc b Av3 cv3 Ap3 cp3 Bs3)) (l₂ := rT b kind (.slice Av4 (wholeL b kind).length cv4) Bs4)))))
      clear S S2
      have hke : k = (sc b).places.length := by omega
      subst hke
      go_wp2
      go_loopw [20] (fun i wr => ∃ (k : Nat) (ts : List (List UInt8)), k ≤ (wholeL b kind).length ∧ i = .int .i64 k ∧ Hid (ts.length = (wholeL b kind).length ∧ ∀ j, k ≤ j → ts[j]? = (wholeL b kind)[j]?) ∧ Held w wr (rowR 23 1 (.slice Av4 (wholeL b kind).length cv4) (wholeL b kind).length Bs4 :: (textR ts Bs4 ++ (rG g14 b Av3 cv3 Ap3 cp3 :: rG g13 b Av2 cv2 Ap2 cp2 :: rM b gm cm :: (rSc b Av2 cv2 Ap2 cp2 Bs2 ++ rSc b Av3 cv3 Ap3 cp3 Bs3))))) (fun i _ => (wholeL b kind).length - (intOf i).toNat)
      case atStart => exact ⟨0, wholeL b kind, Nat.zero_le _, rfl, Lib.hid ⟨rfl, fun _ _ => rfl⟩, S3.out⟩
      case round =>
        rename_i wr0 _
        clear S3 d1 d2 d3 d4
        obtain ⟨q, ts, hq, rfl, Ht, S⟩ := hrel
        by_cases hlt2 : q < (wholeL b kind).length
        · obtain ⟨h1, h2⟩ := Ht.out
          have hB : Bs4[q]? = some (Bs4[q]'(by rw [← HB4.out]; exact hlt2)) := List.getElem?_eq_getElem _
          have htq := h2 q (Nat.le_refl _)
          rw [List.getElem?_eq_getElem hlt2] at htq
          have hbl := HbL.out _ (List.getElem_mem hlt2)
          generalize Bs4[q]'_ = B at *
          generalize (wholeL b kind)[q] = t at *
          obtain ⟨l1, l2, e, hset⟩ := textR_split ts Bs4 q t B htq hB
          have Hset := Lib.hid hset
          obtain ⟨g, c', hv, _, _⟩ := ow_some (S.at_ (l1 := [])) (by omega)
          injection hv with hA hn1 hc
          obtain ⟨av, hav⟩ : ∃ av, Av4 = some av := ⟨_, hA⟩
          subst hav
          clear hA hn1 hc
          have hcell : wr.cell? (av.add q) = some B := by
            obtain ⟨_, A', c', e, _, _, _, h4⟩ := Rd.of_own (S.at_ (l1 := []))
            cases e
            exact h4 av rfl q B hB
          rw [e, List.append_assoc, List.cons_append] at S
          have S4 : Hid (Held w wr ((rowR 23 1 (.slice (some av) (wholeL b kind).length cv4) (wholeL b kind).length Bs4 :: l1) ++ rowR 5 1 B t.length (bv t) :: (l2 ++ (rG g14 b Av3 cv3 Ap3 cp3 :: rG g13 b Av2 cv2 Ap2 cp2 :: rM b gm cm :: (rSc b Av2 cv2 Ap2 cp2 Bs2 ++ rSc b Av3 cv3 Ap3 cp3 Bs3))))) := Lib.hid S
          have HBq := Lib.hid hB
          have Hl := Lib.hid h1
          have Hj := Lib.hid h2
          clear S h1 h2 htq e hset hB
          go_wp2_with fail
          refine (over07_any _ t.length _ _ S4.out.at_ (by omega)).mono ?_
          rintro e w2 ⟨rfl, o2, k2⟩
          have S5 := Lib.hid (S4.out.rowset o2 k2)
          clear o2 k2
          go_wp2
          go_roundw
          case rel =>
            refine ⟨q + 1, ts.set q (List.replicate t.length 99), by omega, by go_num, Lib.hid ⟨by rw [List.length_set]; exact Hl.out, fun j hj => by rw [List.getElem?_set_ne (by omega)]; exact Hj.out j (by omega)⟩, ?_⟩
            have hs := Hset.out (List.replicate t.length 99) B
            have hsame : Bs4.set q B = Bs4 := by
              apply List.ext_getElem?
              intro j
              by_cases hjq : q = j
              · subst hjq
                rw [List.getElem?_set_self (List.getElem?_eq_some_iff.1 HBq.out).1, HBq.out]
              · rw [List.getElem?_set_ne hjq]
            rw [hsame] at hs
            rw [hs, List.append_assoc, List.cons_append, List.length_replicate, bv_nines]
            exact S5.out
          case measure => simp [intOf]; omega
        · have S4 := Lib.hid (S.sub (.cons _ (List.sublist_append_right _ _)))
          clear S
          have R2 := Lib.hid (scan_ok HB2.out (fun r hr => by simp only [List.mem_cons, List.mem_append]; exact .inr (.inr (.inr (.inl hr)))) S4.out)
          have R3 := Lib.hid (scan_ok HB3.out (fun r hr => by simp only [List.mem_cons, List.mem_append]; exact .inr (.inr (.inr (.inr (hr))))) S4.out)
          obtain ⟨d1, d2, d3, d4, _⟩ := Blk.c4 (S4.out.at_ (l1 := [_]))
          obtain ⟨e1, e2, e3, e4, _⟩ := Blk.c4 (S4.out.at_ (l1 := []))
          have hqe : q = (wholeL b kind).length := by omega
          subst hqe
          go_wp2_with fail
          refine (left07_any gm cm b.length _ b _ (S4.out.at_ (l1 := [_, _])) (rd_old Hx.out S4.out.k) (by omega)).mono ?_
          rintro e w' ⟨rfl, rfl⟩
          go_wp2_with fail
          refine (samesc_true _ _ _ _ (sc b).recs (sc b).places _ _ _ _ _ R2.out.1 R3.out.1 R2.out.2 R3.out.2 hpn).mono ?_
          rintro e w9 ⟨rfl, k9⟩
          go_wp2_with (go_at_call 18; (with_reducible refine (known07_true _).mono ?_); rintro e w10 ⟨rfl, k10⟩)
          go_ret
          exact ⟨rfl, (S4.out.k.trans k9 (by simp)).trans k10 (by simp)⟩
theorem u8_wf {a : Int} (h : (Lit.int .u8 a).wf = true) : ∃ n : Nat, a = (n : Int) ∧ n < 256 := by
  have h2 : 0 ≤ a ∧ a ≤ 255 := by simpa [Lit.wf, IntKind.min, IntKind.max, IntKind.signed, IntKind.bits] using h
  exact ⟨a.toNat, by omega, by omega⟩
theorem reads_upto (w : World) (x : Value) (b : List UInt8) (hx : Rd w 1 x b.length (bv b)) (hb : b.length ≤ 1048576) (k : Nat) (hk : k < 256) :
    Calls Try.prog 8 #[x, .int .u8 (k : Int)] w fun e w' => e = .returned (.bool true) ∧ Kp [] w w' := by
  have := reads_true x b (UInt8.ofNat k) w hx (by omega)
  rwa [UInt8.toNat_ofNat', Nat.mod_eq_of_lt (by omega)] at this
end Go.Proofs.Ytnchjfhmalbjoaa
