/- A region that draws its order, operation by operation: what each leaves in its slot is told by a property that new memory does not disturb; each operation is walked once, from the properties of those that it waits for; whatever order is picked, all properties hold at the end. For regions that only read, make memory, and call what turns nothing old. -/
import Derived.Test.YtgldgkdnnimglaaLex
namespace Go.Proofs.Ytgldgkdnnimglaa

section
variable {P : Program} {ops : Array Oper} {Q : Exit → Act → World → Prop}

/-- The frame with the values put, from number k on. -/
def putAll (vs : Nat → Value) : List Oper → Nat → Act → Act
  | [], _, a => a
  | o :: l, k, a => putAll vs l (k + 1) (a.put o.dst (vs k))
def upd (vs : Nat → Value) (i : Nat) (v : Value) : Nat → Value := fun k => if k = i then v else vs k
/-- No two write one slot. -/
def apartB : List Oper → Bool
  | [] => true
  | o :: l => (match o.dst with | none => true | some d => l.all fun x => x.dst != some d) && apartB l
theorem putAll_late (vs : Nat → Value) (i : Nat) (v : Value) : ∀ (l : List Oper) (k : Nat) (a : Act), i < k → putAll (upd vs i v) l k a = putAll vs l k a
  | [], _, _, _ => rfl
  | o :: l, k, a, h => by
    show putAll (upd vs i v) l (k + 1) (a.put o.dst (upd vs i v k)) = putAll vs l (k + 1) (a.put o.dst (vs k))
    rw [putAll_late vs i v l (k + 1) _ (by omega)]
    congr 2
    simp [upd, show k ≠ i by omega]
theorem putAll_put (vs : Nat → Value) (x : Option Tmp) (v : Value) : ∀ (l : List Oper) (k : Nat) (a : Act), (∀ d, x = some d → ∀ o ∈ l, o.dst ≠ some d) → (putAll vs l k a).put x v = putAll vs l k (a.put x v)
  | [], _, _, _ => rfl
  | o :: l, k, a, h => by
    show (putAll vs l (k + 1) (a.put o.dst (vs k))).put x v = putAll vs l (k + 1) ((a.put x v).put o.dst (vs k))
    rw [putAll_put vs x v l (k + 1) _ (fun d hd o ho => h d hd o (List.mem_cons_of_mem _ ho)), Act.put_comm a (x := o.dst) (y := x) (vs k) v]
    intro d hd hx
    exact h d hx o (by simp) hd
theorem put_put (a : Act) (x : Option Tmp) (v u : Value) : (a.put x v).put x u = a.put x u := by
  cases x with
  | none => rfl
  | some d => simp [Act.put]
theorem putAll_upd (vs : Nat → Value) (i : Nat) (v : Value) : ∀ (l : List Oper) (k : Nat) (a : Act) (o : Oper), apartB l = true → k ≤ i → l[i - k]? = some o → (putAll vs l k a).put o.dst v = putAll (upd vs i v) l k a
  | [], _, _, _, _, _, h => by simp at h
  | x :: l, k, a, o, hB, hk, h => by
    simp only [apartB, Bool.and_eq_true] at hB
    by_cases e : k = i
    · subst e
      rw [Nat.sub_self] at h
      obtain rfl : x = o := by simpa using h
      show (putAll vs l (k + 1) (a.put x.dst (vs k))).put x.dst v = putAll (upd vs k v) l (k + 1) (a.put x.dst (upd vs k v k))
      rw [putAll_late vs k v l (k + 1) _ (by omega), putAll_put vs x.dst v l (k + 1) _ ?_, put_put]
      · simp [upd]
      · intro d hd o ho hod
        have h1 := hB.1
        rw [hd] at h1
        have := (List.all_eq_true.1 h1) o ho
        rw [hod] at this
        simp at this
    · have e2 : i - k = (i - (k + 1)) + 1 := by omega
      rw [e2, List.getElem?_cons_succ] at h
      show (putAll vs l (k + 1) (a.put x.dst (vs k))).put o.dst v = putAll (upd vs i v) l (k + 1) (a.put x.dst (upd vs i v k))
      rw [putAll_upd vs i v l (k + 1) _ o hB.2 (by omega) h]
      congr 2
      simp [upd, e]
def slotOf (a : Act) : Option Tmp → Value
  | none => undef
  | some d => a.tmps.getD d undef
def at0 (a : Act) (l : List Oper) : Nat → Value := fun k => match l[k]? with | none => undef | some o => slotOf a o.dst
theorem put_slot (a : Act) (x : Option Tmp) : a.put x (slotOf a x) = a := by
  cases x with
  | none => rfl
  | some d =>
    have : a.tmps.setIfInBounds d (a.tmps.getD d undef) = a.tmps := by
      apply Array.ext_getElem?
      intro i
      rw [Array.getElem?_setIfInBounds]
      split
      · rename_i h; subst h
        by_cases hl : d < a.tmps.size
        · simp [hl]
        · simp [hl]
      · rfl
    simp only [Act.put, slotOf]
    first | rw [this] | (simp only [this])
theorem putAll_at (a : Act) : ∀ (l : List Oper) (k : Nat) (vs : Nat → Value), (∀ j o, l[j]? = some o → vs (k + j) = slotOf a o.dst) → putAll vs l k a = a
  | [], _, _, _ => rfl
  | o :: l, k, vs, h => by
    have h0 := h 0 o rfl
    show putAll vs l (k + 1) (a.put o.dst (vs k)) = a
    rw [Nat.add_zero] at h0
    rw [h0, put_slot]
    exact putAll_at a l (k + 1) vs (fun j x hx => by rw [show k + 1 + j = k + (j + 1) from by omega]; exact h (j + 1) x (by simpa using hx))

/-- Each waits for earlier ones alone, and has no guard. -/
def earlierB : List Oper → Nat → Bool
  | [], _ => true
  | o :: l, k => (o.after.all fun e => decide (e.on < k)) && o.guard.isNone && earlierB l (k + 1)
theorem earlierB_spec : ∀ (l : List Oper) (k i : Nat) (o : Oper), earlierB l k = true → l[i]? = some o → (∀ e ∈ o.after, e.on < k + i) ∧ o.guard = none
  | [], _, _, _, _, h => by simp at h
  | x :: l, k, i, o, hB, h => by
    simp only [earlierB, Bool.and_eq_true] at hB
    rcases i with _ | i
    · obtain rfl : x = o := by simpa using h
      refine ⟨fun e he => ?_, by simpa using hB.1.2⟩
      have := (Array.all_eq_true_iff_forall_mem.1 hB.1.1) e he
      simpa using this
    · have := earlierB_spec l (k + 1) i o hB.2 (by simpa using h)
      exact ⟨fun e he => by have := this.1 e he; omega, this.2⟩

/-- What is to be shown of each operation. -/
def InvStep (P : Program) (Q : Exit → Act → World → Prop) (PV : Nat → Value → World → Prop) (W0 : World) (fr : (Nat → Value) → Act) (o : Oper) (i : Nat) : Prop :=
  ∀ (vs : Nat → Value) (A : Act) (W : World), fr vs = A → Kp [] W0 W → (∀ j, waitsB .any o j = true → PV j (vs j) W) →
    ∀ K : Act → World → Prop, (∀ v W', Kp [] W W' → PV i v W' → K (A.put o.dst v) W') → o.wp P A W K (Qn Q)
def InvSteps (P : Program) (Q : Exit → Act → World → Prop) (PV : Nat → Value → World → Prop) (W0 : World) (fr : (Nat → Value) → Act) : List Oper → Nat → Prop
  | [], _ => True
  | o :: l, i => InvStep P Q PV W0 fr o i ∧ InvSteps P Q PV W0 fr l (i + 1)
theorem InvSteps.at_ {PV : Nat → Value → World → Prop} {W0 : World} {fr : (Nat → Value) → Act} : ∀ {l : List Oper} {k : Nat}, InvSteps P Q PV W0 fr l k → ∀ {i o}, l[i]? = some o → InvStep P Q PV W0 fr o (k + i)
  | [], _, _, _, _, h => by simp at h
  | x :: l, k, hs, i, o, h => by
    rcases i with _ | i
    · obtain rfl : x = o := by simpa using h
      exact hs.1
    · have := hs.2.at_ (i := i) (o := o) (by simpa using h)
      rwa [show k + 1 + i = k + (i + 1) from by omega] at this

theorem inv_any {PV : Nat → Value → World → Prop} {W0 : World} {a0 : Act} {l : List Oper} (hst : ∀ i v W W', PV i v W → Kp [] W W' → PV i v W') (hap : apartB l = true) (hea : earlierB l 0 = true)
    (hs : InvSteps P Q PV W0 (fun vs => putAll vs l 0 a0) l 0)
    (hend : ∀ vs W, Kp [] W0 W → (∀ i, i < l.length → PV i (vs i) W) → Q .normal (putAll vs l 0 a0) W) :
    ∀ (fuel : Nat) (listed : Array Bool) (vs : Nat → Value) (W : World), listed.size = l.length → (listed.toList.filter (fun b => !b)).length = fuel → Kp [] W0 W → (∀ i, listed.getD i false = true → PV i (vs i) W) →
      wpAny P .any l.toArray Q fuel listed (putAll vs l 0 a0) W := by
  have all_of : ∀ (listed : Array Bool), listed.size = l.length → Region.ready .any l.toArray listed = [] → ∀ i, i < l.length → listed.getD i false = true := by
    intro listed hsz hr i
    induction i using Nat.strongRecOn with
    | _ i ih =>
      intro hi
      cases hl : listed.getD i false with
      | true => rfl
      | false =>
        exfalso
        have hlt : i < listed.size := by omega
        have hmem : i ∈ Region.ready .any l.toArray listed := mem_ready.2 ⟨by simp [hlt] at hl ⊢; exact hl, l[i], by simp [hi], fun e he _ => by
          have := (earlierB_spec l 0 i l[i] hea (by simp [hi])).1 e he
          exact ih e.on (by omega) (by omega)⟩
        rw [hr] at hmem; cases hmem
  have hnil : ∀ (listed : Array Bool) vs W, listed.size = l.length → Kp [] W0 W → (∀ i, listed.getD i false = true → PV i (vs i) W) → Region.ready .any l.toArray listed = [] → Q .normal (putAll vs l 0 a0) W :=
    fun listed vs W hsz hk hp hr => hend vs W hk (fun i hi => hp i (all_of listed hsz hr i hi))
  intro fuel
  induction fuel with
  | zero =>
    intro listed vs W hsz hf hk hp
    have hr : Region.ready .any l.toArray listed = [] := by
      refine List.eq_nil_iff_forall_not_mem.2 fun i hi => ?_
      have h0 := (mem_ready.1 hi).1
      obtain ⟨_, o, ho, _⟩ := mem_ready.1 hi
      have hlt : i < listed.size := by
        have := (Array.getElem?_eq_some_iff.1 ho).1
        simp at this; omega
      have : listed[i] ∈ listed.toList.filter (fun b => !b) := by
        rw [List.mem_filter]
        simp [hlt] at h0
        refine ⟨by simp, by simp [h0]⟩
      rw [List.eq_nil_of_length_eq_zero hf] at this
      cases this
    exact ⟨hr, hnil listed vs W hsz hk hp hr⟩
  | succ fuel ih =>
    intro listed vs W hsz hf hk hp
    refine ⟨hnil listed vs W hsz hk hp, fun i hi => ?_⟩
    obtain ⟨h0, o, ho, hall⟩ := mem_ready.1 hi
    have hol : l[i]? = some o := by simpa using ho
    have hlt : i < listed.size := by
      have := (List.getElem?_eq_some_iff.1 hol).1
      omega
    have hgd := (earlierB_spec l 0 i o hea hol).2
    refine wpOp_n ?_
    unfold wpOp
    simp only [ho]
    rw [if_pos (by simp [Region.wanted, hgd])]
    refine .inl ?_
    have hstep := hs.at_ hol
    rw [Nat.zero_add] at hstep
    refine hstep vs _ W rfl hk (fun j hj => by obtain ⟨e, he, hb, rfl⟩ := waitsB_spec hj; exact hp e.on (hall e he hb)) _ fun v W' hk' hv => ?_
    rw [putAll_upd vs i v l 0 a0 o hap (Nat.zero_le _) (by simpa using hol)]
    refine ih _ _ W' (by simpa using hsz) ?_ (hk.trans hk' (by simp)) (fun j hj => ?_)
    · simp [hlt] at h0
      have h1 : listed.toList = listed.toList.take i ++ false :: listed.toList.drop (i + 1) := by
        rw [← h0]
        have := List.take_append_drop i listed.toList
        rw [List.drop_eq_getElem_cons (by simpa using hlt)] at this
        simpa using this.symm
      have h2 : (listed.setIfInBounds i true).toList = listed.toList.take i ++ true :: listed.toList.drop (i + 1) := by
        rw [Array.toList_setIfInBounds]
        conv => lhs; rw [h1]
        rw [List.set_append_right _ _ (by simp; omega)]
        simp [Nat.min_eq_left (Nat.le_of_lt hlt)]
      rw [h1] at hf
      rw [h2]
      simp only [List.filter_append, List.filter_cons, List.length_append] at hf ⊢
      simp at hf ⊢
      omega
    · by_cases e : i = j
      · subst e; simpa [upd] using hv
      · rw [getD_set_ne false e] at hj
        simp only [upd, show j ≠ i from fun h => e h.symm, if_false]
        exact hst j _ W W' (hp j hj) hk'

/-- The region's rule. -/
theorem wp_region_inv {id : Nat} {a : Act} {w : World} {l : List Oper} (PV : Nat → Value → World → Prop) (hm : P.follows .mixedOrders = true) (hap : apartB l = true) (hea : earlierB l 0 = true)
    (hst : ∀ i v W W', PV i v W → Kp [] W W' → PV i v W')
    (hs : InvSteps P Q PV w.drew (fun vs => putAll vs l 0 a) l 0)
    (hend : ∀ vs W, Kp [] w.drew W → (∀ i, i < l.length → PV i (vs i) W) → Q .normal (putAll vs l 0 a) W) : (Code.region id l.toArray true).wp P Q a w := by
  refine wp_region_any hm ?_
  have h := inv_any (P := P) (Q := Q) hst hap hea hs hend l.length (Array.replicate l.length false) (at0 a l) w.drew (by simp) (by simp) (Kp.refl _ _) (fun i hi => by
    simp [Array.getElem?_replicate] at hi
    split at hi <;> simp at hi)
  rw [putAll_at a l 0 (at0 a l) (fun j o ho => by simp [at0, ho])] at h
  simpa using h
/-- What a slot holds behind all. -/
def evA (vs : Nat → Value) : List Oper → Nat → Nat → Option Value
  | [], _, _ => none
  | o :: l, k, d => if o.dst = some d then some (vs k) else evA vs l (k + 1) d
theorem put_size (a : Act) (x : Option Tmp) (v : Value) : (a.put x v).tmps.size = a.tmps.size := by cases x <;> simp [Act.put]
theorem putAll_eval (vs : Nat → Value) : ∀ (l : List Oper) (k : Nat) (a : Act) (d : Nat), d < a.tmps.size → apartB l = true → (putAll vs l k a).eval (.tmp d) = (evA vs l k d).getD (a.eval (.tmp d))
  | [], _, _, _, _, _ => rfl
  | o :: l, k, a, d, hd, hB => by
    show (putAll vs l (k + 1) (a.put o.dst (vs k))).eval (.tmp d) = _
    simp only [apartB, Bool.and_eq_true] at hB
    rw [putAll_eval vs l (k + 1) _ d (by rw [put_size]; exact hd) hB.2]
    rw [show evA vs (o :: l) k d = (if o.dst = some d then some (vs k) else evA vs l (k + 1) d) from rfl]
    by_cases e : o.dst = some d
    · rw [if_pos e]
      have hn : evA vs l (k + 1) d = none := by
        have h1 := hB.1
        rw [e] at h1
        have : ∀ (l : List Oper) (k : Nat), (∀ x ∈ l, x.dst ≠ some d) → evA vs l k d = none := by
          intro l
          induction l with
          | nil => intro _ _; rfl
          | cons x l ih =>
            intro k h
            unfold evA
            rw [if_neg (h x (by simp))]
            exact ih (k + 1) (fun y hy => h y (by simp [hy]))
        refine this l (k + 1) fun x hx hxd => ?_
        have := (List.all_eq_true.1 h1) x hx
        rw [hxd] at this
        simp at this
      rw [hn, e]
      simp [Act.put, Act.eval, hd]
    · rw [if_neg e]
      congr 1
      cases ho : o.dst with
      | none => rfl
      | some d' =>
        have hne : d' ≠ d := fun h => e (by rw [ho, h])
        simp [Act.put, Act.eval, Array.getElem?_setIfInBounds_ne hne]
theorem eval_of {vs : Nat → Value} {l : List Oper} {a A : Act} {d : Nat} {X : Value} (hA : (fun vs => putAll vs l 0 a) vs = A) (hB : apartB l = true) (hd : d < a.tmps.size) (h : (evA vs l 0 d).getD (a.eval (.tmp d)) = X) : A.eval (.tmp d) = X := by
  subst hA
  show (putAll vs l 0 a).eval _ = X
  rw [putAll_eval vs l 0 a d hd hB, h]
/-- A slot, as the walk's steps spell it. -/
theorem slot_is {vs : Nat → Value} {l : List Oper} {a A : Act} {d : Nat} {X : Value} (hA : (fun vs => putAll vs l 0 a) vs = A) (hB : apartB l = true) (hd : d < a.tmps.size) (h : (evA vs l 0 d).getD (a.eval (.tmp d)) = X) : A.tmps[d]?.getD undef = X := by
  have := eval_of hA hB hd h
  simpa [Act.eval] using this
end
end Go.Proofs.Ytgldgkdnnimglaa
