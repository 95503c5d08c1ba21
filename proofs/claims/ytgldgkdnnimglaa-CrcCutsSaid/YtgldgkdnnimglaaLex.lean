/- A region that draws its order: ONE walk, in the order of the text. An operation is QUIET if it yields one value in every world that meets S (a copy, an address, arithmetic, a load of a cell that S names); all others are EFFECTS: each waits for the one before it. Then every order that the tape may pick comes to what the order of the text comes to; S is shown anew behind each effect but the last. -/
import Derived.Test.YtgldgkdnnimglaaMem
import Derived.OrdersHeld
namespace Go.Proofs.Ytgldgkdnnimglaa

section
variable {P : Program} {ops : Array Oper} {Q : Exit → Act → World → Prop} {md : Region.Mode} {S : World → Prop} {qf lst : Nat → Bool}

/-- The post with no way out but the normal one. -/
def Qn (Q : Exit → Act → World → Prop) : Exit → Act → World → Prop := fun e a w => e = .normal ∧ Q .normal a w

/-- Whatever order is picked from here on: a quiet operation yields in every world of S; behind an effect S holds as long as anything is left. -/
def wpMix (P : Program) (md : Region.Mode) (ops : Array Oper) (Q : Exit → Act → World → Prop) (S : World → Prop) (qf lst : Nat → Bool) : Nat → Array Bool → Act → World → Prop
  | 0, listed, a, w => Region.ready md ops listed = [] ∧ Q .normal a w
  | fuel + 1, listed, a, w =>
    (Region.ready md ops listed = [] → Q .normal a w) ∧
    ∀ i ∈ Region.ready md ops listed, ∀ o, ops[i]? = some o →
      if qf i = true then ∃ v, YieldsIf P ops S o v a ∧ wpMix P md ops Q S qf lst fuel (listed.setIfInBounds i true) (a.put o.dst v) w
      else wpOp P ops (Qn Q) i (fun a' w' => (lst i = false → S w') ∧ wpMix P md ops Q S qf lst fuel (listed.setIfInBounds i true) a' w') a w

theorem ready_some {i : Nat} {listed : Array Bool} (h : i ∈ Region.ready md ops listed) : ∃ o, ops[i]? = some o := by
  obtain ⟨_, o, ho, _⟩ := mem_ready.1 h
  exact ⟨o, ho⟩

theorem wpOp_n {i : Nat} {a : Act} {w : World} {K : Act → World → Prop} (h : wpOp P ops (Qn Q) i K a w) : wpOp P ops Q i K a w := by
  unfold wpOp at *
  split
  · rename_i ho; simp only [ho] at h; exact h
  · rename_i o ho
    simp only [ho] at h
    split
    · rename_i hw
      simp only [hw, if_true] at h
      rcases h with h | ⟨_, _, _, h, _⟩
      · left
        unfold Oper.wp at *
        generalize (execOp a.eval o).run P w = r at *
        cases r with
        | ok n w' =>
          cases n <;> simp only [Oper.upon] at h ⊢ <;> try exact h
          case enter f args =>
            refine Calls.mono h fun e w'' he => ?_
            cases e with
            | returned u => exact he
            | panicked c => cases he.1
            | outgrown => obtain ⟨_, _, he, _⟩ := he; cases he
        | halt x w' =>
          cases x <;> simp only [Oper.upon] at h ⊢
          cases h.1
      · cases h
    · rename_i hw; simp only [hw] at h; exact h

def Closed (md : Region.Mode) (ops : Array Oper) (listed : Array Bool) : Prop := ∀ j oj, ops[j]? = some oj → listed.getD j false = true → ∀ e ∈ oj.after, Region.binds md e = true → listed.getD e.on false = true

theorem Closed.add {listed : Array Bool} {j : Nat} (h : Closed md ops listed) (hj : j ∈ Region.ready md ops listed) : Closed md ops (listed.setIfInBounds j true) := by
  intro k ok hk hl e he hb
  by_cases hkj : j = k
  · subst hkj
    obtain ⟨_, o', ho', hall⟩ := mem_ready.1 hj
    obtain rfl : ok = o' := by rw [hk] at ho'; exact Option.some.inj ho'
    exact getD_set_true (hall e he hb)
  · rw [getD_set_ne false hkj] at hl
    exact getD_set_true (h k ok hk hl e he hb)

/-- Number j comes last, whatever the order: what it waits for, and what that waits for, is all the rest. -/
def LastIs (md : Region.Mode) (ops : Array Oper) (lst : Nat → Bool) : Prop :=
  ∀ j oj, lst j = true → ops[j]? = some oj → ∀ listed : Array Bool, Closed md ops listed → (∀ e ∈ oj.after, Region.binds md e = true → listed.getD e.on false = true) → ∀ i, i < ops.size → i ≠ j → listed.getD i false = true

theorem LastIs.none_left {j : Nat} {oj : Oper} {listed : Array Bool} (hl : LastIs md ops lst) (hlj : lst j = true) (hj : ops[j]? = some oj) (hsz : listed.size = ops.size) (hcl : Closed md ops listed)
    (hall : ∀ e ∈ oj.after, Region.binds md e = true → listed.getD e.on false = true) : ∀ i, i ≠ j → i ∉ Region.ready md ops listed := by
  intro i hij hr
  obtain ⟨h0, oi, hoi, _⟩ := mem_ready.1 hr
  have hlo : i < ops.size := (Array.getElem?_eq_some_iff.1 hoi).1
  have h1 := hl j oj hlj hj listed hcl hall i hlo hij
  have hlt : i < listed.size := by rw [hsz]; exact hlo
  simp [hlt] at h0 h1
  rw [h0] at h1; cases h1

theorem any_of_mix (hl : LastIs md ops lst) : ∀ (fuel : Nat) (listed : Array Bool) (a : Act) (w : World), listed.size = ops.size → Closed md ops listed → (S w ∨ Region.ready md ops listed = []) → wpMix P md ops Q S qf lst fuel listed a w → wpAny P md ops Q fuel listed a w
  | 0, _, _, _, _, _, _, h => h
  | fuel + 1, listed, a, w, hsz, hcl, hS, h => ⟨h.1, fun i hi => by
      obtain ⟨o, ho⟩ := ready_some hi
      have h2 := h.2 i hi o ho
      have hSw : S w := hS.resolve_right (fun e => by rw [e] at hi; cases hi)
      have hsz' : (listed.setIfInBounds i true).size = ops.size := by rw [Array.size_setIfInBounds, hsz]
      split at h2
      · obtain ⟨v, hy, hm⟩ := h2
        exact hy.wpOp ho hSw (any_of_mix hl fuel _ _ _ hsz' (hcl.add hi) (.inl hSw) hm)
      · refine wpOp_n (wpOp_mono (fun a' w' ⟨h3, h4⟩ => any_of_mix hl fuel _ a' w' hsz' (hcl.add hi) ?_ h4) h2)
        cases hli : lst i with
        | false => exact .inl (h3 hli)
        | true =>
          right
          obtain ⟨_, o', ho', hall⟩ := mem_ready.1 hi
          obtain rfl : o = o' := by rw [ho] at ho'; exact Option.some.inj ho'
          refine List.eq_nil_iff_forall_not_mem.2 fun k hk => ?_
          by_cases hki : k = i
          · subst hki
            have := (mem_ready.1 hk).1
            have hlt : k < listed.size := by rw [hsz]; exact (Array.getElem?_eq_some_iff.1 ho).1
            simp [hlt] at this
          · exact LastIs.none_left hl hli ho hsz' (hcl.add hi) (fun e he hb => getD_set_true (hall e he hb)) k hki hk⟩

theorem not_wait {i : Nat} {listed : Array Bool} {oj : Oper} (hr : i ∈ Region.ready md ops listed) (hall : ∀ e ∈ oj.after, Region.binds md e = true → listed.getD e.on false = true) :
    ∀ e ∈ oj.after, Region.binds md e = true → e.on ≠ i := fun e he hb heq => by
  have h1 := hall e he hb
  have h0 := (mem_ready.1 hr).1
  rw [heq] at h1
  rcases Nat.lt_or_ge i listed.size with h' | h'
  · simp [h'] at h0 h1; rw [h0] at h1; cases h1
  · simp [Array.getElem?_eq_none h'] at h1

theorem YieldsIf.putBack {oi oj : Oper} {v : Value} {a : Act} {u : Value} (hap : oi.apart ops oj = true) (hsj : ∀ cs b, oj.op ≠ .select cs b) (h : YieldsIf P ops S oj u (a.put oi.dst v)) : YieldsIf P ops S oj u a := by
  obtain ⟨h1, _, _⟩ := Oper.apart_spec hap
  unfold YieldsIf at *
  rw [execOp_put oj hsj a oi.dst v h1, wanted_put oj a oi.dst v h1] at h
  exact h
theorem YieldsIf.putOn {oi oj : Oper} {v : Value} {a : Act} {u : Value} (hap : oi.apart ops oj = true) (hsi : ∀ cs b, oi.op ≠ .select cs b) (h : YieldsIf P ops S oi v a) : YieldsIf P ops S oi v (a.put oj.dst u) := by
  obtain ⟨_, _, h3⟩ := Oper.apart_spec hap
  exact YieldsIf.of_same h (execOp_put oi hsi a oj.dst u h3) (wanted_put oi a oj.dst u h3)

/-- Q on the frame with oi's value put: oj is carried out before it. -/
theorem wpOp_before {j : Nat} {oi oj : Oper} {v : Value} (hj : ops[j]? = some oj) (hap : oi.apart ops oj = true)
    (hsi : ∀ cs b, oi.op ≠ .select cs b) (hsj : ∀ cs b, oj.op ≠ .select cs b) {K : Act → World → Prop} {a : Act} {w : World}
    (hy : YieldsIf P ops S oi v a) (h : wpOp P ops (Qn Q) j K (a.put oi.dst v) w) :
    wpOp P ops (Qn Q) j (fun a' w' => YieldsIf P ops S oi v a' ∧ K (a'.put oi.dst v) w') a w :=  by
  obtain ⟨h1, h2, h3⟩ := Oper.apart_spec hap
  have keep : ∀ (a : Act), YieldsIf P ops S oi v a → ∀ u, YieldsIf P ops S oi v (a.put oj.dst u) := fun a hy u => YieldsIf.putOn hap hsi hy
  have keepD : ∀ d, YieldsIf P ops S oi v { a with defers := d :: a.defers } := fun d => hy.of_same rfl rfl
  unfold wpOp at *
  simp only [hj] at *
  rw [wanted_put oj a oi.dst v h1] at h
  split
  · rename_i hw
    simp only [hw, if_true] at h
    rcases h with h | ⟨_, _, _, h, _⟩
    case inr => cases h
    refine .inl ?_
    unfold Oper.wp at *
    rw [execOp_put oj hsj a oi.dst v h1] at h
    generalize (execOp a.eval oj).run P w = r at *
    cases r with
    | ok n w' =>
      cases n <;> simp only [Oper.upon] at h ⊢
      case value u => exact ⟨keep a hy u, by rw [← Act.put_comm a v u h2]; exact h⟩
      case skip => exact ⟨keep a hy _, by rw [← Act.put_comm a v undef h2]; exact h⟩
      case defer d =>
        refine ⟨keep _ (keepD d) _, ?_⟩
        rw [← Act.put_comm _ v undef h2, ← Act.put_defers]
        exact h
      case enter f args =>
        refine Calls.mono h fun e w'' he => ?_
        cases e with
        | returned u => exact ⟨keep a hy u, by rw [← Act.put_comm a v u h2]; exact he⟩
        | panicked c => cases he.1
        | outgrown => exact he
      case row row args => exact Rows.mono h fun u w'' he => ⟨keep a hy u, by rw [← Act.put_comm a v u h2]; exact he⟩
    | halt x w' =>
      cases x <;> simp only [Oper.upon] at h ⊢
      case panic u => cases h.1
  · rename_i hw
    simp only [hw] at h
    exact ⟨keep a hy _, by rw [← Act.put_comm a v undef h2]; exact h⟩

/-- A quiet operation may be taken first. -/
theorem mix_first_quiet {i : Nat} {oi : Oper} {v : Value} (hi : ops[i]? = some oi) (hsel : ∀ (j : Nat) (o : Oper) cs b, ops[j]? = some o → o.op ≠ .select cs b) (_hl : LastIs md ops lst) (hqi : qf i = true) :
    ∀ (fuel : Nat) (listed : Array Bool) (a : Act) (w : World), listed.size = ops.size →
      (∀ j oj, ops[j]? = some oj → j ≠ i → listed.getD j true = false → (∀ e ∈ oj.after, Region.binds md e = true → e.on ≠ i) → oi.apart ops oj = true) →
      i ∈ Region.ready md ops listed → YieldsIf P ops S oi v a →
      wpMix P md ops Q S qf lst fuel (listed.setIfInBounds i true) (a.put oi.dst v) w → wpMix P md ops Q S qf lst (fuel + 1) listed a w := by
  intro fuel
  induction fuel with
  | zero =>
    intro listed a w _ _ hr hy H
    refine ⟨fun h => (by rw [h] at hr; cases hr), fun j hj o ho => ?_⟩
    by_cases hji : j = i
    · subst hji
      obtain rfl : oi = o := by rw [hi] at ho; exact Option.some.inj ho
      rw [if_pos hqi]; exact ⟨v, hy, H⟩
    · have := ready_mono hj hji
      rw [H.1] at this
      cases this
  | succ fuel ih =>
    intro listed a w hsz hfree hr hy H
    refine ⟨fun h => (by rw [h] at hr; cases hr), fun j hj oj hoj => ?_⟩
    by_cases hji : j = i
    · subst hji
      obtain rfl : oi = oj := by rw [hi] at hoj; exact Option.some.inj hoj
      rw [if_pos hqi]; exact ⟨v, hy, H⟩
    · have h1 := H.2 j (ready_mono hj hji) oj hoj
      obtain ⟨hjun, oj', hoj', hall⟩ := mem_ready.1 hj
      obtain rfl : oj = oj' := by rw [hoj] at hoj'; exact Option.some.inj hoj'
      have hap := hfree j oj hoj hji hjun (not_wait hr hall)
      have hsi := fun cs b => hsel i oi cs b hi
      have hsj := fun cs b => hsel j oj cs b hoj
      have hfree' : ∀ k ok, ops[k]? = some ok → k ≠ i → (listed.setIfInBounds j true).getD k true = false →
          (∀ e ∈ ok.after, Region.binds md e = true → e.on ≠ i) → oi.apart ops ok = true := fun k ok hk hki hun hno => by
        refine hfree k ok hk hki ?_ hno
        by_cases hjk : j = k
        · subst hjk; exact hjun
        · rw [getD_set_ne true hjk] at hun; exact hun
      split at h1
      · rename_i hqj
        rw [if_pos hqj]
        obtain ⟨u, hyj, hm⟩ := h1
        refine ⟨u, YieldsIf.putBack hap hsj hyj, ih (listed.setIfInBounds j true) (a.put oj.dst u) w (by rw [Array.size_setIfInBounds, hsz]) hfree' (ready_mono hr (Ne.symm hji)) (YieldsIf.putOn hap hsi hy) ?_⟩
        rw [Array.setIfInBounds_comm _ _ hji, ← Act.put_comm a v u (Oper.apart_spec hap).2.1]
        exact hm
      · rename_i hqj
        rw [if_neg hqj]
        have h2 := wpOp_before hoj hap hsi hsj hy h1
        refine wpOp_mono (fun a' w' h3 => ⟨h3.2.1, ih (listed.setIfInBounds j true) a' w' (by rw [Array.size_setIfInBounds, hsz]) hfree' (ready_mono hr (Ne.symm hji)) h3.1 ?_⟩) h2
        rw [Array.setIfInBounds_comm _ _ hji]
        exact h3.2.2

/-- What an effect leaves, somewhere. -/
theorem wpOp_some {i : Nat} {oi : Oper} {K : Act → World → Prop} {a : Act} {w : World} (hi : ops[i]? = some oi) (h : wpOp P ops (Qn Q) i K a w) :
    ∃ v d w', K ({ a with defers := d }.put oi.dst v) w' := by
  unfold wpOp at h
  simp only [hi] at h
  split at h
  · rcases h with h | ⟨_, _, _, h, _⟩
    case inr => cases h
    unfold Oper.wp at h
    generalize (execOp a.eval oi).run P w = r at h
    cases r with
    | ok n w' =>
      cases n <;> simp only [Oper.upon] at h
      case value u => exact ⟨u, a.defers, w', h⟩
      case skip => exact ⟨undef, a.defers, w', h⟩
      case defer d => exact ⟨undef, d :: a.defers, w', h⟩
      case enter f args =>
        obtain ⟨e, w'', fr, hR, _⟩ := h []
        cases e with
        | returned u => exact ⟨u, a.defers, w'', hR⟩
        | panicked c => cases hR.1
        | outgrown => obtain ⟨_, _, hR, _⟩ := hR; cases hR
      case row row args =>
        obtain ⟨u, w'', hR, _⟩ := h (Frame.ofRow P row args .normal) []
        exact ⟨u, a.defers, w'', hR⟩
    | halt x w' =>
      cases x <;> simp only [Oper.upon] at h
      cases h.1
  · exact ⟨undef, a.defers, w, h⟩

/-- An effect, carried out behind a quiet operation. -/
theorem wpOp_behind {i : Nat} {oi oj : Oper} {u : Value} (hi : ops[i]? = some oi) (hap : oi.apart ops oj = true) (hsi : ∀ cs b, oi.op ≠ .select cs b)
    {K K2 : Act → World → Prop} {a : Act} {w : World} (h : wpOp P ops (Qn Q) i K a w) (hK : ∀ v d w', K ({ a with defers := d }.put oi.dst v) w' → K2 (({ a with defers := d }.put oi.dst v).put oj.dst u) w') :
    wpOp P ops (Qn Q) i K2 (a.put oj.dst u) w := by
  obtain ⟨_, h2, h3⟩ := Oper.apart_spec hap
  have comm : ∀ (d : List Deferred) (v : Value), Act.put (Act.put { a with defers := d } oi.dst v) oj.dst u = Act.put { a.put oj.dst u with defers := d } oi.dst v := by
    intro d v
    rw [Act.put_comm _ v u h2]
    cases oj.dst <;> rfl
  unfold wpOp at *
  simp only [hi] at *
  rw [wanted_put oi a oj.dst u h3]
  split
  · rename_i hw
    simp only [hw, if_true] at h
    rcases h with h | ⟨_, _, _, h, _⟩
    case inr => cases h
    refine .inl ?_
    unfold Oper.wp at *
    rw [execOp_put oi hsi a oj.dst u h3]
    generalize (execOp a.eval oi).run P w = r at *
    cases r with
    | ok n w' =>
      cases n <;> simp only [Oper.upon] at h ⊢
      case value x => have := hK x a.defers w' h; rw [comm] at this; cases hd : oj.dst <;> (simp only [hd] at this ⊢; exact this)
      case skip => have := hK undef a.defers w' h; rw [comm] at this; cases hd : oj.dst <;> (simp only [hd] at this ⊢; exact this)
      case defer d => have := hK undef (d :: a.defers) w' h; rw [comm] at this; cases hd : oj.dst <;> (simp only [hd] at this ⊢; exact this)
      case enter f args =>
        refine Calls.mono h fun e w'' he => ?_
        cases e with
        | returned x => have := hK x a.defers w'' he; rw [comm] at this; cases hd : oj.dst <;> (simp only [hd] at this ⊢; exact this)
        | panicked c => cases he.1
        | outgrown => exact he
      case row row args => exact Rows.mono h fun x w'' he => by have := hK x a.defers w'' he; rw [comm] at this; cases hd : oj.dst <;> (simp only [hd] at this ⊢; exact this)
    | halt x w' =>
      cases x <;> simp only [Oper.upon] at h ⊢
      case panic x => cases h.1
  · rename_i hw
    simp only [hw] at h
    have := hK undef a.defers w h
    rw [comm] at this
    cases hd : oj.dst <;> (simp only [hd] at this ⊢; exact this)

/-- All that stands before number j of the text's order has come up; each effect waits for the effect before it. -/
def Chain (md : Region.Mode) (ops : Array Oper) (qf : Nat → Bool) : Prop :=
  ∀ j oj, qf j = false → ops[j]? = some oj → ∀ i, i < j → qf i = false → (∀ k, i < k → k < j → qf k = true) →
    ∀ listed : Array Bool, Closed md ops listed → (∀ e ∈ oj.after, Region.binds md e = true → listed.getD e.on false = true) → listed.getD i false = true
/-- Where all that an effect waits for has come up, so have all effects before it. -/
theorem chain_before (hc : Chain md ops qf) {listed : Array Bool} (hcl : Closed md ops listed) : ∀ (n j : Nat) (oj : Oper), j ≤ n → qf j = false → ops[j]? = some oj → (∀ e ∈ oj.after, Region.binds md e = true → listed.getD e.on false = true) →
    ∀ i, i < j → qf i = false → listed.getD i false = true := by
  intro n
  induction n with
  | zero => intro j oj hj _ _ _ i hi; omega
  | succ n ih =>
    intro j oj hjn hqj hj hall i hij hqi
    -- the last effect before j
    have hex : ∃ p, i ≤ p ∧ p < j ∧ qf p = false ∧ ∀ k, p < k → k < j → qf k = true := by
      clear hall ih hj hjn
      induction j with
      | zero => omega
      | succ j ihj =>
        cases hq : qf j with
        | false => exact ⟨j, by omega, by omega, hq, fun k h1 h2 => by omega⟩
        | true =>
          by_cases h : i = j
          · subst h; rw [hq] at hqi; cases hqi
          · have : ∃ p, i ≤ p ∧ p < j ∧ qf p = false ∧ ∀ k, p < k → k < j → qf k = true := by
              clear ihj
              have hlt : i < j := by omega
              clear h hij hqj
              induction j with
              | zero => omega
              | succ j ih2 =>
                cases hq2 : qf j with
                | false => exact ⟨j, by omega, by omega, hq2, fun k h1 h2 => by omega⟩
                | true =>
                  by_cases h : i = j
                  · subst h; rw [hq2] at hqi; cases hqi
                  · obtain ⟨p, h1, h2, h3, h4⟩ := ih2 hq2 (by omega)
                    exact ⟨p, h1, by omega, h3, fun k h5 h6 => by
                      by_cases e : k = j
                      · subst e; exact hq2
                      · exact h4 k h5 (by omega)⟩
            obtain ⟨p, h1, h2, h3, h4⟩ := this
            exact ⟨p, h1, by omega, h3, fun k h5 h6 => by
              by_cases e : k = j
              · subst e; exact hq
              · exact h4 k h5 (by omega)⟩
    obtain ⟨p, hip, hpj, hqp, hbt⟩ := hex
    have hlp : listed.getD p false = true := hc j oj hqj hj p hpj hqp hbt listed hcl hall
    by_cases hpe : i = p
    · subst hpe; exact hlp
    · have hlt : p < listed.size := by
        rcases Nat.lt_or_ge p listed.size with h' | h'
        · exact h'
        · simp [Array.getElem?_eq_none h'] at hlp
      have hpo : p < ops.size := Nat.lt_trans hpj (Array.getElem?_eq_some_iff.1 hj).1
      exact ih p ops[p] (by omega) hqp (Array.getElem?_eq_getElem hpo) (hcl p ops[p] (Array.getElem?_eq_getElem hpo) hlp) i (by omega) hqi

/-- An effect may be taken first, if all that stands before it in the text has come up. -/
theorem mix_first_effect {i : Nat} {oi : Oper} (hi : ops[i]? = some oi) (hsel : ∀ (j : Nat) (o : Oper) cs b, ops[j]? = some o → o.op ≠ .select cs b) (_hl : LastIs md ops lst) (hc : Chain md ops qf) (hqi : qf i = false) :
    ∀ (fuel : Nat) (listed : Array Bool) (a : Act) (w : World), listed.size = ops.size → Closed md ops listed → (∀ m, m < i → listed.getD m true = true) →
      (∀ j oj, ops[j]? = some oj → j ≠ i → qf j = true → listed.getD j true = false → (∀ e ∈ oj.after, Region.binds md e = true → e.on ≠ i) → oi.apart ops oj = true) →
      i ∈ Region.ready md ops listed → S w →
      wpOp P ops (Qn Q) i (fun a' w' => (lst i = false → S w') ∧ wpMix P md ops Q S qf lst fuel (listed.setIfInBounds i true) a' w') a w → wpMix P md ops Q S qf lst (fuel + 1) listed a w := by
  intro fuel
  induction fuel with
  | zero =>
    intro listed a w _ _ _ _ hr _ H
    refine ⟨fun h => (by rw [h] at hr; cases hr), fun j hj o ho => ?_⟩
    by_cases hji : j = i
    · subst hji
      rw [if_neg (by rw [hqi]; simp)]; exact H
    · obtain ⟨v, d, w', _, H'⟩ := wpOp_some hi H
      have := ready_mono hj hji
      rw [H'.1] at this
      cases this
  | succ fuel ih =>
    intro listed a w hsz hcl hbef hfree hr hS H
    refine ⟨fun h => (by rw [h] at hr; cases hr), fun j hj oj hoj => ?_⟩
    by_cases hji : j = i
    · subst hji
      rw [if_neg (by rw [hqi]; simp)]; exact H
    · obtain ⟨hjun, oj', hoj', hall⟩ := mem_ready.1 hj
      obtain rfl : oj = oj' := by rw [hoj] at hoj'; exact Option.some.inj hoj'
      have hun : listed.getD i true = false := (mem_ready.1 hr).1
      cases hqj : qf j with
      | false =>
        exfalso
        rcases Nat.lt_or_ge j i with hlt | hge
        · rw [hbef j hlt] at hjun; cases hjun
        · have h1 := chain_before hc hcl j j oj (Nat.le_refl _) hqj hoj hall i (by omega) hqi
          have hlt : i < listed.size := by rw [hsz]; exact (Array.getElem?_eq_some_iff.1 hi).1
          simp [hlt] at h1 hun
          rw [h1] at hun; cases hun
      | true =>
        rw [if_pos rfl]
        have hap := hfree j oj hoj hji hqj hjun (not_wait hr hall)
        have hsi := fun cs b => hsel i oi cs b hi
        have hsj := fun cs b => hsel j oj cs b hoj
        have hjr' := ready_mono hj hji
        have back : ∀ (d : List Deferred) (v u : Value), YieldsIf P ops S oj u (Act.put { a with defers := d } oi.dst v) → YieldsIf P ops S oj u a := fun d v u hy =>
          YieldsIf.of_same (YieldsIf.putBack hap hsj hy) rfl rfl
        have uniq : ∀ (u u' : Value) (w : World), S w → YieldsIf P ops S oj u a → YieldsIf P ops S oj u' a → u = u' := fun u u' w hw h1 h2 => by
          rcases h1 with ⟨g1, h1⟩ | ⟨g1, h1⟩ <;> rcases h2 with ⟨g2, h2⟩ | ⟨g2, h2⟩
          · have := (h1 w hw).symm.trans (h2 w hw)
            simpa using this
          · rw [g1] at g2; cases g2
          · rw [g1] at g2; cases g2
          · rw [h1, h2]
        obtain ⟨v0, d0, w0, _, H0⟩ := wpOp_some hi H
        have h0 := H0.2 j hjr' oj hoj
        rw [if_pos hqj] at h0
        obtain ⟨u, hyu, _⟩ := h0
        have hya := back d0 v0 u hyu
        refine ⟨u, hya, ih (listed.setIfInBounds j true) (a.put oj.dst u) w (by rw [Array.size_setIfInBounds, hsz]) (hcl.add hj) ?_ ?_ (ready_mono hr (Ne.symm hji)) hS ?_⟩
        · intro m hm
          by_cases hjm : j = m
          · subst hjm; rw [hbef j hm] at hjun; cases hjun
          · rw [getD_set_ne true hjm]; exact hbef m hm
        · intro k ok hk hki hqk hunk hno
          refine hfree k ok hk hki hqk ?_ hno
          by_cases hjk : j = k
          · subst hjk; exact hjun
          · rw [getD_set_ne true hjk] at hunk; exact hunk
        · refine wpOp_behind hi hap hsi H fun v d w' ⟨hS', hm⟩ => ⟨hS', ?_⟩
          have h1 := hm.2 j hjr' oj hoj
          rw [if_pos hqj] at h1
          obtain ⟨u', hy', hm'⟩ := h1
          obtain rfl : u = u' := uniq u u' w hS hya (back d v u' hy')
          rw [Array.setIfInBounds_comm _ _ hji]
          exact hm'

/-! ### The walk in the order of the text -/

/-- The operations from number k on, in the order of the text. -/
def wpLex (P : Program) (ops : Array Oper) (Q : Exit → Act → World → Prop) (S : World → Prop) (qf lst : Nat → Bool) : List Oper → Nat → Act → World → Prop
  | [], _, a, w => Q .normal a w
  | o :: rest, k, a, w =>
    if qf k = true then ∃ v, YieldsIf P ops S o v a ∧ wpLex P ops Q S qf lst rest (k + 1) (a.put o.dst v) w
    else if Region.wanted o (yielded ops a.tmps) then o.wp P a w (fun a' w' => (lst k = false → S w') ∧ wpLex P ops Q S qf lst rest (k + 1) a' w') (Qn Q)
    else wpLex P ops Q S qf lst rest (k + 1) (a.put o.dst undef) w

/-- The flags out of two lists of numbers: the effects; those that wait for all others. -/
def qfOf (es : List Nat) (k : Nat) : Bool := !es.contains k
def waitsB (md : Region.Mode) (oj : Oper) (i : Nat) : Bool := oj.after.any fun e => Region.binds md e && e.on == i
theorem waitsB_spec {oj : Oper} {i : Nat} (h : waitsB md oj i = true) : ∃ e ∈ oj.after, Region.binds md e = true ∧ e.on = i := by
  obtain ⟨e, he, hb⟩ := Array.any_eq_true'.1 h
  simp only [Bool.and_eq_true, beq_iff_eq] at hb
  exact ⟨e, he, hb⟩
def addEdges (md : Region.Mode) (o : Oper) (F : Array Bool) : Array Bool := o.after.toList.foldl (fun F e => if Region.binds md e then F.setIfInBounds e.on true else F) F
def forced (md : Region.Mode) (ops : Array Oper) : List Nat → Array Bool → Array Bool
  | [], F => F
  | i :: is, F => forced md ops is (if F.getD i false then (match ops[i]? with | some o => addEdges md o F | none => F) else F)
def lastB (md : Region.Mode) (ops : Array Oper) (j : Nat) : Bool :=
  match ops[j]? with
  | none => false
  | some oj => (List.range ops.size).all fun i => i == j || (forced md ops (List.range ops.size).reverse (addEdges md oj (Array.replicate ops.size false))).getD i false
theorem addEdges_sub {listed : Array Bool} (es : List Edge) : ∀ (F : Array Bool), (∀ i, F.getD i false = true → listed.getD i false = true) → (∀ e ∈ es, Region.binds md e = true → listed.getD e.on false = true) →
    ∀ i, (es.foldl (fun F e => if Region.binds md e then F.setIfInBounds e.on true else F) F).getD i false = true → listed.getD i false = true := by
  induction es with
  | nil => intro F h _ i hi; exact h i hi
  | cons e es ih =>
    intro F h hall i hi
    refine ih _ ?_ (fun e' he' => hall e' (List.mem_cons_of_mem _ he')) i hi
    intro k hk
    simp only at hk
    split at hk
    · rename_i hb
      by_cases hke : e.on = k
      · subst hke; exact hall e (by simp) hb
      · rw [getD_set_ne false hke] at hk; exact h k hk
    · exact h k hk
theorem forced_sub {listed : Array Bool} (hcl : Closed md ops listed) : ∀ (is : List Nat) (F : Array Bool), (∀ i, F.getD i false = true → listed.getD i false = true) → ∀ i, (forced md ops is F).getD i false = true → listed.getD i false = true
  | [], _, h, i, hi => h i hi
  | j :: is, F, h, i, hi => by
    unfold forced at hi
    refine forced_sub hcl is _ ?_ i hi
    intro k hk
    split at hk
    · rename_i hj
      split at hk
      · rename_i o ho
        exact addEdges_sub o.after.toList F h (fun e he hb => hcl j o ho (h j hj) e (by simpa using he) hb) k hk
      · exact h k hk
    · exact h k hk
theorem lastB_spec : LastIs md ops (lastB md ops) := by
  intro j oj hl hj listed hcl hall i hi hne
  simp only [lastB, hj, List.all_eq_true, List.mem_range, Bool.or_eq_true, beq_iff_eq] at hl
  have h1 := (hl i hi).resolve_left hne
  exact forced_sub hcl _ _ (fun k hk => addEdges_sub oj.after.toList _ (fun m hm => by simp [Array.getElem?_replicate] at hm; split at hm <;> simp at hm) (fun e he hb => hall e (by simpa using he) hb) k hk) i h1

/-- The flags of those that wait for all others, out of their list. -/
def lsOf (ls : List Nat) (k : Nat) : Bool := ls.contains k
theorem lsOf_spec {ls : List Nat} (h : ls.all (lastB md ops) = true) : LastIs md ops (lsOf ls) := fun j oj hl => by
  have hm : j ∈ ls := by simpa [lsOf] using hl
  exact lastB_spec j oj (List.all_eq_true.1 h j hm)

theorem ls_absurd {ls : List Nat} {k : Nat} {p : Prop} (h : lsOf ls k = false) (hk : lsOf ls k = true) : p := by rw [h] at hk; cases hk

/-- oj waits for number i, at once or by way of others. -/
def waitsF (md : Region.Mode) (ops : Array Oper) (oj : Oper) (i : Nat) : Bool := waitsB md oj i || (forced md ops (List.range ops.size).reverse (addEdges md oj (Array.replicate ops.size false))).getD i false
theorem waitsF_spec {oj : Oper} {i : Nat} (h : waitsF md ops oj i = true) (listed : Array Bool) (hcl : Closed md ops listed) (hall : ∀ e ∈ oj.after, Region.binds md e = true → listed.getD e.on false = true) : listed.getD i false = true := by
  unfold waitsF at h
  rw [Bool.or_eq_true] at h
  rcases h with h | h
  · obtain ⟨e, he, hb, heq⟩ := waitsB_spec h
    rw [← heq]; exact hall e he hb
  · exact forced_sub hcl _ _ (fun k hk => addEdges_sub oj.after.toList _ (fun m hm => by simp [Array.getElem?_replicate] at hm; split at hm <;> simp at hm) (fun e he hb => hall e (by simpa using he) hb) k hk) i h

def chainB (md : Region.Mode) (ops : Array Oper) : List Nat → Bool
  | i :: j :: rest => decide (i < j) && (match ops[j]? with | some oj => waitsF md ops oj i | none => false) && chainB md ops (j :: rest)
  | _ => true
theorem chainB_sorted : ∀ (es : List Nat) (i : Nat), chainB md ops (i :: es) = true → ∀ j ∈ es, i < j
  | [], _, _, _, hj => by cases hj
  | k :: es, i, h, j, hj => by
    simp only [chainB, Bool.and_eq_true, decide_eq_true_eq] at h
    rcases List.mem_cons.1 hj with rfl | hj
    · exact h.1.1
    · exact Nat.lt_trans h.1.1 (chainB_sorted es k h.2 j hj)
theorem chainB_next : ∀ (es : List Nat), chainB md ops es = true → ∀ j oj, ops[j]? = some oj → j ∈ es → ∀ i, i ∈ es → i < j → (∀ k, i < k → k < j → k ∉ es) →
    ∀ listed : Array Bool, Closed md ops listed → (∀ e ∈ oj.after, Region.binds md e = true → listed.getD e.on false = true) → listed.getD i false = true
  | [], _, _, _, _, hj, _, _, _, _ => by cases hj
  | [x], _, j, _, _, hj, i, hi, hij, _ => by
    have h1 : j = x := by simpa using hj
    have h2 : i = x := by simpa using hi
    omega
  | x :: y :: es, h, j, oj, hoj, hj, i, hi, hij, hbt => by
    have hs := chainB_sorted _ _ h
    simp only [chainB, Bool.and_eq_true, decide_eq_true_eq] at h
    have hs2 := chainB_sorted _ _ h.2
    by_cases hx : i = x
    · subst hx
      have hy : y = j := by
        rcases List.mem_cons.1 hj with rfl | hj'
        · omega
        · rcases List.mem_cons.1 hj' with rfl | hj''
          · rfl
          · exact absurd (by simp) (hbt y h.1.1 (hs2 j hj''))
      subst hy
      have := h.1.2
      rw [hoj] at this
      exact waitsF_spec this
    · have hi' : i ∈ y :: es := (List.mem_cons.1 hi).resolve_left hx
      have hj' : j ∈ y :: es := (List.mem_cons.1 hj).resolve_left (fun e => by have := hs i hi'; omega)
      exact chainB_next (y :: es) h.2 j oj hoj hj' i hi' hij (fun k h1 h2 hm => hbt k h1 h2 (List.mem_cons_of_mem _ hm))
theorem chainB_spec {es : List Nat} (h : chainB md ops es = true) : Chain md ops (qfOf es) := by
  intro j oj hqj hj i hij hqi hbt
  have mem : ∀ k, qfOf es k = false ↔ k ∈ es := fun k => by simp [qfOf]
  refine chainB_next es h j oj hj ((mem j).1 hqj) i ((mem i).1 hqi) hij (fun k h1 h2 hm => ?_)
  have := hbt k h1 h2
  rw [(mem k).2 hm] at this
  cases this

/-- Number i, next in the text: whatever has not come up either waits for it or is apart from it; behind an effect that is asked of quiet ones alone. -/
def freeE (md : Region.Mode) (ops : Array Oper) (qf : Nat → Bool) (listed : Array Bool) (i : Nat) : Bool :=
  match ops[i]? with
  | none => false
  | some oi => (List.range ops.size).all fun j => j == i || listed.getD j true || (!qf i && !qf j) || match ops[j]? with
      | some oj => waitsB md oj i || oi.apart ops oj
      | none => true
theorem freeE_spec {i : Nat} {oi : Oper} {listed : Array Bool} (hi : ops[i]? = some oi) (h : freeE md ops qf listed i = true) (j : Nat) (oj : Oper)
    (hj : ops[j]? = some oj) (hne : j ≠ i) (hq : qf i = true ∨ qf j = true) (hun : listed.getD j true = false) (hno : ∀ e ∈ oj.after, Region.binds md e = true → e.on ≠ i) :
    oi.apart ops oj = true := by
  simp only [freeE, hi, List.all_eq_true, List.mem_range] at h
  have h1 := h j (Array.getElem?_eq_some_iff.1 hj).1
  have hqq : (!qf i && !qf j) = false := by rcases hq with h | h <;> simp [h]
  simp only [hj, Bool.or_eq_true, beq_iff_eq, hne, false_or, hun, Bool.false_eq_true, hqq] at h1
  rcases h1 with h1 | h1
  · obtain ⟨e, he, hb, heq⟩ := waitsB_spec h1
    exact absurd heq (hno e he hb)
  · exact h1
def lexFromE (md : Region.Mode) (ops : Array Oper) (qf : Nat → Bool) : Nat → Nat → Array Bool → Bool
  | 0, _, listed => (Region.ready md ops listed).isEmpty
  | fuel + 1, k, listed => (Region.ready md ops listed).contains k && freeE md ops qf listed k && lexFromE md ops qf fuel (k + 1) (listed.setIfInBounds k true)
def lexE (ops : Array Oper) (es ls : List Nat) : Bool := Region.noSelect ops && (ls.all (lastB .any ops) && chainB .any ops es) && lexFromE .any ops (qfOf es) ops.size 0 (Array.replicate ops.size false)

theorem mix_lex (hs : Region.noSelect ops = true) (hl : LastIs md ops lst) (hc : Chain md ops qf) : ∀ (l : List Oper) (k : Nat) (listed : Array Bool) (a : Act) (w : World), (∀ j, l[j]? = ops[k + j]?) →
    lexFromE md ops qf l.length k listed = true → listed.size = ops.size → Closed md ops listed → (∀ m, m < k → listed.getD m true = true) → (S w ∨ l = []) →
    wpLex P ops Q S qf lst l k a w → wpMix P md ops Q S qf lst l.length listed a w
  | [], _, _, _, _, _, hB, _, _, _, _, h => ⟨by simpa [lexFromE] using hB, h⟩
  | o :: l, k, listed, a, w, hops, hB, hsz, hcl, hbef, hS, h => by
    have h0 : ops[k]? = some o := by simpa using (hops 0).symm
    simp only [List.length_cons, lexFromE, Bool.and_eq_true] at hB
    obtain ⟨⟨hr, hf⟩, hB'⟩ := hB
    have hr' : k ∈ Region.ready md ops listed := by simpa using hr
    have hops' : ∀ j, l[j]? = ops[k + 1 + j]? := fun j => by have := hops (j + 1); simpa [Nat.add_assoc, Nat.add_comm 1 j] using this
    have hsz' : (listed.setIfInBounds k true).size = ops.size := by rw [Array.size_setIfInBounds, hsz]
    have hkl : k < listed.size := by rw [hsz]; exact (Array.getElem?_eq_some_iff.1 h0).1
    have hbef' : ∀ m, m < k + 1 → (listed.setIfInBounds k true).getD m true = true := fun m hm => by
      by_cases hkm : k = m
      · subst hkm; simp [hkl]
      · rw [getD_set_ne true hkm]; exact hbef m (by omega)
    have hSw : S w := hS.resolve_right (by simp)
    unfold wpLex at h
    cases hq : qf k with
    | true =>
      rw [if_pos hq] at h
      obtain ⟨v, hy, hK⟩ := h
      exact mix_first_quiet h0 (Region.noSelect_spec hs) hl hq l.length listed a w hsz (fun j oj hj hne hun hno => freeE_spec h0 hf j oj hj hne (.inl hq) hun hno) hr' hy
        (mix_lex hs hl hc l (k + 1) _ _ w hops' hB' hsz' (hcl.add hr') hbef' (.inl hSw) hK)
    | false =>
      rw [if_neg (by rw [hq]; simp)] at h
      refine mix_first_effect h0 (Region.noSelect_spec hs) hl hc hq l.length listed a w hsz hcl hbef (fun j oj hj hne hqj hun hno => freeE_spec h0 hf j oj hj hne (.inr hqj) hun hno) hr' hSw ?_
      have step : ∀ a' w', ((lst k = false → S w') ∧ wpLex P ops Q S qf lst l (k + 1) a' w') → ((lst k = false → S w') ∧ wpMix P md ops Q S qf lst l.length (listed.setIfInBounds k true) a' w') := fun a' w' ⟨h1, h2⟩ =>
        ⟨h1, mix_lex hs hl hc l (k + 1) _ _ w' hops' hB' hsz' (hcl.add hr') hbef' (by
          cases hlk : lst k with
          | false => exact .inl (h1 hlk)
          | true =>
            right
            refine List.eq_nil_iff_forall_not_mem.2 fun x hx => ?_
            obtain ⟨j, hj, hjx⟩ := List.getElem_of_mem hx
            have hoj : ops[k + 1 + j]? = some x := by rw [← hops' j, List.getElem?_eq_getElem hj, hjx]
            obtain ⟨_, o', ho', hall⟩ := mem_ready.1 hr'
            obtain rfl : o = o' := by rw [h0] at ho'; exact Option.some.inj ho'
            have h3 := hl k o hlk h0 listed hcl hall (k + 1 + j) (Array.getElem?_eq_some_iff.1 hoj).1 (by omega)
            -- an operation behind k in the text has not come up yet: it is waited for by nobody that has
            exact absurd h3 (by
              intro h3
              have hlt : k + 1 + j < listed.size := by rw [hsz]; exact (Array.getElem?_eq_some_iff.1 hoj).1
              have hB2 := hB'
              clear hB'
              exact lex_unlisted (listed := listed.setIfInBounds k true) l.length (k + 1) hB2 j hj (by rw [getD_set_true h3]))) h2⟩
      unfold wpOp
      simp only [h0]
      split
      · rename_i hw
        rw [if_pos hw] at h
        exact .inl (Oper.wp_mono step h)
      · rename_i hw
        rw [if_neg hw] at h
        refine step _ _ ⟨fun _ => hSw, h⟩
where
  lex_unlisted {md : Region.Mode} {ops : Array Oper} {qf : Nat → Bool} : ∀ {listed : Array Bool} (n k : Nat), lexFromE md ops qf n k listed = true → ∀ j, j < n → listed.getD (k + j) false = true → False
    | listed, 0, _, _, j, hj, _ => by omega
    | listed, n + 1, k, h, j, hj, hl => by
      simp only [lexFromE, Bool.and_eq_true] at h
      obtain ⟨⟨hr, _⟩, hB⟩ := h
      rcases j with _ | j
      · have h0 := (mem_ready.1 (show k ∈ Region.ready md ops listed by simpa using hr)).1
        rcases Nat.lt_or_ge k listed.size with h' | h'
        · simp [h'] at h0 hl; rw [h0] at hl; cases hl
        · simp [Array.getElem?_eq_none h'] at hl
      · exact lex_unlisted n (k + 1) hB j (by omega) (by rw [show k + 1 + j = k + (j + 1) from by omega]; exact getD_set_true hl)

/-- **A region that draws, walked once.** es: the effects, by their numbers. -/
theorem wp_region_lex {id : Nat} {a : Act} {w : World} {l : List Oper} (es ls : List Nat) (S : World → Prop) (hm : P.follows .mixedOrders = true) (hB : lexE l.toArray es ls = true) (hS : S w.drew)
    (h : wpLex P l.toArray Q S (qfOf es) (lsOf ls) l 0 a w.drew) : (Code.region id l.toArray true).wp P Q a w := by
  simp only [lexE, Bool.and_eq_true] at hB
  obtain ⟨⟨h1, h4, h2⟩, h3⟩ := hB
  have hm' := mix_lex (md := .any) h1 (lsOf_spec h4) (chainB_spec h2) l 0 (Array.replicate l.toArray.size false) a w.drew (by simp) (by simpa using h3) (by simp)
    (fun j oj hj hl => by simp [Array.getElem?_replicate] at hl; split at hl <;> simp at hl) (fun m hm => by omega) (.inl hS) h
  exact wp_region_any hm (any_of_mix (lsOf_spec h4) _ _ _ _ (by simp) (fun j oj hj hl => by simp [Array.getElem?_replicate] at hl; split at hl <;> simp at hl) (.inl hS) (by simpa using hm'))

/-! ### The steps -/
variable {rest : List Oper} {o : Oper} {k : Nat} {a : Act} {w : World}
theorem lex_nil (h : Q .normal a w) : wpLex P ops Q S qf lst [] k a w := h
/-- A quiet operation that is wanted. -/
theorem lex_q (v : Value) (hq : qf k = true) (hw : Region.wanted o (yielded ops a.tmps) = true) (h : ∀ W, S W → (execOp a.eval o).run P W = .ok (.value v) W)
    (hk : wpLex P ops Q S qf lst rest (k + 1) (a.put o.dst v) w) : wpLex P ops Q S qf lst (o :: rest) k a w := by
  unfold wpLex
  rw [if_pos hq]
  exact ⟨v, .inl ⟨hw, h⟩, hk⟩
/-- An operation whose guard is not met. -/
theorem lex_skip (hw : Region.wanted o (yielded ops a.tmps) = false) (hk : wpLex P ops Q S qf lst rest (k + 1) (a.put o.dst undef) w) : wpLex P ops Q S qf lst (o :: rest) k a w := by
  unfold wpLex
  split
  · exact ⟨undef, .inr ⟨hw, rfl⟩, hk⟩
  · rw [if_neg (by rw [hw]; simp)]; exact hk
/-- An effect. -/
theorem lex_e (hq : qf k = false) (hw : Region.wanted o (yielded ops a.tmps) = true) (h : ∀ K : Act → World → Prop, (∀ a' w', (lst k = false → S w') ∧ wpLex P ops Q S qf lst rest (k + 1) a' w' → K a' w') → o.wp P a w K (Qn Q)) :
    wpLex P ops Q S qf lst (o :: rest) k a w := by
  unfold wpLex
  rw [if_neg (by rw [hq]; simp), if_pos hw]
  exact h _ fun _ _ h1 => h1
/-- The operations that yield a value whatever they do. -/
def plainOp : Op → Bool
  | .store .. | .ready _ | .mapUpdate .. | .insert .. | .entryStore .. | .go _ | .defer _ | .send .. | .recv .. | .select .. => false
  | .call { callee := .builtin .len, .. } => true
  | .call { callee := .builtin .cap, .. } => true
  | .call _ => false
  | _ => true
theorem run_vg {α : Type} {s : Sem α} {g : α → Value} {n : Next} {w w' : World} (h : (s >>= fun x => pure (Next.value (g x))).run P w = .ok n w') : ∃ x, n = .value x := by
  rw [Sem.run_bind] at h
  cases hs : s.run P w with
  | ok x w1 => rw [hs] at h; simp only [Result.andThen_ok, Sem.run_pure] at h; cases h; exact ⟨_, rfl⟩
  | halt x w1 => rw [hs] at h; cases h
theorem andThen_v {r : Result Value} {n : Next} {w' : World} (h : (r.andThen fun a w' => Result.ok (Next.value a) w') = .ok n w') : ∃ x, n = .value x := by
  cases r with
  | ok x w1 => simp only [Result.andThen_ok] at h; cases h; exact ⟨x, rfl⟩
  | halt x w1 => cases h
theorem run_pv {x : Value} {n : Next} {w w' : World} (h : (pure (Next.value x) : Sem Next).run P w = .ok n w') : ∃ x, n = .value x := by
  simp only [Sem.run_pure] at h; cases h; exact ⟨_, rfl⟩
theorem run_plain {o : Oper} {ρ : Operand → Value} {n : Next} {w w' : World} (hp : plainOp o.op = true) (h : (execOp ρ o).run P w = .ok n w') : ∃ x, n = .value x := by
  obtain ⟨dst, op, type, pos, after, guard⟩ := o
  simp only at hp
  unfold execOp at h
  cases op <;> first | (cases hp; done) | (exact run_vg (g := id) h) | (exact run_vg h) | (exact run_pv h) | skip
  case nilCheck x =>
    simp only at h
    split at h
    case h_1 => simp [runtimePanic] at h
    case h_2 => simp [runtimePanic] at h
    case h_3 => simp [runtimePanic] at h
    case h_4 =>
      split at h
      · simp [runtimePanic] at h
      · simp only [Sem.run_bind] at h
        cases hp1 : (program).run P w with
        | halt x w1 => rw [hp1] at h; cases h
        | ok p1 w1 =>
          rw [hp1] at h
          simp only [Result.andThen_ok] at h
          rename_i t v' _
          cases hp2 : (nilAhead (p1.types.size + Made.depth) t v' _).run P w1 with
          | halt x w2 => rw [hp2] at h; cases h
          | ok b w2 =>
            rw [hp2] at h
            simp only [Result.andThen_ok] at h
            split at h
            · simp [unsupported] at h
            · exact run_pv h
      · exact run_pv h
    case h_5 => exact run_pv h
  case call c =>
    obtain ⟨callee, args, argTypes⟩ := c
    cases callee with
    | value f => cases hp
    | invoke r m => cases hp
    | builtin b =>
      cases b <;> first | (cases hp; done) | skip
      all_goals
        simp only [resolve, Sem.run_bind, Sem.run_pure, Result.andThen_ok, invoke, builtin] at h
        exact andThen_v h

/-- 'wp_region_lex', with the worlds of S as 'f u', u of some type: for the quiet steps of the library ('go_big_quiet_op'). -/
theorem wp_region_lexf {id : Nat} {a : Act} {w : World} {l : List Oper} (es ls : List Nat) (S : World → Prop) (hm : P.follows .mixedOrders = true) (hB : lexE l.toArray es ls = true) (hS : S w.drew)
    (h : ∀ (σ : Type) (_ : Nonempty σ) (f : σ → World) (_ : ∀ u, S (f u)) (_ : ∀ W, S W → ∃ u, W = f u), wpLex P l.toArray Q S (qfOf es) (lsOf ls) l 0 a w.drew) : (Code.region id l.toArray true).wp P Q a w :=
  wp_region_lex es ls S hm hB hS (h { W : World // S W } ⟨⟨_, hS⟩⟩ (fun u => u.1) (fun u => u.2) (fun W hW => ⟨⟨W, hW⟩, rfl⟩))

/-- A quiet operation, by the library's own quiet step. -/
theorem lex_qq {σ : Type} {f : σ → World} (hf : ∀ W, S W → ∃ u, W = f u) (hq : qf k = true) (hp : plainOp o.op = true) (hw : Region.wanted o (yielded ops a.tmps) = true)
    (h : ∀ K : Act → Prop, (∀ a', wpLex P ops Q S qf lst rest (k + 1) a' w → K a') → o.quiet P a (fun W => ∃ u, W = f u) K) : wpLex P ops Q S qf lst (o :: rest) k a w := by
  obtain ⟨v, hv, hK⟩ := h _ fun _ h => h
  have run : ∀ W, S W → (execOp a.eval o).run P W = .ok (.value v) W := fun W hW => by
    have h1 := hv W (hf W hW)
    unfold Oper.quietAt at h1
    cases hr : (execOp a.eval o).run P W with
    | halt x w1 => rw [hr] at h1; simp [Oper.quietUpon] at h1
    | ok n w1 =>
      obtain ⟨x, rfl⟩ := run_plain hp hr
      rw [hr] at h1
      simp only [Oper.quietUpon] at h1
      rw [h1.1, h1.2]
  exact lex_q v hq hw run hK
end
end Go.Proofs.Ytgldgkdnnimglaa
