/- A region that draws its order, walked once, BY STAGES: T m is what is known of the world when the effects numbered below m, and no others, have come up; it grows (T m' says T m where m ≤ m'). A quiet operation may lean on the stage of the last effect that it waits for. -/
import Derived.Test.YtdcmncmpoinlaaaLex
namespace Go.Proofs.Ytdcmncmpoinlaaa

section
variable {P : Program} {ops : Array Oper} {Q : Exit → Act → World → Prop} {md : Region.Mode} {T : Nat → World → Prop} {st : Nat → Nat} {qf lst : Nat → Bool}

def wpMixs (P : Program) (md : Region.Mode) (ops : Array Oper) (Q : Exit → Act → World → Prop) (T : Nat → World → Prop) (st : Nat → Nat) (qf lst : Nat → Bool) : Nat → Array Bool → Act → World → Prop
  | 0, listed, a, w => Region.ready md ops listed = [] ∧ Q .normal a w
  | fuel + 1, listed, a, w =>
    (Region.ready md ops listed = [] → Q .normal a w) ∧
    ∀ i ∈ Region.ready md ops listed, ∀ o, ops[i]? = some o →
      if qf i = true then ∃ v, YieldsIf P ops (T (st i)) o v a ∧ wpMixs P md ops Q T st qf lst fuel (listed.setIfInBounds i true) (a.put o.dst v) w
      else wpOp P ops (Qn Q) i (fun a' w' => (lst i = false → T (i + 1) w') ∧ wpMixs P md ops Q T st qf lst fuel (listed.setIfInBounds i true) a' w') a w

/-- An operation's stage is none, or that of an effect that it waits for. -/
def Stages (md : Region.Mode) (ops : Array Oper) (qf : Nat → Bool) (st : Nat → Nat) : Prop :=
  ∀ i oi, ops[i]? = some oi → st i = 0 ∨ ∃ e, st i = e + 1 ∧ qf e = false ∧ ∀ listed : Array Bool, Closed md ops listed → (∀ x ∈ oi.after, Region.binds md x = true → listed.getD x.on false = true) → listed.getD e false = true
def Grows (T : Nat → World → Prop) : Prop := ∀ m m' W, m ≤ m' → T m' W → T m W
/-- No effect from number m on has come up. -/
def Upto (qf : Nat → Bool) (m : Nat) (listed : Array Bool) : Prop := ∀ e, qf e = false → listed.getD e false = true → e < m

theorem Upto.quiet {m i : Nat} {listed : Array Bool} (h : Upto qf m listed) (hq : qf i = true) : Upto qf m (listed.setIfInBounds i true) := by
  intro e he hl
  by_cases hie : i = e
  · subst hie; rw [hq] at he; cases he
  · rw [getD_set_ne false hie] at hl; exact h e he hl
theorem stage_ready (hst : Stages md ops qf st) (hT : Grows T) {m i : Nat} {listed : Array Bool} {w : World} (hcl : Closed md ops listed) (hu : Upto qf m listed) (hi : i ∈ Region.ready md ops listed) (hw : T m w) : T (st i) w := by
  obtain ⟨_, oi, hoi, hall⟩ := mem_ready.1 hi
  refine hT _ _ _ ?_ hw
  rcases hst i oi hoi with h | ⟨e, h, hq, hw⟩
  · omega
  · have := hu e hq (hw listed hcl hall)
    omega
theorem Upto.effect {i : Nat} {listed : Array Bool} (hc : Chain md ops qf) (hsz : listed.size = ops.size) (hcl : Closed md ops listed) (hqi : qf i = false) (hi : i ∈ Region.ready md ops listed) : Upto qf (i + 1) (listed.setIfInBounds i true) := by
  intro e he hl
  by_cases hie : i = e
  · omega
  · rw [getD_set_ne false hie] at hl
    rcases Nat.lt_or_ge e (i + 1) with h | h
    · exact h
    · exfalso
      have hlt : e < listed.size := by
        rcases Nat.lt_or_ge e listed.size with h' | h'
        · exact h'
        · simp [Array.getElem?_eq_none h'] at hl
      have he' : ops[e]? = some (ops[e]'(by omega)) := Array.getElem?_eq_getElem _
      have h1 := chain_before hc hcl e e _ (Nat.le_refl _) he he' (hcl e _ he' hl) i (by omega) hqi
      have hun := (mem_ready.1 hi).1
      have hilt : i < listed.size := by
        rcases Nat.lt_or_ge i listed.size with h' | h'
        · exact h'
        · simp [Array.getElem?_eq_none h'] at h1
      simp [hilt] at h1 hun
      rw [h1] at hun; cases hun

theorem any_of_mixs (hl : LastIs md ops lst) (hc : Chain md ops qf) (hst : Stages md ops qf st) (hT : Grows T) : ∀ (fuel m : Nat) (listed : Array Bool) (a : Act) (w : World), listed.size = ops.size → Closed md ops listed → Upto qf m listed → (T m w ∨ Region.ready md ops listed = []) → wpMixs P md ops Q T st qf lst fuel listed a w → wpAny P md ops Q fuel listed a w
  | 0, _, _, _, _, _, _, _, _, h => h
  | fuel + 1, m, listed, a, w, hsz, hcl, hu, hS, h => ⟨h.1, fun i hi => by
      obtain ⟨o, ho⟩ := ready_some hi
      have h2 := h.2 i hi o ho
      have hSw : T m w := hS.resolve_right (fun e => by rw [e] at hi; cases hi)
      have hsz' : (listed.setIfInBounds i true).size = ops.size := by rw [Array.size_setIfInBounds, hsz]
      split at h2
      · rename_i hq
        obtain ⟨v, hy, hm⟩ := h2
        exact hy.wpOp ho (stage_ready hst hT hcl hu hi hSw) (any_of_mixs hl hc hst hT fuel m _ _ _ hsz' (hcl.add hi) (hu.quiet hq) (.inl hSw) hm)
      · rename_i hq
        have hq' : qf i = false := by simpa using hq
        refine wpOp_n (wpOp_mono (fun a' w' ⟨h3, h4⟩ => any_of_mixs hl hc hst hT fuel (i + 1) _ a' w' hsz' (hcl.add hi) (Upto.effect hc hsz hcl hq' hi) ?_ h4) h2)
        cases hli : lst i with
        | false => exact .inl (h3 hli)
        | true =>
          right
          obtain ⟨_, o', ho', hall⟩ := mem_ready.1 hi
          obtain rfl : o = o' := by rw [ho] at ho'; exact Option.some.inj ho'
          refine List.eq_nil_iff_forall_not_mem.2 fun k hk => ?_
          by_cases hki : k = i
          · subst hki
            have := (mem_ready.1 hk).1
            have hlt : k < listed.size := by rw [hsz]; exact (Array.getElem?_eq_some_iff.1 ho).1
            simp [hlt] at this
          · exact LastIs.none_left hl hli ho hsz' (hcl.add hi) (fun e he hb => getD_set_true (hall e he hb)) k hki hk⟩

theorem mixs_first_quiet {i : Nat} {oi : Oper} {v : Value} (hi : ops[i]? = some oi) (hsel : ∀ (j : Nat) (o : Oper) cs b, ops[j]? = some o → o.op ≠ .select cs b) (hqi : qf i = true) :
    ∀ (fuel : Nat) (listed : Array Bool) (a : Act) (w : World), listed.size = ops.size →
      (∀ j oj, ops[j]? = some oj → j ≠ i → listed.getD j true = false → (∀ e ∈ oj.after, Region.binds md e = true → e.on ≠ i) → oi.apart ops oj = true) →
      i ∈ Region.ready md ops listed → YieldsIf P ops (T (st i)) oi v a →
      wpMixs P md ops Q T st qf lst fuel (listed.setIfInBounds i true) (a.put oi.dst v) w → wpMixs P md ops Q T st qf lst (fuel + 1) listed a w := by
  intro fuel
  induction fuel with
  | zero =>
    intro listed a w _ _ hr hy H
    refine ⟨fun h => (by rw [h] at hr; cases hr), fun j hj o ho => ?_⟩
    by_cases hji : j = i
    · subst hji
      obtain rfl : oi = o := by rw [hi] at ho; exact Option.some.inj ho
      rw [if_pos hqi]; exact ⟨v, hy, H⟩
    · have := ready_mono hj hji
      rw [H.1] at this
      cases this
  | succ fuel ih =>
    intro listed a w hsz hfree hr hy H
    refine ⟨fun h => (by rw [h] at hr; cases hr), fun j hj oj hoj => ?_⟩
    by_cases hji : j = i
    · subst hji
      obtain rfl : oi = oj := by rw [hi] at hoj; exact Option.some.inj hoj
      rw [if_pos hqi]; exact ⟨v, hy, H⟩
    · have h1 := H.2 j (ready_mono hj hji) oj hoj
      obtain ⟨hjun, oj', hoj', hall⟩ := mem_ready.1 hj
      obtain rfl : oj = oj' := by rw [hoj] at hoj'; exact Option.some.inj hoj'
      have hap := hfree j oj hoj hji hjun (not_wait hr hall)
      have hsi := fun cs b => hsel i oi cs b hi
      have hsj := fun cs b => hsel j oj cs b hoj
      have hfree' : ∀ k ok, ops[k]? = some ok → k ≠ i → (listed.setIfInBounds j true).getD k true = false →
          (∀ e ∈ ok.after, Region.binds md e = true → e.on ≠ i) → oi.apart ops ok = true := fun k ok hk hki hun hno => by
        refine hfree k ok hk hki ?_ hno
        by_cases hjk : j = k
        · subst hjk; exact hjun
        · rw [getD_set_ne true hjk] at hun; exact hun
      split at h1
      · rename_i hqj
        rw [if_pos hqj]
        obtain ⟨u, hyj, hm⟩ := h1
        refine ⟨u, YieldsIf.putBack hap hsj hyj, ih (listed.setIfInBounds j true) (a.put oj.dst u) w (by rw [Array.size_setIfInBounds, hsz]) hfree' (ready_mono hr (Ne.symm hji)) (YieldsIf.putOn hap hsi hy) ?_⟩
        rw [Array.setIfInBounds_comm _ _ hji, ← Act.put_comm a v u (Oper.apart_spec hap).2.1]
        exact hm
      · rename_i hqj
        rw [if_neg hqj]
        have h2 := wpOp_before hoj hap hsi hsj hy h1
        refine wpOp_mono (fun a' w' h3 => ⟨h3.2.1, ih (listed.setIfInBounds j true) a' w' (by rw [Array.size_setIfInBounds, hsz]) hfree' (ready_mono hr (Ne.symm hji)) h3.1 ?_⟩) h2
        rw [Array.setIfInBounds_comm _ _ hji]
        exact h3.2.2

theorem mixs_first_effect {i m : Nat} {oi : Oper} (hi : ops[i]? = some oi) (hsel : ∀ (j : Nat) (o : Oper) cs b, ops[j]? = some o → o.op ≠ .select cs b) (hc : Chain md ops qf) (hst : Stages md ops qf st) (hT : Grows T) (hqi : qf i = false) :
    ∀ (fuel : Nat) (listed : Array Bool) (a : Act) (w : World), listed.size = ops.size → Closed md ops listed → Upto qf m listed → (∀ m, m < i → listed.getD m true = true) →
      (∀ j oj, ops[j]? = some oj → j ≠ i → qf j = true → listed.getD j true = false → (∀ e ∈ oj.after, Region.binds md e = true → e.on ≠ i) → oi.apart ops oj = true) →
      i ∈ Region.ready md ops listed → T m w →
      wpOp P ops (Qn Q) i (fun a' w' => (lst i = false → T (i + 1) w') ∧ wpMixs P md ops Q T st qf lst fuel (listed.setIfInBounds i true) a' w') a w → wpMixs P md ops Q T st qf lst (fuel + 1) listed a w := by
  intro fuel
  induction fuel with
  | zero =>
    intro listed a w _ _ _ _ _ hr _ H
    refine ⟨fun h => (by rw [h] at hr; cases hr), fun j hj o ho => ?_⟩
    by_cases hji : j = i
    · subst hji
      rw [if_neg (by rw [hqi]; simp)]; exact H
    · obtain ⟨v, d, w', _, H'⟩ := wpOp_some hi H
      have := ready_mono hj hji
      rw [H'.1] at this
      cases this
  | succ fuel ih =>
    intro listed a w hsz hcl hu hbef hfree hr hS H
    refine ⟨fun h => (by rw [h] at hr; cases hr), fun j hj oj hoj => ?_⟩
    by_cases hji : j = i
    · subst hji
      rw [if_neg (by rw [hqi]; simp)]; exact H
    · obtain ⟨hjun, oj', hoj', hall⟩ := mem_ready.1 hj
      obtain rfl : oj = oj' := by rw [hoj] at hoj'; exact Option.some.inj hoj'
      have hun : listed.getD i true = false := (mem_ready.1 hr).1
      cases hqj : qf j with
      | false =>
        exfalso
        rcases Nat.lt_or_ge j i with hlt | hge
        · rw [hbef j hlt] at hjun; cases hjun
        · have h1 := chain_before hc hcl j j oj (Nat.le_refl _) hqj hoj hall i (by omega) hqi
          have hlt : i < listed.size := by rw [hsz]; exact (Array.getElem?_eq_some_iff.1 hi).1
          simp [hlt] at h1 hun
          rw [h1] at hun; cases hun
      | true =>
        rw [if_pos rfl]
        have hap := hfree j oj hoj hji hqj hjun (not_wait hr hall)
        have hsi := fun cs b => hsel i oi cs b hi
        have hsj := fun cs b => hsel j oj cs b hoj
        have hjr' := ready_mono hj hji
        have hTj : T (st j) w := stage_ready hst hT hcl hu hj hS
        have back : ∀ (d : List Deferred) (v u : Value), YieldsIf P ops (T (st j)) oj u (Act.put { a with defers := d } oi.dst v) → YieldsIf P ops (T (st j)) oj u a := fun d v u hy =>
          YieldsIf.of_same (YieldsIf.putBack hap hsj hy) rfl rfl
        have uniq : ∀ (u u' : Value), YieldsIf P ops (T (st j)) oj u a → YieldsIf P ops (T (st j)) oj u' a → u = u' := fun u u' h1 h2 => by
          rcases h1 with ⟨g1, h1⟩ | ⟨g1, h1⟩ <;> rcases h2 with ⟨g2, h2⟩ | ⟨g2, h2⟩
          · have := (h1 w hTj).symm.trans (h2 w hTj)
            simpa using this
          · rw [g1] at g2; cases g2
          · rw [g1] at g2; cases g2
          · rw [h1, h2]
        obtain ⟨v0, d0, w0, _, H0⟩ := wpOp_some hi H
        have h0 := H0.2 j hjr' oj hoj
        rw [if_pos hqj] at h0
        obtain ⟨u, hyu, _⟩ := h0
        have hya := back d0 v0 u hyu
        refine ⟨u, hya, ih (listed.setIfInBounds j true) (a.put oj.dst u) w (by rw [Array.size_setIfInBounds, hsz]) (hcl.add hj) (hu.quiet hqj) ?_ ?_ (ready_mono hr (Ne.symm hji)) hS ?_⟩
        · intro m hm
          by_cases hjm : j = m
          · subst hjm; rw [hbef j hm] at hjun; cases hjun
          · rw [getD_set_ne true hjm]; exact hbef m hm
        · intro k ok hk hki hqk hunk hno
          refine hfree k ok hk hki hqk ?_ hno
          by_cases hjk : j = k
          · subst hjk; exact hjun
          · rw [getD_set_ne true hjk] at hunk; exact hunk
        · refine wpOp_behind hi hap hsi H fun v d w' ⟨hS', hm⟩ => ⟨hS', ?_⟩
          have h1 := hm.2 j hjr' oj hoj
          rw [if_pos hqj] at h1
          obtain ⟨u', hy', hm'⟩ := h1
          obtain rfl : u = u' := uniq u u' hya (back d v u' hy')
          rw [Array.setIfInBounds_comm _ _ hji]
          exact hm'

/-! ### The walk in the order of the text -/
def wpLexs (P : Program) (ops : Array Oper) (Q : Exit → Act → World → Prop) (T : Nat → World → Prop) (st : Nat → Nat) (qf lst : Nat → Bool) : List Oper → Nat → Act → World → Prop
  | [], _, a, w => Q .normal a w
  | o :: rest, k, a, w =>
    if qf k = true then ∃ v, YieldsIf P ops (T (st k)) o v a ∧ wpLexs P ops Q T st qf lst rest (k + 1) (a.put o.dst v) w
    else if Region.wanted o (yielded ops a.tmps) then o.wp P a w (fun a' w' => (lst k = false → T (k + 1) w') ∧ wpLexs P ops Q T st qf lst rest (k + 1) a' w') (Qn Q)
    else (lst k = false → T (k + 1) w) ∧ wpLexs P ops Q T st qf lst rest (k + 1) (a.put o.dst undef) w

/-- An operation's stage: behind the last of the effects es that it waits for. -/
def stF (ops : Array Oper) (es : List Nat) (i : Nat) : Nat :=
  match ops[i]? with
  | none => 0
  | some oi => match es.reverse.find? (waitsF .any ops oi) with
    | none => 0
    | some e => e + 1
theorem stF_spec (es : List Nat) : Stages .any ops (qfOf es) (stF ops es) := by
  intro i oi hoi
  unfold stF
  simp only [hoi]
  cases hf : es.reverse.find? (waitsF .any ops oi) with
  | none => exact .inl rfl
  | some e =>
    right
    have h1 := List.find?_some hf
    have h2 := List.mem_of_find?_eq_some hf
    exact ⟨e, rfl, by simpa [qfOf] using h2, fun listed hcl hall => waitsF_spec h1 listed hcl hall⟩

theorem lex_unlisted' : ∀ (listed : Array Bool) (n k : Nat), lexFromE md ops qf n k listed = true → ∀ j, j < n → listed.getD (k + j) false = true → False
  | listed, 0, _, _, j, hj, _ => by omega
  | listed, n + 1, k, h, j, hj, hl => by
    simp only [lexFromE, Bool.and_eq_true] at h
    obtain ⟨⟨hr, _⟩, hB⟩ := h
    rcases j with _ | j
    · have h0 := (mem_ready.1 (show k ∈ Region.ready md ops listed by simpa using hr)).1
      rcases Nat.lt_or_ge k listed.size with h' | h'
      · simp [h'] at h0 hl; rw [h0] at hl; cases hl
      · simp [Array.getElem?_eq_none h'] at hl
    · exact lex_unlisted' _ n (k + 1) hB j (by omega) (by rw [show k + 1 + j = k + (j + 1) from by omega]; exact getD_set_true hl)

theorem mixs_lex (hs : Region.noSelect ops = true) (hl : LastIs md ops lst) (hc : Chain md ops qf) (hst : Stages md ops qf st) (hT : Grows T) : ∀ (l : List Oper) (k m : Nat) (listed : Array Bool) (a : Act) (w : World), (∀ j, l[j]? = ops[k + j]?) →
    lexFromE md ops qf l.length k listed = true → listed.size = ops.size → Closed md ops listed → Upto qf m listed → (∀ m, m < k → listed.getD m true = true) → (T m w ∨ l = []) →
    wpLexs P ops Q T st qf lst l k a w → wpMixs P md ops Q T st qf lst l.length listed a w
  | [], _, _, _, _, _, _, hB, _, _, _, _, _, h => ⟨by simpa [lexFromE] using hB, h⟩
  | o :: l, k, m, listed, a, w, hops, hB, hsz, hcl, hu, hbef, hS, h => by
    have h0 : ops[k]? = some o := by simpa using (hops 0).symm
    simp only [List.length_cons, lexFromE, Bool.and_eq_true] at hB
    obtain ⟨⟨hr, hf⟩, hB'⟩ := hB
    have hr' : k ∈ Region.ready md ops listed := by simpa using hr
    have hops' : ∀ j, l[j]? = ops[k + 1 + j]? := fun j => by have := hops (j + 1); simpa [Nat.add_assoc, Nat.add_comm 1 j] using this
    have hsz' : (listed.setIfInBounds k true).size = ops.size := by rw [Array.size_setIfInBounds, hsz]
    have hkl : k < listed.size := by rw [hsz]; exact (Array.getElem?_eq_some_iff.1 h0).1
    have hbef' : ∀ m, m < k + 1 → (listed.setIfInBounds k true).getD m true = true := fun m hm => by
      by_cases hkm : k = m
      · subst hkm; simp [hkl]
      · rw [getD_set_ne true hkm]; exact hbef m (by omega)
    have hSw : T m w := hS.resolve_right (by simp)
    unfold wpLexs at h
    cases hq : qf k with
    | true =>
      rw [if_pos hq] at h
      obtain ⟨v, hy, hK⟩ := h
      exact mixs_first_quiet h0 (Region.noSelect_spec hs) hq l.length listed a w hsz (fun j oj hj hne hun hno => freeE_spec h0 hf j oj hj hne (.inl hq) hun hno) hr' hy
        (mixs_lex hs hl hc hst hT l (k + 1) m _ _ w hops' hB' hsz' (hcl.add hr') (hu.quiet hq) hbef' (.inl hSw) hK)
    | false =>
      rw [if_neg (by rw [hq]; simp)] at h
      refine mixs_first_effect h0 (Region.noSelect_spec hs) hc hst hT hq l.length listed a w hsz hcl hu hbef (fun j oj hj hne hqj hun hno => freeE_spec h0 hf j oj hj hne (.inr hqj) hun hno) hr' hSw ?_
      have step : ∀ a' w', ((lst k = false → T (k + 1) w') ∧ wpLexs P ops Q T st qf lst l (k + 1) a' w') → ((lst k = false → T (k + 1) w') ∧ wpMixs P md ops Q T st qf lst l.length (listed.setIfInBounds k true) a' w') := fun a' w' ⟨h1, h2⟩ =>
        ⟨h1, mixs_lex hs hl hc hst hT l (k + 1) (k + 1) _ _ w' hops' hB' hsz' (hcl.add hr') (Upto.effect hc hsz hcl hq hr') hbef' (by
          cases hlk : lst k with
          | false => exact .inl (h1 hlk)
          | true =>
            right
            refine List.eq_nil_iff_forall_not_mem.2 fun x hx => ?_
            obtain ⟨j, hj, hjx⟩ := List.getElem_of_mem hx
            have hoj : ops[k + 1 + j]? = some x := by rw [← hops' j, List.getElem?_eq_getElem hj, hjx]
            obtain ⟨_, o', ho', hall⟩ := mem_ready.1 hr'
            obtain rfl : o = o' := by rw [h0] at ho'; exact Option.some.inj ho'
            have h3 := hl k o hlk h0 listed hcl hall (k + 1 + j) (Array.getElem?_eq_some_iff.1 hoj).1 (by omega)
            exact absurd h3 (by
              intro h3
              have hB2 := hB'
              clear hB'
              exact lex_unlisted' (listed.setIfInBounds k true) l.length (k + 1) hB2 j hj (by rw [getD_set_true h3]))) h2⟩
      unfold wpOp
      simp only [h0]
      split
      · rename_i hw
        rw [if_pos hw] at h
        exact .inl (Oper.wp_mono step h)
      · rename_i hw
        rw [if_neg hw] at h
        exact step _ _ h

/-- **A region that draws, walked once, by stages.** -/
theorem wp_region_lexs {id : Nat} {a : Act} {w : World} {l : List Oper} (es ls : List Nat) (T : Nat → World → Prop) (hT : Grows T) (hm : P.follows .mixedOrders = true) (hB : lexE l.toArray es ls = true) (hS : T 0 w.drew)
    (h : ∀ (σ : Nat → Type) (_ : Nonempty (σ 0)) (f : ∀ m, σ m → World) (_ : ∀ m u, T m (f m u)) (_ : ∀ m W, T m W → ∃ u, W = f m u), wpLexs P l.toArray Q T (stF l.toArray es) (qfOf es) (lsOf ls) l 0 a w.drew) : (Code.region id l.toArray true).wp P Q a w := by
  have h' := h (fun m => { W : World // T m W }) ⟨⟨_, hS⟩⟩ (fun m u => u.1) (fun m u => u.2) (fun m W hW => ⟨⟨W, hW⟩, rfl⟩)
  clear h
  simp only [lexE, Bool.and_eq_true] at hB
  obtain ⟨⟨h1, h4, h2⟩, h3⟩ := hB
  have hcl : Closed .any l.toArray (Array.replicate l.toArray.size false) := fun j oj hj hl => by simp [Array.getElem?_replicate] at hl; split at hl <;> simp at hl
  have hu : Upto (qfOf es) 0 (Array.replicate l.toArray.size false) := fun e _ hl => by simp [Array.getElem?_replicate] at hl; split at hl <;> simp at hl
  have hm' := mixs_lex (md := .any) h1 (lsOf_spec h4) (chainB_spec h2) (stF_spec es) hT l 0 0 (Array.replicate l.toArray.size false) a w.drew (by simp) (by simpa using h3) (by simp) hcl hu (fun m hm => by omega) (.inl hS) h'
  exact wp_region_any hm (any_of_mixs (lsOf_spec h4) (chainB_spec h2) (stF_spec es) hT _ 0 _ _ _ (by simp) hcl hu (.inl hS) (by simpa using hm'))

/-! ### The steps -/
variable {rest : List Oper} {o : Oper} {k : Nat} {a : Act} {w : World}
theorem lexs_nil (h : Q .normal a w) : wpLexs P ops Q T st qf lst [] k a w := h
theorem lexs_q (v : Value) (hq : qf k = true) (hw : Region.wanted o (yielded ops a.tmps) = true) (h : ∀ W, T (st k) W → (execOp a.eval o).run P W = .ok (.value v) W)
    (hk : wpLexs P ops Q T st qf lst rest (k + 1) (a.put o.dst v) w) : wpLexs P ops Q T st qf lst (o :: rest) k a w := by
  unfold wpLexs
  rw [if_pos hq]
  exact ⟨v, .inl ⟨hw, h⟩, hk⟩
/-- A quiet operation whose guard is not met. -/
theorem lexs_skipk (hq : qf k = true) (hw : Region.wanted o (yielded ops a.tmps) = false)
    (hk : ∀ K : Act → World → Prop, (∀ a' w', wpLexs P ops Q T st qf lst rest (k + 1) a' w' → K a' w') → K (a.put o.dst undef) w) : wpLexs P ops Q T st qf lst (o :: rest) k a w := by
  unfold wpLexs
  rw [if_pos hq]
  exact ⟨undef, .inr ⟨hw, rfl⟩, hk _ fun _ _ h => h⟩
/-- An effect whose guard is not met. -/
theorem lexs_skipe (hq : qf k = false) (hw : Region.wanted o (yielded ops a.tmps) = false)
    (hk : ∀ K : Act → World → Prop, (∀ a' w', (lst k = false → T (k + 1) w') ∧ wpLexs P ops Q T st qf lst rest (k + 1) a' w' → K a' w') → K (a.put o.dst undef) w) : wpLexs P ops Q T st qf lst (o :: rest) k a w := by
  unfold wpLexs
  rw [if_neg (by rw [hq]; simp), if_neg (by rw [hw]; simp)]
  exact hk _ fun _ _ h => h
theorem lexs_e (hq : qf k = false) (hw : Region.wanted o (yielded ops a.tmps) = true) (h : ∀ K : Act → World → Prop, (∀ a' w', (lst k = false → T (k + 1) w') ∧ wpLexs P ops Q T st qf lst rest (k + 1) a' w' → K a' w') → o.wp P a w K (Qn Q)) :
    wpLexs P ops Q T st qf lst (o :: rest) k a w := by
  unfold wpLexs
  rw [if_neg (by rw [hq]; simp), if_pos hw]
  exact h _ fun _ _ h1 => h1
theorem lexs_qk (v : Value) (m : Nat) (hT : Grows T) (hq : qf k = true) (hm : m.ble (st k) = true) (hw : Region.wanted o (yielded ops a.tmps) = true) (h : ∀ W, T m W → (execOp a.eval o).run P W = .ok (.value v) W)
    (hk : ∀ K : Act → World → Prop, (∀ a' w', wpLexs P ops Q T st qf lst rest (k + 1) a' w' → K a' w') → K (a.put o.dst v) w) : wpLexs P ops Q T st qf lst (o :: rest) k a w :=
  lexs_q v hq hw (fun W hW => h W (hT _ _ _ (Nat.le_of_ble_eq_true hm) hW)) (hk _ fun _ _ h => h)
/-- A quiet operation at stage m, by the library's own quiet step. -/
theorem lexs_qq {σ : Type} {f : σ → World} (m : Nat) (hT : Grows T) (hf : ∀ W, T m W → ∃ u, W = f u) (hq : qf k = true) (hm : m.ble (st k) = true) (hp : plainOp o.op = true) (hw : Region.wanted o (yielded ops a.tmps) = true)
    (h : ∀ K : Act → Prop, (∀ a', wpLexs P ops Q T st qf lst rest (k + 1) a' w → K a') → o.quiet P a (fun W => ∃ u, W = f u) K) : wpLexs P ops Q T st qf lst (o :: rest) k a w := by
  obtain ⟨v, hv, hK⟩ := h _ fun _ h => h
  have run : ∀ W, T m W → (execOp a.eval o).run P W = .ok (.value v) W := fun W hW => by
    have h1 := hv W (hf W hW)
    unfold Oper.quietAt at h1
    cases hr : (execOp a.eval o).run P W with
    | halt x w1 => rw [hr] at h1; simp [Oper.quietUpon] at h1
    | ok n w1 =>
      obtain ⟨x, rfl⟩ := run_plain hp hr
      rw [hr] at h1
      simp only [Oper.quietUpon] at h1
      rw [h1.1, h1.2]
  exact lexs_q v hq hw (fun W hW => run W (hT _ _ _ (Nat.le_of_ble_eq_true hm) hW)) hK
end
end Go.Proofs.Ytdcmncmpoinlaaa
