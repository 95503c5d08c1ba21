/- Several texts in one: SpM, Keep, EntN, EntO, EntP, EntQ. -/
import Derived.Lib.Bytealg
import Derived.Test.YtdmdnphbheomoaaP5
/- Entries spelt as texts: the plain mathematics. -/
namespace Go.Proofs.Ytdmdnphbheomoaa
/-- Does a byte stand as it is? -/
def pln (c : UInt8) : Bool := decide (32 ≤ c.toNat) && decide (c.toNat ≤ 126) && decide (c.toNat ≠ 34) && decide (c.toNat ≠ 92)
/-- A digit to the base 16. -/
def hx (n : Nat) : UInt8 := if n < 10 then UInt8.ofNat (48 + n) else UInt8.ofNat (87 + n)
/-- What a byte says to the base 16; 99: nothing. -/
def dg (c : UInt8) : Nat := if 48 ≤ c.toNat ∧ c.toNat ≤ 57 then c.toNat - 48 else if 97 ≤ c.toNat ∧ c.toNat ≤ 102 then c.toNat - 87 else 99
def sp (c : UInt8) : List UInt8 := if pln c then [c] else [92, 120, hx (c.toNat / 16), hx (c.toNat % 16)]
def sps (e : List UInt8) : List UInt8 := e.flatMap sp
def spell (e : List UInt8) : List UInt8 := 34 :: sps e ++ [34]
theorem sps_snoc (e : List UInt8) (c : UInt8) : sps (e ++ [c]) = sps e ++ sp c := by simp [sps]
theorem sps_cons (e : List UInt8) (c : UInt8) : sps (c :: e) = sp c ++ sps e := rfl
theorem all256 {p : Nat → Bool} (h : (List.range 256).all p = true) {n : Nat} (hn : n < 256) : p n = true := List.all_eq_true.1 h n (List.mem_range.2 hn)
theorem dg_hx {n : Nat} (h : n < 16) : dg (hx n) = n := by
  have := all256 (p := fun n => decide (n < 16 → dg (hx n) = n)) (by decide +kernel) (show n < 256 by omega)
  exact of_decide_eq_true this h
theorem hx_dg {c : UInt8} (h : dg c < 16) : hx (dg c) = c := by
  have := all256 (p := fun n => decide (dg (UInt8.ofNat n) < 16 → hx (dg (UInt8.ofNat n)) = UInt8.ofNat n)) (by decide +kernel) c.toNat_lt
  have := of_decide_eq_true this
  rw [UInt8.ofNat_toNat] at this
  exact this h
theorem dg_cases (c : UInt8) : dg c < 16 ∨ dg c = 99 := by
  have := all256 (p := fun n => decide (dg (UInt8.ofNat n) < 16 ∨ dg (UInt8.ofNat n) = 99)) (by decide +kernel) c.toNat_lt
  have := of_decide_eq_true this
  rwa [UInt8.ofNat_toNat] at this
theorem pln_92 : pln 92 = false := by decide
theorem pln_34 : pln 34 = false := by decide
theorem hx_plain {n : Nat} (h : n < 16) : hx n ≠ 92 ∧ hx n ≠ 34 := by
  have := all256 (p := fun n => decide (n < 16 → hx n ≠ 92 ∧ hx n ≠ 34)) (by decide +kernel) (show n < 256 by omega)
  exact of_decide_eq_true this h
/-- What stands between the quotes, read. -/
def uns : List UInt8 → Option (List UInt8)
  | [] => some []
  | c :: s =>
    if c = 92 then
      match s with
      | x :: h :: l :: r => if x = 120 ∧ dg h < 16 ∧ dg l < 16 ∧ pln (UInt8.ofNat (16 * dg h + dg l)) = false then (uns r).map (UInt8.ofNat (16 * dg h + dg l) :: ·) else none
      | _ => none
    else if pln c then (uns s).map (c :: ·) else none
theorem uns_plain {c : UInt8} {s : List UInt8} (h : pln c = true) : uns (c :: s) = (uns s).map (c :: ·) := by
  have hc : c ≠ 92 := by rintro rfl; rw [pln_92] at h; cases h
  match s with
  | [] => simp [uns, hc, h]
  | [_] => rw [uns] <;> simp [hc, h]
  | [_, _] => rw [uns] <;> simp [hc, h]
  | _ :: _ :: _ :: _ => rw [uns] <;> simp [hc, h]
theorem uns_odd {c : UInt8} {s : List UInt8} (hc : c ≠ 92) (h : pln c = false) : uns (c :: s) = none := by
  match s with
  | [] => rw [uns] <;> simp [hc, h]
  | [_] => rw [uns] <;> simp [hc, h]
  | [_, _] => rw [uns] <;> simp [hc, h]
  | _ :: _ :: _ :: _ => rw [uns] <;> simp [hc, h]
theorem uns_short {s : List UInt8} (h : s.length < 3) : uns (92 :: s) = none := by
  match s, h with
  | [], _ => rw [uns] <;> simp
  | [_], _ => rw [uns] <;> simp
  | [_, _], _ => rw [uns] <;> simp
theorem uns_esc (x h l : UInt8) (r : List UInt8) : uns (92 :: x :: h :: l :: r) = if x = 120 ∧ dg h < 16 ∧ dg l < 16 ∧ pln (UInt8.ofNat (16 * dg h + dg l)) = false then (uns r).map (UInt8.ofNat (16 * dg h + dg l) :: ·) else none := by
  rw [uns, if_pos rfl]
theorem sp_of_esc {h l : UInt8} (h1 : dg h < 16) (h2 : dg l < 16) (h3 : pln (UInt8.ofNat (16 * dg h + dg l)) = false) : sp (UInt8.ofNat (16 * dg h + dg l)) = [92, 120, h, l] := by
  unfold sp
  rw [if_neg (by rw [h3]; simp)]
  have e : (UInt8.ofNat (16 * dg h + dg l)).toNat = 16 * dg h + dg l := by rw [UInt8.toNat_ofNat']; omega
  rw [e, show (16 * dg h + dg l) / 16 = dg h by omega, show (16 * dg h + dg l) % 16 = dg l by omega, hx_dg h1, hx_dg h2]
/-- What is read is spelt as what was read. -/
theorem uns_sps : ∀ (n : Nat) (s e : List UInt8), s.length ≤ n → uns s = some e → sps e = s
  | _, [], e, _, h => by rw [uns] at h; cases h; rfl
  | n + 1, c :: s, e, hn, h => by
    simp only [List.length_cons] at hn
    by_cases hc : c = 92
    · subst hc
      by_cases hl : s.length < 3
      · rw [uns_short hl] at h; cases h
      · match s, hl, hn, h with
        | x :: y :: z :: r, _, hn, h =>
          rw [uns_esc] at h
          split at h
          · rename_i hh
            obtain ⟨rfl, h1, h2, h3⟩ := hh
            cases hr : uns r with
            | none => rw [hr] at h; cases h
            | some e' =>
              rw [hr] at h
              simp only [Option.map_some, Option.some.injEq] at h
              subst h
              simp only [List.length_cons] at hn
              rw [sps_cons, sp_of_esc h1 h2 h3, uns_sps n r e' (by omega) hr]
              rfl
          · cases h
        | [], hl, _, _ => simp at hl
        | [_], hl, _, _ => simp at hl
        | [_, _], hl, _, _ => simp at hl
    · by_cases hp : pln c = true
      · rw [uns_plain hp] at h
        cases hr : uns s with
        | none => rw [hr] at h; cases h
        | some e' =>
          rw [hr] at h
          simp only [Option.map_some, Option.some.injEq] at h
          subst h
          rw [sps_cons, uns_sps n s e' (by omega) hr]
          simp [sp, hp]
      · rw [uns_odd hc (by simpa using hp)] at h
        cases h
/-- What is spelt is read. -/
theorem uns_of : ∀ e : List UInt8, uns (sps e) = some e
  | [] => by rw [show sps [] = [] from rfl, uns]
  | c :: e => by
    rw [sps_cons]
    by_cases hp : pln c = true
    · rw [show sp c = [c] by simp [sp, hp], List.cons_append, List.nil_append, uns_plain hp, uns_of e]; rfl
    · have hp' : pln c = false := by simpa using hp
      have hlt := c.toNat_lt
      have h1 : dg (hx (c.toNat / 16)) = c.toNat / 16 := dg_hx (by omega)
      have h2 : dg (hx (c.toNat % 16)) = c.toNat % 16 := dg_hx (by omega)
      have e1 : UInt8.ofNat (16 * (c.toNat / 16) + c.toNat % 16) = c := by
        rw [show 16 * (c.toNat / 16) + c.toNat % 16 = c.toNat by omega]; simp
      rw [show sp c = [92, 120, hx (c.toNat / 16), hx (c.toNat % 16)] by simp [sp, hp']]
      simp only [List.cons_append, List.nil_append]
      rw [uns_esc, h1, h2, e1, if_pos ⟨rfl, by omega, by omega, hp'⟩, uns_of e]; rfl
/-- A text, read. -/
def readT (t : List UInt8) : Option (List UInt8) :=
  if 2 ≤ t.length ∧ t[0]? = some 34 ∧ t[t.length - 1]? = some 34 then uns ((t.drop 1).take (t.length - 2)) else none
theorem readT_spell (e : List UInt8) : readT (spell e) = some e := by
  have hl : (spell e).length = (sps e).length + 2 := by simp [spell]
  have hd : (spell e).drop 1 = sps e ++ [34] := rfl
  have h0 : (spell e)[0]? = some 34 := rfl
  have h1 : (spell e)[(spell e).length - 1]? = some 34 := by
    rw [hl, show (sps e).length + 2 - 1 = (34 :: sps e).length by simp]
    unfold spell
    rw [List.getElem?_append_right (Nat.le_refl _)]
    simp
  unfold readT
  rw [if_pos ⟨by omega, h0, h1⟩, hd, hl, show (sps e).length + 2 - 2 = (sps e).length by omega, List.take_left, uns_of]
theorem readT_some {t e : List UInt8} (h : readT t = some e) : spell e = t := by
  unfold readT at h
  split at h
  · rename_i hc
    obtain ⟨h1, h2, h3⟩ := hc
    have := uns_sps _ _ e (Nat.le_refl _) h
    unfold spell
    rw [this]
    match t, h1, h2 with
    | a :: r, h1, h2 =>
      simp only [List.getElem?_cons_zero, Option.some.injEq] at h2
      subst h2
      simp only [List.length_cons] at h1 h3 ⊢
      rw [show (34 :: r).drop 1 = r from rfl]
      have hr : r[r.length - 1]? = some 34 := by
        rw [show r.length + 1 - 1 = (r.length - 1) + 1 by omega, List.getElem?_cons_succ] at h3
        exact h3
      have : r = r.take (r.length - 1) ++ [34] := by
        have h5 := List.take_append_drop (r.length - 1) r
        have h6 : r.drop (r.length - 1) = [34] := by
          rw [List.drop_eq_getElem_cons (by omega), List.drop_of_length_le (by omega)]
          obtain ⟨_, h7⟩ := List.getElem?_eq_some_iff.1 hr
          rw [h7]
        rw [h6] at h5
        exact h5.symm
      rw [show r.length + 1 - 2 = r.length - 1 by omega, List.cons_append]
      rw [← this]
  · cases h
/-- A text is read just if it is a spelling. -/
theorem readT_by {t o : List UInt8} (h : spell o = t) : readT t = some o := by rw [← h]; exact readT_spell o
/-- The definition's loose reading, behind the first byte: what escapes seem to say. -/
def lo : Nat → List UInt8 → Option (List UInt8)
  | 0, _ => some []
  | n + 1, t =>
    if t.length < 2 then some [] else
      if t[0]? = some 92 then
        if t.length < 4 then none else
          if dg (t.getD 2 0) < 16 ∧ dg (t.getD 3 0) < 16 then (lo n (t.drop 4)).map (UInt8.ofNat (16 * dg (t.getD 2 0) + dg (t.getD 3 0)) :: ·) else none
      else (lo n (t.drop 1)).map (t.getD 0 0 :: ·)
theorem lo_end {n : Nat} {t : List UInt8} (h : t.length < 2) : lo n t = some [] := by
  cases n with
  | zero => rfl
  | succ n => rw [lo, if_pos h]
theorem lo_spell : ∀ (e : List UInt8) (n : Nat), (sps e).length + 1 ≤ n → lo n (sps e ++ [34]) = some e
  | [], n, _ => lo_end (by simp [sps])
  | c :: e, n, hn => by
    obtain ⟨m, rfl⟩ : ∃ m, n = m + 1 := ⟨n - 1, by omega⟩
    rw [sps_cons, List.length_append] at hn
    rw [sps_cons, List.append_assoc]
    by_cases hp : pln c = true
    · have hs : sp c = [c] := by simp [sp, hp]
      have hc : c ≠ 92 := by rintro rfl; rw [pln_92] at hp; cases hp
      rw [hs] at hn ⊢
      simp only [List.cons_append, List.nil_append, List.length_cons, List.length_nil] at hn ⊢
      rw [lo, if_neg (by simp), if_neg (by simpa using hc)]
      simp only [List.drop_succ_cons, List.drop_zero]
      rw [lo_spell e m (by omega)]
      rfl
    · have hp' : pln c = false := by simpa using hp
      have hlt := c.toNat_lt
      have h1 : dg (hx (c.toNat / 16)) = c.toNat / 16 := dg_hx (by omega)
      have h2 : dg (hx (c.toNat % 16)) = c.toNat % 16 := dg_hx (by omega)
      have e1 : UInt8.ofNat (16 * (c.toNat / 16) + c.toNat % 16) = c := by
        rw [show 16 * (c.toNat / 16) + c.toNat % 16 = c.toNat by omega]; simp
      have hs : sp c = [92, 120, hx (c.toNat / 16), hx (c.toNat % 16)] := by simp [sp, hp']
      rw [hs] at hn ⊢
      simp only [List.cons_append, List.nil_append, List.length_cons, List.length_nil] at hn ⊢
      rw [lo, if_neg (by simp), if_pos (by rfl), if_neg (by simp)]
      simp only [List.getD_cons_succ, List.getD_cons_zero, List.drop_succ_cons, List.drop_zero]
      rw [h1, h2, if_pos ⟨by omega, by omega⟩, e1, lo_spell e m (by omega)]
      rfl
/-- What the loose reading tells, held against the text: it is the text's, or the text is none's. -/
theorem readT_lo (t : List UInt8) : readT t = match lo t.length (t.drop 1) with | none => none | some o => if spell o = t then some o else none := by
  cases hr : readT t with
  | some e =>
    have hs := readT_some hr
    have : lo t.length (t.drop 1) = some e := by
      rw [← hs]
      have hl : (spell e).length = (sps e).length + 2 := by simp [spell]
      exact lo_spell e _ (by omega)
    rw [this]
    simp only [hs, if_true]
  | none =>
    cases hl : lo t.length (t.drop 1) with
    | none => rfl
    | some o =>
      simp only
      rw [if_neg]
      intro hs
      rw [readT_by hs] at hr
      cases hr
end Go.Proofs.Ytdmdnphbheomoaa
/- Appending onto a row of the call's own whose shorter slice is read afterwards. -/
namespace Go.Proofs.Ytdmdnphbheomoaa
open Go.RowKit

theorem run_app_keep {P : Program} (w : World) (t ty e : TypeId) (i : TypeInfo) (z : Value) (size bytes : Nat) (ht : P.underlying t = some (.slice e)) (hi : P.info? e = some i) (hz : i.zero = some z)
    (hsize : i.size = size) (hby : i.bytes = bytes) (hzs : z.cells.size = size) (hsz : 0 < size)
    (v : Value) (n : Nat) (xs : List Value) (hown : Ow w e size v n xs)
    (x : Value) (m : Nat) (news : List Value) (hr : Rd w size x m news) (h1 : ∀ u ∈ news, u.oneCell' = true)
    (h63 : n + m ≤ maxLen) (hbytes : (n + m) * bytes ≤ 140737488355328) :
    ∃ v' w', (Builtin.append_ #[t, t] ty #[v, x]).run P w = .ok v' w' ∧ Ow w' e size v' (n + m) (xs ++ news) ∧ w.grownBy w' v.ownBlock ∧
      (v'.ownBlock = v.ownBlock ∨ v'.ownBlock = some w.heap.size) ∧ Ow w' e size v n xs := by
  obtain ⟨hl, A, c, rfl, hc1, hc2, hA, hcells⟩ := hr
  rcases A with _ | a
  · obtain ⟨rfl, rfl⟩ := hA rfl
    have hn : news = [] := List.eq_nil_of_length_eq_zero (by simpa using hl)
    subst hn
    exact ⟨v, w, run_append_none w t ty e i size ht hi v n xs hown 0, by simpa using hown, World.grownBy.refl w _, .inl rfl, hown⟩
  have hnews := hcells a rfl
  rcases hown.2 with ⟨rfl, rfl⟩ | ⟨g, cap, cur, rfl, hbg, hg, hnc, hcm, hcs, htake⟩
  · obtain ⟨v', w', hrun, h2, h3, h4⟩ := run_app (P := P) w t ty e i z size bytes ht hi hz hsize hby hzs hsz _ 0 xs hown (.slice (some a) m c) m news ⟨hl, _, _, rfl, hc1, hc2, hA, hcells⟩ h1 h63 hbytes
    exact ⟨v', w', hrun, h2, h3, h4, ⟨hown.1, .inl ⟨rfl, rfl⟩⟩⟩
  · subst hsize
    subst hby
    by_cases hroom : n + m ≤ cap
    · have hfit : n * i.size + news.length ≤ cur.size := by rw [hl, hcs, ← Nat.add_mul]; exact Nat.mul_le_mul_right _ hroom
      have hr := run_append_room (P := P) w t ty e i ht hi g n cap cur hg a m c news hl hnews h1 hroom hfit
      have hlen : (xs ++ news).length = (n + m) * i.size := by rw [List.length_append, hown.1, hl, Nat.add_mul]
      have hx : xs.length = n * i.size := hown.1
      have hs0 : ((cur.toList.take (n * i.size) ++ news ++ cur.toList.drop (n * i.size + news.length)).toArray).size = cap * i.size := by
        simp only [List.size_toArray, List.length_append, List.length_take, List.length_drop, Array.length_toList]
        omega
      refine ⟨_, _, hr, ⟨hlen, .inr ⟨g, cap, _, rfl, hbg, setRow_heap w g cur _ e _ hg, hroom, hcm, hs0, ?_⟩⟩, ⟨rfl, rfl, rfl, by simp, fun k _ hk => setRow_other w g k _ (fun e => hk (by simp [Value.ownBlock, e]))⟩, Or.inl rfl, ⟨hx, .inr ⟨g, cap, _, rfl, hbg, setRow_heap w g cur _ e _ hg, hnc, hcm, hs0, ?_⟩⟩⟩
      · rw [htake, ← hlen]
        exact List.take_left
      · rw [htake, ← hx, List.append_assoc]
        exact List.take_left
    · have holds : ∀ j u, xs[j]? = some u → w.cell? ((⟨g, 0, none⟩ : Addr).add j) = some u := hown.cells (g := g) rfl
      have hr := run_append_grow (P := P) w t ty e i z ht hi hz ⟨g, 0, none⟩ n cap xs hown.1 holds a m c news hl hnews (by simp only [maxLen] at h63; omega) (by simp only [maxLen] at h63; omega) (growslice_fits (by omega) hbytes)
      obtain ⟨v', w', hrun, h2, h3, h4⟩ := run_app (P := P) w t ty e i z i.size i.bytes ht hi hz rfl rfl hzs hsz _ n xs hown (.slice (some a) m c) m news ⟨hl, _, _, rfl, hc1, hc2, hA, hcells⟩ h1 h63 hbytes
      rw [hr] at hrun
      injection hrun with e1 e2
      refine ⟨v', w', by rw [hr, e1, e2], h2, h3, h4, ⟨hown.1, .inr ⟨g, cap, cur, rfl, hbg, ?_, hnc, hcm, hcs, htake⟩⟩⟩
      rw [← e2]
      exact (Below.heap_alloc w.drew _ g (Array.getElem?_eq_some_iff.1 hg).1).trans hg
/-- 'append(v, y...)' for bytes, v being read on. -/
theorem app_keep {ops : Array Oper} {rest : List Oper} {o : Oper} {a : Act} {w : World} {Q : Exit → Act → World → Prop} (hgd : o.guard = none) (s x : Operand)
    (ho : o.op = .call { callee := .builtin .append, args := #[s, x], argTypes := #[25, 25] })
    (v : Value) (xs : List UInt8) (hs : a.eval s = v) (hown : Ow w 5 1 v xs.length (bv xs))
    (y : Value) (ys : List UInt8) (hx : a.eval x = y) (hr : Rd w 1 y ys.length (bv ys)) (hb : xs.length + ys.length ≤ 140737488355328)
    (h : ∀ v' w', Ow w' 5 1 v' (xs ++ ys).length (bv (xs ++ ys)) → Kp v.ownBlock.toList w w' → Ow w' 5 1 v xs.length (bv xs) → (v'.ownBlock = v.ownBlock ∨ v'.ownBlock = some w.heap.size) → wpList Try.prog ops Q rest (a.put o.dst v') w') : wpList Try.prog ops Q (o :: rest) a w :=
  wpList_plain hgd fun K hK => by
    obtain ⟨i0, hi, hz0, hz1, hz2⟩ := info_parts Try.infoU8
    obtain ⟨v', w', hrun, h2, h3, h4, h5⟩ := run_app_keep (P := Try.prog) w 25 o.type 5 i0 _ 1 1 Try.underlying25 hi hz0 hz1 hz2 rfl (by decide) v xs.length (bv xs) hown y ys.length (bv ys) hr (bv_one _) (by unfold maxLen; omega) (by omega)
    rw [← bv_append, ← List.length_append] at h2
    unfold Oper.wp execOp
    simp only [ho, resolve, invoke, builtin, Sem.run_bind, Sem.run_pure, Result.andThen_ok, List.map_toArray, List.map_cons, List.map_nil, hs, hx, hrun]
    exact hK _ _ (h v' w' h2 (Kp.of_grown h3) h5 h4)
/-- A row of the list is grown by 'append'. -/
theorem Held.grown {w0 w w' : World} {l1 l2 : List Res} {e : TypeId} {s n n' : Nat} {v v' : Value} {xs xs' : List Value} (h : Held w0 w (l1 ++ rowR e s v n xs :: l2)) (ho : Ow w' e s v' n' xs') (hg : Kp v.ownBlock.toList w w') (hv : v'.ownBlock = v.ownBlock ∨ v'.ownBlock = some w.heap.size) :
    Held w0 w' (l1 ++ rowR e s v' n' xs' :: l2) :=
  h.turnAt (rowR e s v' n' xs') hg ho (fun b hb => by
    rcases hv with e | e
    · exact .inl (by simpa [rowR, e] using hb)
    · simp only [rowR, e, Option.toList_some, List.mem_singleton] at hb; exact .inr (by omega))
section
variable {ops : Array Oper} {rest : List Oper} {o : Oper} {a : Act} {w : World} {Q : Exit → Act → World → Prop}
/-- 'append(v, y...)' where v is a thing held. -/
theorem app_held (l1 : List Res) {w0 : World} {l2 : List Res} (hgd : o.guard = none) (s x : Operand)
    (ho : o.op = .call { callee := .builtin .append, args := #[s, x], argTypes := #[25, 25] })
    (v : Value) (xs : List UInt8) (hs : a.eval s = v) (S : Held w0 w (l1 ++ rowR 5 1 v xs.length (bv xs) :: l2))
    (y : Value) (ys : List UInt8) (hx : a.eval x = y) (hr : Rd w 1 y ys.length (bv ys)) (hb : xs.length + ys.length ≤ 140737488355328)
    (h : ∀ v' w', Held w0 w' (l1 ++ rowR 5 1 v' (xs ++ ys).length (bv (xs ++ ys)) :: l2) → wpList Try.prog ops Q rest (a.put o.dst v') w') : wpList Try.prog ops Q (o :: rest) a w :=
  app_bytes hgd s x ho v xs hs (S.at_) y ys hx hr w0 S.k (fun g hg => S.base (rowR 5 1 v xs.length (bv xs)) (by simp) g (by simp [rowR, hg])) hb (fun v' w' o' _ k' _ h' => h v' w' (S.grown o' k' h'))
/-- 'append(nil, y...)': a new thing. -/
theorem app_new {w0 : World} {L : List Res} (hgd : o.guard = none) (s x : Operand)
    (ho : o.op = .call { callee := .builtin .append, args := #[s, x], argTypes := #[25, 25] })
    (hs : a.eval s = .slice none 0 0) (S : Held w0 w L)
    (y : Value) (ys : List UInt8) (hx : a.eval x = y) (hr : Rd w 1 y ys.length (bv ys)) (hb : ys.length ≤ 140737488355328)
    (h : ∀ v' w', Held w0 w' (rowR 5 1 v' ys.length (bv ys) :: L) → wpList Try.prog ops Q rest (a.put o.dst v') w') : wpList Try.prog ops Q (o :: rest) a w :=
  app_bytes hgd s x ho (.slice none 0 0) [] hs (World.ownsRow_nil _ _ _ _) y ys hx hr w0 S.k (by simp [Value.ownBlock]) (by simpa using hb) (fun v' w' o' _ k' _ h' => h v' w' (S.rownew (by simpa using o') (by simpa [Value.ownBlock] using k') (fun g hg => by
    rcases h' with e | e
    · rw [e] at hg; simp [Value.ownBlock] at hg
    · rw [e] at hg; cases hg; exact Nat.le_refl _)))
end
end Go.Proofs.Ytdmdnphbheomoaa
/- Spell of entry and of the reference. -/
namespace Go.Proofs.Ytdmdnphbheomoaa
open Go.RowKit
set_option maxRecDepth 100000 in
theorem plain_any (c : UInt8) (w : World) : Calls Try.prog 53 #[.int .u8 (c.toNat : Int)] w fun e w' => e = .returned (.bool (pln c)) ∧ w = w' := by
  have hlt := c.toNat_lt
  by_cases h1 : 32 ≤ c.toNat
  · by_cases h2 : c.toNat ≤ 126
    · by_cases h3 : c.toNat = 34
      · have HP : Hid (pln c = false) := Lib.hid (by unfold pln; simp [h3])
        rw [h3]
        go_enter Try.func53, Try.ntmps53
        go_wp2
        go_ret
        exact ⟨by rw [HP.out]; rfl, rfl⟩
      · by_cases h4 : c.toNat = 92
        · have HP : Hid (pln c = false) := Lib.hid (by unfold pln; simp [h4])
          rw [h4]
          go_enter Try.func53, Try.ntmps53
          go_wp2
          go_ret
          exact ⟨by rw [HP.out]; rfl, rfl⟩
        · have HP : Hid (pln c = true) := Lib.hid (by unfold pln; simp [h1, h2, h3, h4])
          have h1' : (32 : Int) ≤ c.toNat := by omega
          have h2' : (c.toNat : Int) ≤ 126 := by omega
          have h3' : ¬ (c.toNat : Int) = 34 := by omega
          have h4' : ¬ (c.toNat : Int) = 92 := by omega
          have h3'' : ((c.toNat : Int) != 34) = true := by simpa using h3'
          have h4'' : ((c.toNat : Int) != 92) = true := by simpa using h4'
          generalize c.toNat = n at *
          go_enter Try.func53, Try.ntmps53
          go_wp2
          go_ret
          exact ⟨by rw [HP.out]; rfl, rfl⟩
    · have HP : Hid (pln c = false) := Lib.hid (by unfold pln; simp [h2])
      have h1' : (32 : Int) ≤ c.toNat := by omega
      have h2' : ¬ (c.toNat : Int) ≤ 126 := by omega
      generalize c.toNat = n at *
      go_enter Try.func53, Try.ntmps53
      go_wp2
      go_ret
      exact ⟨by rw [HP.out]; rfl, rfl⟩
  · have HP : Hid (pln c = false) := Lib.hid (by unfold pln; simp [h1])
    have h1' : ¬ (32 : Int) ≤ c.toNat := by omega
    generalize c.toNat = n at *
    go_enter Try.func53, Try.ntmps53
    go_wp2
    go_ret
    exact ⟨by rw [HP.out]; rfl, rfl⟩
set_option maxRecDepth 100000 in
theorem hex15_any (n : Nat) (hn : n < 16) (w : World) : Calls Try.prog 55 #[.int .u8 (n : Int)] w fun e w' => e = .returned (.int .u8 ((hx n).toNat : Int)) ∧ w = w' := by
  by_cases h : n < 10
  · have HP : Hid (((hx n).toNat : Int) = 48 + n) := Lib.hid (by unfold hx; rw [if_pos h, UInt8.toNat_ofNat']; omega)
    have h' : (n : Int) < 10 := by omega
    go_enter Try.func55, Try.ntmps55
    go_wp2
    go_ret
    exact ⟨by rw [HP.out]; rfl, rfl⟩
  · have HP : Hid (((hx n).toNat : Int) = 87 + n) := Lib.hid (by unfold hx; rw [if_neg h, UInt8.toNat_ofNat']; omega)
    have h' : ¬ (n : Int) < 10 := by omega
    go_enter Try.func55, Try.ntmps55
    go_wp2
    go_ret
    exact ⟨by rw [HP.out, show (87 : Int) + n = 97 + n - 10 by omega]; rfl, rfl⟩
set_option maxRecDepth 100000 in
theorem digit15_any (c : UInt8) (w : World) : Calls Try.prog 54 #[.int .u8 (c.toNat : Int)] w fun e w' => e = .returned (.int .i64 (dg c : Int)) ∧ w = w' := by
  have hlt := c.toNat_lt
  by_cases h : 48 ≤ c.toNat ∧ c.toNat ≤ 57
  · have HP : Hid ((dg c : Int) = (c.toNat : Int) - 48) := Lib.hid (by unfold dg; rw [if_pos h]; omega)
    have h1 : (48 : Int) ≤ c.toNat := by omega
    have h2 : (c.toNat : Int) ≤ 57 := by omega
    generalize c.toNat = n at *
    go_enter Try.func54, Try.ntmps54
    go_wp2
    go_ret
    exact ⟨by rw [HP.out]; rfl, rfl⟩
  · by_cases h3 : 97 ≤ c.toNat ∧ c.toNat ≤ 102
    · have HP : Hid ((dg c : Int) = (c.toNat : Int) - 97 + 10) := Lib.hid (by unfold dg; rw [if_neg h, if_pos h3]; omega)
      have h1 : (97 : Int) ≤ c.toNat := by omega
      have h2 : (c.toNat : Int) ≤ 102 := by omega
      have h4 : (48 : Int) ≤ c.toNat := by omega
      have h5 : ¬ (c.toNat : Int) ≤ 57 := by omega
      generalize c.toNat = n at *
      go_enter Try.func54, Try.ntmps54
      go_wp2
      go_ret
      exact ⟨by rw [HP.out]; rfl, rfl⟩
    · have HP : Hid (dg c = 99) := Lib.hid (by unfold dg; rw [if_neg h, if_neg h3])
      generalize c.toNat = n at *
      by_cases h1 : 48 ≤ n
      · have h1' : (48 : Int) ≤ n := by omega
        have h2' : ¬ (n : Int) ≤ 57 := by omega
        by_cases h4 : 97 ≤ n
        · have h4' : (97 : Int) ≤ n := by omega
          have h5' : ¬ (n : Int) ≤ 102 := by omega
          go_enter Try.func54, Try.ntmps54
          go_wp2
          go_ret
          exact ⟨by rw [HP.out]; rfl, rfl⟩
        · have h4' : ¬ (97 : Int) ≤ n := by omega
          go_enter Try.func54, Try.ntmps54
          go_wp2
          go_ret
          exact ⟨by rw [HP.out]; rfl, rfl⟩
      · have h1' : ¬ (48 : Int) ≤ n := by omega
        have h4' : ¬ (97 : Int) ≤ n := by omega
        go_enter Try.func54, Try.ntmps54
        go_wp2
        go_ret
        exact ⟨by rw [HP.out]; rfl, rfl⟩
def hexL : List UInt8 := [48, 49, 50, 51, 52, 53, 54, 55, 56, 57, 97, 98, 99, 100, 101, 102]
def dgi (c : UInt8) : Int := if dg c < 16 then (dg c : Int) else -1
theorem indexByte_hex (c : UInt8) : Lib.indexByte hexL c = dgi c := by
  have := all256 (p := fun n => decide (Lib.indexByte hexL (UInt8.ofNat n) = dgi (UInt8.ofNat n))) (by decide +kernel) c.toNat_lt
  have := of_decide_eq_true this
  rwa [UInt8.ofNat_toNat] at this
set_option maxRecDepth 100000 in
theorem idx_any (c : UInt8) (w : World) : Calls Try.prog 52 #[.string ⟨hexL.toArray⟩, .int .u8 (c.toNat : Int)] w fun e w' => e = .returned (.int .i64 (dgi c)) ∧ w = w' := by
  have hq : Hid (Lib.indexByte hexL c = dgi c) := Lib.hid (indexByte_hex c)
  go_enter Try.func52, Try.ntmps52
  go_wp2
  rw [run_callFunc_extern Try.func77 (by kernel_rfl) (by kernel_rfl) (by kernel_rfl) (e := Extern.BytealgIndexByte.indexByte) (by kernel_rfl), Lib.run_indexByteString]
  simp only [Result.andThen]
  rw [Oper.upon_value]
  go_wp2
  go_ret
  exact ⟨by rw [← hq.out]; rfl, rfl⟩
theorem hexi_0 (w : World) : (Instr.index 9 (.string ⟨#[48, 49, 50, 51, 52, 53, 54, 55, 56, 57, 97, 98, 99, 100, 101, 102]⟩) (.int .u8 0)).run Try.prog w = .ok (.int .u8 48) w := by kernel_rfl
theorem hexi_1 (w : World) : (Instr.index 9 (.string ⟨#[48, 49, 50, 51, 52, 53, 54, 55, 56, 57, 97, 98, 99, 100, 101, 102]⟩) (.int .u8 1)).run Try.prog w = .ok (.int .u8 49) w := by kernel_rfl
theorem hexi_2 (w : World) : (Instr.index 9 (.string ⟨#[48, 49, 50, 51, 52, 53, 54, 55, 56, 57, 97, 98, 99, 100, 101, 102]⟩) (.int .u8 2)).run Try.prog w = .ok (.int .u8 50) w := by kernel_rfl
theorem hexi_3 (w : World) : (Instr.index 9 (.string ⟨#[48, 49, 50, 51, 52, 53, 54, 55, 56, 57, 97, 98, 99, 100, 101, 102]⟩) (.int .u8 3)).run Try.prog w = .ok (.int .u8 51) w := by kernel_rfl
theorem hexi_4 (w : World) : (Instr.index 9 (.string ⟨#[48, 49, 50, 51, 52, 53, 54, 55, 56, 57, 97, 98, 99, 100, 101, 102]⟩) (.int .u8 4)).run Try.prog w = .ok (.int .u8 52) w := by kernel_rfl
theorem hexi_5 (w : World) : (Instr.index 9 (.string ⟨#[48, 49, 50, 51, 52, 53, 54, 55, 56, 57, 97, 98, 99, 100, 101, 102]⟩) (.int .u8 5)).run Try.prog w = .ok (.int .u8 53) w := by kernel_rfl
theorem hexi_6 (w : World) : (Instr.index 9 (.string ⟨#[48, 49, 50, 51, 52, 53, 54, 55, 56, 57, 97, 98, 99, 100, 101, 102]⟩) (.int .u8 6)).run Try.prog w = .ok (.int .u8 54) w := by kernel_rfl
theorem hexi_7 (w : World) : (Instr.index 9 (.string ⟨#[48, 49, 50, 51, 52, 53, 54, 55, 56, 57, 97, 98, 99, 100, 101, 102]⟩) (.int .u8 7)).run Try.prog w = .ok (.int .u8 55) w := by kernel_rfl
theorem hexi_8 (w : World) : (Instr.index 9 (.string ⟨#[48, 49, 50, 51, 52, 53, 54, 55, 56, 57, 97, 98, 99, 100, 101, 102]⟩) (.int .u8 8)).run Try.prog w = .ok (.int .u8 56) w := by kernel_rfl
theorem hexi_9 (w : World) : (Instr.index 9 (.string ⟨#[48, 49, 50, 51, 52, 53, 54, 55, 56, 57, 97, 98, 99, 100, 101, 102]⟩) (.int .u8 9)).run Try.prog w = .ok (.int .u8 57) w := by kernel_rfl
theorem hexi_10 (w : World) : (Instr.index 9 (.string ⟨#[48, 49, 50, 51, 52, 53, 54, 55, 56, 57, 97, 98, 99, 100, 101, 102]⟩) (.int .u8 10)).run Try.prog w = .ok (.int .u8 97) w := by kernel_rfl
theorem hexi_11 (w : World) : (Instr.index 9 (.string ⟨#[48, 49, 50, 51, 52, 53, 54, 55, 56, 57, 97, 98, 99, 100, 101, 102]⟩) (.int .u8 11)).run Try.prog w = .ok (.int .u8 98) w := by kernel_rfl
theorem hexi_12 (w : World) : (Instr.index 9 (.string ⟨#[48, 49, 50, 51, 52, 53, 54, 55, 56, 57, 97, 98, 99, 100, 101, 102]⟩) (.int .u8 12)).run Try.prog w = .ok (.int .u8 99) w := by kernel_rfl
theorem hexi_13 (w : World) : (Instr.index 9 (.string ⟨#[48, 49, 50, 51, 52, 53, 54, 55, 56, 57, 97, 98, 99, 100, 101, 102]⟩) (.int .u8 13)).run Try.prog w = .ok (.int .u8 100) w := by kernel_rfl
theorem hexi_14 (w : World) : (Instr.index 9 (.string ⟨#[48, 49, 50, 51, 52, 53, 54, 55, 56, 57, 97, 98, 99, 100, 101, 102]⟩) (.int .u8 14)).run Try.prog w = .ok (.int .u8 101) w := by kernel_rfl
theorem hexi_15 (w : World) : (Instr.index 9 (.string ⟨#[48, 49, 50, 51, 52, 53, 54, 55, 56, 57, 97, 98, 99, 100, 101, 102]⟩) (.int .u8 15)).run Try.prog w = .ok (.int .u8 102) w := by kernel_rfl
theorem hexi15 (n : Nat) (m : Int) (hm : m = n) (hn : n < 16) (w : World) : (Instr.index 9 (.string ⟨#[48, 49, 50, 51, 52, 53, 54, 55, 56, 57, 97, 98, 99, 100, 101, 102]⟩) (.int .u8 m)).run Try.prog w = .ok (.int .u8 ((hx n).toNat : Int)) w := by
  subst hm
  have h : n = 0 ∨ n = 1 ∨ n = 2 ∨ n = 3 ∨ n = 4 ∨ n = 5 ∨ n = 6 ∨ n = 7 ∨ n = 8 ∨ n = 9 ∨ n = 10 ∨ n = 11 ∨ n = 12 ∨ n = 13 ∨ n = 14 ∨ n = 15 := by omega
  rcases h with rfl | rfl | rfl | rfl | rfl | rfl | rfl | rfl | rfl | rfl | rfl | rfl | rfl | rfl | rfl | rfl
  · exact hexi_0 w
  · exact hexi_1 w
  · exact hexi_2 w
  · exact hexi_3 w
  · exact hexi_4 w
  · exact hexi_5 w
  · exact hexi_6 w
  · exact hexi_7 w
  · exact hexi_8 w
  · exact hexi_9 w
  · exact hexi_10 w
  · exact hexi_11 w
  · exact hexi_12 w
  · exact hexi_13 w
  · exact hexi_14 w
  · exact hexi_15 w
theorem sps_take_succ {e : List UInt8} {k : Nat} {c : UInt8} (h : e[k]? = some c) : sps (e.take (k + 1)) = sps (e.take k) ++ sp c := by
  rw [List.take_add_one, h, Option.toList_some, sps_snoc]
theorem sps_len (e : List UInt8) : (sps e).length ≤ 4 * e.length := by
  induction e with
  | nil => simp [sps]
  | cons c e ih =>
    rw [sps_cons, List.length_append, List.length_cons]
    have : (sp c).length ≤ 4 := by unfold sp; split <;> simp
    omega
set_option maxRecDepth 100000 in
set_option maxHeartbeats 4000000 in
theorem spell15_any (x : Value) (e : List UInt8) (w : World) (hx : Rd w 1 x e.length (bv e)) (hn : e.length ≤ 1073741824) :
    Calls Try.prog 27 #[x] w fun r w' => r = .returned (.string ⟨(spell e).toArray⟩) ∧ Kp [] w w' := by
  obtain ⟨A, c, rfl, hnc, hcm, hA, hat⟩ := rd_get2 hx
  unfold maxLen at hcm
  have HA := Lib.hid hA
  have Hat := Lib.hid hat
  clear hx hA hat
  have S0 := Lib.hid ((Held.start w).rownew (ow_new w 5 1 1 #[.int .u8 34] rfl (by decide)) ((Kp.refl [] w).alloc _) (fun g hg => Nat.le_of_eq (Option.some.inj hg)))
  go_enter Try.func27, Try.ntmps27
  go_wp2
  go_loopw [3, 9] (fun b i wr => ∃ k : Nat, k ≤ e.length ∧ i = .int .i64 k ∧ ∃ A c, b = .slice A (34 :: sps (e.take k)).length c ∧ Held w wr [rowR 5 1 (.slice A (34 :: sps (e.take k)).length c) (34 :: sps (e.take k)).length (bv (34 :: sps (e.take k)))]) (fun _ i _ => e.length - (intOf i).toNat)
  case atStart => exact ⟨0, by omega, rfl, _, _, rfl, S0.out⟩
  case round =>
    clear S0
    obtain ⟨k, hk, rfl, Ao, co, rfl, S⟩ := hrel
    have HS := Lib.hid S
    clear S
    have hol : (34 :: sps (e.take k)).length ≤ 4294967297 := by
      rw [List.length_cons]
      have := sps_len (e.take k)
      have h2 : (e.take k).length ≤ e.length := by rw [List.length_take]; omega
      omega
    by_cases hlt : k < e.length
    · obtain ⟨ad, rfl⟩ : ∃ ad, A = some ad := by
        cases A with
        | none => have := HA.out rfl; omega
        | some ad => exact ⟨ad, rfl⟩
      have hc0 := cell_kept (Hat.out ad rfl k hlt) HS.out.k
      have he : e[k]? = some e[k] := List.getElem?_eq_getElem hlt
      obtain ⟨o', HO2⟩ : ∃ o', Hid ((34 :: sps (e.take (k + 1))) = o') := ⟨_, Lib.hid rfl⟩
      have HO1 : Hid ((34 :: sps (e.take k)) ++ sp e[k] = o') := Lib.hid (by rw [← HO2.out, sps_take_succ he]; rfl)
      clear he
      generalize (34 :: sps (e.take k)) = o at *
      generalize e[k] = ch at *
      have hlc := ch.toNat_lt
      by_cases hp : pln ch = true
      · have hs : sp ch = [ch] := by simp [sp, hp]
        rw [hs] at HO1
        have HP := Lib.hid hp
        have S1 := Lib.hid (HS.out.alloc (.cells #[.int .u8 (ch.toNat : Int)] 5))
        have HR := Lib.hid (rd_lit wr 5 #[.int .u8 (ch.toNat : Int)] [ch] rfl (by simp))
        clear hp hs
        go_wp2_with fail
        refine (plain_any ch _).mono ?_
        rw [HP.out]
        rintro r w1 ⟨rfl, rfl⟩
        go_wp2_with (at_builtin; go_loud (refine app_held [] rfl (.tmp 15) (.tmp 17) rfl (.slice Ao o.length co) o rfl S1.out (.slice (some ⟨wr.heap.size, 0, none⟩) 1 1) [ch] rfl HR.out (by simp only [List.length_cons, List.length_nil]; omega) ?_); intro v' w' S'; rw [HO1.out] at S'; have S2 := Lib.hid S'; obtain ⟨A2, c2, h2, _⟩ := ow_form (S'.at_ (l1 := [])); subst h2; clear S')
        go_round
        case rel => exact ⟨k + 1, by omega, by go_num, by rw [HO2.out]; exact ⟨_, _, rfl, S2.out⟩⟩
        case measure => simp [intOf]; omega
      · have hp' : pln ch = false := by simpa using hp
        have hs : sp ch = [92, 120, hx (ch.toNat / 16), hx (ch.toNat % 16)] := by simp [sp, hp']
        rw [hs] at HO1
        have HP := Lib.hid hp'
        have HPl := Lib.hid (fun W => plain_any ch W)
        rw [HP.out] at HPl
        have HO' : Hid (o ++ [92, 120, hx (ch.toNat / 16), hx (ch.toNat % 16)] = o' ∧ o.length + 4 = o'.length) := Lib.hid ⟨HO1.out, by rw [← HO1.out]; simp⟩
        clear hp hp' hs HP
        generalize ch.toNat = n at *
        go_wp2_with fail
        refine (HPl.out _).mono ?_
        rintro r w1 ⟨rfl, rfl⟩
        go_wp2
        -- SEP spell15
        refine wp_region_sep (Γ := Unit) 1 [0, 1, 2, 3, 4, 5, 6, 7, 8, 9]
          (fun i vs gs => match i with | 0 => vs 0 = .slice Ao o.length co | 1 => vs 1 = .int .u8 (n : Int) | 2 => vs 2 = .int .u8 ((n : Int) / 16) | 3 => vs 3 = .int .u8 ((hx (n / 16)).toNat : Int) | 4 => vs 4 = .int .u8 (n : Int) | 5 => vs 5 = .int .u8 ((n : Int) % 16) | 6 => vs 6 = .int .u8 ((hx (n % 16)).toNat : Int) | 8 => ∃ A c, vs 8 = .slice A o'.length c | 9 => vs 9 = vs 8 | _ => True)
          (fun i vs gs => match i with | 7 => [rowR 5 1 (vs 7) 4 (bv [92, 120, hx (n / 16), hx (n % 16)])] | 8 => [rowR 5 1 (vs 8) o'.length (bv o')] | 10 => [rowR 5 1 (.slice Ao o.length co) o.length (bv o)] | _ => [])
          (fun i => match i with | 8 => [10] | _ => []) (fun i => match i with | 8 => [7] | _ => []) HS.out (by kernel_rfl) (by kernel_rfl) (by kernel_rfl) (by kernel_rfl) (fun i => match i with | 0 => [0] | 1 => [1] | 2 => [2] | 3 => [3] | 4 => [4] | 5 => [5] | 6 => [6] | 7 => [7] | 8 => [8] | 9 => [8, 9] | _ => []) (by kernel_rfl) ?_ (by kernel_rfl) ?_ ?_ ?_
        · intro s vs vs' gs gs' h
          iterate 11 (rcases s with _ | s; · (first | exact ⟨rfl, id⟩ | (simp only [List.mem_cons, List.not_mem_nil, or_false, forall_eq_or_imp, forall_eq] at h; simp [h])))
          exact ⟨rfl, id⟩
        · simp only [List.range, List.range.loop, List.flatMap_cons, List.flatMap_nil, List.append_nil, List.cons_append, List.nil_append]
          exact List.Perm.refl _
        · refine ⟨?_, ?_, ?_, ?_, ?_, ?_, ?_, ?_, ?_, ?_, trivial⟩
          · intro vs gs A' W LF hA S hR hd hu K hK
            replace hK := hK default
            have e3 : A'.tmps[3]?.getD undef = vs 9 := slot_is hA (by kernel_rfl) (Nat.le_of_ble_eq_true (by kernel_rfl)) (by kernel_rfl)
            rw [show vs 9 = .slice Ao o.length co from hu 9 _ rfl (by kernel_rfl)] at e3
            go_step
            exact hK _ _ S rfl
          · intro vs gs A' W LF hA S hR hd hu K hK
            replace hK := hK default
            have e5 : A'.tmps[5]?.getD undef = .int .u8 (n : Int) := slot_is hA (by kernel_rfl) (Nat.le_of_ble_eq_true (by kernel_rfl)) (by kernel_rfl)
            go_step
            exact hK _ _ S rfl
          · intro vs gs A' W LF hA S hR hd hu K hK
            replace hK := hK default
            have f1 : vs 1 = .int .u8 (n : Int) := hd 1 (by kernel_rfl)
            have e20 : A'.tmps[20]?.getD undef = vs 1 := slot_is hA (by kernel_rfl) (Nat.le_of_ble_eq_true (by kernel_rfl)) (by kernel_rfl)
            rw [f1] at e20
            go_step
            exact hK _ _ S rfl
          · intro vs gs A' W LF hA S hR hd hu K hK
            replace hK := hK default
            have f2 : vs 2 = .int .u8 ((n : Int) / 16) := hd 2 (by kernel_rfl)
            have e21 : A'.tmps[21]?.getD undef = vs 2 := slot_is hA (by kernel_rfl) (Nat.le_of_ble_eq_true (by kernel_rfl)) (by kernel_rfl)
            rw [f2] at e21
            have q := fun V => hexi15 (n / 16) ((n : Int) / 16) (by omega) (by omega) V
            go_step
            exact hK _ _ S rfl
          · intro vs gs A' W LF hA S hR hd hu K hK
            replace hK := hK default
            have e5 : A'.tmps[5]?.getD undef = .int .u8 (n : Int) := slot_is hA (by kernel_rfl) (Nat.le_of_ble_eq_true (by kernel_rfl)) (by kernel_rfl)
            go_step
            exact hK _ _ S rfl
          · intro vs gs A' W LF hA S hR hd hu K hK
            replace hK := hK default
            have f4 : vs 4 = .int .u8 (n : Int) := hd 4 (by kernel_rfl)
            have e23 : A'.tmps[23]?.getD undef = vs 4 := slot_is hA (by kernel_rfl) (Nat.le_of_ble_eq_true (by kernel_rfl)) (by kernel_rfl)
            rw [f4] at e23
            go_step
            exact hK _ _ S rfl
          · intro vs gs A' W LF hA S hR hd hu K hK
            replace hK := hK default
            have f5 : vs 5 = .int .u8 ((n : Int) % 16) := hd 5 (by kernel_rfl)
            have e24 : A'.tmps[24]?.getD undef = vs 5 := slot_is hA (by kernel_rfl) (Nat.le_of_ble_eq_true (by kernel_rfl)) (by kernel_rfl)
            rw [f5] at e24
            have q := fun V => hexi15 (n % 16) ((n : Int) % 16) (by omega) (by omega) V
            go_step
            exact hK _ _ S rfl
          · intro vs gs A' W LF hA S hR hd hu K hK
            replace hK := hK default
            have f3 : vs 3 = .int .u8 ((hx (n / 16)).toNat : Int) := hd 3 (by kernel_rfl)
            have e22 : A'.tmps[22]?.getD undef = vs 3 := slot_is hA (by kernel_rfl) (Nat.le_of_ble_eq_true (by kernel_rfl)) (by kernel_rfl)
            rw [f3] at e22
            have f6 : vs 6 = .int .u8 ((hx (n % 16)).toNat : Int) := hd 6 (by kernel_rfl)
            have e25 : A'.tmps[25]?.getD undef = vs 6 := slot_is hA (by kernel_rfl) (Nat.le_of_ble_eq_true (by kernel_rfl)) (by kernel_rfl)
            rw [f6] at e25
            go_step
            exact hK _ _ (S.rownew (ow_new W 5 1 4 #[.int .u8 92, .int .u8 120, .int .u8 ((hx (n / 16)).toNat : Int), .int .u8 ((hx (n % 16)).toNat : Int)] rfl (by decide)) ((Kp.refl [] W).alloc _) (fun g hg => Nat.le_of_eq (Option.some.inj hg))) trivial
          · intro vs gs A' W LF hA S hR hd hu K hK
            replace hK := hK default
            have f0 : vs 0 = .slice Ao o.length co := hd 0 (by kernel_rfl)
            have e19 : A'.tmps[19]?.getD undef = vs 0 := slot_is hA (by kernel_rfl) (Nat.le_of_ble_eq_true (by kernel_rfl)) (by kernel_rfl)
            rw [f0] at e19
            have e26 : A'.tmps[26]?.getD undef = vs 7 := slot_is hA (by kernel_rfl) (Nat.le_of_ble_eq_true (by kernel_rfl)) (by kernel_rfl)
            refine op_app (.tmp 19) (.tmp 26) 25 5 rfl Try.infoU8 Try.underlying25 rfl (by decide) (.slice Ao o.length co) o.length (bv o) (by simpa [Act.eval] using e19) S (vs 7) 4 (bv [92, 120, hx (n / 16), hx (n % 16)]) (by simpa [Act.eval] using e26) (rd_of_row (e := 5) S (List.mem_cons_of_mem _ (hR 7 (List.mem_singleton.2 rfl) _ (List.mem_singleton.2 rfl)))) (bv_one _) (by unfold maxLen; omega) (by omega) (fun v' w' S' => ?_)
            rw [← bv_append, HO'.out.1, HO'.out.2] at S'
            obtain ⟨A1, c1, h1, _⟩ := ow_form (S'.at_ (l1 := []))
            exact hK v' w' S' ⟨A1, c1, h1⟩
          · intro vs gs A' W LF hA S hR hd hu K hK
            replace hK := hK default
            have f8 : ∃ A c, vs 8 = .slice A o'.length c := hd 8 (by kernel_rfl)
            have e27 : A'.tmps[27]?.getD undef = vs 8 := slot_is hA (by kernel_rfl) (Nat.le_of_ble_eq_true (by kernel_rfl)) (by kernel_rfl)
            go_step
            exact hK _ _ S rfl
        · intro vs gs W S hp
          have S : Held w W (rowR 5 1 (vs 7) 4 (bv [92, 120, hx (n / 16), hx (n % 16)]) :: rowR 5 1 (vs 8) o'.length (bv o') :: []) := by simpa only [List.flatMap_cons, List.flatMap_nil, List.append_nil, List.nil_append, List.cons_append, List.append_assoc] using S
          have p0 : vs 0 = .slice Ao o.length co := hp 0 (Nat.le_of_ble_eq_true rfl)
          have p1 : vs 1 = .int .u8 (n : Int) := hp 1 (Nat.le_of_ble_eq_true rfl)
          have p2 : vs 2 = .int .u8 ((n : Int) / 16) := hp 2 (Nat.le_of_ble_eq_true rfl)
          have p3 : vs 3 = .int .u8 ((hx (n / 16)).toNat : Int) := hp 3 (Nat.le_of_ble_eq_true rfl)
          have p4 : vs 4 = .int .u8 (n : Int) := hp 4 (Nat.le_of_ble_eq_true rfl)
          have p5 : vs 5 = .int .u8 ((n : Int) % 16) := hp 5 (Nat.le_of_ble_eq_true rfl)
          have p6 : vs 6 = .int .u8 ((hx (n % 16)).toNat : Int) := hp 6 (Nat.le_of_ble_eq_true rfl)
          have p9 : vs 9 = vs 8 := hp 9 (Nat.le_of_ble_eq_true rfl)
          obtain ⟨A8, c8, h8⟩ := hp 8 (Nat.le_of_ble_eq_true rfl)
          rw [h8] at p9 S
          have S2 := Lib.hid S.drop
          clear hp
          simp only [putAll, p0, p1, p2, p3, p4, p5, p6, p9, h8, Act.put, List.setIfInBounds_toArray, List.set_cons_succ, List.set_cons_zero]
          clear p0 p1 p2 p3 p4 p5 p6 p9 h8
          go_wp2
          go_roundw
          case rel => exact ⟨k + 1, by omega, by go_num, by rw [HO2.out]; exact ⟨_, _, rfl, S2.out⟩⟩
          case measure => simp [intOf]; omega
        -- END spell15
    · obtain rfl : k = e.length := by omega
      rw [List.take_length] at HS hol ⊢
      have S1 := Lib.hid (HS.out.alloc (.cells #[.int .u8 34] 5))
      have HR := Lib.hid (rd_lit wr 5 #[.int .u8 34] [34] rfl (by simp))
      obtain ⟨o, HO⟩ : ∃ o, Hid (34 :: sps e = o) := ⟨_, Lib.hid rfl⟩
      have HSp : Hid (spell e = o ++ [34]) := Lib.hid (by rw [← HO.out]; rfl)
      rw [HO.out] at S1 hol ⊢
      clear HS HO
      go_wp2_with (at_builtin; refine app_held [] rfl (.tmp 29) (.tmp 30) rfl (.slice Ao o.length co) o rfl S1.out (.slice (some ⟨wr.heap.size, 0, none⟩) 1 1) [34] rfl HR.out (by simp only [List.length_cons, List.length_nil]; omega) ?_; intro v' w' S'; rw [← HSp.out] at S'; have S2 := Lib.hid S'; have kv := strB (Rd.of_own (S'.at_ (l1 := []))); clear S')
      go_ret
      exact ⟨rfl, S2.out.k⟩
theorem pln_ints {c : UInt8} (h : pln c = true) : (32 : Int) ≤ c.toNat ∧ (c.toNat : Int) ≤ 126 ∧ ((c.toNat : Int) != 34) = true ∧ ((c.toNat : Int) != 92) = true := by
  simp only [pln, Bool.and_eq_true, decide_eq_true_eq] at h
  obtain ⟨⟨⟨h1, h2⟩, h3⟩, h4⟩ := h
  refine ⟨by omega, by omega, ?_, ?_⟩ <;> (simp only [bne_iff_ne, ne_eq]; omega)
theorem pln_no {c : UInt8} (h : pln c = false) : ¬ (32 : Int) ≤ c.toNat ∨ ((32 : Int) ≤ c.toNat ∧ ¬ (c.toNat : Int) ≤ 126) ∨ ((32 : Int) ≤ c.toNat ∧ (c.toNat : Int) ≤ 126 ∧ ((c.toNat : Int) != 34) = false) ∨ ((32 : Int) ≤ c.toNat ∧ (c.toNat : Int) ≤ 126 ∧ ((c.toNat : Int) != 34) = true ∧ ((c.toNat : Int) != 92) = false) := by
  by_cases h1 : 32 ≤ c.toNat
  · by_cases h2 : c.toNat ≤ 126
    · by_cases h3 : c.toNat = 34
      · exact .inr (.inr (.inl ⟨by omega, by omega, by rw [h3]; rfl⟩))
      · by_cases h4 : c.toNat = 92
        · exact .inr (.inr (.inr ⟨by omega, by omega, by rw [h4]; rfl, by rw [h4]; rfl⟩))
        · exfalso
          unfold pln at h
          simp [h1, h2, h3, h4] at h
    · exact .inr (.inl ⟨by omega, by omega⟩)
  · exact .inl (by omega)
set_option maxRecDepth 100000 in
set_option maxHeartbeats 4000000 in
theorem rspell15_any (x : Value) (e : List UInt8) (w : World) (hx : Rd w 1 x e.length (bv e)) (hn : e.length ≤ 1073741824) :
    Calls Try.prog 28 #[x] w fun r w' => r = .returned (.string ⟨(spell e).toArray⟩) ∧ Kp [] w w' := by
  obtain ⟨A, c, rfl, hnc, hcm, hA, hat⟩ := rd_get2 hx
  unfold maxLen at hcm
  have HA := Lib.hid hA
  have Hat := Lib.hid hat
  clear hx hA hat
  have S0 := Lib.hid ((Held.start w).rownew (ow_new w 5 1 1 #[.int .u8 34] rfl (by decide)) ((Kp.refl [] w).alloc _) (fun g hg => Nat.le_of_eq (Option.some.inj hg)))
  go_enter Try.func28, Try.ntmps28
  go_wp2
  go_loopw [3, 4] (fun b i wr => ∃ k : Nat, k ≤ e.length ∧ i = .int .i64 k ∧ ∃ A c, b = .slice A (34 :: sps (e.take k)).length c ∧ Held w wr [rowR 5 1 (.slice A (34 :: sps (e.take k)).length c) (34 :: sps (e.take k)).length (bv (34 :: sps (e.take k)))]) (fun _ i _ => e.length - (intOf i).toNat)
  case atStart => exact ⟨0, by omega, rfl, _, _, rfl, S0.out⟩
  case round =>
    clear S0
    obtain ⟨k, hk, rfl, Ao, co, rfl, S⟩ := hrel
    have HS := Lib.hid S
    clear S
    have hol : (34 :: sps (e.take k)).length ≤ 4294967297 := by
      rw [List.length_cons]
      have := sps_len (e.take k)
      have h2 : (e.take k).length ≤ e.length := by rw [List.length_take]; omega
      omega
    by_cases hlt : k < e.length
    · obtain ⟨ad, rfl⟩ : ∃ ad, A = some ad := by
        cases A with
        | none => have := HA.out rfl; omega
        | some ad => exact ⟨ad, rfl⟩
      have hc0 := cell_kept (Hat.out ad rfl k hlt) HS.out.k
      have he : e[k]? = some e[k] := List.getElem?_eq_getElem hlt
      obtain ⟨o', HO2⟩ : ∃ o', Hid ((34 :: sps (e.take (k + 1))) = o') := ⟨_, Lib.hid rfl⟩
      have HO1 : Hid ((34 :: sps (e.take k)) ++ sp e[k] = o') := Lib.hid (by rw [← HO2.out, sps_take_succ he]; rfl)
      clear he
      generalize (34 :: sps (e.take k)) = o at *
      generalize e[k] = ch at *
      have hlc := ch.toNat_lt
      by_cases hp : pln ch = true
      · have hs : sp ch = [ch] := by simp [sp, hp]
        rw [hs] at HO1
        have HR := Lib.hid (rd_lit wr 5 #[.int .u8 (ch.toNat : Int)] [ch] rfl (by simp))
        have S1 := Lib.hid (HS.out.alloc (.cells #[.int .u8 (ch.toNat : Int)] 5))
        obtain ⟨h1, h2, h3, h4⟩ := pln_ints hp
        clear hp hs
        go_wp2_with (at_builtin; refine app_held [] rfl (.tmp 31) (.tmp 33) rfl (.slice Ao o.length co) o rfl S1.out (.slice (some ⟨wr.heap.size, 0, none⟩) 1 1) [ch] rfl HR.out (by simp only [List.length_cons, List.length_nil]; omega) ?_; intro v' w' S'; rw [HO1.out] at S'; have S2 := Lib.hid S'; obtain ⟨A2, c2, h2', _⟩ := ow_form (S'.at_ (l1 := [])); subst h2'; clear S')
        go_round
        case rel => exact ⟨k + 1, by omega, by go_num, by rw [HO2.out]; exact ⟨_, _, rfl, S2.out⟩⟩
        case measure => simp [intOf]; omega
      · have hp' : pln ch = false := by simpa using hp
        have hs : sp ch = [92, 120, hx (ch.toNat / 16), hx (ch.toNat % 16)] := by simp [sp, hp']
        rw [hs] at HO1
        have hO' : Hid (o ++ [92, 120, hx (ch.toNat / 16), hx (ch.toNat % 16)] = o') := HO1
        have hcs := pln_no hp'
        clear hp hp' hs
        generalize ch.toNat = n at *
        have S1 := Lib.hid (HS.out.alloc (.cells #[.int .u8 92, .int .u8 120, .int .u8 ((hx (n / 16)).toNat : Int), .int .u8 ((hx (n % 16)).toNat : Int)] 5))
        have HR := Lib.hid (rd_lit wr 5 #[.int .u8 92, .int .u8 120, .int .u8 ((hx (n / 16)).toNat : Int), .int .u8 ((hx (n % 16)).toNat : Int)] [92, 120, hx (n / 16), hx (n % 16)] rfl (by simp))
        have q1 : Hid ((n : Int) / 16 = ((n / 16 : Nat) : Int)) := Lib.hid (by omega)
        have q2 : Hid ((n : Int) % 16 = ((n % 16 : Nat) : Int)) := Lib.hid (by omega)
        rcases hcs with h | ⟨h, g⟩ | ⟨h, g, g1⟩ | ⟨h, g, g1, g2⟩
        all_goals
          go_wp2_with fail
          rw [q1.out]
          refine (hex15_any (n / 16) (by omega) _).mono ?_
          rintro r w1 ⟨rfl, rfl⟩
          go_wp2_with fail
          rw [q2.out]
          refine (hex15_any (n % 16) (by omega) _).mono ?_
          rintro r w1 ⟨rfl, rfl⟩
          go_wp2_with (at_builtin; refine app_held [] rfl (.tmp 35) (.tmp 42) rfl (.slice Ao o.length co) o rfl S1.out (.slice (some ⟨wr.heap.size, 0, none⟩) 4 4) [92, 120, hx (n / 16), hx (n % 16)] rfl HR.out (by simp only [List.length_cons, List.length_nil]; omega) ?_; intro v' w' S'; rw [hO'.out] at S'; have S2 := Lib.hid S'; obtain ⟨A2, c2, h2', _⟩ := ow_form (S'.at_ (l1 := [])); subst h2'; clear S')
          go_round
          case rel => exact ⟨k + 1, by omega, by go_num, by rw [HO2.out]; exact ⟨_, _, rfl, S2.out⟩⟩
          case measure => simp [intOf]; omega
    · obtain rfl : k = e.length := by omega
      rw [List.take_length] at HS hol ⊢
      have S1 := Lib.hid (HS.out.alloc (.cells #[.int .u8 34] 5))
      have HR := Lib.hid (rd_lit wr 5 #[.int .u8 34] [34] rfl (by simp))
      obtain ⟨o, HO⟩ : ∃ o, Hid (34 :: sps e = o) := ⟨_, Lib.hid rfl⟩
      have HSp : Hid (spell e = o ++ [34]) := Lib.hid (by rw [← HO.out]; rfl)
      rw [HO.out] at S1 hol ⊢
      clear HS HO
      go_wp2_with (at_builtin; refine app_held [] rfl (.tmp 44) (.tmp 45) rfl (.slice Ao o.length co) o rfl S1.out (.slice (some ⟨wr.heap.size, 0, none⟩) 1 1) [34] rfl HR.out (by simp only [List.length_cons, List.length_nil]; omega) ?_; intro v' w' S'; rw [← HSp.out] at S'; have S2 := Lib.hid S'; have kv := strB (Rd.of_own (S'.at_ (l1 := []))); clear S')
      go_ret
      exact ⟨rfl, S2.out.k⟩
end Go.Proofs.Ytdmdnphbheomoaa
/- Unspell of entry. -/
namespace Go.Proofs.Ytdmdnphbheomoaa
open Go.RowKit
def UT (t : List UInt8) : List UInt8 := (readT t).getD []
def UE (t : List UInt8) : Nat := if (readT t).isSome then 0 else 250
theorem UT_none {t : List UInt8} (h : readT t = none) : UT t = [] ∧ UE t = 250 := by unfold UT UE; rw [h]; exact ⟨rfl, rfl⟩
theorem UT_some {t e : List UInt8} (h : readT t = some e) : UT t = e ∧ UE t = 0 := by unfold UT UE; rw [h]; exact ⟨rfl, rfl⟩
def UnPost (k : IntKind) (t : List UInt8) (w : World) (e : Ending) (w' : World) : Prop :=
  ∃ u, e = .returned (.tuple #[u, .int k (UE t : Int)]) ∧ NewB (UT t) w u w'
theorem unPost_none {k : IntKind} {t : List UInt8} {w W : World} (h : readT t = none) (hk : Kp [] w W) : UnPost k t w (.returned (.tuple #[.slice none 0 0, .int k 250])) W := by
  obtain ⟨h1, h2⟩ := UT_none h
  exact ⟨.slice none 0 0, by rw [h2]; rfl, by rw [h1]; exact NewB.nil _ _ hk⟩
theorem idx_lit (c : UInt8) (w : World) : Calls Try.prog 52 #[.string ⟨#[48, 49, 50, 51, 52, 53, 54, 55, 56, 57, 97, 98, 99, 100, 101, 102]⟩, .int .u8 (c.toNat : Int)] w fun e w' => e = .returned (.int .i64 (dgi c)) ∧ w = w' := idx_any c w
theorem data_cons {s : ByteArray} (h : 0 < s.size) : s.data.toList = s[0] :: (s.extract 1 s.size).data.toList := by
  rw [Lib.extract_data, List.take_of_length_le (by rw [List.length_drop, ← Lib.size_eq]; exact Nat.le_refl _)]
  have hl : 0 < s.data.toList.length := by rw [← Lib.size_eq]; exact h
  cases hd : s.data.toList with
  | nil => rw [hd] at hl; simp at hl
  | cons a r =>
    have : s[0] = a := by
      have : s[0] = s.data.toList[0] := rfl
      rw [this]; simp only [hd]; rfl
    rw [this]; rfl
theorem list_four : ∀ (l : List UInt8) (h : 3 < l.length), l = l[0] :: l[1] :: l[2] :: l[3] :: l.drop 4
  | _ :: _ :: _ :: _ :: _, _ => rfl
  | [], h => by simp at h
  | [_], h => by simp at h
  | [_, _], h => by simp at h
  | [_, _, _], h => by simp at h
theorem data_four {s : ByteArray} (h : 3 < s.size) : s.data.toList = s[0] :: s[1] :: s[2] :: s[3] :: (s.extract 4 s.size).data.toList := by
  rw [Lib.extract_data, List.take_of_length_le (by rw [List.length_drop, ← Lib.size_eq]; exact Nat.le_refl _)]
  exact list_four s.data.toList (by rw [← Lib.size_eq]; exact h)
theorem run_str_index (s : ByteArray) (k : Nat) (hk : k < s.size) (w : World) : (Instr.index 9 (.string s) (.int .i64 (k : Int))).run Try.prog w = .ok (.int .u8 (s[k].toNat : Int)) w := by
  simp [Instr.index, run_underlying Try.underlying9, hk, go_sem]
theorem exec_index {P : Program} {w : World} {ρ : Operand → Value} {o : Oper} {ty : TypeId} {x i : Operand} {v u r : Value} (ho : o.op = .index ty x i) (hx : ρ x = v) (hi : ρ i = u) (h : (Instr.index ty v u).run P w = .ok r w) : (execOp ρ o).run P w = .ok (.value r) w := by
  unfold execOp
  simp only [ho, hx, hi, Sem.run_bind, h, Result.andThen_ok, Sem.run_pure]
theorem or16 {a b : Nat} (ha : a < 16) (hb : b < 16) : bits .or .i64 ((a : Int) * 16) (b : Int) % 256 = ((UInt8.ofNat (16 * a + b)).toNat : Int) := by
  have := all256 (p := fun n => decide (bits .or .i64 (((n / 16 : Nat) : Int) * 16) ((n % 16 : Nat) : Int) % 256 = ((UInt8.ofNat n).toNat : Int))) (by decide +kernel) (show 16 * a + b < 256 by omega)
  have := of_decide_eq_true this
  rwa [show (16 * a + b) / 16 = a by omega, show (16 * a + b) % 16 = b by omega] at this
theorem ext_four (s : ByteArray) (b : Nat) (h3 : 3 < s.size) (hb : b = s.size - 3) : ((s.extract 3 s.size).extract 1 b).data.toList = (s.extract 4 s.size).data.toList ∧ ((s.extract 3 s.size).extract 1 b).size = s.size - 4 := by
  have e : ((s.extract 3 s.size).extract 1 b).data.toList = (s.extract 4 s.size).data.toList := by
    rw [Lib.extract_data, Lib.extract_data, Lib.extract_data, hb, List.take_of_length_le (l := s.data.toList.drop 3) (by rw [List.length_drop, ← Lib.size_eq]; exact Nat.le_refl _), List.drop_drop,
      List.take_of_length_le (by rw [List.length_drop, ← Lib.size_eq]; omega), List.take_of_length_le (by rw [List.length_drop, ← Lib.size_eq]; exact Nat.le_refl _)]
  refine ⟨e, ?_⟩
  rw [Lib.size_eq, e, Lib.extract_data, List.length_take, List.length_drop, ← Lib.size_eq]
  omega
theorem ext_one (s : ByteArray) (h : 0 < s.size) : (s.extract 1 s.size).size = s.size - 1 := by
  rw [ByteArray.size_extract]; omega
theorem nonempty_str {s : ByteArray} (h : 0 < s.size) : s.toList.isEmpty = false := by
  rw [Lib.toList_data, data_cons h]; rfl
theorem readT_def (t : List UInt8) : readT t = if 2 ≤ t.length ∧ t[0]? = some 34 ∧ t[t.length - 1]? = some 34 then uns ((t.drop 1).take (t.length - 2)) else none := rfl
set_option maxRecDepth 100000 in
set_option maxHeartbeats 4000000 in
theorem unspell15_any (s : ByteArray) (w : World) (hs : s.size ≤ 1073741824) :
    Calls Try.prog 25 #[.string s] w (UnPost .i64 s.data.toList w) := by
  have Hsz := Lib.hid (Lib.size_eq s)
  by_cases h2 : s.size < 2
  · have Hno : Hid (readT s.data.toList = none) := Lib.hid (by rw [readT_def, if_neg]; rintro ⟨h, _⟩; have := Hsz.out; omega)
    have h2' : (s.size : Int) < 2 := by omega
    go_enter Try.func25, Try.ntmps25
    go_wp2
    go_ret2
    exact unPost_none Hno.out (Kp.refl _ _)
  · have h2' : ¬ (s.size : Int) < 2 := by omega
    have hp0 : 0 < s.size := by omega
    have hp1 : s.size - 1 < s.size := by omega
    have e0 : s.data.toList[0]? = some s[0] := by
      rw [List.getElem?_eq_getElem (by have := Hsz.out; omega)]; rfl
    have e1 : s.data.toList[s.data.toList.length - 1]? = some s[s.size - 1] := by
      rw [List.getElem?_eq_getElem (by have := Hsz.out; omega)]
      have : s.data.toList.length - 1 = s.size - 1 := by have := Hsz.out; omega
      simp only [this]
      rfl
    have E0 := Lib.hid e0
    have E1 := Lib.hid e1
    clear e0 e1
    by_cases h3 : s[0] = 34
    · by_cases h4 : s[s.size - 1] = 34
      · have h3' : ((s[0].toNat : Int) != 34) = false := by rw [h3]; rfl
        have h4' : ((s[s.size - 1].toNat : Int) != 34) = false := by rw [h4]; rfl
        have hidx : ((s.size : Int) - 1).toNat = s.size - 1 := by omega
        have Hr : Hid (readT s.data.toList = uns ((s.extract 1 (s.size - 1)).data.toList)) := Lib.hid (by
          rw [readT_def, if_pos ⟨by have := Hsz.out; omega, by rw [E0.out, h3], by rw [E1.out, h4]⟩, Lib.extract_data]
          congr 2)
        clear h3 h4
        go_enter Try.func25, Try.ntmps25
        go_wp2
        have N0 := Lib.hid (NewB.nil w w (Kp.refl _ _))
        have hel : (s.extract 1 (s.size - 1)).size ≤ s.size := by rw [ByteArray.size_extract]; omega
        go_loopw [4, 5] (fun o t wr => ∃ (s' : ByteArray) (out : List UInt8), t = .string s' ∧ out.length + s'.size ≤ s.size ∧ Hid (readT s.data.toList = (uns s'.data.toList).map (out ++ ·)) ∧ NewB out w o wr) (fun _ t _ => match t with | .string s' => s'.size | _ => 0)
        case atStart => exact ⟨_, [], rfl, by simpa using hel, Lib.hid (by rw [Hr.out]; simp), N0.out⟩
        case round =>
          clear N0 hel Hr
          obtain ⟨s', out, rfl, hle, Hu, hN⟩ := hrel
          have HN := Lib.hid hN
          obtain ⟨Ao, co, rfl⟩ := hN.form
          clear hN
          by_cases hpos : 0 < s'.size
          · have hne := nonempty_str hpos
            by_cases h92 : s'[0] = 92
            · have hc92 : ((s'[0].toNat : Int) == 92) = true := by rw [h92]; rfl
              have H92 := Lib.hid h92
              clear h92
              by_cases hl4 : s'.size < 4
              · have Hno : Hid (readT s.data.toList = none) := Lib.hid (by
                  rw [Hu.out, data_cons hpos, H92.out, uns_short]
                  · rfl
                  · rw [← Lib.size_eq, ext_one s' hpos]; omega)
                have hl4' : (s'.size : Int) < 4 := by omega
                go_wp2
                go_ret2
                exact unPost_none Hno.out HN.out.2.1
              · have hl4' : ¬ (s'.size : Int) < 4 := by omega
                have hp1' : 1 < s'.size := by omega
                have hp2 : 2 < s'.size := by omega
                have hp3 : 3 < s'.size := by omega
                have Hu4 : Hid (readT s.data.toList = (if s'[1] = 120 ∧ dg s'[2] < 16 ∧ dg s'[3] < 16 ∧ pln (UInt8.ofNat (16 * dg s'[2] + dg s'[3])) = false then (uns (s'.extract 4 s'.size).data.toList).map (UInt8.ofNat (16 * dg s'[2] + dg s'[3]) :: ·) else none).map (out ++ ·)) := Lib.hid (by
                  rw [Hu.out, data_four hp3, H92.out, uns_esc])
                by_cases hx : s'[1] = 120
                · have hx' : ((s'[1].toNat : Int) != 120) = false := by rw [hx]; rfl
                  have HX := Lib.hid hx
                  clear hx
                  have HI := Lib.hid (fun V => idx_lit s'[2] V)
                  have HJ := Lib.hid (fun V => idx_lit s'[3] V)
                  by_cases hd2 : dg s'[2] < 16
                  · rw [show dgi s'[2] = (dg s'[2] : Int) from if_pos hd2] at HI
                    by_cases hd3 : dg s'[3] < 16
                    · rw [show dgi s'[3] = (dg s'[3] : Int) from if_pos hd3] at HJ
                      have Q := or16 hd2 hd3
                      have HP := Lib.hid (fun V => plain_any (UInt8.ofNat (16 * dg s'[2] + dg s'[3])) V)
                      generalize UInt8.ofNat (16 * dg s'[2] + dg s'[3]) = ch at *
                      have Hd2 := Lib.hid hd2
                      have Hd3 := Lib.hid hd3
                      generalize dg s'[2] = d2 at *
                      generalize dg s'[3] = d3 at *
                      have S1 := Lib.hid ((HN.out.kp ((Kp.refl [] wr).drew)).kp ((Kp.refl [] _).alloc (.cells #[.int .u8 (ch.toNat : Int)] 5)))
                      have HR := Lib.hid (rd_lit wr.drew 5 #[.int .u8 (ch.toNat : Int)] [ch] rfl (by simp))
                      by_cases hp : pln ch = true
                      · have Hno : Hid (readT s.data.toList = none) := Lib.hid (by rw [Hu4.out, if_neg]; · rfl
                                                                                   · rintro ⟨_, _, _, h⟩; rw [hp] at h; cases h)
                        rw [hp] at HP
                        clear hp
                        go_wp2
                        refine wp_region_lexf [2, 5] [] (fun _ : World => True) (by kernel_rfl) (by kernel_rfl) trivial (fun σ hne f hf hsur => ?_); have Hsur := Lib.hid hsur; clear hsur
                        go_wp2_with (first
                          | (refine lex_qk (.int .u8 (s'[2].toNat : Int)) rfl rfl (fun V hV => exec_index rfl rfl rfl (run_str_index s' 2 hp2 V)) ?_; intro K hK; go_simp; refine hK _ _ ?_; clear hK K)
                          | (refine lex_qk (.int .u8 (s'[3].toNat : Int)) rfl rfl (fun V hV => exec_index rfl rfl rfl (run_str_index s' 3 hp3 V)) ?_; intro K hK; go_simp; refine hK _ _ ?_; clear hK K)
                          | (refine lex_qq Hsur.out rfl rfl rfl ?_; intro K hK; go_big_quiet_op; go_big_quiet_on) | (refine lex_skipk rfl ?_; intro K hK; go_simp; refine hK _ _ ?_; clear hK K) | (refine lex_e rfl rfl ?_; intro K hK; go_step) | (refine lex_nil ?_)
                          | (go_at_call 52; (refine (HI.out _).mono ?_); rintro e w' ⟨rfl, rfl⟩)
                          | (go_at_call 52; (refine (HJ.out _).mono ?_); rintro e w' ⟨rfl, rfl⟩)
                          | ((with_reducible apply And.intro); · (intro hl; first | (exact ls_absurd hl rfl) | trivial)))
                        refine (HP.out _).mono ?_
                        rintro e w1 ⟨rfl, rfl⟩
                        go_wp2
                        go_ret2
                        exact unPost_none Hno.out (HN.out.2.1.drew)
                      · have hp' : pln ch = false := by simpa using hp
                        obtain ⟨out', HO⟩ : ∃ out', Hid (out ++ [ch] = out') := ⟨_, Lib.hid rfl⟩
                        have Hus : Hid (readT s.data.toList = (uns (s'.extract 4 s'.size).data.toList).map ((out ++ [ch]) ++ ·)) := Lib.hid (by
                          rw [Hu4.out, if_pos ⟨HX.out, Hd2.out, Hd3.out, hp'⟩, Option.map_map]
                          congr 1
                          funext y
                          simp)
                        rw [hp'] at HP
                        clear hp hp'
                        go_wp2
                        refine wp_region_lexf [2, 5] [] (fun _ : World => True) (by kernel_rfl) (by kernel_rfl) trivial (fun σ hne f hf hsur => ?_); have Hsur := Lib.hid hsur; clear hsur
                        go_wp2_with (first
                          | (refine lex_qk (.int .u8 (s'[2].toNat : Int)) rfl rfl (fun V hV => exec_index rfl rfl rfl (run_str_index s' 2 hp2 V)) ?_; intro K hK; go_simp; refine hK _ _ ?_; clear hK K)
                          | (refine lex_qk (.int .u8 (s'[3].toNat : Int)) rfl rfl (fun V hV => exec_index rfl rfl rfl (run_str_index s' 3 hp3 V)) ?_; intro K hK; go_simp; refine hK _ _ ?_; clear hK K)
                          | (refine lex_qq Hsur.out rfl rfl rfl ?_; intro K hK; go_big_quiet_op; go_big_quiet_on) | (refine lex_skipk rfl ?_; intro K hK; go_simp; refine hK _ _ ?_; clear hK K) | (refine lex_e rfl rfl ?_; intro K hK; go_step) | (refine lex_nil ?_)
                          | (go_at_call 52; (refine (HI.out _).mono ?_); rintro e w' ⟨rfl, rfl⟩)
                          | (go_at_call 52; (refine (HJ.out _).mono ?_); rintro e w' ⟨rfl, rfl⟩)
                          | ((with_reducible apply And.intro); · (intro hl; first | (exact ls_absurd hl rfl) | trivial)))
                        refine (HP.out _).mono ?_
                        rintro e w1 ⟨rfl, rfl⟩
                        go_wp2_with (at_builtin; refine app_newB rfl (.tmp 76) (.tmp 78) rfl (.slice Ao out.length co) out rfl S1.out (.slice (some ⟨wr.heap.size, 0, none⟩) 1 1) [ch] rfl HR.out (by simp only [List.length_cons, List.length_nil]; omega) ?_; intro v3 w3 o3; rw [HO.out] at o3; have O3 := Lib.hid o3; obtain ⟨A3, c3, rfl⟩ := o3.form; clear o3)
                        go_roundw
                        case rel =>
                          refine ⟨_, out', rfl, ?_, Lib.hid ?_, O3.out⟩
                          · rw [(ext_four s' _ hp3 (by first | rfl | (rw [ByteArray.size_extract]; omega))).2, ← HO.out, List.length_append]
                            simp only [List.length_cons, List.length_nil]
                            omega
                          · rw [← HO.out, Hus.out, (ext_four s' _ hp3 (by first | rfl | (rw [ByteArray.size_extract]; omega))).1]
                        case measure =>
                          simp only
                          rw [(ext_four s' _ hp3 (by first | rfl | (rw [ByteArray.size_extract]; omega))).2]
                          omega
                    · have Hno : Hid (readT s.data.toList = none) := Lib.hid (by rw [Hu4.out, if_neg]; · rfl
                                                                                 · rintro ⟨_, _, h, _⟩; exact hd3 h)
                      rw [show dgi s'[3] = -1 from if_neg hd3] at HJ
                      have Hd2 := Lib.hid hd2
                      have Hd3 := Lib.hid hd3
                      clear hd2 hd3
                      generalize dg s'[2] = d2 at *
                      go_wp2
                      refine wp_region_lexf [2, 5] [] (fun _ : World => True) (by kernel_rfl) (by kernel_rfl) trivial (fun σ hne f hf hsur => ?_); have Hsur := Lib.hid hsur; clear hsur
                      go_wp2_with (first
                        | (refine lex_qk (.int .u8 (s'[2].toNat : Int)) rfl rfl (fun V hV => exec_index rfl rfl rfl (run_str_index s' 2 hp2 V)) ?_; intro K hK; go_simp; refine hK _ _ ?_; clear hK K)
                        | (refine lex_qk (.int .u8 (s'[3].toNat : Int)) rfl rfl (fun V hV => exec_index rfl rfl rfl (run_str_index s' 3 hp3 V)) ?_; intro K hK; go_simp; refine hK _ _ ?_; clear hK K)
                        | (refine lex_qq Hsur.out rfl rfl rfl ?_; intro K hK; go_big_quiet_op; go_big_quiet_on) | (refine lex_skipk rfl ?_; intro K hK; go_simp; refine hK _ _ ?_; clear hK K) | (refine lex_e rfl rfl ?_; intro K hK; go_step) | (refine lex_nil ?_)
                        | (go_at_call 52; (refine (HI.out _).mono ?_); rintro e w' ⟨rfl, rfl⟩)
                        | (go_at_call 52; (refine (HJ.out _).mono ?_); rintro e w' ⟨rfl, rfl⟩)
                        | ((with_reducible apply And.intro); · (intro hl; first | (exact ls_absurd hl rfl) | trivial)))
                      go_ret2
                      exact unPost_none Hno.out (HN.out.2.1.drew)
                  · have Hno : Hid (readT s.data.toList = none) := Lib.hid (by rw [Hu4.out, if_neg]; · rfl
                                                                               · rintro ⟨_, h, _⟩; exact hd2 h)
                    rw [show dgi s'[2] = -1 from if_neg hd2] at HI
                    have Hd2 := Lib.hid hd2
                    clear hd2
                    generalize dgi s'[3] = d3 at *
                    go_wp2
                    refine wp_region_lexf [2, 5] [] (fun _ : World => True) (by kernel_rfl) (by kernel_rfl) trivial (fun σ hne f hf hsur => ?_); have Hsur := Lib.hid hsur; clear hsur
                    go_wp2_with (first
                      | (refine lex_qk (.int .u8 (s'[2].toNat : Int)) rfl rfl (fun V hV => exec_index rfl rfl rfl (run_str_index s' 2 hp2 V)) ?_; intro K hK; go_simp; refine hK _ _ ?_; clear hK K)
                      | (refine lex_qk (.int .u8 (s'[3].toNat : Int)) rfl rfl (fun V hV => exec_index rfl rfl rfl (run_str_index s' 3 hp3 V)) ?_; intro K hK; go_simp; refine hK _ _ ?_; clear hK K)
                      | (refine lex_qq Hsur.out rfl rfl rfl ?_; intro K hK; go_big_quiet_op; go_big_quiet_on) | (refine lex_skipk rfl ?_; intro K hK; go_simp; refine hK _ _ ?_; clear hK K) | (refine lex_e rfl rfl ?_; intro K hK; go_step) | (refine lex_nil ?_)
                      | (go_at_call 52; (refine (HI.out _).mono ?_); rintro e w' ⟨rfl, rfl⟩)
                      | (go_at_call 52; (refine (HJ.out _).mono ?_); rintro e w' ⟨rfl, rfl⟩)
                      | ((with_reducible apply And.intro); · (intro hl; first | (exact ls_absurd hl rfl) | trivial)))
                    go_ret2
                    exact unPost_none Hno.out (HN.out.2.1.drew)
                · have Hno : Hid (readT s.data.toList = none) := Lib.hid (by rw [Hu4.out, if_neg]; · rfl
                                                                             · rintro ⟨h, _⟩; exact hx h)
                  have hx' : ((s'[1].toNat : Int) != 120) = true := by
                    simp only [bne_iff_ne, ne_eq]
                    intro h
                    exact hx (UInt8.toNat_inj.1 (by simpa using (by omega : s'[1].toNat = 120)))
                  clear hx
                  go_wp2
                  go_ret2
                  exact unPost_none Hno.out HN.out.2.1
            · have hc92 : ((s'[0].toNat : Int) == 92) = false := by
                simp only [beq_eq_false_iff_ne, ne_eq]
                intro h
                exact h92 (UInt8.toNat_inj.1 (by simpa using (by omega : s'[0].toNat = 92)))
              by_cases hp : pln s'[0] = true
              · have HP := Lib.hid (fun V => plain_any s'[0] V)
                rw [hp] at HP
                obtain ⟨out', HO⟩ : ∃ out', Hid (out ++ [s'[0]] = out') := ⟨_, Lib.hid rfl⟩
                have Hus : Hid (readT s.data.toList = (uns (s'.extract 1 s'.size).data.toList).map ((out ++ [s'[0]]) ++ ·)) := Lib.hid (by
                  rw [Hu.out, data_cons hpos, uns_plain hp, Option.map_map]
                  congr 1
                  funext y
                  simp)
                have S1 := Lib.hid (HN.out.kp ((Kp.refl [] wr).alloc (.cells #[.int .u8 (s'[0].toNat : Int)] 5)))
                have HR := Lib.hid (rd_lit wr 5 #[.int .u8 (s'[0].toNat : Int)] [s'[0]] rfl (by simp))
                clear hp h92
                go_wp2_with fail
                refine (HP.out _).mono ?_
                rintro e w1 ⟨rfl, rfl⟩
                go_wp2_with (at_builtin; refine app_newB rfl (.tmp 76) (.tmp 78) rfl (.slice Ao out.length co) out rfl S1.out (.slice (some ⟨wr.heap.size, 0, none⟩) 1 1) [s'[0]] rfl HR.out (by simp only [List.length_cons, List.length_nil]; omega) ?_; intro v3 w3 o3; rw [HO.out] at o3; have O3 := Lib.hid o3; obtain ⟨A3, c3, rfl⟩ := o3.form; clear o3)
                go_roundw
                case rel =>
                  refine ⟨_, out', rfl, ?_, Lib.hid (by rw [← HO.out]; exact Hus.out), O3.out⟩
                  rw [ext_one s' hpos, ← HO.out, List.length_append]
                  simp only [List.length_cons, List.length_nil]
                  omega
                case measure =>
                  simp only
                  rw [ext_one s' hpos]
                  omega
              · have hp' : pln s'[0] = false := by simpa using hp
                have HP := Lib.hid (fun V => plain_any s'[0] V)
                rw [hp'] at HP
                have Hno : Hid (readT s.data.toList = none) := Lib.hid (by rw [Hu.out, data_cons hpos, uns_odd h92 hp']; rfl)
                clear hp hp' h92
                go_wp2_with fail
                refine (HP.out _).mono ?_
                rintro e w1 ⟨rfl, rfl⟩
                go_wp2
                go_ret2
                exact unPost_none Hno.out HN.out.2.1
          · have hnil : s'.data.toList = [] := List.eq_nil_of_length_eq_zero (by rw [← Lib.size_eq]; omega)
            have hem : s'.toList.isEmpty = true := by rw [Lib.toList_data, hnil]; rfl
            have HC := Lib.hid (UT_some (t := s.data.toList) (e := out) (by rw [Hu.out, hnil, uns]; simp))
            have HC2 : Hid (NewB (UT s.data.toList) w (.slice Ao out.length co) wr) := Lib.hid (by rw [HC.out.1]; exact HN.out)
            clear hnil
            go_wp2
            go_ret2
            exact ⟨_, by rw [HC.out.2]; rfl, HC2.out⟩
      · have Hno : Hid (readT s.data.toList = none) := Lib.hid (by rw [readT_def, if_neg]; rintro ⟨_, _, h⟩; rw [E1.out] at h; exact h4 (Option.some.inj h))
        have h3' : ((s[0].toNat : Int) != 34) = false := by rw [h3]; rfl
        have h4' : ((s[s.size - 1].toNat : Int) != 34) = true := by
          simp only [bne_iff_ne, ne_eq]
          intro h
          exact h4 (UInt8.toNat_inj.1 (by simpa using (by omega : s[s.size - 1].toNat = 34)))
        have hidx : ((s.size : Int) - 1).toNat = s.size - 1 := by omega
        clear h3 h4
        go_enter Try.func25, Try.ntmps25
        go_wp2
        go_ret2
        exact unPost_none Hno.out (Kp.refl _ _)
    · have Hno : Hid (readT s.data.toList = none) := Lib.hid (by rw [readT_def, if_neg]; rintro ⟨_, h, _⟩; rw [E0.out] at h; exact h3 (Option.some.inj h))
      have h3' : ((s[0].toNat : Int) != 34) = true := by
        simp only [bne_iff_ne, ne_eq]
        intro h
        exact h3 (UInt8.toNat_inj.1 (by simpa using (by omega : s[0].toNat = 34)))
      clear h3
      go_enter Try.func25, Try.ntmps25
      go_wp2
      go_ret2
      exact unPost_none Hno.out (Kp.refl _ _)
end Go.Proofs.Ytdmdnphbheomoaa
/- The reference's Unspell. -/
namespace Go.Proofs.Ytdmdnphbheomoaa
open Go.RowKit
theorem run_str_index' (s : ByteArray) (k : Nat) (z : Int) (hz : z = k) (hk : k < s.size) (w : World) : (Instr.index 9 (.string s) (.int .i64 z)).run Try.prog w = .ok (.int .u8 (s[k].toNat : Int)) w := by
  subst hz; exact run_str_index s k hk w
theorem drop_at (s : ByteArray) (i j : Nat) (h : i + j < s.size) : (s.data.toList.drop i)[j]? = some s[i + j] := by
  rw [List.getElem?_drop, List.getElem?_eq_getElem (by rw [← Lib.size_eq]; exact h)]; rfl
theorem drop_getD (s : ByteArray) (i j : Nat) (h : i + j < s.size) : (s.data.toList.drop i).getD j 0 = s[i + j] := by
  rw [List.getD_eq_getElem?_getD, drop_at s i j h]; rfl
theorem unPost_some {k : IntKind} {t o : List UInt8} {u : Value} {w W : World} (h : readT t = some o) (hB : NewB o w u W) : UnPost k t w (.returned (.tuple #[u, .int k 0])) W := by
  obtain ⟨h1, h2⟩ := UT_some h
  exact ⟨u, by rw [h2]; rfl, by rw [h1]; exact hB⟩
theorem NewB.of_held {bs : List UInt8} {v : Value} {w w' : World} {L : List Res} (h : Held w w' (rowR 5 1 v bs.length (bv bs) :: L)) : NewB bs w v w' :=
  ⟨h.at_ (l1 := []), h.k, fun g hg => h.base _ (List.mem_cons_self ..) g (by simp [rowR, hg])⟩
set_option maxRecDepth 100000 in
set_option maxHeartbeats 4000000 in
theorem runspell15_any (s : ByteArray) (w : World) (hs : s.size ≤ 268435456) :
    Calls Try.prog 26 #[.string s] w (UnPost .i64 s.data.toList w) := by
  have Hsz := Lib.hid (Lib.size_eq s)
  have S0 := Lib.hid ((Held.start w).rownew (World.ownsRow_nil w 0 5 1) (Kp.refl [] w) (by simp [Value.ownBlock]))
  go_enter Try.func26, Try.ntmps26
  go_wp2
  go_loopw [4, 5] (fun b t wr => ∃ (j n : Nat) (o : List UInt8), 1 ≤ j ∧ j ≤ s.size + 1 ∧ s.size ≤ n + j ∧ o.length ≤ j ∧ t = .int .i64 (j : Int) ∧ Hid (lo s.data.toList.length (s.data.toList.drop 1) = (lo n (s.data.toList.drop j)).map (o ++ ·)) ∧ ∃ A c, b = .slice A o.length c ∧ Held w wr [rowR 5 1 (.slice A o.length c) o.length (bv o)]) (fun _ t _ => s.size + 8 - (intOf t).toNat)
  case atStart => exact ⟨1, s.size, [], by omega, by omega, by omega, by simp, rfl, Lib.hid (by rw [← Hsz.out]; simp), none, 0, rfl, S0.out⟩
  case round =>
    clear S0
    obtain ⟨j, n0, o, hi, hjs, hn, hol, rfl, Hl, Ao, co, rfl, S⟩ := hrel
    have HS := Lib.hid S
    clear S
    by_cases hlt : j + 1 < s.size
    · obtain ⟨n, rfl⟩ : ∃ n, n0 = n + 1 := ⟨n0 - 1, by omega⟩
      have hlt' : (j : Int) + 1 < s.size := by omega
      have hi0 : j < s.size := by omega
      have hlen : ¬ (s.data.toList.drop j).length < 2 := by rw [List.length_drop, ← Hsz.out]; omega
      have Hlo : Hid (lo (n + 1) (s.data.toList.drop j) = if (s.data.toList.drop j)[0]? = some 92 then
        if (s.data.toList.drop j).length < 4 then none else
          if dg ((s.data.toList.drop j).getD 2 0) < 16 ∧ dg ((s.data.toList.drop j).getD 3 0) < 16 then (lo n ((s.data.toList.drop j).drop 4)).map (UInt8.ofNat (16 * dg ((s.data.toList.drop j).getD 2 0) + dg ((s.data.toList.drop j).getD 3 0)) :: ·) else none
        else (lo n ((s.data.toList.drop j).drop 1)).map ((s.data.toList.drop j).getD 0 0 :: ·)) := Lib.hid (by rw [lo, if_neg hlen])
      have E0 := Lib.hid (drop_at s j 0 hi0)
      have G0 := Lib.hid (drop_getD s j 0 hi0)
      clear hlen
      by_cases h92 : s[j] = 92
      · have hc92 : ((s[j].toNat : Int) != 92) = false := by rw [h92]; rfl
        have H92 := Lib.hid h92
        clear h92
        by_cases h3 : j + 3 < s.size
        · have h3' : ¬ (s.size : Int) ≤ (j : Int) + 3 := by omega
          have h2 : j + 2 < s.size := by omega
          have HQ2 := Lib.hid (fun V => run_str_index' s (j + 2) ((j : Int) + 2) (by omega) h2 V)
          have HQ3 := Lib.hid (fun V => run_str_index' s (j + 3) ((j : Int) + 3) (by omega) h3 V)
          have hl4 : ¬ (s.data.toList.drop j).length < 4 := by rw [List.length_drop, ← Hsz.out]; omega
          rw [E0.out, show s[j + 0] = 92 from H92.out, if_pos rfl, if_neg hl4, drop_getD s j 2 h2, drop_getD s j 3 h3, List.drop_drop] at Hlo
          clear hl4
          generalize s[j + 2] = c2 at *
          generalize s[j + 3] = c3 at *
          have HD2 := Lib.hid (fun V => digit15_any c2 V)
          have HD3 := Lib.hid (fun V => digit15_any c3 V)
          have q2 := HQ2.out
          have q3 := HQ3.out
          by_cases hd2 : dg c2 < 16
          · by_cases hd3 : dg c3 < 16
            · have h15a : ¬ (dg c2 : Int) > 15 := by omega
              have h15b : ¬ (dg c3 : Int) > 15 := by omega
              rw [if_pos ⟨hd2, hd3⟩] at Hlo
              have hb : 16 * dg c2 + dg c3 < 256 := by omega
              have Hch : Hid (((UInt8.ofNat (16 * dg c2 + dg c3)).toNat : Int) = 16 * (dg c2 : Int) + (dg c3 : Int)) := Lib.hid (by rw [UInt8.toNat_ofNat']; omega)
              generalize UInt8.ofNat (16 * dg c2 + dg c3) = ch at *
              generalize dg c2 = d2 at *
              generalize dg c3 = d3 at *
              obtain ⟨o', HO⟩ : ∃ o', Hid (o ++ [ch] = o') := ⟨_, Lib.hid rfl⟩
              have HO' : Hid (o ++ [ch] = o' ∧ o.length + 1 = o'.length) := Lib.hid ⟨HO.out, by rw [← HO.out]; simp⟩
              have Hl4 : Hid (lo s.data.toList.length (s.data.toList.drop 1) = (lo n (s.data.toList.drop (j + 4))).map (o' ++ ·)) := Lib.hid (by
                rw [Hl.out, Hlo.out, Option.map_map, ← HO.out]
                congr 1
                funext y
                simp)
              clear hd2 hd3 Hlo Hl
              go_wp2_with fail
              refine (HD2.out _).mono ?_
              rintro e w' ⟨rfl, rfl⟩
              go_wp2_with fail
              refine (HD3.out _).mono ?_
              rintro e w' ⟨rfl, rfl⟩
              go_wp2
              -- SEP runspell
              refine wp_region_sep (Γ := Unit) 1 [0, 1, 2, 3, 4, 5, 6, 7, 8, 9, 10, 11, 12, 13, 14, 15, 16]
                (fun i vs gs => match i with | 0 => vs 0 = .slice Ao o.length co | 1 => vs 1 = .string s | 2 => vs 2 = .int .i64 (j : Int) | 3 => vs 3 = .int .i64 ((j : Int) + 2) | 4 => vs 4 = .int .u8 (c2.toNat : Int) | 5 => vs 5 = .int .i64 (d2 : Int) | 6 => vs 6 = .int .i64 (16 * (d2 : Int)) | 7 => vs 7 = .string s | 8 => vs 8 = .int .i64 (j : Int) | 9 => vs 9 = .int .i64 ((j : Int) + 3) | 10 => vs 10 = .int .u8 (c3.toNat : Int) | 11 => vs 11 = .int .i64 (d3 : Int) | 12 => vs 12 = .int .i64 (16 * (d2 : Int) + (d3 : Int)) | 13 => vs 13 = .int .u8 (ch.toNat : Int) | 15 => ∃ A c, vs 15 = .slice A o'.length c | 16 => vs 16 = vs 15 | _ => True)
                (fun i vs gs => match i with | 14 => [rowR 5 1 (vs 14) 1 (bv [ch])] | 15 => [rowR 5 1 (vs 15) o'.length (bv o')] | 17 => [rowR 5 1 (.slice Ao o.length co) o.length (bv o)] | _ => [])
                (fun i => match i with | 15 => [17] | _ => []) (fun i => match i with | 15 => [14] | _ => []) HS.out (by kernel_rfl) (by kernel_rfl) (by kernel_rfl) (by kernel_rfl) (fun i => match i with | 0 => [0] | 1 => [1] | 2 => [2] | 3 => [3] | 4 => [4] | 5 => [5] | 6 => [6] | 7 => [7] | 8 => [8] | 9 => [9] | 10 => [10] | 11 => [11] | 12 => [12] | 13 => [13] | 14 => [14] | 15 => [15] | 16 => [15, 16] | _ => []) (by kernel_rfl) ?_ (by kernel_rfl) ?_ ?_ ?_
              · intro s vs vs' gs gs' h
                iterate 18 (rcases s with _ | s; · (first | exact ⟨rfl, id⟩ | (simp only [List.mem_cons, List.not_mem_nil, or_false, forall_eq_or_imp, forall_eq] at h; simp [h])))
                exact ⟨rfl, id⟩
              · simp only [List.range, List.range.loop, List.flatMap_cons, List.flatMap_nil, List.append_nil, List.cons_append, List.nil_append]
                exact List.Perm.refl _
              · refine ⟨?_, ?_, ?_, ?_, ?_, ?_, ?_, ?_, ?_, ?_, ?_, ?_, ?_, ?_, ?_, ?_, ?_, trivial⟩
                · intro vs gs A' W LF hA S hR hd hu K hK
                  replace hK := hK default
                  have e4 : A'.tmps[4]?.getD undef = vs 16 := slot_is hA (by kernel_rfl) (Nat.le_of_ble_eq_true (by kernel_rfl)) (by kernel_rfl)
                  rw [show vs 16 = .slice Ao o.length co from hu 16 _ rfl (by kernel_rfl)] at e4
                  go_step
                  exact hK _ _ S rfl
                · intro vs gs A' W LF hA S hR hd hu K hK
                  replace hK := hK default
                  have e0 : A'.tmps[0]?.getD undef = .string s := slot_is hA (by kernel_rfl) (Nat.le_of_ble_eq_true (by kernel_rfl)) (by kernel_rfl)
                  go_step
                  exact hK _ _ S rfl
                · intro vs gs A' W LF hA S hR hd hu K hK
                  replace hK := hK default
                  have e5 : A'.tmps[5]?.getD undef = .int .i64 (j : Int) := slot_is hA (by kernel_rfl) (Nat.le_of_ble_eq_true (by kernel_rfl)) (by kernel_rfl)
                  go_step
                  exact hK _ _ S rfl
                · intro vs gs A' W LF hA S hR hd hu K hK
                  replace hK := hK default
                  have f2 : vs 2 = .int .i64 (j : Int) := hd 2 (by kernel_rfl)
                  have e46 : A'.tmps[46]?.getD undef = vs 2 := slot_is hA (by kernel_rfl) (Nat.le_of_ble_eq_true (by kernel_rfl)) (by kernel_rfl)
                  rw [f2] at e46
                  go_step
                  exact hK _ _ S rfl
                · intro vs gs A' W LF hA S hR hd hu K hK
                  replace hK := hK default
                  have f1 : vs 1 = .string s := hd 1 (by kernel_rfl)
                  have e45 : A'.tmps[45]?.getD undef = vs 1 := slot_is hA (by kernel_rfl) (Nat.le_of_ble_eq_true (by kernel_rfl)) (by kernel_rfl)
                  rw [f1] at e45
                  have f3 : vs 3 = .int .i64 ((j : Int) + 2) := hd 3 (by kernel_rfl)
                  have e47 : A'.tmps[47]?.getD undef = vs 3 := slot_is hA (by kernel_rfl) (Nat.le_of_ble_eq_true (by kernel_rfl)) (by kernel_rfl)
                  rw [f3] at e47
                  have q := HQ2.out
                  go_step
                  exact hK _ _ S rfl
                · intro vs gs A' W LF hA S hR hd hu K hK
                  replace hK := hK default
                  have f4 : vs 4 = .int .u8 (c2.toNat : Int) := hd 4 (by kernel_rfl)
                  have e48 : A'.tmps[48]?.getD undef = vs 4 := slot_is hA (by kernel_rfl) (Nat.le_of_ble_eq_true (by kernel_rfl)) (by kernel_rfl)
                  rw [f4] at e48
                  go_step
                  refine (HD2.out _).mono ?_
                  rintro e w' ⟨rfl, rfl⟩
                  exact hK _ _ S rfl
                · intro vs gs A' W LF hA S hR hd hu K hK
                  replace hK := hK default
                  have f5 : vs 5 = .int .i64 (d2 : Int) := hd 5 (by kernel_rfl)
                  have e49 : A'.tmps[49]?.getD undef = vs 5 := slot_is hA (by kernel_rfl) (Nat.le_of_ble_eq_true (by kernel_rfl)) (by kernel_rfl)
                  rw [f5] at e49
                  go_step
                  exact hK _ _ S rfl
                · intro vs gs A' W LF hA S hR hd hu K hK
                  replace hK := hK default
                  have e0 : A'.tmps[0]?.getD undef = .string s := slot_is hA (by kernel_rfl) (Nat.le_of_ble_eq_true (by kernel_rfl)) (by kernel_rfl)
                  go_step
                  exact hK _ _ S rfl
                · intro vs gs A' W LF hA S hR hd hu K hK
                  replace hK := hK default
                  have e5 : A'.tmps[5]?.getD undef = .int .i64 (j : Int) := slot_is hA (by kernel_rfl) (Nat.le_of_ble_eq_true (by kernel_rfl)) (by kernel_rfl)
                  go_step
                  exact hK _ _ S rfl
                · intro vs gs A' W LF hA S hR hd hu K hK
                  replace hK := hK default
                  have f8 : vs 8 = .int .i64 (j : Int) := hd 8 (by kernel_rfl)
                  have e52 : A'.tmps[52]?.getD undef = vs 8 := slot_is hA (by kernel_rfl) (Nat.le_of_ble_eq_true (by kernel_rfl)) (by kernel_rfl)
                  rw [f8] at e52
                  go_step
                  exact hK _ _ S rfl
                · intro vs gs A' W LF hA S hR hd hu K hK
                  replace hK := hK default
                  have f7 : vs 7 = .string s := hd 7 (by kernel_rfl)
                  have e51 : A'.tmps[51]?.getD undef = vs 7 := slot_is hA (by kernel_rfl) (Nat.le_of_ble_eq_true (by kernel_rfl)) (by kernel_rfl)
                  rw [f7] at e51
                  have f9 : vs 9 = .int .i64 ((j : Int) + 3) := hd 9 (by kernel_rfl)
                  have e53 : A'.tmps[53]?.getD undef = vs 9 := slot_is hA (by kernel_rfl) (Nat.le_of_ble_eq_true (by kernel_rfl)) (by kernel_rfl)
                  rw [f9] at e53
                  have q := HQ3.out
                  go_step
                  exact hK _ _ S rfl
                · intro vs gs A' W LF hA S hR hd hu K hK
                  replace hK := hK default
                  have f10 : vs 10 = .int .u8 (c3.toNat : Int) := hd 10 (by kernel_rfl)
                  have e54 : A'.tmps[54]?.getD undef = vs 10 := slot_is hA (by kernel_rfl) (Nat.le_of_ble_eq_true (by kernel_rfl)) (by kernel_rfl)
                  rw [f10] at e54
                  go_step
                  refine (HD3.out _).mono ?_
                  rintro e w' ⟨rfl, rfl⟩
                  exact hK _ _ S rfl
                · intro vs gs A' W LF hA S hR hd hu K hK
                  replace hK := hK default
                  have f6 : vs 6 = .int .i64 (16 * (d2 : Int)) := hd 6 (by kernel_rfl)
                  have e50 : A'.tmps[50]?.getD undef = vs 6 := slot_is hA (by kernel_rfl) (Nat.le_of_ble_eq_true (by kernel_rfl)) (by kernel_rfl)
                  rw [f6] at e50
                  have f11 : vs 11 = .int .i64 (d3 : Int) := hd 11 (by kernel_rfl)
                  have e55 : A'.tmps[55]?.getD undef = vs 11 := slot_is hA (by kernel_rfl) (Nat.le_of_ble_eq_true (by kernel_rfl)) (by kernel_rfl)
                  rw [f11] at e55
                  go_step
                  exact hK _ _ S rfl
                · intro vs gs A' W LF hA S hR hd hu K hK
                  replace hK := hK default
                  have f12 : vs 12 = .int .i64 (16 * (d2 : Int) + (d3 : Int)) := hd 12 (by kernel_rfl)
                  have e56 : A'.tmps[56]?.getD undef = vs 12 := slot_is hA (by kernel_rfl) (Nat.le_of_ble_eq_true (by kernel_rfl)) (by kernel_rfl)
                  rw [f12] at e56
                  go_step
                  exact hK _ _ S (congrArg (Value.int .u8) (by have := Hch.out; omega))
                · intro vs gs A' W LF hA S hR hd hu K hK
                  replace hK := hK default
                  have f13 : vs 13 = .int .u8 (ch.toNat : Int) := hd 13 (by kernel_rfl)
                  have e57 : A'.tmps[57]?.getD undef = vs 13 := slot_is hA (by kernel_rfl) (Nat.le_of_ble_eq_true (by kernel_rfl)) (by kernel_rfl)
                  rw [f13] at e57
                  go_step
                  exact hK _ _ (S.rownew (ow_new W 5 1 1 #[.int .u8 (ch.toNat : Int)] rfl (by decide)) ((Kp.refl [] W).alloc _) (fun g hg => Nat.le_of_eq (Option.some.inj hg))) trivial
                · intro vs gs A' W LF hA S hR hd hu K hK
                  replace hK := hK default
                  have f0 : vs 0 = .slice Ao o.length co := hd 0 (by kernel_rfl)
                  have e44 : A'.tmps[44]?.getD undef = vs 0 := slot_is hA (by kernel_rfl) (Nat.le_of_ble_eq_true (by kernel_rfl)) (by kernel_rfl)
                  rw [f0] at e44
                  have e58 : A'.tmps[58]?.getD undef = vs 14 := slot_is hA (by kernel_rfl) (Nat.le_of_ble_eq_true (by kernel_rfl)) (by kernel_rfl)
                  refine op_app (.tmp 44) (.tmp 58) 25 5 rfl Try.infoU8 Try.underlying25 rfl (by decide) (.slice Ao o.length co) o.length (bv o) (by simpa [Act.eval] using e44) S (vs 14) 1 (bv [ch]) (by simpa [Act.eval] using e58) (rd_of_row (e := 5) S (List.mem_cons_of_mem _ (hR 14 (List.mem_singleton.2 rfl) _ (List.mem_singleton.2 rfl)))) (bv_one _) (by unfold maxLen; omega) (by omega) (fun v' w' S' => ?_)
                  rw [← bv_append, HO'.out.1, HO'.out.2] at S'
                  obtain ⟨A1, c1, h1, _⟩ := ow_form (S'.at_ (l1 := []))
                  exact hK v' w' S' ⟨A1, c1, h1⟩
                · intro vs gs A' W LF hA S hR hd hu K hK
                  replace hK := hK default
                  have f15 : ∃ A c, vs 15 = .slice A o'.length c := hd 15 (by kernel_rfl)
                  have e59 : A'.tmps[59]?.getD undef = vs 15 := slot_is hA (by kernel_rfl) (Nat.le_of_ble_eq_true (by kernel_rfl)) (by kernel_rfl)
                  go_step
                  exact hK _ _ S rfl
              · intro vs gs W S hp
                have S : Held w W (rowR 5 1 (vs 14) 1 (bv [ch]) :: rowR 5 1 (vs 15) o'.length (bv o') :: []) := by simpa only [List.flatMap_cons, List.flatMap_nil, List.append_nil, List.nil_append, List.cons_append, List.append_assoc] using S
                have p0 : vs 0 = .slice Ao o.length co := hp 0 (Nat.le_of_ble_eq_true rfl)
                have p1 : vs 1 = .string s := hp 1 (Nat.le_of_ble_eq_true rfl)
                have p2 : vs 2 = .int .i64 (j : Int) := hp 2 (Nat.le_of_ble_eq_true rfl)
                have p3 : vs 3 = .int .i64 ((j : Int) + 2) := hp 3 (Nat.le_of_ble_eq_true rfl)
                have p4 : vs 4 = .int .u8 (c2.toNat : Int) := hp 4 (Nat.le_of_ble_eq_true rfl)
                have p5 : vs 5 = .int .i64 (d2 : Int) := hp 5 (Nat.le_of_ble_eq_true rfl)
                have p6 : vs 6 = .int .i64 (16 * (d2 : Int)) := hp 6 (Nat.le_of_ble_eq_true rfl)
                have p7 : vs 7 = .string s := hp 7 (Nat.le_of_ble_eq_true rfl)
                have p8 : vs 8 = .int .i64 (j : Int) := hp 8 (Nat.le_of_ble_eq_true rfl)
                have p9 : vs 9 = .int .i64 ((j : Int) + 3) := hp 9 (Nat.le_of_ble_eq_true rfl)
                have p10 : vs 10 = .int .u8 (c3.toNat : Int) := hp 10 (Nat.le_of_ble_eq_true rfl)
                have p11 : vs 11 = .int .i64 (d3 : Int) := hp 11 (Nat.le_of_ble_eq_true rfl)
                have p12 : vs 12 = .int .i64 (16 * (d2 : Int) + (d3 : Int)) := hp 12 (Nat.le_of_ble_eq_true rfl)
                have p13 : vs 13 = .int .u8 (ch.toNat : Int) := hp 13 (Nat.le_of_ble_eq_true rfl)
                have p16 : vs 16 = vs 15 := hp 16 (Nat.le_of_ble_eq_true rfl)
                obtain ⟨A8, c8, h8⟩ := hp 15 (Nat.le_of_ble_eq_true rfl)
                rw [h8] at p16 S
                have S2 := Lib.hid S.drop
                clear hp
                simp only [putAll, p0, p1, p2, p3, p4, p5, p6, p7, p8, p9, p10, p11, p12, p13, p16, h8, Act.put, List.setIfInBounds_toArray, List.set_cons_succ, List.set_cons_zero]
                clear p0 p1 p2 p3 p4 p5 p6 p7 p8 p9 p10 p11 p12 p13 p16 h8
                go_wp2
                go_roundw
                case rel => exact ⟨j + 4, n, o', by omega, by omega, by omega, by have := HO'.out.2; omega, by congr 1, Hl4, _, _, rfl, S2.out⟩
                case measure => simp [intOf]; omega
              -- END runspell
            · have h15a : ¬ (dg c2 : Int) > 15 := by omega
              have h15b : (dg c3 : Int) > 15 := by rcases dg_cases c3 with h | h <;> omega
              have Hno : Hid (readT s.data.toList = none) := Lib.hid (by
                rw [readT_lo, Hl.out, Hlo.out, if_neg]
                · rfl
                · rintro ⟨_, h⟩; exact hd3 h)
              clear hd2 hd3 Hlo Hl
              go_wp2_with fail
              refine (HD2.out _).mono ?_
              rintro e w' ⟨rfl, rfl⟩
              go_wp2_with fail
              refine (HD3.out _).mono ?_
              rintro e w' ⟨rfl, rfl⟩
              go_wp2
              go_ret2
              exact unPost_none Hno.out HS.out.k
          · have h15a : (dg c2 : Int) > 15 := by rcases dg_cases c2 with h | h <;> omega
            have Hno : Hid (readT s.data.toList = none) := Lib.hid (by
              rw [readT_lo, Hl.out, Hlo.out, if_neg]
              · rfl
              · rintro ⟨h, _⟩; exact hd2 h)
            clear hd2 Hlo Hl
            go_wp2_with fail
            refine (HD2.out _).mono ?_
            rintro e w' ⟨rfl, rfl⟩
            go_wp2
            go_ret2
            exact unPost_none Hno.out HS.out.k
        · have h3' : (s.size : Int) ≤ (j : Int) + 3 := by omega
          have Hno : Hid (readT s.data.toList = none) := Lib.hid (by
            rw [readT_lo, Hl.out, Hlo.out, if_pos (by rw [E0.out]; exact congrArg some H92.out), if_pos (by rw [List.length_drop, ← Hsz.out]; omega)]
            rfl)
          clear Hlo Hl
          go_wp2
          go_ret2
          exact unPost_none Hno.out HS.out.k
      · have hc92 : ((s[j].toNat : Int) != 92) = true := by
          simp only [bne_iff_ne, ne_eq]
          intro h
          exact h92 (UInt8.toNat_inj.1 (by simpa using (by omega : s[j].toNat = 92)))
        rw [E0.out, if_neg (by intro h; exact h92 (Option.some.inj h)), G0.out, List.drop_drop] at Hlo
        have HQ0 := Lib.hid (fun V => run_str_index' s j (j : Int) rfl hi0 V)
        obtain ⟨o', HO⟩ : ∃ o', Hid (o ++ [s[j]] = o') := ⟨_, Lib.hid rfl⟩
        have HOl : Hid (o.length + 1 = o'.length) := Lib.hid (by rw [← HO.out]; simp)
        have Hl1 : Hid (lo s.data.toList.length (s.data.toList.drop 1) = (lo n (s.data.toList.drop (j + 1))).map (o' ++ ·)) := Lib.hid (by
          rw [Hl.out, Hlo.out, Option.map_map, ← HO.out]
          congr 1
          funext y
          simp)
        clear h92 Hlo Hl E0 G0
        have S1 := Lib.hid (HS.out.alloc (.cells #[.int .u8 (s[j].toNat : Int)] 5))
        have HR := Lib.hid (rd_lit wr 5 #[.int .u8 (s[j].toNat : Int)] [s[j]] rfl (by simp))
        have q0 := HQ0.out
        go_wp2_with (at_builtin; go_loud (refine app_held [] rfl (.tmp 17) (.tmp 21) rfl (.slice Ao o.length co) o rfl S1.out (.slice (some ⟨wr.heap.size, 0, none⟩) 1 1) [s[j]] rfl HR.out (by simp only [List.length_cons, List.length_nil]; omega) ?_); intro v' w' S'; rw [HO.out] at S'; have S2 := Lib.hid S'; obtain ⟨A2, c2, h2, _⟩ := ow_form (S'.at_ (l1 := [])); subst h2; clear S')
        go_roundw
        case rel => exact ⟨j + 1, n, o', by omega, by omega, by omega, by rw [← HOl.out]; omega, rfl, Hl1, _, _, rfl, S2.out⟩
        case measure => simp [intOf]; omega
    · have hlt' : ¬ (j : Int) + 1 < s.size := by omega
      have HE : Hid (readT s.data.toList = if spell o = s.data.toList then some o else none) := Lib.hid (by
        rw [readT_lo, Hl.out, lo_end (by rw [List.length_drop, ← Hsz.out]; omega)]
        simp only [Option.map_some, List.append_nil])
      clear Hl
      go_wp2_with fail
      refine (rspell15_any _ o _ (rd_of_row HS.out (List.mem_cons_self ..)) (by omega)).mono ?_
      rintro e w1 ⟨rfl, hk1⟩
      by_cases hE : spell o = s.data.toList
      · have he : (!spell o == s.toList) = false := by rw [Lib.toList_data, hE]; simp
        rw [if_pos hE] at HE
        have HB := Lib.hid (NewB.of_held (HS.out.kp hk1))
        clear hE
        go_wp2
        go_ret2
        exact unPost_some HE.out HB.out
      · have he : (!spell o == s.toList) = true := by rw [Lib.toList_data]; simpa using hE
        rw [if_neg hE] at HE
        have HK := Lib.hid (HS.out.kp hk1).k
        clear hE
        go_wp2
        go_ret2
        exact unPost_none HE.out HK.out
end Go.Proofs.Ytdmdnphbheomoaa
/- EntryTexts: the walk. -/
namespace Go.Proofs.Ytdmdnphbheomoaa
open Go.RowKit
set_option maxRecDepth 100000 in
set_option maxHeartbeats 4000000 in
theorem texts15_true (x : Value) (b : List UInt8) (s : ByteArray) (w : World) (hx : Rd w 1 x b.length (bv b)) (hn : b.length ≤ 140737488355200) (hsn : s.size ≤ 140737488355200) :
    Calls Try.prog 5 #[x, .string s] w fun r w' => r = .returned (.bool true) ∧ Kp [] w w' := by
  obtain ⟨A, c, rfl, -⟩ := rd_get2 hx
  have Hx := Lib.hid hx
  clear hx
  by_cases hlen : 20000 < b.length
  · have hlen' : (20000 : Int) < b.length := by omega
    go_enter Try.func5, Try.ntmps5
    go_wp2_with fail
    refine (known15_true _).mono ?_
    rintro e w1 ⟨rfl, k1⟩
    go_wp2
    go_ret
    exact ⟨rfl, k1⟩
  · have hlen' : ¬ (20000 : Int) < b.length := by omega
    by_cases hsl : 20000 < s.size
    · have hsl' : (20000 : Int) < s.size := by omega
      go_enter Try.func5, Try.ntmps5
      go_wp2_with fail
      refine (known15_true _).mono ?_
      rintro e w1 ⟨rfl, k1⟩
      go_wp2
      go_ret
      exact ⟨rfl, k1⟩
    · have hsl' : ¬ (20000 : Int) < s.size := by omega
      have HR1 := Lib.hid (txs1 25 (g := w.heap.size) rfl Hx.out)
      have K1 := Lib.hid ((Kp.refl [] w).alloc (.cells #[.slice A b.length c] 25))
      go_enter Try.func5, Try.ntmps5
      go_wp2_with fail
      refine (lent15_any _ [b] _ HR1.out (by simp) (by simpa using hn)).mono ?_
      rintro e w1 ⟨g, cm, Bs, M, rfl, hB, T1⟩
      have HB := Lib.hid hB
      have S1 := Lib.hid (show Held w w1 (lentL (g, cm, Bs, M) [b]) from ⟨K1.out.trans T1.k (by simp), T1.ok, fun r hr q hq => Nat.le_trans K1.out.size (T1.base r hr q hq), T1.apart⟩)
      have LO : Hid (∀ V LL, Held w V LL → (∀ r, r ∈ lentL (g, cm, Bs, M) [b] → r ∈ LL) → Lent V g cm Bs M [b]) := Lib.hid (fun V LL S h => Lent.of HB.out S (h _ (by simp)) (h _ (by simp)) (fun r hr => h r (by simp [hr])))
      obtain ⟨gb, cb, hcb, hbc, hob⟩ := (LO.out _ _ S1.out (fun r hr => hr)).at_ (k := 0) (by simp)
      simp only [List.getElem_cons_zero] at hcb hbc hob
      have RBb := Lib.hid (fun V (kk : Kp [] w1 V) => rd_old (mark_rd (B := .slice (some ⟨gb, 0, none⟩) b.length cb) hob) kk)
      have C0 := Lib.hid (fun V (kk : Kp [] w1 V) => cell_kept hcb kk)
      clear T1 hB HR1 K1 hob hcb
      go_wp2_with fail
      refine (unspell15_any s _ (by omega)).mono ?_
      rintro e w2 ⟨u2, rfl, o2⟩
      obtain ⟨t, HT⟩ : ∃ t, Hid (UT s.data.toList = t) := ⟨_, Lib.hid rfl⟩
      obtain ⟨te, HTE⟩ : ∃ te, Hid (UE s.data.toList = te) := ⟨_, Lib.hid rfl⟩
      rw [HTE.out]
      rw [HT.out] at o2
      have S2 := Lib.hid (S1.out.rownew o2.1 o2.2.1 o2.2.2)
      have K2 := Lib.hid o2.2.1
      obtain ⟨A2, c2, rfl⟩ := o2.form
      clear o2
      go_wp2_with fail
      refine (runspell15_any s _ (by omega)).mono ?_
      rintro e w3 ⟨u3, rfl, o3⟩
      rw [HTE.out]
      rw [HT.out] at o3
      have S3 := Lib.hid (S2.out.rownew o3.1 o3.2.1 o3.2.2)
      have K3 := Lib.hid (K2.out.trans o3.2.1 (by simp))
      obtain ⟨A3, c3, rfl⟩ := o3.form
      clear o3
      have hcb := C0.out _ K3.out
      go_wp2_with fail
      refine (spell15_any _ b _ (RBb.out _ K3.out) (by omega)).mono ?_
      rintro e w4 ⟨rfl, k4⟩
      have K4 := Lib.hid k4
      have S4 := Lib.hid (S3.out.kp k4)
      clear hcb k4
      go_wp2_with fail
      refine (rspell15_any _ b _ (rd_old Hx.out S4.out.k) (by omega)).mono ?_
      rintro e w5 ⟨rfl, k5⟩
      have S5 := Lib.hid (S4.out.kp k5)
      have kv2 := strB (Rd.of_own (S5.out.at_ (l1 := [_])))
      have kv3 := strB (Rd.of_own (S5.out.at_ (l1 := [])))
      have HR6 := Lib.hid (txs1 25 (g := w5.heap.size) rfl (rd_old Hx.out S5.out.k))
      have S6 := Lib.hid (S5.out.alloc (.cells #[.slice A b.length c] 25))
      have TO6 := Lib.hid (LO.out _ _ S6.out (fun r hr => List.mem_cons_of_mem _ (List.mem_cons_of_mem _ hr)))
      clear k5
      go_wp2_with fail
      refine (kept15_any g cm Bs M _ [b] _ TO6.out HR6.out (by simp) (by simpa using hn)).mono ?_
      rintro r w7 ⟨rfl, k7⟩
      have K7 := Lib.hid (S6.out.k.trans k7 (by simp))
      clear k7
      go_wp2_with fail
      refine (known15_true _).mono ?_
      rintro r w8 ⟨rfl, k8⟩
      have K8 := Lib.hid (K7.out.trans k8 (by simp))
      clear k8
      go_wp2
      go_ret
      exact ⟨rfl, K8.out⟩
theorem texts15_upto (w : World) (x : Value) (b : List UInt8) (hx : Rd w 1 x b.length (bv b)) (hb : b.length ≤ 1048576) (s : ByteArray) (hs : s.size ≤ 1048576) :
    Calls Try.prog 5 #[x, .string s] w fun r w' => r = .returned (.bool true) ∧ Kp [] w w' := texts15_true x b s w hx (by omega) (by omega)
end Go.Proofs.Ytdmdnphbheomoaa
