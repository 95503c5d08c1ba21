/- Several texts in one: RecT, RecU, Open, RecOpen, PostKept. -/
import Derived.ProofKit
import Derived.OpenShut
import Derived.Deep.Slices
import Derived.JoinedCond
import Derived.Carry
import Derived.Test.YtnchjfhmalbjoaaP3
/- The law's helpers: lent, left, over; rows of lent records. -/
namespace Go.Proofs.Ytnchjfhmalbjoaa
open Go.RowKit

set_option maxRecDepth 100000 in
set_option maxHeartbeats 400000 in
theorem lent07_any (x : Value) (bs : List UInt8) (n : Nat) (w : World) (hx : Rd w 1 x n (bv bs)) (hn : n + 2 ≤ 140737488355328) :
    Calls Try.prog 9 #[x] w fun e w' => ∃ g c, e = .returned (.slice (some ⟨g, 0, none⟩) n c) ∧ Ow w' 5 1 (.slice (some ⟨g, 0, none⟩) (n + 2) c) (n + 2) (bv (bs ++ [165, 166])) ∧ Kp [] w w' ∧ w.heap.size ≤ g := by
  obtain ⟨i0, hi, hz0, hz1, hz2⟩ := info_parts Try.infoU8
  obtain ⟨A, c, rfl⟩ := rd_form hx
  have Hx := Lib.hid hx
  clear hx
  go_enter Try.func9, Try.ntmps9
  go_wp2_with (at_builtin; refine wpList_app _ rfl (.const (.slice none 0 0)) (.tmp 4) _ rfl 5 i0 _ 1 1 Try.underlying23 hi hz0 hz1 hz2 rfl (by decide) _ 0 [] rfl (World.ownsRow_nil _ _ _ _) (.slice A n c) n (bv bs) rfl Hx.out (bv_one _) (by unfold maxLen; omega) (by omega) ?_)
  intro v1 w1 hown1 hg1 hat1
  go_wp2_with (at_builtin; go_loud (refine wpList_app _ rfl (.tmp 5) (.tmp 6) _ rfl 5 i0 _ 1 1 Try.underlying23 hi hz0 hz1 hz2 rfl (by decide) v1 n (bv bs) rfl (hown1.alloc _) (.slice (some ⟨w1.heap.size, 0, none⟩) 2 2) 2 (bv [165, 166]) rfl (rd_lit w1 5 _ [165, 166] rfl (by decide)) (bv_one _) (by unfold maxLen; omega) (by omega) ?_))
  intro v2 w2 hown2 hg2 hat2
  obtain ⟨g, c2, rfl, hc2, hc3⟩ := ow_some hown2 (by omega)
  have hc4 : c2 ≤ 9223372036854775807 := by unfold maxLen at hc3; omega
  go_wp2
  go_ret
  have hf : w.heap.size ≤ g := by
    rcases hat2 with h | h
    · rcases hat1 with h1 | h1
      · rw [h1] at h; cases h
      · rw [h1] at h; simp [Value.ownBlock] at h; omega
    · simp [Value.ownBlock] at h; have := hg1.size; omega
  refine ⟨g, c2, rfl, by rw [bv_append]; exact hown2, ?_, hf⟩
  have k1 : Kp [] w w1 := (Kp.refl [] w).grown hg1 (by simp [Value.ownBlock])
  refine (k1.alloc _).grown hg2 ?_
  intro b hb
  rcases hat1 with h1 | h1
  · rw [h1] at hb; cases hb
  · rw [h1] at hb; cases hb; exact .inr (Nat.le_refl _)


set_option maxRecDepth 100000 in
set_option maxHeartbeats 400000 in
theorem left07_any (g c n : Nat) (y : Value) (bs : List UInt8) (w : World) (hm : Ow w 5 1 (.slice (some ⟨g, 0, none⟩) (n + 2) c) (n + 2) (bv (bs ++ [165, 166]))) (hy : Rd w 1 y n (bv bs)) (hn : n + 2 ≤ 140737488355328) :
    Calls Try.prog 17 #[.slice (some ⟨g, 0, none⟩) n c, y] w fun e w' => e = .returned (.bool true) ∧ w = w' := by
  have hbl : bs.length = n := by have := hy.1; rw [bv_length] at this; omega
  have h1 := hm.cellAt n (by omega)
  have h2 := hm.cellAt (n + 1) (by omega)
  rw [bv_get, List.getElem?_append_right (by omega), hbl, Nat.sub_self] at h1
  rw [bv_get, List.getElem?_append_right (by omega), hbl, Nat.add_sub_cancel_left] at h2
  simp at h1 h2
  obtain ⟨g', c', hv, hc2, hc3⟩ := ow_some hm (by omega)
  cases hv
  have hc4 : c ≤ 9223372036854775807 := by unfold maxLen at hc3; omega
  have hpre : Rd w 1 (.slice (some ⟨g, 0, none⟩) n c) n (bv bs) := by
    have := ow_take hm (m := n) (by omega) (by omega)
    rw [Nat.mul_one, bv_append, List.take_left' (by rw [bv_length]; exact hbl)] at this
    exact Rd.of_own this
  have Hs := Lib.hid (same_any _ _ bs bs n n w hpre hy)
  obtain ⟨A, cy, rfl⟩ := rd_form hy
  clear hpre hy hm hbl hc3
  go_enter Try.func17, Try.ntmps17
  go_wp2_with (go_at_call 13; refine Hs.out.mono ?_; rintro e w' ⟨rfl, rfl⟩; have hbb : (bs == bs) = true := beq_self_eq_true _)
  go_ret
  exact ⟨rfl, rfl⟩


set_option maxRecDepth 100000 in
set_option maxHeartbeats 400000 in
theorem over07_any (v : Value) (n : Nat) (xs : List Value) (w : World) (hm : Ow w 5 1 v n xs) (hn : n ≤ 140737488355328) :
    Calls Try.prog 16 #[v] w fun e w' => e = .returned (.tuple #[]) ∧ Ow w' 5 1 v n (List.replicate n (.int .u8 99)) ∧ Kp v.ownBlock.toList w w' := by
  obtain ⟨A, c, rfl, _, _⟩ := ow_form hm
  go_enter Try.func16, Try.ntmps16
  go_wp2
  go_loopw [2] (fun t wr => ∃ j : Nat, j ≤ n ∧ t = .int .i64 (j : Int) ∧ Ow wr 5 1 (.slice A n c) n (List.replicate j (.int .u8 99) ++ xs.drop j) ∧ Kp (Value.slice A n c).ownBlock.toList w wr) (fun t _ => n - (intOf t).toNat)
  case atStart => exact ⟨0, Nat.zero_le _, rfl, by simpa using hm, Kp.refl _ _⟩
  case round =>
    obtain ⟨j, hj, rfl, ho, hkp⟩ := hrel
    by_cases hlt : j < n
    · obtain ⟨g, c', hv, hc2, hc3⟩ := ow_some ho (by omega)
      cases hv
      have hxl : xs.length = n := by have := hm.1; omega
      obtain ⟨u, hu⟩ : ∃ u, xs[j]? = some u := ⟨_, List.getElem?_eq_getElem (by omega)⟩
      have hcell := ho.cellAt j (by omega)
      have hfz := ho.frozenAt j
      have hlw := ow_lt ho (g := g) rfl
      rw [List.getElem?_append_right (by simp), List.length_replicate, Nat.sub_self, List.getElem?_drop, Nat.add_zero, hu] at hcell
      have hst := ho.stored (g := g) j (.int .u8 99)
      have Hst := Lib.hid hst
      have Hxl := Lib.hid hxl
      have Hu := Lib.hid hu
      clear hst hxl hu hm
      go_wp2
      go_roundw
      case rel =>
        refine ⟨j + 1, by omega, by go_num, ?_, hkp.setCell (.inl (by simp [Value.ownBlock])) _⟩
        have h2 := Hst.out.1
        rw [paint_step _ _ _ (by rw [Hxl.out]; exact hlt)] at h2
        exact h2
      case measure => simp [intOf]; omega
    · have hj' : j = n := by omega
      subst hj'
      have hxl : xs.drop j = [] := List.drop_of_length_le (by have := hm.1; omega)
      rw [hxl, List.append_nil] at ho
      clear hxl hm
      go_wp2
      go_end0
      exact ⟨rfl, ho, hkp⟩

/-- A row of records reads as records. -/
theorem recCells_get : ∀ (rs : List Rec) (Bs : List Value) (i : Nat) (r : Rec) (B : Value), rs[i]? = some r → Bs[i]? = some B → (recCells rs Bs)[i * 2]? = some (.int .u8 (r.1.toNat : Int)) ∧ (recCells rs Bs)[i * 2 + 1]? = some B
  | r0 :: rs, B0 :: Bs, 0, r, B, h1, h2 => by cases h1; cases h2; exact ⟨rfl, rfl⟩
  | r0 :: rs, B0 :: Bs, i + 1, r, B, h1, h2 => by
    have := recCells_get rs Bs i r B h1 h2
    rw [show (i + 1) * 2 = i * 2 + 1 + 1 from by omega]
    exact this
  | [], _, _, _, _, h1, _ => by simp at h1
  | _ :: _, [], _, _, _, _, h2 => by simp at h2
theorem recsIn_row {W : World} {m : Value} {rs : List Rec} {Bs : List Value} (ho : Ow W 25 2 m rs.length (recCells rs Bs)) (hl : rs.length = Bs.length) (hb : ∀ (i : Nat) (r : Rec) (B : Value), rs[i]? = some r → Bs[i]? = some B → Rd W 1 B r.2.length (bv r.2)) : RecsIn W m rs := by
  obtain ⟨hlen, A, c, rfl, h1, h2, h3, h4⟩ := Rd.of_own ho
  refine ⟨⟨A, c, rfl, h1, h2, fun hA => List.eq_nil_of_length_eq_zero (h3 hA).1, fun ad had i r hr => ?_⟩⟩
  have hi := (List.getElem?_eq_some_iff.1 hr).1
  have hB : Bs[i]? = some (Bs[i]'(by omega)) := List.getElem?_eq_getElem (by omega)
  refine ⟨_, fun j u hu => ?_, hb i r _ hr hB⟩
  obtain ⟨g1, g2⟩ := recCells_get rs Bs i r _ hr hB
  rw [add_of_add]
  rcases j with _ | _ | j
  · cases hu; exact h4 ad had _ _ g1
  · cases hu; exact h4 ad had _ _ g2
  · cases hu
/-- Lent bodies: the block and the room of each. -/
def lentR : List Rec → List (Nat × Nat) → List Res
  | r :: rs, p :: gs => rowR 5 1 (.slice (some ⟨p.1, 0, none⟩) (r.2.length + 2) p.2) (r.2.length + 2) (bv (r.2 ++ [165, 166])) :: lentR rs gs
  | _, _ => []
def lentV : List Rec → List (Nat × Nat) → List Value
  | r :: rs, p :: gs => .slice (some ⟨p.1, 0, none⟩) r.2.length p.2 :: lentV rs gs
  | _, _ => []
theorem lentR_snoc : ∀ (rs : List Rec) (gs : List (Nat × Nat)) (r : Rec) (p : Nat × Nat), rs.length = gs.length → lentR (rs ++ [r]) (gs ++ [p]) = lentR rs gs ++ [rowR 5 1 (.slice (some ⟨p.1, 0, none⟩) (r.2.length + 2) p.2) (r.2.length + 2) (bv (r.2 ++ [165, 166]))]
  | [], [], _, _, _ => rfl
  | _ :: rs, _ :: gs, r, p, h => by simp only [List.cons_append, lentR, lentR_snoc rs gs r p (by simpa using h)]
  | [], _ :: _, _, _, h => by simp at h
  | _ :: _, [], _, _, h => by simp at h
theorem lentV_snoc : ∀ (rs : List Rec) (gs : List (Nat × Nat)) (r : Rec) (p : Nat × Nat), rs.length = gs.length → lentV (rs ++ [r]) (gs ++ [p]) = lentV rs gs ++ [.slice (some ⟨p.1, 0, none⟩) r.2.length p.2]
  | [], [], _, _, _ => rfl
  | _ :: rs, _ :: gs, r, p, h => by simp only [List.cons_append, lentV, lentV_snoc rs gs r p (by simpa using h)]
  | [], _ :: _, _, _, h => by simp at h
  | _ :: _, [], _, _, h => by simp at h
theorem lentV_length : ∀ (rs : List Rec) (gs : List (Nat × Nat)), rs.length = gs.length → (lentV rs gs).length = rs.length
  | [], [], _ => rfl
  | _ :: rs, _ :: gs, h => by simp only [lentV, List.length_cons, lentV_length rs gs (by simpa using h)]
  | [], _ :: _, h => by simp at h
  | _ :: _, [], h => by simp at h
theorem lent_get : ∀ (rs : List Rec) (gs : List (Nat × Nat)) (i : Nat) (r : Rec) (p : Nat × Nat), rs[i]? = some r → gs[i]? = some p →
    (lentV rs gs)[i]? = some (.slice (some ⟨p.1, 0, none⟩) r.2.length p.2) ∧ rowR 5 1 (.slice (some ⟨p.1, 0, none⟩) (r.2.length + 2) p.2) (r.2.length + 2) (bv (r.2 ++ [165, 166])) ∈ lentR rs gs
  | r0 :: rs, p0 :: gs, 0, r, p, h1, h2 => by cases h1; cases h2; exact ⟨rfl, List.mem_cons_self⟩
  | r0 :: rs, p0 :: gs, i + 1, r, p, h1, h2 => by
    have := lent_get rs gs i r p h1 h2
    exact ⟨this.1, List.mem_cons_of_mem _ this.2⟩
  | [], _, _, _, _, h1, _ => by simp at h1
  | _ :: _, [], _, _, _, _, h2 => by simp at h2
theorem lent_row {W : World} {g n c : Nat} {bs : List UInt8} (hl : bs.length = n) (h : Ow W 5 1 (.slice (some ⟨g, 0, none⟩) (n + 2) c) (n + 2) (bv (bs ++ [165, 166]))) : Rd W 1 (.slice (some ⟨g, 0, none⟩) n c) n (bv bs) := by
  have := ow_take h (m := n) (by omega) (by omega)
  rw [Nat.mul_one, bv_append, List.take_left' (by rw [bv_length]; exact hl)] at this
  exact Rd.of_own this
end Go.Proofs.Ytnchjfhmalbjoaa
/- RecordPuts: the walk. -/
namespace Go.Proofs.Ytnchjfhmalbjoaa
open Go.RowKit
theorem lent_recs {w wr : World} {m : Value} {rs : List Rec} {gs : List (Nat × Nat)} (hg : gs.length = rs.length) (S : Held w wr (rowR 25 2 m rs.length (recCells rs (lentV rs gs)) :: lentR rs gs)) : RecsIn wr m rs := by
  refine recsIn_row (S.at_ (l1 := [])) (lentV_length rs gs hg.symm).symm (fun i r B hr hB => ?_)
  have hi := (List.getElem?_eq_some_iff.1 hr).1
  have hp : gs[i]? = some (gs[i]'(by omega)) := List.getElem?_eq_getElem (by omega)
  obtain ⟨h1, h2⟩ := lent_get rs gs i r _ hr hp
  rw [h1] at hB
  cases hB
  exact lent_row rfl (S.ok _ (List.mem_cons_of_mem _ h2))
set_option maxRecDepth 100000 in
set_option maxHeartbeats 4000000 in
theorem puts_true (rs : List Rec) (v : Value) (n : Int) (hn : -9223372036854775808 ≤ n ∧ n ≤ 9223372036854775807) (w : World) (hv : RecsIn w v rs) (hl : rs.length ≤ 1073741824) (hb : ∀ r, r ∈ rs → r.2.length ≤ 1073741824) (hfr : (frames rs).length ≤ 10737418240) (hou : (outOf rs).length ≤ 10737418240) :
    Calls Try.prog 3 #[v, .int .i64 n] w fun e w' => e = .returned (.bool true) ∧ Kp [] w w' := by
  obtain ⟨A, c, rfl, hn1, hn2, hA, hat⟩ := hv.form
  have Hv := Lib.hid hv
  have HA := Lib.hid hA
  have Hat := Lib.hid hat
  have Hb := Lib.hid hb
  have HP := Lib.hid (fun (W : World) (u : Value) (h : RecsIn W u rs) => put_any u rs W h (by omega))
  have HQ := Lib.hid (fun (W : World) (u : Value) (h : RecsIn W u rs) => rput_any u rs W h (by omega))
  unfold PutsPost at HP HQ
  generalize rerr rs = er at *
  generalize outOf rs = ou at *
  obtain ⟨i0, hi, hz0, hz1, hz2⟩ := info_parts Try.infoRec2
  obtain ⟨i1, hj, hy0, hy1, hy2⟩ := info_parts Try.infoU8
  have S0 := Held.start w
  clear hv hA hat hb hfr
  unfold maxLen at hn2
  go_enter Try.func3, Try.ntmps3
  go_wp2
  go_loopw [5, 6] (fun m i wr => ∃ (k : Nat) (gs : List (Nat × Nat)), k ≤ rs.length ∧ i = .int .i64 k ∧ gs.length = k ∧ Held w wr (rowR 25 2 m k (recCells (rs.take k) (lentV (rs.take k) gs)) :: lentR (rs.take k) gs)) (fun _ i _ => rs.length - (intOf i).toNat)
  case atStart => exact ⟨0, [], Nat.zero_le _, rfl, rfl, S0.rownew (World.ownsRow_nil w 0 25 2) (Kp.refl [] w) (fun g hg => by simp [Value.ownBlock] at hg)⟩
  case round =>
    clear S0
    obtain ⟨k, gs, hk, rfl, hg, S⟩ := hrel
    have Hg := Lib.hid hg
    clear hg
    by_cases hlt : k < rs.length
    · obtain ⟨ad, rfl⟩ : ∃ ad, A = some ad := by
        cases A with
        | none => have := HA.out rfl; rw [this] at hlt; simp at hlt
        | some ad => exact ⟨ad, rfl⟩
      have hr : rs[k]? = some rs[k] := List.getElem?_eq_getElem hlt
      have hbl := Hb.out _ (List.getElem_mem hlt)
      obtain ⟨B, hB0⟩ := Hat.out ad rfl k _ hr
      have Htk : Hid (rs.take (k + 1) = rs.take k ++ [rs[k]]) := Lib.hid (take_succ_of hr)
      obtain ⟨Ab, cb, rfl, -, -⟩ := rd_get hB0.b
      have HC : Hid (∀ W, Kp [] w W → W.cell? (ad.add (k * 2)) = some (.int .u8 (rs[k].1.toNat : Int)) ∧ W.cell? { block := (ad.add (k * 2)).block, off := (ad.add (k * 2)).off + 1 } = some (.slice Ab rs[k].2.length cb)) := Lib.hid (fun W kk => by
        have h0 := (hB0.old kk).at_ 0 _ rfl
        have h1 := (hB0.old kk).at_ 1 _ rfl
        rw [add_of_add, Nat.add_zero] at h0
        exact ⟨h0, by first | exact h1 | simpa [World.cell?, Addr.add] using h1⟩)
      have RB : Hid (∀ W, Kp [] w W → Rd W 1 (.slice Ab rs[k].2.length cb) rs[k].2.length (bv rs[k].2)) := Lib.hid (fun W kk => (hB0.old kk).b)
      have hTk : (rs.take k).length = gs.length := by rw [List.length_take, Hg.out]; omega
      have HTk := Lib.hid hTk
      clear hTk hr hB0
      generalize rs[k] = r at *
      obtain ⟨kd, body⟩ := r
      simp only at *
      generalize rs.take k = pre at *
      have hkd := kd.toNat_lt
      obtain ⟨Am, cm, rfl, _, _⟩ := ow_form (S.at_ (l1 := []))
      have S1 := Lib.hid (S.kp ((Kp.refl [] wr).drew))
      have hT1 := HC.out wr.drew S1.out.k
      clear S
      go_wp2
      refine wp_region_lexf [11, 13, 14] [] (fun W : World => W.cell? (ad.add (k * 2)) = some (.int .u8 (kd.toNat : Int)) ∧ W.cell? { block := (ad.add (k * 2)).block, off := (ad.add (k * 2)).off + 1 } = some (.slice Ab body.length cb)) (by kernel_rfl) (by kernel_rfl) hT1 (fun σ hne f hf hsur => ?_); have Hsur := Lib.hid hsur; clear hsur
      have hfa := fun y => (hf y).1
      have hfb := fun y => (hf y).2
      clear hf hT1
      go_wp2_with (first
        | (refine lex_app rfl rfl (.tmp 21) (.tmp 34) _ rfl 25 i0 _ 2 32 Try.underlying22 hi hz0 hz1 hz2 rfl (by decide) (.slice Am k cm) k (recCells pre (lentV pre gs)) rfl (S4.out.at_ (l1 := [_])) (.slice (some ⟨w3.heap.size, 0, none⟩) 1 1) 1 [.int .u8 (kd.toNat : Int), .slice (some ⟨g3, 0, none⟩) body.length c3] rfl (rd_two rfl) (by simp [Value.oneCell']) (by unfold maxLen; omega) (by omega) ?_; intro v5 w5 o5 g5 h5; have S5 := Lib.hid (S4.out.grow (l1 := [_]) o5 g5 h5); have T5 := Lib.hid (HC.out w5 S5.out.k); clear o5 g5 h5)
        | (refine lex_qq Hsur.out rfl rfl rfl ?_; intro K hK; go_big_quiet_op; go_big_quiet_on) | (refine lex_skipk rfl ?_; intro K hK; go_simp; refine hK _ _ ?_; clear hK K) | (refine lex_e rfl rfl ?_; intro K hK; go_step) | (refine lex_nil ?_)
        | (go_at_call 9; ((with_reducible refine (lent07_any _ body body.length _ (RB.out _ S1.out.k) (by omega)).mono ?_); rintro e w3 ⟨g3, c3, rfl, o3, k3, f3⟩; have S3 := Lib.hid (S1.out.rownew o3 k3 (fun b hb => by cases hb; exact f3)); have S4 := Lib.hid (S3.out.alloc (.cells #[.int .u8 (kd.toNat : Int), .slice (some ⟨g3, 0, none⟩) body.length c3] 25)); have T3 := Lib.hid (HC.out w3 S3.out.k); have T4 := Lib.hid (HC.out _ S4.out.k); clear o3 k3 f3))
        | ((with_reducible apply And.intro); · (intro hl; first | (exact ls_absurd hl rfl) | exact T5.out))
        | ((with_reducible apply And.intro); · (intro hl; first | (exact ls_absurd hl rfl) | exact T4.out))
        | ((with_reducible apply And.intro); · (intro hl; first | (exact ls_absurd hl rfl) | exact T3.out)))
      go_roundw
      case rel =>
        refine ⟨k + 1, gs ++ [(g3, c3)], by omega, by go_num, by simp [Hg.out], ?_⟩
        rw [Htk.out, lentR_snoc _ _ _ _ HTk.out, lentV_snoc _ _ _ _ HTk.out, recCells_snoc _ _ _ _ (lentV_length _ _ HTk.out).symm]
        exact S5.out.perm (List.perm_append_singleton _ _).symm
      case measure => simp [intOf]; omega
    · obtain rfl : k = rs.length := by omega
      rw [List.take_length] at S
      obtain ⟨Am, cm, rfl, _, _⟩ := ow_form (S.at_ (l1 := []))
      have S1 := Lib.hid S
      have M1 := Lib.hid (lent_recs Hg.out S)
      clear S
      go_wp2_with fail
      refine (HP.out _ _ M1.out).mono ?_
      rintro e w1 ⟨a, rfl, oa, ka, fa⟩
      obtain ⟨Aa, ca, rfl, _, _⟩ := ow_form oa
      have S2 := Lib.hid (S1.out.rownew oa ka fa)
      have M2 := Lib.hid (M1.out.old ka)
      clear oa ka fa
      go_wp2_with fail
      refine (HP.out _ _ M2.out).mono ?_
      rintro e w2 ⟨b, rfl, ob, kb, fb⟩
      obtain ⟨Ab, cb, rfl, _, _⟩ := ow_form ob
      have S3 := Lib.hid (S2.out.rownew ob kb fb)
      clear ob kb fb
      go_wp2_with fail
      refine (HQ.out _ _ (Hv.out.old S3.out.k)).mono ?_
      rintro e w3 ⟨wt, rfl, ow, kw, fw⟩
      obtain ⟨Aw, cw, rfl, _, _⟩ := ow_form ow
      have S4 := Lib.hid (S3.out.rownew ow kw fw)
      clear ow kw fw
      go_wp2_with (first
        | (go_at_call 12; (with_reducible refine (num07_any _ _).mono ?_); rintro e w' ⟨rfl, rfl⟩)
        | (go_at_call 13; (with_reducible refine (same_true _ _ ou _ _ _ (Rd.of_own (S4.out.at_ (l1 := [_, _]))) (Rd.of_own (S4.out.at_ (l1 := [])))).mono ?_); rintro e w' ⟨rfl, rfl⟩)
        | (go_at_call 14; (with_reducible refine (size_any n hn _).mono ?_); rintro e w' ⟨rfl, rfl⟩)
        | (go_at_call 15; (with_reducible refine (rsize_any n hn _).mono ?_); rintro e w' ⟨rfl, rfl⟩))
      refine (over07_any _ ou.length _ _ (S4.out.at_ (l1 := [_, _])) (by omega)).mono ?_
      rintro e w4 ⟨rfl, o4, k4⟩
      have S5 := Lib.hid (S4.out.rowset (l1 := [_, _]) o4 k4)
      clear o4 k4
      go_wp2
      go_loopw [7, 13] (fun a i wr2 => ∃ (j : Nat) (xs : List Value), j ≤ 20 ∧ i = .int .i64 j ∧ Held w wr2 (rowR 5 1 (.slice Aw ou.length cw) ou.length (bv ou) :: rowR 5 1 (.slice Ab ou.length cb) ou.length (bv ou) :: rowR 5 1 a (ou.length + j) xs :: rowR 25 2 (.slice Am rs.length cm) rs.length (recCells rs (lentV rs gs)) :: lentR rs gs)) (fun _ i _ => 20 - (intOf i).toNat)
      case atStart => exact ⟨0, _, by omega, rfl, S5.out⟩
      case round =>
        clear S5
        obtain ⟨j, xs, hj2, rfl, S⟩ := hrel
        obtain ⟨Aa2, ca2, rfl, _, _⟩ := ow_form (S.at_ (l1 := [_, _]))
        by_cases hlt2 : j < 20
        · have S6 := Lib.hid (S.alloc (.cells #[.int .u8 99] 5))
          clear S
          go_wp2_with (at_builtin; go_loud (refine wpList_app _ rfl (.tmp 74) (.tmp 75) _ rfl 5 i1 _ 1 1 Try.underlying23 hj hy0 hy1 hy2 rfl (by decide) (.slice Aa2 (ou.length + j) ca2) (ou.length + j) xs rfl (S6.out.at_ (l1 := [_, _])) (.slice (some ⟨wr.heap.size, 0, none⟩) 1 1) 1 [.int .u8 99] rfl (rd_one rfl) (by simp [Value.oneCell']) (by unfold maxLen; omega) (by omega) ?_); intro v8 w8 o8 g8 h8; have S8 := Lib.hid (S6.out.grow (l1 := [_, _]) o8 g8 h8); clear o8 g8 h8)
          go_roundw
          case rel => exact ⟨j + 1, _, by omega, by go_num, S8.out⟩
          case measure => simp [intOf]; omega
        · obtain rfl : j = 20 := by omega
          have S7 := Lib.hid S
          clear S
          go_wp2
          go_loopw [14] (fun i wr3 => ∃ q : Nat, q ≤ rs.length ∧ i = .int .i64 q ∧ Held w wr3 (rowR 5 1 (.slice Aw ou.length cw) ou.length (bv ou) :: rowR 5 1 (.slice Ab ou.length cb) ou.length (bv ou) :: rowR 5 1 (.slice Aa2 (ou.length + 20) ca2) (ou.length + 20) xs :: rowR 25 2 (.slice Am rs.length cm) rs.length (recCells rs (lentV rs gs)) :: lentR rs gs)) (fun i _ => rs.length - (intOf i).toNat)
          case atStart => exact ⟨0, Nat.zero_le _, rfl, S7.out⟩
          case round =>
            clear S7
            obtain ⟨q, hq, rfl, S⟩ := hrel
            by_cases hlt3 : q < rs.length
            · obtain ⟨ad, rfl⟩ : ∃ ad, A = some ad := by
                cases A with
                | none => have := HA.out rfl; rw [this] at hlt3; simp at hlt3
                | some ad => exact ⟨ad, rfl⟩
              have S := S.kp ((Kp.refl [] wr).drew)
              obtain ⟨_, Am', cm', hmv, hm1, hm2, hm3, hm4⟩ := Rd.of_own (S.at_ (l1 := [_, _, _]))
              cases hmv
              obtain ⟨am, rfl⟩ : ∃ am, Am = some am := by
                cases Am with
                | none => have := (hm3 rfl).1; omega
                | some am => exact ⟨am, rfl⟩
              have hr : rs[q]? = some rs[q] := List.getElem?_eq_getElem hlt3
              have hp : gs[q]? = some (gs[q]'(by rw [Hg.out]; exact hlt3)) := List.getElem?_eq_getElem _
              have hbl := Hb.out _ (List.getElem_mem hlt3)
              obtain ⟨h1, h2⟩ := lent_get rs gs q _ _ hr hp
              obtain ⟨g1, g2⟩ := recCells_get rs (lentV rs gs) q _ _ hr h1
              have OL := Lib.hid (S.ok _ (List.mem_cons_of_mem _ (List.mem_cons_of_mem _ (List.mem_cons_of_mem _ (List.mem_cons_of_mem _ h2)))))
              have c1 := hm4 am rfl _ _ g1
              have c2 := hm4 am rfl _ _ g2
              rw [← add_of_add] at c2
              obtain ⟨B, hB0⟩ := Hat.out ad rfl q _ hr
              obtain ⟨Bb, bb, rfl, -, -⟩ := rd_get hB0.b
              have hB := hB0.old S.k
              have c3 := hB.at_ 0 _ rfl
              have c4 := hB.at_ 1 _ rfl
              have RB := Lib.hid hB.b
              rw [add_of_add, Nat.add_zero] at c3
              have S8 := Lib.hid S
              clear hr hp h1 h2 g1 g2 hB hB0 hm4 hm3 hm1 hm2 S
              generalize rs[q] = r at *
              generalize gs[q]'_ = p at *
              obtain ⟨kd, body⟩ := r
              obtain ⟨pg, pc⟩ := p
              simp only at *
              have hkd := kd.toNat_lt
              have hT : (fun W : World => W.cell? (am.add (q * 2)) = some (.int .u8 (kd.toNat : Int)) ∧ W.cell? { block := (am.add (q * 2)).block, off := (am.add (q * 2)).off + 1 } = some (.slice (some ⟨pg, 0, none⟩) body.length pc) ∧ W.cell? (ad.add (q * 2)) = some (.int .u8 (kd.toNat : Int)) ∧ W.cell? { block := (ad.add (q * 2)).block, off := (ad.add (q * 2)).off + 1 } = some (.slice Bb body.length bb)) wr.drew :=
                ⟨c1, by first | exact c2 | simpa [World.cell?, Addr.add] using c2, c3, by first | exact c4 | simpa [World.cell?, Addr.add] using c4⟩
              have HT := Lib.hid hT
              clear c1 c2 c3 c4
              go_wp2
              refine wp_region_lexf [10] [] (fun W : World => W.cell? (am.add (q * 2)) = some (.int .u8 (kd.toNat : Int)) ∧ W.cell? { block := (am.add (q * 2)).block, off := (am.add (q * 2)).off + 1 } = some (.slice (some ⟨pg, 0, none⟩) body.length pc) ∧ W.cell? (ad.add (q * 2)) = some (.int .u8 (kd.toNat : Int)) ∧ W.cell? { block := (ad.add (q * 2)).block, off := (ad.add (q * 2)).off + 1 } = some (.slice Bb body.length bb)) (by kernel_rfl) (by kernel_rfl) hT (fun σ hne f hf hsur => ?_); have Hsur := Lib.hid hsur; clear hsur
              have hfa := fun y => (hf y).1
              have hfb := fun y => (hf y).2.1
              have hfc := fun y => (hf y).2.2.1
              have hfd := fun y => (hf y).2.2.2
              clear hf hT
              go_wp2_with (first
                | (refine lex_qq Hsur.out rfl rfl rfl ?_; intro K hK; go_big_quiet_op; go_big_quiet_on) | (refine lex_skipk rfl ?_; intro K hK; go_simp; refine hK _ _ ?_; clear hK K) | (refine lex_e rfl rfl ?_; intro K hK; go_step) | (refine lex_nil ?_)
                | (go_at_call 17; (go_loud (refine (left07_any pg pc body.length _ body _ OL.out RB.out (by omega)).mono ?_); rintro e w' ⟨rfl, rfl⟩))
                | ((with_reducible apply And.intro); · (intro hl; first | (exact ls_absurd hl rfl) | exact HT.out)))
              go_roundw
              case rel => first | exact ⟨q + 1, by omega, by go_num, S8.out⟩ | ((repeat apply Exists.intro); exact ⟨⟨q + 1, by omega, by go_num, S8.out⟩, rfl⟩) | trace_state
              case measure => simp [intOf]; omega
            · obtain rfl : q = rs.length := by omega
              have S9 := Lib.hid S
              clear S
              go_wp2_with (first
                | (go_at_call 13; (with_reducible refine (same_true _ _ ou _ _ _ (Rd.of_own (S9.out.at_ (l1 := [_]))) (Rd.of_own (S9.out.at_ (l1 := [])))).mono ?_); rintro e w' ⟨rfl, rfl⟩)
                | (go_at_call 18; (with_reducible refine (known07_true _).mono ?_); rintro e w9 ⟨rfl, k9⟩))
              go_ret
              exact ⟨rfl, S9.out.k.trans k9 (by simp)⟩
end Go.Proofs.Ytnchjfhmalbjoaa
/- What comes in, opened: slices of bytes; how much there is of it. -/
namespace Go.Proofs.Ytnchjfhmalbjoaa
open Go.RowKit Go.WideShapes Go.ChangeShapes

section
variable {H : Type} {enc : TypeId × Value → H} {P : Program}
/-! ### Bulk -/
theorem bulk_pos (d : DataW H) : 1 ≤ Rows.uptoBulk d := by
  cases d with
  | lit l => cases l <;> simp [Rows.uptoBulk]
  | nil => simp [Rows.uptoBulk]
  | ptr d => simp [Rows.uptoBulk]
  | slice elems spare => simp [Rows.uptoBulk]
  | agg parts => simp [Rows.uptoBulk]
  | iface t d => simp [Rows.uptoBulk]
  | map entries => simp [Rows.uptoBulk]
  | held h => simp [Rows.uptoBulk]
theorem bulk_len (l : List (DataW H)) : l.length ≤ Rows.uptoBulkAll l := by
  induction l with
  | nil => simp [Rows.uptoBulkAll]
  | cons x r ih => have := bulk_pos x; simp only [Rows.uptoBulkAll, List.length_cons]; omega
theorem bulk_slice (l r : List (DataW H)) : Rows.uptoBulk (.slice l r) = Rows.uptoBulkAll l + Rows.uptoBulkAll r + 1 := by simp [Rows.uptoBulk]
/-- Sums, place by place. -/
def sumTo (f : Nat → Nat) : Nat → Nat
  | 0 => 0
  | n + 1 => sumTo f n + f n
theorem bulk_append (l r : List (DataW H)) : Rows.uptoBulkAll (l ++ r) = Rows.uptoBulkAll l + Rows.uptoBulkAll r := by
  induction l with
  | nil => simp [Rows.uptoBulkAll]
  | cons x l ih => simp only [List.cons_append, Rows.uptoBulkAll, ih]; omega
theorem bulk_range (D : Nat → DataW H) (n : Nat) : Rows.uptoBulkAll ((List.range n).map D) = sumTo (fun i => Rows.uptoBulk (D i)) n := by
  induction n with
  | zero => rfl
  | succ n ih => rw [List.range_succ, List.map_append, bulk_append, ih]; simp [Rows.uptoBulkAll, sumTo]
theorem sumTo_le {f g : Nat → Nat} : ∀ n, (∀ i, i < n → f i ≤ g i) → sumTo f n ≤ sumTo g n
  | 0, _ => Nat.le_refl _
  | n + 1, h => Nat.add_le_add (sumTo_le n (fun i hi => h i (by omega))) (h n (by omega))
theorem sumTo_mono {f : Nat → Nat} {m n : Nat} (h : m ≤ n) : sumTo f m ≤ sumTo f n := by
  induction n with
  | zero => rw [show m = 0 by omega]; exact Nat.le_refl _
  | succ n ih =>
    by_cases e : m = n + 1
    · subst e; exact Nat.le_refl _
    · exact Nat.le_trans (ih (by omega)) (Nat.le_add_right _ _)
theorem sumTo_at {f : Nat → Nat} {i n : Nat} (h : i < n) : f i ≤ sumTo f n := Nat.le_trans (Nat.le_add_left _ _) (sumTo_mono (f := f) (show i + 1 ≤ n by omega))
theorem bulk_bound {l : List (DataW H)} (hk : Rows.uptoSmall H l = true) : Rows.uptoBulkAll l ≤ 1048576 := of_decide_eq_true hk

/-! ### A slice of bytes -/
theorem u8_lit {z : Int} (h : (Lit.int .u8 z).wf = true) : 0 ≤ z ∧ z ≤ 255 := by simpa [Lit.wf, IntKind.min, IntKind.max, IntKind.signed, IntKind.bits] using h
theorem open_bytes {W : World} {n : Nat} {t e : TypeId} {cs : List Value} {x : DataW H × List MemPlace} (ht : P.underlying t = some (.slice e)) (he : P.underlying e = some (.int .u8)) (hc : P.cellsOf e = 1)
    (h : DataW.trod enc P W 0 (fun _ => true) true n t cs = some x) : ∃ B bs, cs = [B] ∧ Rd W 1 B bs.length (bv bs) ∧ bs.length + 1 ≤ Rows.uptoBulk x.1 := by
  rcases open_ints ht he hc h with ⟨rfl, rfl⟩ | ⟨a, len, cap, zs, rfl, _, hl, hm, hz, rfl, hcell, hwf⟩
  · exact ⟨_, [], rfl, Rd.nil _ _, by simp [Rows.uptoBulk]⟩
  · simp only [if_true] at hz
    have hbl : ((zs.take len).map fun z => UInt8.ofNat z.toNat).length = len := by rw [List.length_map, List.length_take]; omega
    refine ⟨_, (zs.take len).map fun z => UInt8.ofNat z.toNat, rfl, ?_, ?_⟩
    · rw [hbl]
      refine ⟨by rw [bv_length, hbl]; omega, some a, cap, rfl, hl, hm, (fun h => by cases h), fun ad had j u hu => ?_⟩
      cases had
      rw [bv_get, List.getElem?_map] at hu
      cases hj : (zs.take len)[j]? with
      | none => rw [hj] at hu; simp at hu
      | some z =>
        rw [hj] at hu
        have hz' : zs[j]? = some z := by
          rw [List.getElem?_take] at hj
          split at hj
          · exact hj
          · cases hj
        have hlt : j < zs.length := (List.getElem?_eq_some_iff.1 hz').1
        have hw := u8_lit (hwf z (List.mem_of_getElem? hz'))
        have hg := hcell j hlt
        rw [List.getD_eq_getElem?_getD, hz', Option.getD_some] at hg
        rw [hg]
        simp only [Option.map_some, Option.some.injEq] at hu
        rw [← hu, UInt8.toNat_ofNat', Nat.mod_eq_of_lt (by omega)]
        congr 2
        omega
    · rw [bulk_slice]
      have := bulk_len (lits (H := H) .u8 (zs.take len))
      rw [hbl]
      have hll : (lits (H := H) .u8 (zs.take len)).length = len := by simp [lits]; omega
      omega
/-- The same, with the reading's length. -/
theorem open_bytes_len {W : World} {n : Nat} {t e : TypeId} {cs : List Value} {x : DataW H × List MemPlace} (ht : P.underlying t = some (.slice e)) (he : P.underlying e = some (.int .u8)) (hc : P.cellsOf e = 1)
    (h : DataW.trod enc P W 0 (fun _ => true) true n t cs = some x) : ∃ B bs, cs = [B] ∧ Rd W 1 B bs.length (bv bs) ∧ bs.length + 1 ≤ Rows.uptoBulk x.1 ∧ (bs = [] ∨ ∃ elems spare, x.1 = .slice elems spare ∧ elems.length = bs.length) := by
  obtain ⟨B, bs, h1, h2, h3⟩ := open_bytes ht he hc h
  refine ⟨B, bs, h1, h2, h3, ?_⟩
  rcases open_ints ht he hc h with ⟨hB, _⟩ | ⟨a, len, cap, zs, hB, _, _, _, hz, hx, _, _⟩
  · left
    obtain ⟨A, c, hv, _⟩ := h2.2
    rw [h1, hv] at hB
    simp only [List.cons.injEq, Value.slice.injEq, and_true] at hB
    exact List.eq_nil_of_length_eq_zero hB.2.1
  · right
    simp only [if_true] at hz
    refine ⟨_, _, by rw [hx], ?_⟩
    obtain ⟨A, c, hv, _⟩ := h2.2
    rw [h1, hv] at hB
    simp only [List.cons.injEq, Value.slice.injEq, and_true] at hB
    simp [lits]
    omega
end
end Go.Proofs.Ytnchjfhmalbjoaa
/- Slices of records that came in, opened. -/
namespace Go.Proofs.Ytnchjfhmalbjoaa
open Go.RowKit Go.WideShapes Go.ChangeShapes
section
variable {H : Type} {enc : TypeId × Value → H}
theorem Try.cellsRec : Try.prog.cellsOf 25 = 2 := by kernel_rfl
theorem open_rec {W : World} {n : Nat} {cs : List Value} {x : DataW H × List MemPlace} (h : DataW.trod enc Try.prog W 0 (fun _ => true) true n 25 cs = some x) :
    ∃ (r : Rec) (B : Value), cs = [.int .u8 (r.1.toNat : Int), B] ∧ Rd W 1 B r.2.length (bv r.2) ∧ r.2.length + 3 ≤ Rows.uptoBulk x.1 := by
  obtain ⟨xs, k, rfl, rfl, hl, hxl, hf⟩ := DataW.trod_struct Try.underlying25 h
  rw [Try.cellsRec] at hl
  obtain ⟨x0, x1, rfl⟩ : ∃ x0 x1, xs = [x0, x1] := by
    match xs, hxl with
    | [x0, x1], _ => exact ⟨x0, x1, rfl⟩
  have f0 : DataW.trod enc Try.prog W 0 (fun _ => true) true k 5 ((cs.drop 0).take (Try.prog.cellsOf 5)) = some x0 := hf 0 _ rfl
  have f1 : DataW.trod enc Try.prog W 0 (fun _ => true) true k 23 ((cs.drop 1).take (Try.prog.cellsOf 23)) = some x1 := hf 1 _ rfl
  rw [Try.cellsU8] at f0
  rw [Try.cellsBytes] at f1
  clear hf hxl
  obtain ⟨kd, e0, _, w0⟩ := DataW.trod_int Try.underlying5 f0
  obtain ⟨B, bs, e1, r1, b1⟩ := open_bytes Try.underlying23 Try.underlying5 Try.cellsU8 f1
  have w0 := u8_lit w0
  have g0 := at_of_cut (i := 0) e0
  have g1 := at_of_cut e1
  refine ⟨(UInt8.ofNat kd.toNat, bs), B, ?_, r1, ?_⟩
  · match cs, hl with
    | [a, b], _ =>
      simp at g0 g1
      subst g0 g1
      simp only [UInt8.toNat_ofNat', Nat.mod_eq_of_lt (show kd.toNat < 2 ^ 8 by omega)]
      congr 2
      omega
  · have := bulk_pos x0.1
    simp only [List.map_cons, List.map_nil, Rows.uptoBulk, Rows.uptoBulkAll]
    show bs.length + 3 ≤ _
    omega
/-- How much a list of records is, in a bulk of b. -/
structure RecsLe (rs : List Rec) (b : Nat) : Prop where
  n : rs.length ≤ b
  each : ∀ r, r ∈ rs → r.2.length ≤ b
  all : (frames rs).length ≤ 3 * b
theorem RecsLe.le {rs : List Rec} {b c : Nat} (h : RecsLe rs b) (hc : b ≤ c) : RecsLe rs c := ⟨by have := h.n; omega, fun r hr => by have := h.each r hr; omega, by have := h.all; omega⟩
theorem open_recs {W : World} {n : Nat} {v : Value} {x : DataW H × List MemPlace} (h : DataW.trod enc Try.prog W 0 (fun _ => true) true n 22 [v] = some x) :
    ∃ rs, RecsIn W v rs ∧ RecsLe rs (Rows.uptoBulk x.1) := by
  rcases Deep.open_slice Try.underlying22 h with ⟨hv, rfl⟩ | ⟨a, len, cap, m, k, D, Pl, hv, _, hl, hm, hmm, rfl, hel⟩
  · cases hv
    exact ⟨[], ⟨⟨none, 0, rfl, Nat.le_refl _, by simp, fun _ => rfl, fun _ h => by cases h⟩⟩, ⟨by simp, by simp, by simp [frames]⟩⟩
  · cases hv
    simp only [if_true] at hmm
    obtain ⟨G, hG⟩ := Deep.choose_lt (α := Option (Rec × Value)) (n := len) (p := fun i o => ∃ r B, o = some (r, B) ∧ RecAt W a i r B ∧ r.2.length + 3 ≤ Rows.uptoBulk (D i)) (fun i hi => by
      obtain ⟨cs, h1, h2⟩ := hel i (by omega)
      rw [Try.cellsRec] at h1
      obtain ⟨r, B, rfl, hr, hb⟩ := open_rec h2
      obtain ⟨_, hlen, hcell⟩ := World.cells?_some h1
      exact ⟨_, r, B, rfl, ⟨fun j u hu => by rw [hcell j (by have := (List.getElem?_eq_some_iff.1 hu).1; simpa using this)]; exact hu, hr⟩, hb⟩)
    have hps : ∀ i, i < len → ∃ r B, ((List.range len).map fun i => match G i with | some (r, _) => r | none => (0, []))[i]? = some r ∧ RecAt W a i r B ∧ r.2.length + 3 ≤ Rows.uptoBulk (D i) := fun i hi => by
      obtain ⟨r, B, hg, h1, h2⟩ := hG i hi
      refine ⟨r, B, ?_, h1, h2⟩
      rw [List.getElem?_map, List.getElem?_range hi]
      simp [hg]
    have hlen : ((List.range len).map fun i => match G i with | some (r, _) => r | none => (0, [])).length = len := by simp
    generalize ((List.range len).map fun i => match G i with | some (r, _) => r | none => ((0, []) : Rec)) = rs at hps hlen
    subst hlen
    rw [bulk_slice, bulk_range]
    have hfr : ∀ i, i ≤ rs.length → (frames (rs.take i)).length ≤ 3 * sumTo (fun i => Rows.uptoBulk (D i)) i := by
      intro i
      induction i with
      | zero => intro _; simp [frames]
      | succ i ih =>
        intro hi
        obtain ⟨r, B, hg, h1, h2⟩ := hps i (by omega)
        rw [frames_take_succ hg, List.length_append, frame_length]
        have := ih (by omega)
        show _ ≤ 3 * (sumTo (fun i => Rows.uptoBulk (D i)) i + Rows.uptoBulk (D i))
        omega
    have hall := hfr rs.length (Nat.le_refl _)
    rw [List.take_length] at hall
    have hmono := sumTo_mono (f := fun i => Rows.uptoBulk (D i)) (show rs.length ≤ m by omega)
    have hcount : rs.length ≤ sumTo (fun i => Rows.uptoBulk (D i)) rs.length := by
      have h1 : ∀ k, k ≤ sumTo (fun i => Rows.uptoBulk (D i)) k := by
        intro k
        induction k with
        | zero => exact Nat.zero_le _
        | succ k ih => have := bulk_pos (D k); show k + 1 ≤ sumTo (fun i => Rows.uptoBulk (D i)) k + Rows.uptoBulk (D k); omega
      exact h1 _
    refine ⟨rs, ⟨⟨some a, cap, rfl, hl, hm, (fun h => by cases h), fun ad had i r hr => ?_⟩⟩, ⟨by omega, fun r hr => ?_, by omega⟩⟩
    · cases had
      obtain ⟨r', B, hg, h1, h2⟩ := hps i (List.getElem?_eq_some_iff.1 hr).1
      rw [hr] at hg
      cases hg
      exact ⟨B, h1⟩
    · obtain ⟨i, hi, rfl⟩ := List.getElem_of_mem hr
      obtain ⟨r', B, hg, h1, h2⟩ := hps i hi
      rw [List.getElem?_eq_getElem hi] at hg
      cases hg
      have := sumTo_at (f := fun i => Rows.uptoBulk (D i)) hi
      omega
end
theorem outOf_le (rs : List Rec) : (outOf rs).length ≤ (frames rs).length := by
  unfold outOf; split
  · exact Nat.le_refl _
  · simp
theorem puts_upto (w : World) (rs : List Rec) (v : Value) (hv : RecsIn w v rs) (hb : RecsLe rs 1048576) (n : Int) (hn : -9223372036854775808 ≤ n ∧ n ≤ 9223372036854775807) :
    Calls Try.prog 3 #[v, .int .i64 n] w fun e w' => e = .returned (.bool true) ∧ Kp [] w w' := by
  have h1 := hb.n
  have h2 := hb.all
  have h3 := outOf_le rs
  exact puts_true rs v n hn w hv (by omega) (fun r hr => by have := hb.each r hr; omega) (by omega) (by omega)
end Go.Proofs.Ytnchjfhmalbjoaa
/- The row's last step, where the arguments read as they did (out of 'Below' alone). -/
namespace Go.Proofs.Ytnchjfhmalbjoaa
open Go.RowKit Go.WideShapes Go.ChangeShapes

section
variable {H : Type} {enc : TypeId × Value → H} {P : Program}
theorem trodAll_stays (hl : laidOutB P = true) {W W' : World} {sp' : Nat → Bool} : ∀ {ts : List TypeId} {vs : List Value} {ds : List (DataW H)} {ps : List MemPlace}, ts.all (fun t => P.readableRec t && decide (t < P.types.size)) = true →
    DataW.TrodAll enc P W 0 (fun _ => true) true ts vs ds ps → (∀ p ∈ ps, W.sameAt W' p) → (∀ p ∈ ps, sp' p.block = true) → DataW.TrodAll enc P W' 0 sp' true ts vs ds ps
  | [], [], [], _, _, h, _, _ => h
  | t :: ts, v :: vs, d :: ds, _, hr, ⟨p, q, h1, h2, e⟩, hm, hs => by
    simp only [List.all_cons, Bool.and_eq_true, decide_eq_true_eq] at hr
    exact ⟨p, q, WideElems.Trod_stays hl hr.1.1 hr.1.2 h1 (fun x hx => hm x (by rw [e]; exact List.mem_append_left _ hx)) (fun x hx => hs x (by rw [e]; exact List.mem_append_left _ hx)),
      trodAll_stays hl hr.2 h2 (fun x hx => hm x (by rw [e]; exact List.mem_append_right _ hx)) (fun x hx => hs x (by rw [e]; exact List.mem_append_right _ hx)), e⟩

theorem post_kept {f : Func} {s : ChangeSpec} {apart fresh handsOn again : Bool} {W W' : World} {args : Array Value} {v : Value} {ds gs : List (DataW H)} {before : List MemPlace}
    (hl : laidOutB P = true) (hr : f.params.toList.all (fun t => P.readableRec t && decide (t < P.types.size)) = true) (hsv : s.vars = [])
    (hW : DataW.Whole enc P f.params.toList s.vars apart W args.toList ds gs before)
    (hres : ∀ (b : Nat) (sp : Nat → Bool) (hd : Bool), DataW.TrodAll enc P W' b sp hd f.resultTypes.toList (v.resultList f.resultTypes.size) (s.fn H (ds ++ gs)).results [])
    (hfa : (s.fn H (ds ++ gs)).args = ds) (hfv : (s.fn H (ds ++ gs)).vars = []) (hb : Below W.heap.size W W')
    (hok : ∀ (j : Nat) (t : TypeId) (r : Value), f.resultTypes[j]? = some t → (v.resultList f.resultTypes.size)[j]? = some r → Value.okWide P W' .any 0 t r) :
    s.post enc P f apart fresh handsOn again W args v W' := by
  have hlt : ∀ p ∈ before, p.block < W.heap.size := fun p hp => hW.lt p hp
  have hW2 := hW
  obtain ⟨p, q, hA, hV, rfl, hz, hn⟩ := hW2
  rw [hsv] at hV
  obtain ⟨rfl, rfl⟩ := trodVars_none hV
  refine post_below (pa := p) (pv := []) hW hres (fun sp hs => ?_) (fun sp hs => ?_) rfl hb hok
  · rw [hfa]
    exact trodAll_stays hl hr hA (fun x hx => hb.same (hlt x (List.mem_append_left _ hx))) (fun x hx => hs x (List.mem_append_left _ hx))
  · rw [hsv, hfv]; exact rfl
end
theorem laid_out : laidOutB Try.prog = true := by kernel_rfl
end Go.Proofs.Ytnchjfhmalbjoaa
