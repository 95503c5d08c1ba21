/- Several texts in one: EntK, Open, TxOpen, EntOpen, Post, PostKept. -/
import Derived.ProofKit
import Derived.OpenShut
import Derived.Deep.Slices
import Derived.JoinedCond
import Derived.Carry
import Derived.Lib.SmallJoins
import Derived.Test.YtdmdnphbheomoaaRows
import Derived.Test.YtdmdnphbheomoaaP3
/- EntryPuts: the walk. -/
namespace Go.Proofs.Ytdmdnphbheomoaa
open Go.RowKit
/-- What lent has told: the row's block, its capacity, the texts, the mark. -/
abbrev LentG := Nat × Nat × List Value × Value
abbrev lentL (x : LentG) (L : List (List UInt8)) : List Res :=
  rowR 25 1 (.slice (some ⟨x.1, 0, none⟩) (L.length + 1) x.2.1) (L.length + 1) (x.2.2.1 ++ [x.2.2.2]) :: rdR x.2.2.2 4 (bv mk4) :: markR L x.2.2.1
theorem outB_len (f : Int) (L : List (List UInt8)) : (outB f L).length ≤ 4196362 := by
  by_cases h : chk f L = 0
  · rw [outB_ok h, formB_length]
    have := chk_take_le h L.length
    rw [List.take_length] at this
    omega
  · rw [outB_no h]; simp
theorem outO_len (n : Int) (e : List UInt8) : (outO n e).length ≤ 4106 := by
  by_cases h : may n e = 0
  · rw [outO_ok h, formO_length]
    have := (may_zero h).2.2
    omega
  · rw [outO_no h]; simp
set_option maxRecDepth 100000 in
set_option maxHeartbeats 4000000 in
theorem puts15_true (f : Int) (hf : -9223372036854775808 ≤ f ∧ f ≤ 9223372036854775807) (v : Value) (L : List (List UInt8)) (n : Int) (hn : -9223372036854775808 ≤ n ∧ n ≤ 9223372036854775807) (x : Value) (e : List UInt8) (w : World) (hv : Txs w v L) (hx : Rd w 1 x e.length (bv e))
    (hL : L.length ≤ 1073741824) (hb : ∀ e ∈ L, e.length ≤ 140737488355200) (he : e.length ≤ 140737488355200) :
    Calls Try.prog 3 #[.agg #[.int .i64 f, v], .int .i64 n, x] w fun r w' => r = .returned (.bool true) ∧ Kp [] w w' := by
  obtain ⟨A, c, rfl, hA, -⟩ := hv.open_
  obtain ⟨Ax, cx, rfl, -⟩ := rd_get2 hx
  have B0 := Lib.hid (Blk.new w 24 #[.int .i64 f, .slice A L.length c])
  have K0 := Lib.hid ((Kp.refl [] w).alloc (.cells #[.int .i64 f, .slice A L.length c] 24))
  have Hv := Lib.hid (hv.kp0 K0.out)
  have Hx := Lib.hid (rd_old hx K0.out)
  have HA := Lib.hid hA
  have Hb := Lib.hid hb
  clear hA hv hx hb
  obtain ⟨d0, d1, d2, d3, d4⟩ := Blk.c2 B0.out
  obtain ⟨W0, hW0⟩ : ∃ W0, w.alloc (.cells #[.int .i64 f, .slice A L.length c] 24) = W0 := ⟨_, rfl⟩
  obtain ⟨g0, hg0⟩ : ∃ g0, w.heap.size = g0 := ⟨_, rfl⟩
  rw [hW0, hg0] at B0
  rw [hW0] at K0 Hv Hx
  have HW0 := Lib.hid hW0
  have Hg0 := Lib.hid hg0
  clear hW0 hg0
  by_cases hlen : 1100 < L.length
  · have hlen' : (1100 : Int) < L.length := by omega
    go_enter Try.func3, Try.ntmps3
    go_wp2_with fail
    rw [HW0.out]
    refine (known15_true _).mono ?_
    rintro e w1 ⟨rfl, k1⟩
    go_wp2
    go_ret
    exact ⟨rfl, K0.out.trans k1 (by simp)⟩
  · have hlen' : ¬ (1100 : Int) < L.length := by omega
    go_enter Try.func3, Try.ntmps3
    go_wp2
    rw [HW0.out, Hg0.out]
    clear HW0 Hg0 d0 d1 d2 d3 d4
    -- SEP puts15
    refine wp_region_sep (Γ := LentG) 0 [0, 1, 2, 3, 4, 5, 7]
      (fun i vs gs => match i with | 0 => vs 0 = .pointer (some ⟨g0, 0, none⟩) | 1 => vs 1 = .int .i64 f | 2 => vs 2 = .pointer (some ⟨g0, 1, none⟩) | 3 => vs 3 = .slice A L.length c | 4 => vs 4 = .slice (some ⟨(gs 4).1, 0, none⟩) L.length (gs 4).2.1 ∧ (gs 4).2.2.1.length = L.length | 5 => vs 5 = Value.agg #[.int .i64 f, vs 4] | 6 => vs 6 = .pointer (some ⟨(gs 6).1, 0, none⟩) | _ => True)
      (fun i vs gs => match i with | 4 => lentL (gs 4) L | 6 => [blkR (gs 6).1 24 #[.int .i64 0, .slice none 0 0]] | 7 => [blkR (gs 6).1 24 #[.int .i64 f, vs 4]] | _ => [])
      (fun i => match i with | 7 => [6] | _ => []) (fun i => match i with  | _ => []) (Held.start W0) (by kernel_rfl) (by kernel_rfl) (by kernel_rfl) (by kernel_rfl) (fun i => match i with | 0 => [0] | 1 => [1] | 2 => [2] | 3 => [3] | 4 => [4] | 5 => [4, 5] | 6 => [6] | 7 => [4, 6] | _ => []) (by kernel_rfl) ?_ (by kernel_rfl) ?_ ?_ ?_
    · intro s vs vs' gs gs' h
      iterate 8 (rcases s with _ | s; · (first | exact ⟨rfl, id⟩ | (simp only [List.mem_cons, List.not_mem_nil, or_false, forall_eq_or_imp, forall_eq] at h; simp [h])))
      exact ⟨rfl, id⟩
    · exact List.Perm.refl _
    · refine ⟨?_, ?_, ?_, ?_, ?_, ?_, ?_, ?_, trivial⟩
      · intro vs gs A' W LF hA S hR hd hu K hK
        replace hK := hK default
        have e3 : A'.tmps[3]?.getD undef = .pointer (some ⟨g0, 0, none⟩) := slot_is hA (by kernel_rfl) (Nat.le_of_ble_eq_true (by kernel_rfl)) (by kernel_rfl)
        go_step
        exact hK _ _ S rfl
      · intro vs gs A' W LF hA S hR hd hu K hK
        replace hK := hK default
        have f0 : vs 0 = .pointer (some ⟨g0, 0, none⟩) := hd 0 (by kernel_rfl)
        have e26 : A'.tmps[26]?.getD undef = vs 0 := slot_is hA (by kernel_rfl) (Nat.le_of_ble_eq_true (by kernel_rfl)) (by kernel_rfl)
        rw [f0] at e26
        have q := (Blk.c2 (B0.out.kp S.k (by simp))).1
        go_step
        exact hK _ _ S rfl
      · intro vs gs A' W LF hA S hR hd hu K hK
        replace hK := hK default
        have e3 : A'.tmps[3]?.getD undef = .pointer (some ⟨g0, 0, none⟩) := slot_is hA (by kernel_rfl) (Nat.le_of_ble_eq_true (by kernel_rfl)) (by kernel_rfl)
        go_step
        exact hK _ _ S rfl
      · intro vs gs A' W LF hA S hR hd hu K hK
        replace hK := hK default
        have f2 : vs 2 = .pointer (some ⟨g0, 1, none⟩) := hd 2 (by kernel_rfl)
        have e28 : A'.tmps[28]?.getD undef = vs 2 := slot_is hA (by kernel_rfl) (Nat.le_of_ble_eq_true (by kernel_rfl)) (by kernel_rfl)
        rw [f2] at e28
        have q := (Blk.c2 (B0.out.kp S.k (by simp))).2.1
        go_step
        exact hK _ _ S rfl
      · intro vs gs A' W LF hA S hR hd hu K hK
        have f3 : vs 3 = .slice A L.length c := hd 3 (by kernel_rfl)
        have e29 : A'.tmps[29]?.getD undef = vs 3 := slot_is hA (by kernel_rfl) (Nat.le_of_ble_eq_true (by kernel_rfl)) (by kernel_rfl)
        rw [f3] at e29
        go_step
        refine (lent15_any _ L _ (Hv.out.kp0 S.k) (by omega) Hb.out).mono ?_
        rintro e w' ⟨g, c', Bs, M, rfl, hB, T⟩
        exact hK (g, c', Bs, M) _ _ ((S.join T).perm List.perm_append_comm) ⟨rfl, hB⟩
      · intro vs gs A' W LF hA S hR hd hu K hK
        replace hK := hK default
        have f1 : vs 1 = .int .i64 f := hd 1 (by kernel_rfl)
        have e27 : A'.tmps[27]?.getD undef = vs 1 := slot_is hA (by kernel_rfl) (Nat.le_of_ble_eq_true (by kernel_rfl)) (by kernel_rfl)
        rw [f1] at e27
        have f4 : vs 4 = .slice (some ⟨(gs 4).1, 0, none⟩) L.length (gs 4).2.1 ∧ (gs 4).2.2.1.length = L.length := hd 4 (by kernel_rfl)
        have e30 : A'.tmps[30]?.getD undef = vs 4 := slot_is hA (by kernel_rfl) (Nat.le_of_ble_eq_true (by kernel_rfl)) (by kernel_rfl)
        rw [f4.1] at e30
        go_step
        refine hK _ _ S ?_
        show _ = Value.agg #[.int .i64 f, vs 4]
        rw [f4.1]
        rfl
      · intro vs gs A' W LF hA S hR hd hu K hK
        go_step
        exact hK (W.heap.size, 0, [], undef) _ _ (S.newBlk _ _) rfl
      · intro vs gs A' W LF hA S hR hd hu K hK
        replace hK := hK default
        have f6 : vs 6 = .pointer (some ⟨(gs 6).1, 0, none⟩) := hd 6 (by kernel_rfl)
        have e7 : A'.tmps[7]?.getD undef = vs 6 := slot_is hA (by kernel_rfl) (Nat.le_of_ble_eq_true (by kernel_rfl)) (by kernel_rfl)
        rw [f6] at e7
        have f5 : vs 5 = Value.agg #[.int .i64 f, vs 4] := hd 5 (by kernel_rfl)
        have e31 : A'.tmps[31]?.getD undef = vs 5 := slot_is hA (by kernel_rfl) (Nat.le_of_ble_eq_true (by kernel_rfl)) (by kernel_rfl)
        rw [f5] at e31
        have S1 : Held W0 W (blkR (gs 6).1 24 #[.int .i64 0, .slice none 0 0] :: LF) := S
        obtain ⟨q0, q1, q2, q3, q4⟩ := Blk.c2 (S1.at_ (l1 := []))
        obtain ⟨hq, -⟩ : vs 4 = .slice (some ⟨(gs 4).1, 0, none⟩) L.length (gs 4).2.1 ∧ (gs 4).2.2.1.length = L.length := hd 4 (by kernel_rfl)
        rw [hq] at e31
        go_step
        refine hK undef _ ?_ trivial
        show Held W0 _ (blkR (gs 6).1 24 #[.int .i64 f, vs 4] :: LF)
        rw [hq]
        exact (S1.set (l1 := []) 0 (.int .i64 f)).set (l1 := []) 1 (.slice (some ⟨(gs 4).1, 0, none⟩) L.length (gs 4).2.1)
    · intro vs gs W S hp
      have S : Held W0 W (lentL (gs 4) L ++ (blkR (gs 6).1 24 #[.int .i64 f, vs 4] :: [])) := by simpa only [List.flatMap_cons, List.flatMap_nil, List.append_nil, List.nil_append, List.cons_append, List.append_assoc] using S
      have p0 := hp 0 (Nat.le_of_ble_eq_true rfl)
      have p1 := hp 1 (Nat.le_of_ble_eq_true rfl)
      have p2 := hp 2 (Nat.le_of_ble_eq_true rfl)
      have p3 := hp 3 (Nat.le_of_ble_eq_true rfl)
      obtain ⟨p4, hB⟩ := hp 4 (Nat.le_of_ble_eq_true rfl)
      have p5 := hp 5 (Nat.le_of_ble_eq_true rfl)
      have p6 := hp 6 (Nat.le_of_ble_eq_true rfl)
      simp only at p0 p1 p2 p3 p4 p5 p6 hB
      rw [p4] at p5 S
      clear hp
      generalize gs 4 = ge at *
      generalize (gs 6).1 = g7 at *
      obtain ⟨g, cm, Bs, M⟩ := ge
      simp only [lentL] at *
      have HS2 := Lib.hid S
      have HB := Lib.hid hB
      clear S hB
      simp only [putAll, p0, p1, p2, p3, p4, p5, p6, Act.put, List.setIfInBounds_toArray, List.set_cons_succ, List.set_cons_zero]
      clear p0 p1 p2 p3 p4 p5 p6
      have HR1 := Lib.hid (txs1 25 (g := W.heap.size) rfl (rd_old Hx.out HS2.out.k))
      go_wp2_with fail
      refine (lent15_any _ [e] _ HR1.out (by simp) (by simpa using he)).mono ?_
      rintro r w1 ⟨g', cm', Bs', M', rfl, hB', T1⟩
      have HB' := Lib.hid hB'
      have S3 := Lib.hid ((HS2.out.alloc (.cells #[.slice Ax e.length cx] 25)).join T1)
      clear T1 hB' HR1 HS2
      have LM : Hid (∀ V LL, Held W0 V LL → (∀ r, r ∈ lentL (g, cm, Bs, M) L → r ∈ LL) → Lent V g cm Bs M L) := Lib.hid (fun V LL S h => Lent.of HB.out S (h _ (by simp)) (h _ (by simp)) (fun r hr => h r (by simp [hr])))
      have LO : Hid (∀ V LL, Held W0 V LL → (∀ r, r ∈ lentL (g', cm', Bs', M') [e] → r ∈ LL) → Lent V g' cm' Bs' M' [e]) := Lib.hid (fun V LL S h => Lent.of HB'.out S (h _ (by simp)) (h _ (by simp)) (fun r hr => h r (by simp [hr])))
      have S4 := Lib.hid (show Held W0 w1 (blkR g7 24 #[.int .i64 f, .slice (some ⟨g, 0, none⟩) L.length cm] :: (lentL (g, cm, Bs, M) L ++ lentL (g', cm', Bs', M') [e])) from
        S3.out.perm ((List.perm_append_comm (l₁ := lentL (g, cm, Bs, M) L) (l₂ := [blkR g7 24 #[.int .i64 f, .slice (some ⟨g, 0, none⟩) L.length cm]])).append_right _))
      clear S3
      obtain ⟨d0, d1, d2, d3, d4⟩ := Blk.c2 (S4.out.at_ (l1 := []))
      go_wp2_with fail
      refine (put15_any f hf _ L _ (LM.out _ _ S4.out (by intro r hr; exact List.mem_cons_of_mem _ (List.mem_append_left _ hr))).txs).mono ?_
      rintro r w2 ⟨u1, rfl, o1⟩
      have S5 := Lib.hid (S4.out.rownew o1.1 o1.2.1 o1.2.2)
      obtain ⟨A1, c1, rfl⟩ := o1.form
      clear o1
      obtain ⟨d0, d1, d2, d3, d4⟩ := Blk.c2 (S5.out.at_ (l1 := [_]))
      go_wp2_with fail
      refine (put15_any f hf _ L _ (LM.out _ _ S5.out (by intro r hr; exact List.mem_cons_of_mem _ (List.mem_cons_of_mem _ (List.mem_append_left _ hr)))).txs).mono ?_
      rintro r w3 ⟨u2, rfl, o2⟩
      have S6 := Lib.hid (S5.out.rownew o2.1 o2.2.1 o2.2.2)
      obtain ⟨A2, c2, rfl⟩ := o2.form
      clear o2
      obtain ⟨d0, d1, d2, d3, d4⟩ := Blk.c2 (B0.out.kp S6.out.k (by simp))
      go_wp2_with fail
      refine (rput15_any f hf _ L _ (Hv.out.kp0 S6.out.k)).mono ?_
      rintro r w4 ⟨u3, rfl, o3⟩
      have S7 := Lib.hid (S6.out.rownew o3.1 o3.2.1 o3.2.2)
      obtain ⟨A3, c3, rfl⟩ := o3.form
      clear o3 d0 d1 d2 d3 d4
      have mO : ∀ r, r ∈ lentL (g', cm', Bs', M') [e] → ∀ R1 R2 R3 R4 : Res, r ∈ R1 :: R2 :: R3 :: R4 :: (lentL (g, cm, Bs, M) L ++ lentL (g', cm', Bs', M') [e]) := fun r hr R1 R2 R3 R4 => List.mem_cons_of_mem _ (List.mem_cons_of_mem _ (List.mem_cons_of_mem _ (List.mem_cons_of_mem _ (List.mem_append_right _ hr))))
      obtain ⟨gb, cb, hcb, hbc, hob⟩ := (LO.out _ _ S7.out (fun r hr => mO r hr _ _ _ _)).at_ (k := 0) (by simp)
      simp only [List.getElem_cons_zero] at hcb hbc hob
      have RB := Lib.hid (mark_rd (B := .slice (some ⟨gb, 0, none⟩) e.length cb) hob)
      clear hob mO
      go_wp2_with fail
      refine (one_any n _ e _ RB.out).mono ?_
      rintro r w5 ⟨u4, rfl, o4⟩
      have S8 := Lib.hid (S7.out.rownew o4.1 o4.2.1 o4.2.2)
      obtain ⟨A4, c4, rfl⟩ := o4.form
      clear o4 hcb hbc RB
      go_wp2_with fail
      refine (rone_any n _ e _ (rd_old Hx.out S8.out.k)).mono ?_
      rintro r w6 ⟨u5, rfl, o5⟩
      have S9 := Lib.hid (S8.out.rownew o5.1 o5.2.1 o5.2.2)
      obtain ⟨A5, c5, rfl⟩ := o5.form
      clear o5
      go_wp2_with fail
      have BG : Hid (Blk w6 g7 24 _) := Lib.hid (S9.out.at_ (l1 := [_, _, _, _, _]))
      have R1 := Lib.hid (fun V (kk : Kp [] w6 V) => rd_old (Rd.of_own (S9.out.at_ (l1 := [_, _, _, _]))) kk)
      have R2 := Lib.hid (fun V (kk : Kp [] w6 V) => rd_old (Rd.of_own (S9.out.at_ (l1 := [_, _]))) kk)
      have R3 := Lib.hid (fun V (kk : Kp [] w6 V) => rd_old (Rd.of_own (S9.out.at_ (l1 := [_]))) kk)
      have R4 := Lib.hid (fun V (kk : Kp [] w6 V) => rd_old (Rd.of_own (S9.out.at_ (l1 := []))) kk)
      have T0 := Lib.hid ((Kp.refl [] w6).drew)
      have TXm := Lib.hid ((LM.out _ _ S9.out (by intro r hr; exact List.mem_cons_of_mem _ (List.mem_cons_of_mem _ (List.mem_cons_of_mem _ (List.mem_cons_of_mem _ (List.mem_cons_of_mem _ (List.mem_cons_of_mem _ (List.mem_append_left _ hr)))))))).txs)
      refine wp_region_lexf [1, 3] [] (fun V : World => Kp [] w6 V) (by kernel_rfl) (by kernel_rfl) T0.out (fun σ hne fw hf hsur => ?_); have Hsur := Lib.hid hsur; clear hsur
      have q1 := fun y => (Blk.c2 (BG.out.kp (hf y) (by simp))).1
      have q2 := fun y => (Blk.c2 (BG.out.kp (hf y) (by simp))).2.1
      have q3 := fun y => (Blk.c2 ((B0.out.kp S9.out.k (by simp)).kp (hf y) (by simp))).1
      have q4 := fun y => (Blk.c2 ((B0.out.kp S9.out.k (by simp)).kp (hf y) (by simp))).2.1
      clear hf
      go_wp2_with (first
        | (refine lex_qk (.string ⟨(outB f L).toArray⟩) rfl rfl (fun V hV => exec_convT rfl rfl (strB (R1.out V hV))) ?_; intro K hK; go_simp; refine hK _ _ ?_; clear hK K)
        | (refine lex_qk (.string ⟨(outB f L).toArray⟩) rfl rfl (fun V hV => exec_convT rfl rfl (strB (R2.out V hV))) ?_; intro K hK; go_simp; refine hK _ _ ?_; clear hK K)
        | (refine lex_qk (.string ⟨(outO n e).toArray⟩) rfl rfl (fun V hV => exec_convT rfl rfl (strB (R3.out V hV))) ?_; intro K hK; go_simp; refine hK _ _ ?_; clear hK K)
        | (refine lex_qk (.string ⟨(outO n e).toArray⟩) rfl rfl (fun V hV => exec_convT rfl rfl (strB (R4.out V hV))) ?_; intro K hK; go_simp; refine hK _ _ ?_; clear hK K)
        | (refine lex_qq Hsur.out rfl rfl rfl ?_; intro K hK; go_big_quiet_op; go_big_quiet_on) | (refine lex_skipk rfl ?_; intro K hK; go_simp; refine hK _ _ ?_; clear hK K) | (refine lex_e rfl rfl ?_; intro K hK; go_step) | (refine lex_nil ?_)
        | (go_at_call 16; ((with_reducible refine (check_any f hf _ L _ (TXm.out.kp0 T0.out)).mono ?_); rintro r w7 ⟨rfl, k7⟩; have T7 := Lib.hid (T0.out.trans k7 (by simp)); clear k7))
        | (go_at_call 17; ((with_reducible refine (rcheck_any f hf _ L _ (Hv.out.kp0 (S9.out.k.trans T7.out (by simp)))).mono ?_); rintro r w8 ⟨rfl, k8⟩; have T8 := Lib.hid (T7.out.trans k8 (by simp)); clear k8))
        | ((with_reducible apply And.intro); · (intro hl; first | (exact ls_absurd hl rfl) | exact T8.out))
        | ((with_reducible apply And.intro); · (intro hl; first | (exact ls_absurd hl rfl) | exact T7.out)))
      have S10 := Lib.hid (S9.out.kp T8.out)
      have hoB := outB_len f L
      have hoO := outO_len n e
      clear R1 R2 R3 R4 BG T0 q1 q2 q3 q4 S4 S5 S6 S7 S8 S9 TXm T7 T8
      generalize outB f L = oB at *
      generalize outO n e = oO at *
      go_loopw [19] (fun j wi => ∃ q : Nat, q ≤ oB.length ∧ j = .int .i64 q ∧ Held W0 wi (rowR 5 1 (.slice A5 oO.length c5) oO.length (bv oO) :: rowR 5 1 (.slice A4 oO.length c4) oO.length (bv oO) :: rowR 5 1 (.slice A3 oB.length c3) oB.length (bv oB) :: rowR 5 1 (.slice A2 oB.length c2) oB.length (bv oB) :: rowR 5 1 (.slice A1 oB.length c1) oB.length (List.replicate q (.int .u8 99) ++ (bv oB).drop q) :: blkR g7 24 #[.int .i64 f, .slice (some ⟨g, 0, none⟩) L.length cm] :: (lentL (g, cm, Bs, M) L ++ lentL (g', cm', Bs', M') [e]))) (fun j _ => oB.length - (intOf j).toNat)
      case atStart => exact ⟨0, by omega, rfl, S10.out⟩
      case round =>
        clear S10
        obtain ⟨q, hq, rfl, S⟩ := hrel
        have HS := Lib.hid S
        clear S
        by_cases hqt : q < oB.length
        · obtain ⟨gb, cb', hv, _, _⟩ := ow_some (HS.out.at_ (l1 := [_, _, _, _])) (by omega)
          injection hv with hA1 hn1 hc1
          subst hA1
          clear hn1 hc1
          have hrow := HS.out.at_ (l1 := [_, _, _, _])
          have hc0 := hrow.cellAt q (by omega)
          rw [List.getElem?_append_right (by simp), List.length_replicate, Nat.sub_self, List.getElem?_drop, Nat.add_zero, List.getElem?_eq_getElem (by rw [bv_length]; exact hqt)] at hc0
          have hf0 := hrow.frozenAt q
          have hlw := ow_lt hrow (g := gb) rfl
          have S2 := Lib.hid (HS.out.rowset (l1 := [_, _, _, _]) ((hrow.stored (g := gb) q (.int .u8 99)).1) ((Kp.refl [gb] _).setCell (p := ⟨gb, q, none⟩) (.inl (by simp)) (.int .u8 99)))
          rw [paint_step (bv oB) (.int .u8 99) q (by rw [bv_length]; exact hqt)] at S2
          clear hrow
          go_wp2
          go_roundw
          case rel => exact ⟨q + 1, by omega, by go_num, S2.out⟩
          case measure => simp [intOf]; omega
        · obtain rfl : q = oB.length := by omega
          have S11 := Lib.hid HS.out
          clear HS
          go_wp2
          go_loopw [20] (fun j wi => ∃ q : Nat, q ≤ oO.length ∧ j = .int .i64 q ∧ Held W0 wi (rowR 5 1 (.slice A5 oO.length c5) oO.length (bv oO) :: rowR 5 1 (.slice A4 oO.length c4) oO.length (List.replicate q (.int .u8 99) ++ (bv oO).drop q) :: rowR 5 1 (.slice A3 oB.length c3) oB.length (bv oB) :: rowR 5 1 (.slice A2 oB.length c2) oB.length (bv oB) :: rowR 5 1 (.slice A1 oB.length c1) oB.length (List.replicate oB.length (.int .u8 99) ++ (bv oB).drop oB.length) :: blkR g7 24 #[.int .i64 f, .slice (some ⟨g, 0, none⟩) L.length cm] :: (lentL (g, cm, Bs, M) L ++ lentL (g', cm', Bs', M') [e]))) (fun j _ => oO.length - (intOf j).toNat)
          case atStart => exact ⟨0, by omega, rfl, S11.out⟩
          case round =>
            clear S11
            obtain ⟨q, hq, rfl, S⟩ := hrel
            have HS := Lib.hid S
            clear S
            by_cases hqt : q < oO.length
            · obtain ⟨gb, cb', hv, _, _⟩ := ow_some (HS.out.at_ (l1 := [_])) (by omega)
              injection hv with hA1 hn1 hc1
              subst hA1
              clear hn1 hc1
              have hrow := HS.out.at_ (l1 := [_])
              have hc0 := hrow.cellAt q (by omega)
              rw [List.getElem?_append_right (by simp), List.length_replicate, Nat.sub_self, List.getElem?_drop, Nat.add_zero, List.getElem?_eq_getElem (by rw [bv_length]; exact hqt)] at hc0
              have hf0 := hrow.frozenAt q
              have hlw := ow_lt hrow (g := gb) rfl
              have S2 := Lib.hid (HS.out.rowset (l1 := [_]) ((hrow.stored (g := gb) q (.int .u8 99)).1) ((Kp.refl [gb] _).setCell (p := ⟨gb, q, none⟩) (.inl (by simp)) (.int .u8 99)))
              rw [paint_step (bv oO) (.int .u8 99) q (by rw [bv_length]; exact hqt)] at S2
              clear hrow
              go_wp2
              go_roundw
              case rel => exact ⟨q + 1, by omega, by go_num, S2.out⟩
              case measure => simp [intOf]; omega
            · obtain rfl : q = oO.length := by omega
              have kv2 := strB (Rd.of_own (HS.out.at_ (l1 := [_, _, _])))
              have kv3 := strB (Rd.of_own (HS.out.at_ (l1 := [_, _])))
              obtain ⟨q1, q2, -⟩ := Blk.c2 (HS.out.at_ (l1 := [_, _, _, _, _]))
              obtain ⟨q3, q4, -⟩ := Blk.c2 (B0.out.kp HS.out.k (by simp))
              have TM := Lib.hid (LM.out _ _ HS.out (by intro r hr; exact List.mem_cons_of_mem _ (List.mem_cons_of_mem _ (List.mem_cons_of_mem _ (List.mem_cons_of_mem _ (List.mem_cons_of_mem _ (List.mem_cons_of_mem _ (List.mem_append_left _ hr))))))))
              have TO := Lib.hid (LO.out _ _ HS.out (by intro r hr; exact List.mem_cons_of_mem _ (List.mem_cons_of_mem _ (List.mem_cons_of_mem _ (List.mem_cons_of_mem _ (List.mem_cons_of_mem _ (List.mem_cons_of_mem _ (List.mem_append_right _ hr))))))))
              have hzz : (oB == oB) = true := beq_self_eq_true oB
              go_wp2_with fail
              refine (kept15_any g cm Bs M _ L _ TM.out (Hv.out.kp0 HS.out.k) (by omega) Hb.out).mono ?_
              rintro r w9 ⟨rfl, k9⟩
              have K9 := Lib.hid k9
              have HR9 := Lib.hid (txs1 25 (g := w9.heap.size) rfl (rd_old Hx.out (HS.out.k.trans k9 (by simp))))
              have TO9 := Lib.hid ((TO.out.kp k9).kp ((Kp.refl [] w9).alloc (.cells #[.slice Ax e.length cx] 25)))
              clear k9 q1 q2 q3 q4 kv2 kv3
              go_wp2_with fail
              refine (kept15_any g' cm' Bs' M' _ [e] _ TO9.out HR9.out (by simp) (by simpa using he)).mono ?_
              rintro r w10 ⟨rfl, k10⟩
              have K10 := Lib.hid k10
              clear k10
              go_wp2_with fail
              refine (known15_true _).mono ?_
              rintro r w11 ⟨rfl, k11⟩
              have K11 := Lib.hid (K0.out.trans ((HS.out.k.trans K9.out (by simp)).trans ((((Kp.refl [] w9).alloc (.cells #[.slice Ax e.length cx] 25)).trans K10.out (by simp)).trans k11 (by simp)) (by simp)) (by simp))
              clear k11
              go_wp2
              go_ret
              exact ⟨rfl, K11.out⟩
    -- END puts15
end Go.Proofs.Ytdmdnphbheomoaa
/- What comes in, opened: slices of bytes; how much there is of it. -/
namespace Go.Proofs.Ytdmdnphbheomoaa
open Go.RowKit Go.WideShapes Go.ChangeShapes

section
variable {H : Type} {enc : TypeId × Value → H} {P : Program}
/-! ### Bulk -/
theorem bulk_pos (d : DataW H) : 1 ≤ Rows.uptoBulk d := by
  cases d with
  | lit l => cases l <;> simp [Rows.uptoBulk]
  | nil => simp [Rows.uptoBulk]
  | ptr d => simp [Rows.uptoBulk]
  | slice elems spare => simp [Rows.uptoBulk]
  | agg parts => simp [Rows.uptoBulk]
  | iface t d => simp [Rows.uptoBulk]
  | map entries => simp [Rows.uptoBulk]
  | held h => simp [Rows.uptoBulk]
theorem bulk_len (l : List (DataW H)) : l.length ≤ Rows.uptoBulkAll l := by
  induction l with
  | nil => simp [Rows.uptoBulkAll]
  | cons x r ih => have := bulk_pos x; simp only [Rows.uptoBulkAll, List.length_cons]; omega
theorem bulk_slice (l r : List (DataW H)) : Rows.uptoBulk (.slice l r) = Rows.uptoBulkAll l + Rows.uptoBulkAll r + 1 := by simp [Rows.uptoBulk]
/-- Sums, place by place. -/
def sumTo (f : Nat → Nat) : Nat → Nat
  | 0 => 0
  | n + 1 => sumTo f n + f n
theorem bulk_append (l r : List (DataW H)) : Rows.uptoBulkAll (l ++ r) = Rows.uptoBulkAll l + Rows.uptoBulkAll r := by
  induction l with
  | nil => simp [Rows.uptoBulkAll]
  | cons x l ih => simp only [List.cons_append, Rows.uptoBulkAll, ih]; omega
theorem bulk_range (D : Nat → DataW H) (n : Nat) : Rows.uptoBulkAll ((List.range n).map D) = sumTo (fun i => Rows.uptoBulk (D i)) n := by
  induction n with
  | zero => rfl
  | succ n ih => rw [List.range_succ, List.map_append, bulk_append, ih]; simp [Rows.uptoBulkAll, sumTo]
theorem sumTo_le {f g : Nat → Nat} : ∀ n, (∀ i, i < n → f i ≤ g i) → sumTo f n ≤ sumTo g n
  | 0, _ => Nat.le_refl _
  | n + 1, h => Nat.add_le_add (sumTo_le n (fun i hi => h i (by omega))) (h n (by omega))
theorem sumTo_mono {f : Nat → Nat} {m n : Nat} (h : m ≤ n) : sumTo f m ≤ sumTo f n := by
  induction n with
  | zero => rw [show m = 0 by omega]; exact Nat.le_refl _
  | succ n ih =>
    by_cases e : m = n + 1
    · subst e; exact Nat.le_refl _
    · exact Nat.le_trans (ih (by omega)) (Nat.le_add_right _ _)
theorem sumTo_at {f : Nat → Nat} {i n : Nat} (h : i < n) : f i ≤ sumTo f n := Nat.le_trans (Nat.le_add_left _ _) (sumTo_mono (f := f) (show i + 1 ≤ n by omega))
theorem bulk_bound {l : List (DataW H)} (hk : Rows.uptoSmall H l = true) : Rows.uptoBulkAll l ≤ 1048576 := of_decide_eq_true hk

/-! ### A slice of bytes -/
theorem u8_lit {z : Int} (h : (Lit.int .u8 z).wf = true) : 0 ≤ z ∧ z ≤ 255 := by simpa [Lit.wf, IntKind.min, IntKind.max, IntKind.signed, IntKind.bits] using h
theorem open_bytes {W : World} {n : Nat} {t e : TypeId} {cs : List Value} {x : DataW H × List MemPlace} (ht : P.underlying t = some (.slice e)) (he : P.underlying e = some (.int .u8)) (hc : P.cellsOf e = 1)
    (h : DataW.trod enc P W 0 (fun _ => true) true n t cs = some x) : ∃ B bs, cs = [B] ∧ Rd W 1 B bs.length (bv bs) ∧ bs.length + 1 ≤ Rows.uptoBulk x.1 := by
  rcases open_ints ht he hc h with ⟨rfl, rfl⟩ | ⟨a, len, cap, zs, rfl, _, hl, hm, hz, rfl, hcell, hwf⟩
  · exact ⟨_, [], rfl, Rd.nil _ _, by simp [Rows.uptoBulk]⟩
  · simp only [if_true] at hz
    have hbl : ((zs.take len).map fun z => UInt8.ofNat z.toNat).length = len := by rw [List.length_map, List.length_take]; omega
    refine ⟨_, (zs.take len).map fun z => UInt8.ofNat z.toNat, rfl, ?_, ?_⟩
    · rw [hbl]
      refine ⟨by rw [bv_length, hbl]; omega, some a, cap, rfl, hl, hm, (fun h => by cases h), fun ad had j u hu => ?_⟩
      cases had
      rw [bv_get, List.getElem?_map] at hu
      cases hj : (zs.take len)[j]? with
      | none => rw [hj] at hu; simp at hu
      | some z =>
        rw [hj] at hu
        have hz' : zs[j]? = some z := by
          rw [List.getElem?_take] at hj
          split at hj
          · exact hj
          · cases hj
        have hlt : j < zs.length := (List.getElem?_eq_some_iff.1 hz').1
        have hw := u8_lit (hwf z (List.mem_of_getElem? hz'))
        have hg := hcell j hlt
        rw [List.getD_eq_getElem?_getD, hz', Option.getD_some] at hg
        rw [hg]
        simp only [Option.map_some, Option.some.injEq] at hu
        rw [← hu, UInt8.toNat_ofNat', Nat.mod_eq_of_lt (by omega)]
        congr 2
        omega
    · rw [bulk_slice]
      have := bulk_len (lits (H := H) .u8 (zs.take len))
      rw [hbl]
      have hll : (lits (H := H) .u8 (zs.take len)).length = len := by simp [lits]; omega
      omega
/-- The same, with the reading's length. -/
theorem open_bytes_len {W : World} {n : Nat} {t e : TypeId} {cs : List Value} {x : DataW H × List MemPlace} (ht : P.underlying t = some (.slice e)) (he : P.underlying e = some (.int .u8)) (hc : P.cellsOf e = 1)
    (h : DataW.trod enc P W 0 (fun _ => true) true n t cs = some x) : ∃ B bs, cs = [B] ∧ Rd W 1 B bs.length (bv bs) ∧ bs.length + 1 ≤ Rows.uptoBulk x.1 ∧ (bs = [] ∨ ∃ elems spare, x.1 = .slice elems spare ∧ elems.length = bs.length) := by
  obtain ⟨B, bs, h1, h2, h3⟩ := open_bytes ht he hc h
  refine ⟨B, bs, h1, h2, h3, ?_⟩
  rcases open_ints ht he hc h with ⟨hB, _⟩ | ⟨a, len, cap, zs, hB, _, _, _, hz, hx, _, _⟩
  · left
    obtain ⟨A, c, hv, _⟩ := h2.2
    rw [h1, hv] at hB
    simp only [List.cons.injEq, Value.slice.injEq, and_true] at hB
    exact List.eq_nil_of_length_eq_zero hB.2.1
  · right
    simp only [if_true] at hz
    refine ⟨_, _, by rw [hx], ?_⟩
    obtain ⟨A, c, hv, _⟩ := h2.2
    rw [h1, hv] at hB
    simp only [List.cons.injEq, Value.slice.injEq, and_true] at hB
    simp [lits]
    omega
end
end Go.Proofs.Ytdmdnphbheomoaa
/- Slices of texts that came in, opened. -/
namespace Go.Proofs.Ytdmdnphbheomoaa
open Go.RowKit Go.WideShapes Go.ChangeShapes
/-- How much a list of texts is, in a bulk of b. -/
structure TxsLe (L : List (List UInt8)) (b : Nat) : Prop where
  n : L.length ≤ b
  each : ∀ l, l ∈ L → l.length ≤ b
  all : (L.map List.length).sum + L.length ≤ b
theorem TxsLe.le {L : List (List UInt8)} {b c : Nat} (h : TxsLe L b) (hc : b ≤ c) : TxsLe L c := ⟨by have := h.n; omega, fun r hr => by have := h.each r hr; omega, by have := h.all; omega⟩
theorem sum_take_succ {L : List (List UInt8)} {i : Nat} {l : List UInt8} (h : L[i]? = some l) : ((L.take (i + 1)).map List.length).sum = ((L.take i).map List.length).sum + l.length := by
  rw [List.take_add_one, h, Option.toList_some, List.map_append, List.sum_append]
  simp
section
variable {H : Type} {enc : TypeId × Value → H}
theorem Try.cellsBytesO : Try.prog.cellsOf 25 = 1 := by kernel_rfl
theorem Try.cellsU8O : Try.prog.cellsOf 5 = 1 := by kernel_rfl
theorem open_texts {W : World} {n : Nat} {v : Value} {x : DataW H × List MemPlace} (h : DataW.trod enc Try.prog W 0 (fun _ => true) true n 22 [v] = some x) :
    ∃ L, Txs W v L ∧ TxsLe L (Rows.uptoBulk x.1) := by
  rcases Deep.open_slice Try.underlying22 h with ⟨hv, rfl⟩ | ⟨a, len, cap, m, k, D, Pl, hv, _, hl, hm, hmm, rfl, hel⟩
  · cases hv
    exact ⟨[], ⟨[], Rd.nil _ _, fun i hi => by simp at hi⟩, ⟨by simp, by simp, by simp [Rows.uptoBulk]⟩⟩
  · cases hv
    simp only [if_true] at hmm
    obtain ⟨G, hG⟩ := Deep.choose_lt (α := Option (List UInt8 × Value)) (n := len) (p := fun i o => ∃ r B, o = some (r, B) ∧ W.cell? (a.add i) = some B ∧ Rd W 1 B r.length (bv r) ∧ r.length + 1 ≤ Rows.uptoBulk (D i)) (fun i hi => by
      obtain ⟨cs, h1, h2⟩ := hel i (by omega)
      rw [Try.cellsBytesO, Nat.mul_one] at h1
      obtain ⟨B, r, rfl, hr, hb⟩ := open_bytes Try.underlying25 Try.underlying5 Try.cellsU8O h2
      obtain ⟨_, hlen, hcell⟩ := World.cells?_some h1
      have hc0 := hcell 0 (by simp)
      exact ⟨_, r, B, rfl, by simpa [Addr.add] using hc0, hr, hb⟩)
    have hps : ∀ i, i < len → ∃ r B, ((List.range len).map fun i => match G i with | some (r, _) => r | none => [])[i]? = some r ∧ ((List.range len).map fun i => match G i with | some (_, B) => B | none => undef)[i]? = some B ∧ W.cell? (a.add i) = some B ∧ Rd W 1 B r.length (bv r) ∧ r.length + 1 ≤ Rows.uptoBulk (D i) := fun i hi => by
      obtain ⟨r, B, hg, h1, h2, h3⟩ := hG i hi
      refine ⟨r, B, ?_, ?_, h1, h2, h3⟩
      · rw [List.getElem?_map, List.getElem?_range hi]
        simp [hg]
      · rw [List.getElem?_map, List.getElem?_range hi]
        simp [hg]
    have hlen : ((List.range len).map fun i => match G i with | some (r, _) => r | none => ([] : List UInt8)).length = len := by simp
    have hlenB : ((List.range len).map fun i => match G i with | some (_, B) => B | none => undef).length = len := by simp
    generalize ((List.range len).map fun i => match G i with | some (r, _) => r | none => ([] : List UInt8)) = L at hps hlen
    generalize ((List.range len).map fun i => match G i with | some (_, B) => B | none => undef) = Bs at hps hlenB
    subst hlen
    rw [bulk_slice, bulk_range]
    have hfr : ∀ i, i ≤ L.length → ((L.take i).map List.length).sum + i ≤ sumTo (fun i => Rows.uptoBulk (D i)) i := by
      intro i
      induction i with
      | zero => intro _; simp
      | succ i ih =>
        intro hi
        obtain ⟨r, B, hg, _, _, _, h2⟩ := hps i (by omega)
        rw [sum_take_succ hg]
        have := ih (by omega)
        show _ ≤ sumTo (fun i => Rows.uptoBulk (D i)) i + Rows.uptoBulk (D i)
        omega
    have hall := hfr L.length (Nat.le_refl _)
    rw [List.take_length] at hall
    have hmono := sumTo_mono (f := fun i => Rows.uptoBulk (D i)) (show L.length ≤ m by omega)
    refine ⟨L, ⟨Bs, ⟨by omega, some a, cap, rfl, hl, hm, (fun h => by cases h), fun ad had j u hu => ?_⟩, fun i hi => ?_⟩, ⟨by omega, fun r hr => ?_, by omega⟩⟩
    · cases had
      obtain ⟨r, B, _, hB, hc, _⟩ := hps j (by have := (List.getElem?_eq_some_iff.1 hu).1; omega)
      rw [hu] at hB
      cases hB
      exact hc
    · obtain ⟨r, B, hg, hB, _, hr, _⟩ := hps i hi
      rw [List.getElem?_eq_getElem hi] at hg
      cases hg
      exact ⟨B, hB, hr⟩
    · obtain ⟨i, hi, rfl⟩ := List.getElem_of_mem hr
      obtain ⟨r', B, hg, _, _, _, h2⟩ := hps i hi
      rw [List.getElem?_eq_getElem hi] at hg
      cases hg
      have := sumTo_at (f := fun i => Rows.uptoBulk (D i)) hi
      omega
end
end Go.Proofs.Ytdmdnphbheomoaa
/- Batches that came in, opened; EntryPuts within a bulk. -/
namespace Go.Proofs.Ytdmdnphbheomoaa
open Go.RowKit Go.WideShapes Go.ChangeShapes
section
variable {H : Type} {enc : TypeId × Value → H}
theorem Try.cellsBatch : Try.prog.cellsOf 24 = 2 := by kernel_rfl
set_option maxRecDepth 100000 in
theorem open_batch_arg {W : World} {b0 : Nat} {v : Value} {d : DataW H} {pl : List MemPlace}
    (hv : Value.okWide Try.prog W .any b0 24 v) (h : DataW.Trod enc Try.prog W 0 (fun _ => true) true 24 v d pl) :
    ∃ (f : Int) (u : Value) (L : List (List UInt8)), v = .agg #[.int .i64 f, u] ∧ (-9223372036854775808 ≤ f ∧ f ≤ 9223372036854775807) ∧ Txs W u L ∧ TxsLe L (Rows.uptoBulk d) := by
  obtain ⟨v0, v1, y0, y1, n, rfl, rfl, _, t0, t1⟩ := Joins.open_agg2 Try.underlying24 (by kernel_rfl) Try.cellsBatch hv h
  obtain ⟨a, e0, _, w0⟩ := DataW.trod_int Try.underlying2 t0
  obtain rfl := (List.cons.inj e0).1
  obtain ⟨L, hT, hL⟩ := open_texts t1
  refine ⟨a, v1, L, rfl, i64_lit w0, hT, hL.le ?_⟩
  simp only [Rows.uptoBulk, Rows.uptoBulkAll]
  omega
end
theorem puts15_upto (w : World) (f : Int) (hf : -9223372036854775808 ≤ f ∧ f ≤ 9223372036854775807) (v : Value) (L : List (List UInt8)) (hv : Txs w v L) (hb : TxsLe L 1048576) (n : Int) (hn : -9223372036854775808 ≤ n ∧ n ≤ 9223372036854775807) (x : Value) (e : List UInt8) (hx : Rd w 1 x e.length (bv e)) (he : e.length ≤ 1048576) :
    Calls Try.prog 3 #[.agg #[.int .i64 f, v], .int .i64 n, x] w fun r w' => r = .returned (.bool true) ∧ Kp [] w w' :=
  puts15_true f hf v L n hn x e w hv hx (by have := hb.n; omega) (fun l hl => by have := hb.each l hl; omega) (by omega)
end Go.Proofs.Ytdmdnphbheomoaa
/- The row's last step, where a walk has left 'Below' of the world it began in. -/
namespace Go.Proofs.Ytdmdnphbheomoaa
open Go.RowKit Go.WideShapes Go.ChangeShapes

theorem own_knob : ownKnob Try.prog.godebug = none := by kernel_rfl

section
variable {H : Type} {enc : TypeId × Value → H} {P : Program}
/-- 'post_of_same' for a world of which 'Below' alone is known (old cells and old marks are as they were). -/
theorem post_below {f : Func} {s : ChangeSpec} {apart fresh handsOn again : Bool} {W W' : World} {args : Array Value} {v : Value} {ds gs : List (DataW H)} {before pa pv : List MemPlace}
    (hW : DataW.Whole enc P f.params.toList s.vars apart W args.toList ds gs before)
    (hres : ∀ (b : Nat) (sp : Nat → Bool) (hd : Bool), DataW.TrodAll enc P W' b sp hd f.resultTypes.toList (v.resultList f.resultTypes.size) (s.fn H (ds ++ gs)).results [])
    (hargs : ∀ sp : Nat → Bool, (∀ p ∈ before, sp p.block = true) → DataW.TrodAll enc P W' 0 sp true f.params.toList args.toList (s.fn H (ds ++ gs)).args pa)
    (hvars : ∀ sp : Nat → Bool, (∀ p ∈ before, sp p.block = true) → DataW.TrodVars enc P W' sp s.vars (s.fn H (ds ++ gs)).vars pv)
    (hps : before = pa ++ pv) (hb : Below W.heap.size W W')
    (hok : ∀ (j : Nat) (t : TypeId) (r : Value), f.resultTypes[j]? = some t → (v.resultList f.resultTypes.size)[j]? = some r → Value.okWide P W' .any 0 t r) :
    s.post enc P f apart fresh handsOn again W args v W' := by
  have hlt : ∀ p ∈ before, p.block < W.heap.size := fun p hp => hW.lt p hp
  have hold : ∀ p ∈ before, (fun b => decide (b < W.heap.size)) p.block = true := fun p hp => by simpa using hlt p hp
  refine ⟨ds, gs, before, [], pa, pv, hW, hres _ _ _, hargs _ hold, hvars _ hold, World.keptBut_mono (fun p hp => ⟨hp, ?_⟩) (hb.frame (· ∈ before)), fun _ => ?_⟩
  · rw [hps, List.mem_append] at hp
    exact Or.inr hp
  · obtain ⟨_, _, _, _, _, hz, hn⟩ := hW
    refine ⟨hok, _, _, ([] ++ pa) ++ pv, ⟨[] ++ pa, pv, trodAll_append (hargs _ (fun _ _ => rfl)) (hres _ _ _), hvars _ (fun _ _ => rfl), rfl, ?_, ?_⟩, ?_⟩
    · intro b off hp
      have hin : MemPlace.cell b off ∈ before := by rw [hps]; simpa using hp
      rw [hb.frozen (hlt _ hin)]
      exact hz b off hin
    · intro ha
      have := hn ha
      rw [hps] at this
      simpa using this
    · intro p hp _
      rw [hps]
      simpa using hp
end
theorem Kp.below0 {w w' : World} (h : Kp [] w w') : Below w.heap.size w w' := h.below (Nat.le_refl _) (by simp)
theorem u64_wf {a : Int} (h : (Lit.int .u64 a).wf = true) : ∃ n : Nat, a = (n : Int) ∧ n < 18446744073709551616 := by
  have hx : 0 ≤ a ∧ a ≤ 18446744073709551615 := by simpa [Lit.wf, IntKind.min, IntKind.max, IntKind.signed, IntKind.bits] using h
  exact ⟨a.toNat, by omega, by omega⟩
theorem u32_wf {a : Int} (h : (Lit.int .u32 a).wf = true) : ∃ n : Nat, a = (n : Int) ∧ n < 4294967296 := by
  have hx : 0 ≤ a ∧ a ≤ 4294967295 := by simpa [Lit.wf, IntKind.min, IntKind.max, IntKind.signed, IntKind.bits] using h
  exact ⟨a.toNat, by omega, by omega⟩
end Go.Proofs.Ytdmdnphbheomoaa
/- The row's last step, where the arguments read as they did (out of 'Below' alone). -/
namespace Go.Proofs.Ytdmdnphbheomoaa
open Go.RowKit Go.WideShapes Go.ChangeShapes

section
variable {H : Type} {enc : TypeId × Value → H} {P : Program}
theorem trodAll_stays (hl : laidOutB P = true) {W W' : World} {sp' : Nat → Bool} : ∀ {ts : List TypeId} {vs : List Value} {ds : List (DataW H)} {ps : List MemPlace}, ts.all (fun t => P.readableRec t && decide (t < P.types.size)) = true →
    DataW.TrodAll enc P W 0 (fun _ => true) true ts vs ds ps → (∀ p ∈ ps, W.sameAt W' p) → (∀ p ∈ ps, sp' p.block = true) → DataW.TrodAll enc P W' 0 sp' true ts vs ds ps
  | [], [], [], _, _, h, _, _ => h
  | t :: ts, v :: vs, d :: ds, _, hr, ⟨p, q, h1, h2, e⟩, hm, hs => by
    simp only [List.all_cons, Bool.and_eq_true, decide_eq_true_eq] at hr
    exact ⟨p, q, WideElems.Trod_stays hl hr.1.1 hr.1.2 h1 (fun x hx => hm x (by rw [e]; exact List.mem_append_left _ hx)) (fun x hx => hs x (by rw [e]; exact List.mem_append_left _ hx)),
      trodAll_stays hl hr.2 h2 (fun x hx => hm x (by rw [e]; exact List.mem_append_right _ hx)) (fun x hx => hs x (by rw [e]; exact List.mem_append_right _ hx)), e⟩

theorem post_kept {f : Func} {s : ChangeSpec} {apart fresh handsOn again : Bool} {W W' : World} {args : Array Value} {v : Value} {ds gs : List (DataW H)} {before : List MemPlace}
    (hl : laidOutB P = true) (hr : f.params.toList.all (fun t => P.readableRec t && decide (t < P.types.size)) = true) (hsv : s.vars = [])
    (hW : DataW.Whole enc P f.params.toList s.vars apart W args.toList ds gs before)
    (hres : ∀ (b : Nat) (sp : Nat → Bool) (hd : Bool), DataW.TrodAll enc P W' b sp hd f.resultTypes.toList (v.resultList f.resultTypes.size) (s.fn H (ds ++ gs)).results [])
    (hfa : (s.fn H (ds ++ gs)).args = ds) (hfv : (s.fn H (ds ++ gs)).vars = []) (hb : Below W.heap.size W W')
    (hok : ∀ (j : Nat) (t : TypeId) (r : Value), f.resultTypes[j]? = some t → (v.resultList f.resultTypes.size)[j]? = some r → Value.okWide P W' .any 0 t r) :
    s.post enc P f apart fresh handsOn again W args v W' := by
  have hlt : ∀ p ∈ before, p.block < W.heap.size := fun p hp => hW.lt p hp
  have hW2 := hW
  obtain ⟨p, q, hA, hV, rfl, hz, hn⟩ := hW2
  rw [hsv] at hV
  obtain ⟨rfl, rfl⟩ := trodVars_none hV
  refine post_below (pa := p) (pv := []) hW hres (fun sp hs => ?_) (fun sp hs => ?_) rfl hb hok
  · rw [hfa]
    exact trodAll_stays hl hr hA (fun x hx => hb.same (hlt x (List.mem_append_left _ hx))) (fun x hx => hs x (List.mem_append_left _ hx))
  · rw [hsv, hfv]; exact rfl
end
theorem laid_out : laidOutB Try.prog = true := by kernel_rfl
end Go.Proofs.Ytdmdnphbheomoaa
