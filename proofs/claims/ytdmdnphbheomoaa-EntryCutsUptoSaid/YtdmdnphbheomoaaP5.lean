/- Several texts in one: EntL. -/
import Derived.Test.YtdmdnphbheomoaaP4
/- EntryReads: the walk. -/
namespace Go.Proofs.Ytdmdnphbheomoaa
open Go.RowKit
theorem txs_ok {w W : World} {v : Value} {ls : List (List UInt8)} {Bs : List Value} {L : List Res} (hl : ls.length = Bs.length) (S : Held w W L) (h0 : rowR 25 1 v ls.length Bs ∈ L) (hm : ∀ r, r ∈ textR ls Bs → r ∈ L) : Txs W v ls := by
  refine ⟨Bs, Rd.of_own (S.ok _ h0), fun i hi => ?_⟩
  have hB : Bs[i]? = some (Bs[i]'(by omega)) := List.getElem?_eq_getElem (by omega)
  exact ⟨_, hB, Rd.of_own (S.ok _ (hm _ (textR_mem ls Bs i _ _ (List.getElem?_eq_getElem hi) hB)))⟩
theorem RB_len (b : List UInt8) : (RB b).2.length ≤ 1024 ∧ ∀ l, l ∈ (RB b).2 → l.length ≤ 4096 := by
  cases h : readB b with
  | none => rw [(RB_none h).1]; simp
  | some p =>
    obtain ⟨f, L⟩ := p
    have := chk_zero (readB_form h).1
    rw [(RB_some h).1]
    exact ⟨this.2.2.2.2.1, this.2.2.2.2.2⟩
theorem TB_len (b : List UInt8) : (TB b).2.length ≤ 4096 := by
  cases h : takeO b with
  | none => rw [(TB_none h).1]; simp
  | some p =>
    obtain ⟨f, L⟩ := p
    rw [(TB_some h).1]
    exact (may_zero (takeO_form h).1).2.2
set_option maxRecDepth 100000 in
set_option maxHeartbeats 4000000 in
theorem reads15_true (x : Value) (b : List UInt8) (w : World) (hx : Rd w 1 x b.length (bv b)) (hn : b.length ≤ 140737488355200) :
    Calls Try.prog 4 #[x] w fun r w' => r = .returned (.bool true) ∧ Kp [] w w' := by
  obtain ⟨A, c, rfl, -⟩ := rd_get2 hx
  have Hx := Lib.hid hx
  clear hx
  by_cases hlen : 20000 < b.length
  · have hlen' : (20000 : Int) < b.length := by omega
    go_enter Try.func4, Try.ntmps4
    go_wp2_with fail
    refine (known15_true _).mono ?_
    rintro e w1 ⟨rfl, k1⟩
    go_wp2
    go_ret
    exact ⟨rfl, k1⟩
  · have hlen' : ¬ (20000 : Int) < b.length := by omega
    have HR1 := Lib.hid (txs1 25 (g := w.heap.size) rfl Hx.out)
    have K1 := Lib.hid ((Kp.refl [] w).alloc (.cells #[.slice A b.length c] 25))
    go_enter Try.func4, Try.ntmps4
    go_wp2_with fail
    refine (lent15_any _ [b] _ HR1.out (by simp) (by simpa using hn)).mono ?_
    rintro e w1 ⟨g, cm, Bs, M, rfl, hB, T1⟩
    have HB := Lib.hid hB
    have S1 := Lib.hid (show Held w w1 (lentL (g, cm, Bs, M) [b]) from ⟨K1.out.trans T1.k (by simp), T1.ok, fun r hr q hq => Nat.le_trans K1.out.size (T1.base r hr q hq), T1.apart⟩)
    have LO : Hid (∀ V LL, Held w V LL → (∀ r, r ∈ lentL (g, cm, Bs, M) [b] → r ∈ LL) → Lent V g cm Bs M [b]) := Lib.hid (fun V LL S h => Lent.of HB.out S (h _ (by simp)) (h _ (by simp)) (fun r hr => h r (by simp [hr])))
    obtain ⟨gb, cb, hcb, hbc, hob⟩ := (LO.out _ _ S1.out (fun r hr => hr)).at_ (k := 0) (by simp)
    simp only [List.getElem_cons_zero] at hcb hbc hob
    have RBb := Lib.hid (fun V (kk : Kp [] w1 V) => rd_old (mark_rd (B := .slice (some ⟨gb, 0, none⟩) b.length cb) hob) kk)
    have C0 := Lib.hid (fun V (kk : Kp [] w1 V) => cell_kept hcb kk)
    obtain ⟨hL1, hL2⟩ := RB_len b
    have hTl := TB_len b
    have HL2 := Lib.hid hL2
    clear T1 hB HR1 K1 hob hL2
    go_wp2_with fail
    refine (read15_any _ b _ (RBb.out _ (Kp.refl _ _)) (by omega)).mono ?_
    rintro e w2 ⟨v1, Bs1, rfl, hB1, T2⟩
    obtain ⟨f, HF⟩ : ∃ f, Hid ((RB b).1 = f) := ⟨_, Lib.hid rfl⟩
    obtain ⟨L, HL⟩ : ∃ L, Hid ((RB b).2 = L) := ⟨_, Lib.hid rfl⟩
    obtain ⟨E, HE⟩ : ∃ E, Hid (RE b = E) := ⟨_, Lib.hid rfl⟩
    rw [HF.out, HE.out]
    rw [HL.out] at hB1 T2 hL1 HL2
    have HB1 := Lib.hid hB1
    obtain ⟨A1, c1, hv1, _, _⟩ := ow_form (T2.at_ (l1 := []))
    subst hv1
    have K2 := Lib.hid (T2.k.alloc (.cells #[.int .i64 f, .slice A1 L.length c1] 24))
    have S2 := Lib.hid ((S1.out.join T2).newBlk 24 #[.int .i64 f, .slice A1 L.length c1])
    have hcb := C0.out _ K2.out
    clear T2 hB1
    go_wp2_with fail
    refine (read15_any _ b _ (RBb.out _ K2.out) (by omega)).mono ?_
    rintro e w3 ⟨v2, Bs2, rfl, hB2, T3⟩
    rw [HF.out, HE.out]
    rw [HL.out] at hB2 T3
    have HB2 := Lib.hid hB2
    obtain ⟨A2, c2, hv2, _, _⟩ := ow_form (T3.at_ (l1 := []))
    subst hv2
    have K3 := Lib.hid ((K2.out.trans T3.k (by simp)).alloc (.cells #[.int .i64 f, .slice A2 L.length c2] 24))
    have S3 := Lib.hid ((S2.out.join T3).newBlk 24 #[.int .i64 f, .slice A2 L.length c2])
    clear T3 hB2
    go_wp2_with fail
    refine (rread15_any _ b _ (rd_old Hx.out S3.out.k) (by omega)).mono ?_
    rintro e w4 ⟨v3, Bs3, rfl, hB3, T4⟩
    rw [HF.out, HE.out]
    rw [HL.out] at hB3 T4
    have HB3 := Lib.hid hB3
    obtain ⟨A3, c3, hv3, _, _⟩ := ow_form (T4.at_ (l1 := []))
    subst hv3
    have K4 := Lib.hid ((K3.out.trans T4.k (by simp)).alloc (.cells #[.int .i64 f, .slice A3 L.length c3] 24))
    have S4 := Lib.hid ((S3.out.join T4).newBlk 24 #[.int .i64 f, .slice A3 L.length c3])
    have hcb := C0.out _ K4.out
    clear T4 hB3
    go_wp2_with fail
    refine (take15_any _ b _ (RBb.out _ K4.out) (by omega)).mono ?_
    rintro e w5 ⟨u5, rfl, o5⟩
    obtain ⟨tf, HTF⟩ : ∃ tf, Hid ((TB b).1 = tf) := ⟨_, Lib.hid rfl⟩
    obtain ⟨t, HT⟩ : ∃ t, Hid ((TB b).2 = t) := ⟨_, Lib.hid rfl⟩
    obtain ⟨te, HTE⟩ : ∃ te, Hid (TE b = te) := ⟨_, Lib.hid rfl⟩
    rw [HTF.out, HTE.out]
    rw [HT.out] at o5 hTl
    have S5 := Lib.hid (S4.out.rownew o5.1 o5.2.1 o5.2.2)
    obtain ⟨A5, c5, rfl⟩ := o5.form
    clear o5
    go_wp2_with fail
    refine (rtake15_any _ b _ (rd_old Hx.out S5.out.k) (by omega)).mono ?_
    rintro e w6 ⟨u6, rfl, o6⟩
    rw [HTF.out, HTE.out]
    rw [HT.out] at o6
    have S6 := Lib.hid (S5.out.rownew o6.1 o6.2.1 o6.2.2)
    obtain ⟨A6, c6, rfl⟩ := o6.form
    clear o6
    generalize w2.heap.size = g4 at *
    generalize w3.heap.size = g6 at *
    generalize w4.heap.size = g8 at *
    obtain ⟨P, hP⟩ : ∃ P, P = [rowR 5 1 (.slice A6 t.length c6) t.length (bv t), rowR 5 1 (.slice A5 t.length c5) t.length (bv t), blkR g8 24 #[.int .i64 f, .slice A3 L.length c3], blkR g6 24 #[.int .i64 f, .slice A2 L.length c2], blkR g4 24 #[.int .i64 f, .slice A1 L.length c1]] := ⟨_, rfl⟩
    have S7 : Held w w6 ((P ++ lentL (g, cm, Bs, M) [b]) ++ ((rowR 25 1 (.slice A1 L.length c1) L.length Bs1 :: textR L Bs1) ++ ((rowR 25 1 (.slice A2 L.length c2) L.length Bs2 :: textR L Bs2) ++ (rowR 25 1 (.slice A3 L.length c3) L.length Bs3 :: textR L Bs3)))) := by
      rw [hP]
      simpa only [List.append_assoc, List.cons_append, List.nil_append] using S6.out
    have TX : Hid (∀ (V : World) (A' : Option Addr) (c' : Nat) (Bs' : List Value) (LL : List Res), L.length = Bs'.length → Held w V LL → rowR 25 1 (.slice A' L.length c') L.length Bs' ∈ LL → (∀ r, r ∈ textR L Bs' → r ∈ LL) → Txs V (.slice A' L.length c') L) := Lib.hid (fun V A' c' Bs' LL h1 h2 h3 h4 => txs_ok h1 h2 h3 h4)
    have X1 := Lib.hid (TX.out _ A1 c1 Bs1 _ HB1.out S7 (by simp) (fun r hr => by simp [hr]))
    have X3 := Lib.hid (TX.out _ A3 c3 Bs3 _ HB3.out S7 (by simp) (fun r hr => by simp [hr]))
    have kv5 := strB (Rd.of_own (S6.out.at_ (l1 := [_])))
    have kv6 := strB (Rd.of_own (S6.out.at_ (l1 := [])))
    obtain ⟨q1, q2, -⟩ := Blk.c2 (show Blk w6 g4 24 #[.int .i64 f, .slice A1 L.length c1] from S7.ok (blkR g4 24 #[.int .i64 f, .slice A1 L.length c1]) (by rw [hP]; simp))
    obtain ⟨q3, q4, -⟩ := Blk.c2 (show Blk w6 g8 24 #[.int .i64 f, .slice A3 L.length c3] from S7.ok (blkR g8 24 #[.int .i64 f, .slice A3 L.length c3]) (by rw [hP]; simp))
    have HP := Lib.hid hP
    have H7 := Lib.hid S7
    have htt : (t == t) = true := beq_self_eq_true t
    have RT5 := Lib.hid (fun V (kk : Kp [] w6 V) => rd_old (Rd.of_own (S6.out.at_ (l1 := [_]))) kk)
    have RT6 := Lib.hid (fun V (kk : Kp [] w6 V) => rd_old (Rd.of_own (S6.out.at_ (l1 := []))) kk)
    clear hP S7 S1 S2 S3 S4 S5 S6 kv5 kv6
    go_wp2_with fail
    refine (sameb_any f f _ _ L L _ X1.out X3.out).mono ?_
    rw [show (decide (f = f) && (L == L)) = true by simp]
    rintro e w7 ⟨rfl, k7⟩
    have H8 := Lib.hid (H7.out.kp k7)
    have kv5 := strB (RT5.out _ k7)
    have kv6 := strB (RT6.out _ k7)
    obtain ⟨q1, q2, -⟩ := Blk.c2 (show Blk w7 g4 24 #[.int .i64 f, .slice A1 L.length c1] from H8.out.ok (blkR g4 24 #[.int .i64 f, .slice A1 L.length c1]) (by rw [HP.out]; simp))
    clear k7 X1 X3
    go_wp2_with fail
    refine (spoilt15_any _ L Bs1 _ HB1.out (fun l hl => by have := HL2.out l hl; omega) (by omega) (H8.out.perm (List.perm_append_comm_assoc _ _ _))).mono ?_
    rintro e w8 ⟨rfl, S9⟩
    have S9 := Lib.hid (show Held w w8 (rowR 5 1 (.slice A6 t.length c6) t.length (bv t) :: rowR 5 1 (.slice A5 t.length c5) t.length (bv t) :: ([blkR g8 24 #[.int .i64 f, .slice A3 L.length c3], blkR g6 24 #[.int .i64 f, .slice A2 L.length c2], blkR g4 24 #[.int .i64 f, .slice A1 L.length c1]] ++ (lentL (g, cm, Bs, M) [b] ++ ((rowR 25 1 (.slice A2 L.length c2) L.length Bs2 :: textR L Bs2) ++ (rowR 25 1 (.slice A3 L.length c3) L.length Bs3 :: textR L Bs3))))) from by
      rw [HP.out] at S9
      simpa only [List.append_assoc, List.cons_append, List.nil_append] using S9)
    clear H8 H7 kv5 kv6 q1 q2 RT5 RT6
    obtain ⟨RR, HRR⟩ : ∃ RR, Hid (([blkR g8 24 #[.int .i64 f, .slice A3 L.length c3], blkR g6 24 #[.int .i64 f, .slice A2 L.length c2], blkR g4 24 #[.int .i64 f, .slice A1 L.length c1]] ++ (lentL (g, cm, Bs, M) [b] ++ ((rowR 25 1 (.slice A2 L.length c2) L.length Bs2 :: textR L Bs2) ++ (rowR 25 1 (.slice A3 L.length c3) L.length Bs3 :: textR L Bs3)))) = RR) := ⟨_, Lib.hid rfl⟩
    rw [HRR.out] at S9
    go_wp2
    go_loopw [16] (fun j wi => ∃ q : Nat, q ≤ t.length ∧ j = .int .i64 q ∧ Held w wi (rowR 5 1 (.slice A6 t.length c6) t.length (bv t) :: rowR 5 1 (.slice A5 t.length c5) t.length (List.replicate q (.int .u8 90) ++ (bv t).drop q) :: RR)) (fun j _ => t.length - (intOf j).toNat)
    case atStart => exact ⟨0, by omega, rfl, S9.out⟩
    case round =>
      clear S9
      obtain ⟨q, hq, rfl, S⟩ := hrel
      have HS := Lib.hid S
      clear S
      by_cases hqt : q < t.length
      · obtain ⟨gb', cb', hv, _, _⟩ := ow_some (HS.out.at_ (l1 := [_])) (by omega)
        injection hv with hA1 hn1 hc1
        subst hA1
        clear hn1 hc1
        have hrow := HS.out.at_ (l1 := [_])
        have hc0 := hrow.cellAt q (by omega)
        rw [List.getElem?_append_right (by simp), List.length_replicate, Nat.sub_self, List.getElem?_drop, Nat.add_zero, List.getElem?_eq_getElem (by rw [bv_length]; exact hqt)] at hc0
        have hf0 := hrow.frozenAt q
        have hlw := ow_lt hrow (g := gb') rfl
        have S2 := Lib.hid (HS.out.rowset (l1 := [_]) ((hrow.stored (g := gb') q (.int .u8 90)).1) ((Kp.refl [gb'] _).setCell (p := ⟨gb', q, none⟩) (.inl (by simp)) (.int .u8 90)))
        rw [paint_step (bv t) (.int .u8 90) q (by rw [bv_length]; exact hqt)] at S2
        clear hrow
        go_wp2
        go_roundw
        case rel => exact ⟨q + 1, by omega, by go_num, S2.out⟩
        case measure => simp [intOf]; omega
      · have S10 := HS.out
        rw [← HRR.out] at S10
        have X2 := Lib.hid (TX.out _ A2 c2 Bs2 _ HB2.out S10 (by simp) (fun r hr => by simp [hr]))
        have X3 := Lib.hid (TX.out _ A3 c3 Bs3 _ HB3.out S10 (by simp) (fun r hr => by simp [hr]))
        have TO := Lib.hid (LO.out _ _ S10 (fun r hr => List.mem_cons_of_mem _ (List.mem_cons_of_mem _ (List.mem_append_right _ (List.mem_append_left _ hr)))))
        obtain ⟨q1, q2, -⟩ := Blk.c2 (show Blk _ g6 24 #[.int .i64 f, .slice A2 L.length c2] from S10.ok (blkR g6 24 #[.int .i64 f, .slice A2 L.length c2]) (by simp))
        obtain ⟨q3, q4, -⟩ := Blk.c2 (show Blk _ g8 24 #[.int .i64 f, .slice A3 L.length c3] from S10.ok (blkR g8 24 #[.int .i64 f, .slice A3 L.length c3]) (by simp))
        clear S10
        go_wp2_with fail
        refine (sameb_any f f _ _ L L _ X2.out X3.out).mono ?_
        rw [show (decide (f = f) && (L == L)) = true by simp]
        rintro e w9 ⟨rfl, k9⟩
        have K9 := Lib.hid k9
        have HR9 := Lib.hid (txs1 25 (g := w9.heap.size) rfl (rd_old Hx.out (HS.out.k.trans k9 (by simp))))
        have TO9 := Lib.hid ((TO.out.kp k9).kp ((Kp.refl [] w9).alloc (.cells #[.slice A b.length c] 25)))
        clear k9 q1 q2 q3 q4
        go_wp2_with fail
        refine (kept15_any g cm Bs M _ [b] _ TO9.out HR9.out (by simp) (by simpa using hn)).mono ?_
        rintro r w10 ⟨rfl, k10⟩
        have K10 := Lib.hid k10
        clear k10
        go_wp2_with fail
        refine (known15_true _).mono ?_
        rintro r w11 ⟨rfl, k11⟩
        have K11 := Lib.hid ((HS.out.k.trans K9.out (by simp)).trans ((((Kp.refl [] w9).alloc (.cells #[.slice A b.length c] 25)).trans K10.out (by simp)).trans k11 (by simp)) (by simp))
        clear k11
        go_wp2
        go_ret
        exact ⟨rfl, K11.out⟩
theorem reads15_upto (w : World) (x : Value) (b : List UInt8) (hx : Rd w 1 x b.length (bv b)) (hb : b.length ≤ 1048576) :
    Calls Try.prog 4 #[x] w fun r w' => r = .returned (.bool true) ∧ Kp [] w w' := reads15_true x b w hx (by omega)
end Go.Proofs.Ytdmdnphbheomoaa
