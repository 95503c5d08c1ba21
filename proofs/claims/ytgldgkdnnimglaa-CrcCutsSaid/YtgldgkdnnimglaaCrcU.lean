/- CrcCuts: the walk of what is cut. -/
import Derived.Test.YtgldgkdnnimglaaCrcT
import Derived.Test.YtgldgkdnnimglaaInv
namespace Go.Proofs.Ytgldgkdnnimglaa
open Go.RowKit

set_option maxRecDepth 100000 in
set_option maxHeartbeats 4000000 in
theorem cuts_yes (w : World) (Ab : Option Addr) (cb : Nat) (b : List UInt8) (rb : Rd w 1 (.slice Ab b.length cb) b.length (bv b)) (a : Int) (_ha : -9223372036854775808 ≤ a ∧ a ≤ 9223372036854775807)
    (Ap : Option Addr) (cp : Nat) (p : List UInt8) (rp : Rd w 1 (.slice Ap p.length cp) p.length (bv p)) (Aq : Option Addr) (cq : Nat) (q : List UInt8) (rq : Rd w 1 (.slice Aq q.length cq) q.length (bv q))
    (hlong : ¬ 100000 < [b, p, q].flatten.length) (hpb : p.length ≤ b.length) (hqb : q.length ≤ b.length) :
    Calls Try.prog 8 #[.slice Ab b.length cb, .agg #[.int .i64 a, .slice Ap p.length cp, .slice Aq q.length cq]] w fun e w' => e = .returned (.bool true) ∧ Kp [] w w' := by
  have k0 : Kp [] w (w.alloc (.cells #[.int .i64 a, .slice Ap p.length cp, .slice Aq q.length cq] 41)) := (Kp.refl [] w).alloc _
  have hlb : b.length ≤ 100000 := by simp at hlong; omega
  have hl2 : ∀ i (h : i < [b, p, q].length), [b, p, q][i].length ≤ 140737488355328 := fun i hi => by
    have : i = 0 ∨ i = 1 ∨ i = 2 := by simp at hi; omega
    rcases this with rfl | rfl | rfl
    · show b.length ≤ _; omega
    · show p.length ≤ _; omega
    · show q.length ≤ _; omega
  have H := Lib.hid (fun V v h => long_not v [b, p, q] V h (by simp) hl2 hlong)
  have Rb := Lib.hid (fun W (k : Kp [] w W) => rd_old rb k)
  have Rp := Lib.hid (fun W (k : Kp [] w W) => rd_old rp k)
  have Rq := Lib.hid (fun W (k : Kp [] w W) => rd_old rq k)
  have c0 := (Blk.new w 41 #[.int .i64 a, .slice Ap p.length cp, .slice Aq q.length cq]).cell 0
  have c1 := (Blk.new w 41 #[.int .i64 a, .slice Ap p.length cp, .slice Aq q.length cq]).cell 1
  have c2 := (Blk.new w 41 #[.int .i64 a, .slice Ap p.length cp, .slice Aq q.length cq]).cell 2
  simp only [List.getElem?_toArray, List.getElem?_cons_zero, List.getElem?_cons_succ] at c0 c1 c2
  have K0 := Lib.hid k0
  have hnc : b.length ≤ cb := by obtain ⟨_, _, _, hv, h1, _⟩ := rb; cases hv; exact h1
  obtain ⟨k, hk, he1, he2⟩ := place_ex a (b.length + 1) (by omega)
  have hbd := place_bound a (b.length + 1) (by omega)
  have hcast : (((b.length + 1 : Nat) : Int)) = (b.length : Int) + 1 := by omega
  rw [hcast] at he1 he2 hbd
  obtain ⟨A1, c1', run1, rd1, -⟩ := cut_hi Ab b.length cb k (k : Int) rfl (by omega) hnc
  obtain ⟨m, hm⟩ : ∃ m, k + m = b.length := ⟨b.length - k, by omega⟩
  obtain ⟨A2, c2', run2, rd2, -⟩ := cut_lo Ab b.length cb k m (k : Int) rfl hm
  generalize htt : a.tmod ((b.length : Int) + 1) = t at *
  have he1' : (t + (b.length : Int) + 1) % ((b.length : Int) + 1) = k := by rw [← he1]; congr 1; omega
  have he2' : (t + (b.length : Int) + 1).tmod ((b.length : Int) + 1) = k := by rw [← he2]; congr 1; omega
  have R1 : Hid (∀ W, Kp [] w W → Rd W 1 (.slice A1 k c1') k (bv (b.take k))) := Lib.hid (fun W kk => by have := rd1 W b (rd_old rb kk); rwa [List.drop_zero] at this)
  have R2 : Hid (∀ W, Kp [] w W → Rd W 1 (.slice A2 m c2') m (bv (b.drop k))) := Lib.hid (fun W kk => by have := rd2 W b (rd_old rb kk); rwa [List.take_of_length_le (by rw [List.length_drop]; omega)] at this)
  have Hnb : Hid (b.length = k + m) := Lib.hid hm.symm
  have hkm : (b.length : Int) - (k : Int) = (m : Int) := by omega
  have hks := take_drop_crc b k m hm
  clear hl2 hlong k0 rb rp rq he1 he2 hcast rd1 rd2
  go_enter Try.func8, Try.ntmps8
  go_wp2
  go_quiet (fail)
  obtain ⟨w1, hw1⟩ : ∃ w1, w1 = (w.alloc (.cells #[.int .i64 a, .slice Ap p.length cp, .slice Aq q.length cq] 41)).drewN nq := ⟨_, rfl⟩
  rw [← hw1]
  have K1 : Hid (Kp [] w w1) := Lib.hid (by rw [hw1]; exact K0.out.drewN nq)
  clear hw1 c0 c1 c2
  go_upto_region 6 with (go_at_call 11; ((with_reducible refine (H.out _ _ (txs3 22 rfl (Rb.out _ K1.out) (Rp.out _ K1.out) (Rq.out _ K1.out))).mono ?_); rintro e w' ⟨rfl, rfl⟩))
  have K2 : Hid (Kp [] w (w1.alloc (.cells #[.slice Ab b.length cb, .slice Ap p.length cp, .slice Aq q.length cq] 22))) := Lib.hid (K1.out.alloc _)
  have G1 : Hid (∀ (V : World) (v : Value), Txs V v [b.take k] → Calls Try.prog 14 #[v] V fun e w' => e = .returned (.int .u32 ((crc (b.take k) : Nat) : Int)) ∧ V = w') := Lib.hid (fun V v h => by
    have := Sum_any v _ V h (by simp)
    simpa using this)
  have G2 : Hid (∀ (V : World) (v : Value), Txs V v [b.drop k] → Calls Try.prog 14 #[v] V fun e w' => e = .returned (.int .u32 ((crc (b.drop k) : Nat) : Int)) ∧ V = w') := Lib.hid (fun V v h => by
    have := Sum_any v _ V h (by simp)
    simpa using this)
  have G3 : Hid (∀ (V : World) (v : Value), Txs V v [b] → Calls Try.prog 14 #[v] V fun e w' => e = .returned (.int .u32 ((crc b : Nat) : Int)) ∧ V = w') := Lib.hid (fun V v h => by
    have := Sum_any v _ V h (by simp)
    simpa using this)
  have T1 : Hid (∀ (W : World) (g : Nat), g = W.heap.size → Kp [] w W → Txs (W.alloc (.cells #[.slice A1 k c1'] 22)) (.slice (some ⟨g, 0, none⟩) 1 1) [b.take k]) := Lib.hid (fun W g hg kk => txs1 22 hg (R1.out W kk))
  have T2 : Hid (∀ (W : World) (g : Nat), g = W.heap.size → Kp [] w W → Txs (W.alloc (.cells #[.slice A2 m c2'] 22)) (.slice (some ⟨g, 0, none⟩) 1 1) [b.drop k]) := Lib.hid (fun W g hg kk => txs1 22 hg (R2.out W kk))
  have T3 : Hid (∀ (W : World) (g : Nat), g = W.heap.size → Kp [] w W → Txs (W.alloc (.cells #[.slice Ab b.length cb] 22)) (.slice (some ⟨g, 0, none⟩) 1 1) [b]) := Lib.hid (fun W g hg kk => txs1 22 hg (Rb.out W kk))
  have Hcx := Lib.hid (crc_cutX b p q hpb hqb)
  have Hlt := Lib.hid (And.intro (crc_lt (b.take k)) (And.intro (crc_lt (b.drop k)) (crc_lt b)))
  have Hmo := Lib.hid (fun W (kk : Kp [] w W) => more_any (crc (b.take k)) (crc_lt _) _ _ (b.drop k) W (R2.out W kk))
  rw [hks.mor] at Hmo
  have Hjo := fun W => join_any (crc (b.take k)) (crc (b.drop k)) (crc_lt _) (crc_lt _) (m : Int) (by omega) W
  rw [Int.toNat_natCast, hks.joi] at Hjo
  have Hpa := fun W => part_any (crc b) (crc (b.take k)) (crc_lt _) (crc_lt _) (m : Int) (by omega) W
  rw [Int.toNat_natCast, hks.par] at Hpa
  have HJ := Lib.hid Hjo
  have HP := Lib.hid Hpa
  clear hks Hjo Hpa
  generalize crc (b.take k) = s1 at *
  generalize crc (b.drop k) = s2 at *
  generalize crc b = s at *
  clear he1' he2' hbd htt hkm
  go_cut [10, 11, 12] (fun x y z wx => x = .int .u32 (s1 : Int) ∧ y = .int .u32 (s2 : Int) ∧ z = .int .u32 (s : Int) ∧ Kp [] w wx)
  case first =>
    rename_i J9 K9 hJ9 hK9
    refine wp_region_inv (fun i v W => match i with
      | 0 => v = .slice Ab b.length cb | 1 => v = .int .i64 (k : Int) | 2 => v = .slice A1 k c1' | 3 => Txs W v [b.take k] | 4 => v = .int .u32 (s1 : Int)
      | 5 => v = .slice Ab b.length cb | 6 => v = .int .i64 (k : Int) | 7 => v = .slice A2 m c2' | 8 => Txs W v [b.drop k] | 9 => v = .int .u32 (s2 : Int)
      | 10 => v = .slice Ab b.length cb | 11 => Txs W v [b] | 12 => v = .int .u32 (s : Int) | 13 => v = .int .u32 (s1 : Int) | 14 => v = .int .u32 (s2 : Int) | 15 => v = .int .u32 (s : Int) | _ => True) (by kernel_rfl) (by kernel_rfl) (by kernel_rfl) ?_ ?_ ?_
    · intro i v W W' h hk
      iterate 16 (rcases i with _ | i; first | exact Txs.kp0 h hk | exact h)
      trivial
    · refine ⟨?_, ?_, ?_, ?_, ?_, ?_, ?_, ?_, ?_, ?_, ?_, ?_, ?_, ?_, ?_, ?_, trivial⟩
      · intro vs A W hA hW hd K hK
        have e0 : A.tmps[0]?.getD undef = .slice Ab b.length cb := slot_is hA (by kernel_rfl) (Nat.le_of_ble_eq_true rfl) rfl
        go_step
        exact hK _ _ (Kp.refl _ _) rfl
      · intro vs A W hA hW hd K hK
        have e0 : A.tmps[8]?.getD undef = .int .i64 (k : Int) := slot_is hA (by kernel_rfl) (Nat.le_of_ble_eq_true rfl) rfl
        go_step
        exact hK _ _ (Kp.refl _ _) rfl
      · intro vs A W hA hW hd K hK
        have f0 : vs 0 = .slice Ab b.length cb := hd 0 (by kernel_rfl)
        have f1 : vs 1 = .int .i64 (k : Int) := hd 1 (by kernel_rfl)
        have e0 : A.tmps[61]?.getD undef = vs 0 := slot_is hA (by kernel_rfl) (Nat.le_of_ble_eq_true rfl) rfl
        have e1 : A.tmps[62]?.getD undef = vs 1 := slot_is hA (by kernel_rfl) (Nat.le_of_ble_eq_true rfl) rfl
        rw [f0] at e0
        rw [f1] at e1
        go_step
        exact hK _ _ (Kp.refl _ _) rfl
      · intro vs A W hA hW hd K hK
        have f0 : vs 2 = .slice A1 k c1' := hd 2 (by kernel_rfl)
        have e0 : A.tmps[63]?.getD undef = vs 2 := slot_is hA (by kernel_rfl) (Nat.le_of_ble_eq_true rfl) rfl
        rw [f0] at e0
        go_step
        exact hK _ _ ((Kp.refl _ _).alloc _) (T1.out W _ rfl (K2.out.trans (Kp.of_drew hW) (by simp)))
      · intro vs A W hA hW hd K hK
        have f0 : Txs W (vs 3) [b.take k] := hd 3 (by kernel_rfl)
        have e0 : A.tmps[64]?.getD undef = vs 3 := slot_is hA (by kernel_rfl) (Nat.le_of_ble_eq_true rfl) rfl
        go_step
        refine (G1.out W _ f0).mono ?_
        rintro e w' ⟨rfl, rfl⟩
        exact hK _ _ (Kp.refl _ _) rfl
      · intro vs A W hA hW hd K hK
        have e0 : A.tmps[0]?.getD undef = .slice Ab b.length cb := slot_is hA (by kernel_rfl) (Nat.le_of_ble_eq_true rfl) rfl
        go_step
        exact hK _ _ (Kp.refl _ _) rfl
      · intro vs A W hA hW hd K hK
        have e0 : A.tmps[8]?.getD undef = .int .i64 (k : Int) := slot_is hA (by kernel_rfl) (Nat.le_of_ble_eq_true rfl) rfl
        go_step
        exact hK _ _ (Kp.refl _ _) rfl
      · intro vs A W hA hW hd K hK
        have f0 : vs 5 = .slice Ab b.length cb := hd 5 (by kernel_rfl)
        have f1 : vs 6 = .int .i64 (k : Int) := hd 6 (by kernel_rfl)
        have e0 : A.tmps[66]?.getD undef = vs 5 := slot_is hA (by kernel_rfl) (Nat.le_of_ble_eq_true rfl) rfl
        have e1 : A.tmps[67]?.getD undef = vs 6 := slot_is hA (by kernel_rfl) (Nat.le_of_ble_eq_true rfl) rfl
        rw [f0] at e0
        rw [f1] at e1
        go_step
        exact hK _ _ (Kp.refl _ _) rfl
      · intro vs A W hA hW hd K hK
        have f0 : vs 7 = .slice A2 m c2' := hd 7 (by kernel_rfl)
        have e0 : A.tmps[68]?.getD undef = vs 7 := slot_is hA (by kernel_rfl) (Nat.le_of_ble_eq_true rfl) rfl
        rw [f0] at e0
        go_step
        exact hK _ _ ((Kp.refl _ _).alloc _) (T2.out W _ rfl (K2.out.trans (Kp.of_drew hW) (by simp)))
      · intro vs A W hA hW hd K hK
        have f0 : Txs W (vs 8) [b.drop k] := hd 8 (by kernel_rfl)
        have e0 : A.tmps[69]?.getD undef = vs 8 := slot_is hA (by kernel_rfl) (Nat.le_of_ble_eq_true rfl) rfl
        go_step
        refine (G2.out W _ f0).mono ?_
        rintro e w' ⟨rfl, rfl⟩
        exact hK _ _ (Kp.refl _ _) rfl
      · intro vs A W hA hW hd K hK
        have e0 : A.tmps[0]?.getD undef = .slice Ab b.length cb := slot_is hA (by kernel_rfl) (Nat.le_of_ble_eq_true rfl) rfl
        go_step
        exact hK _ _ (Kp.refl _ _) rfl
      · intro vs A W hA hW hd K hK
        have f0 : vs 10 = .slice Ab b.length cb := hd 10 (by kernel_rfl)
        have e0 : A.tmps[71]?.getD undef = vs 10 := slot_is hA (by kernel_rfl) (Nat.le_of_ble_eq_true rfl) rfl
        rw [f0] at e0
        go_step
        exact hK _ _ ((Kp.refl _ _).alloc _) (T3.out W _ rfl (K2.out.trans (Kp.of_drew hW) (by simp)))
      · intro vs A W hA hW hd K hK
        have f0 : Txs W (vs 11) [b] := hd 11 (by kernel_rfl)
        have e0 : A.tmps[72]?.getD undef = vs 11 := slot_is hA (by kernel_rfl) (Nat.le_of_ble_eq_true rfl) rfl
        go_step
        refine (G3.out W _ f0).mono ?_
        rintro e w' ⟨rfl, rfl⟩
        exact hK _ _ (Kp.refl _ _) rfl
      · intro vs A W hA hW hd K hK
        have f0 : vs 4 = .int .u32 (s1 : Int) := hd 4 (by kernel_rfl)
        have e0 : A.tmps[65]?.getD undef = vs 4 := slot_is hA (by kernel_rfl) (Nat.le_of_ble_eq_true rfl) rfl
        rw [f0] at e0
        go_step
        exact hK _ _ (Kp.refl _ _) rfl
      · intro vs A W hA hW hd K hK
        have f0 : vs 9 = .int .u32 (s2 : Int) := hd 9 (by kernel_rfl)
        have e0 : A.tmps[70]?.getD undef = vs 9 := slot_is hA (by kernel_rfl) (Nat.le_of_ble_eq_true rfl) rfl
        rw [f0] at e0
        go_step
        exact hK _ _ (Kp.refl _ _) rfl
      · intro vs A W hA hW hd K hK
        have f0 : vs 12 = .int .u32 (s : Int) := hd 12 (by kernel_rfl)
        have e0 : A.tmps[73]?.getD undef = vs 12 := slot_is hA (by kernel_rfl) (Nat.le_of_ble_eq_true rfl) rfl
        rw [f0] at e0
        go_step
        exact hK _ _ (Kp.refl _ _) rfl
    · intro vs W hW hp
      have h13 : vs 13 = .int .u32 (s1 : Int) := hp 13 (Nat.le_of_ble_eq_true rfl)
      have h14 : vs 14 = .int .u32 (s2 : Int) := hp 14 (Nat.le_of_ble_eq_true rfl)
      have h15 : vs 15 = .int .u32 (s : Int) := hp 15 (Nat.le_of_ble_eq_true rfl)
      clear hp
      simp only [putAll, h13, h14, h15, Act.put, List.setIfInBounds_toArray, List.set_cons_succ, List.set_cons_zero]
      refine hK9 _ _ (Met.intro (hJ9 _ _ ?_))
      repeat apply Exists.intro
      exact ⟨⟨rfl, rfl, rfl, K2.out.trans (Kp.of_drew hW) (by simp)⟩, rfl⟩
  case rest =>
    obtain ⟨rfl, rfl, rfl, K3'⟩ := hcut
    have K3 := Lib.hid K3'
    clear K3'
    obtain ⟨i0, hi, hz0, hz1, hz2⟩ := info_parts Try.infoU8
    go_wp2_with (first
      | (go_at_call 16; ((with_reducible refine (Hmo.out _ K3.out).mono ?_); rintro e w' ⟨rfl, rfl⟩))
      | (go_at_call 21; ((with_reducible refine (HJ.out _).mono ?_); rintro e w4 ⟨rfl, k4⟩; have K4 := Lib.hid (K3.out.trans k4 (by simp)); clear k4))
      | (go_at_call 23; ((with_reducible refine (HP.out _).mono ?_); rintro e w5 ⟨rfl, k5⟩; have K5 := Lib.hid (K4.out.trans k5 (by simp)); clear k5))
      | (at_builtin; refine wpList_app _ rfl (.tmp 97) (.tmp 98) _ rfl 5 i0 _ 1 1 Try.underlying22 hi hz0 hz1 hz2 rfl (by decide) _ 0 [] rfl (ow_at 5 1 0 #[] rfl rfl (by decide)) (.slice Ab b.length cb) b.length (bv b) rfl (Rb.out _ (K5.out.alloc _)) (bv_one _) (by unfold maxLen; omega) (by omega) ?_))
    intro v7 w7 o7 g7 a7
    have S7 := Lib.hid ((((Held.start w).kp K5.out).rownew (ow_at 5 1 0 #[] rfl rfl (by decide)) ((Kp.refl [] _).alloc _) (fun g hg => by simp [Value.ownBlock] at hg; omega)).grow (l1 := []) o7 (by simpa using g7) (by simpa using a7))
    have hlen : 0 < b.length ∨ b = [] := by cases b; exact .inr rfl; exact .inl (by simp)
    obtain ⟨A7, c7, rfl, -, -⟩ := ow_form o7
    have S7' := S7.out
    simp only [List.nil_append] at S7'
    have S8 := Lib.hid S7'
    clear o7 g7 a7 S7 S7' hlen K4
    go_wp2
    go_loopw [14] (fun t wr => ∃ i : Nat, i ≤ p.length ∧ t = .int .i64 i ∧ Held w wr [rowR 5 1 (.slice A7 b.length c7) b.length (bv (xpart b 0 p i))]) (fun t _ => p.length - (intOf t).toNat)
    case atStart => exact ⟨0, by omega, rfl, by rw [xpart_zero]; exact S8.out⟩
    case round =>
      obtain ⟨i, hip, rfl, S⟩ := hrel
      by_cases hlt : i < p.length
      · have o := S.at_ (l1 := [])
        obtain ⟨g, _, hv, _, _⟩ := ow_some o (by omega)
        cases hv
        obtain ⟨adp, rfl, hcp⟩ := rd_at (Rp.out wr S.k) hlt
        obtain ⟨xx, yy, zz, hq1, hq2, hcell, hyy, hX, hst⟩ := xor_step o (j := i) (by omega) rfl (by omega) hlt
        rw [hyy] at hcp
        have hfz := o.frozenAt i
        have hlw := ow_lt o (g := g) rfl
        have Hst := Lib.hid hst
        have HX := Lib.hid hX
        have S' := Lib.hid S
        have hd : decide ((i : Int) < (p.length : Int)) = true := by simpa using hlt
        have hS9 : (fun V : World => V.cell? ⟨g, i, none⟩ = some (.int .u8 (xx : Int)) ∧ V.cell? (adp.add i) = some (.int .u8 (yy : Int))) wr.drew := ⟨hcell, hcp⟩
        clear S o hst hX hyy hcell hcp S8
        go_wp2
        refine wp_region_lexf [12] [12] (fun V : World => V.cell? ⟨g, i, none⟩ = some (.int .u8 (xx : Int)) ∧ V.cell? (adp.add i) = some (.int .u8 (yy : Int))) (by kernel_rfl) (by kernel_rfl) hS9 (fun σ hne f hf hsur => ?_); have Hsur := Lib.hid hsur; clear hsur
        have hfa := fun y => (hf y).1
        have hfb := fun y => (hf y).2
        clear hf
        go_wp2_with (first
          | (refine lex_qq Hsur.out rfl rfl rfl ?_; intro K hK; go_big_quiet_op; go_big_quiet_on) | (refine lex_skipk rfl ?_; intro K hK; go_simp; refine hK _ _ ?_; clear hK K) | (refine lex_e rfl rfl ?_; intro K hK; go_step) | (refine lex_nil ?_)
          | ((with_reducible apply And.intro); · (intro hl; first | (exact ls_absurd hl rfl) | trivial)))
        go_roundw
        case rel => exact ⟨i + 1, by omega, by go_num, by rw [HX.out]; exact (S'.out.rowset (l1 := []) Hst.out ((Kp.refl [g] wr).setCell (.inl (by simp)) _)).kp ((Kp.refl [] _).drew)⟩
        case measure => simp [intOf]; omega
      · obtain rfl : i = p.length := by omega
        have hXl : (xpart b 0 p p.length).length = b.length := xpart_length (by omega) (Nat.le_refl _)
        have S9 : Hid (Held w wr [rowR 5 1 (.slice A7 b.length c7) b.length (bv (cutX b p q 0))]) := Lib.hid (by unfold cutX; rw [xpart_zero]; exact S)
        have Hcut : Hid (∀ j, cutX b p q j = xpart (xpart b 0 p p.length) (b.length - q.length) q j) := Lib.hid (fun j => rfl)
        have HXl := Lib.hid hXl
        clear S S8 hXl
        go_wp2
        go_loopw [15] (fun t wr => ∃ i : Nat, i ≤ q.length ∧ t = .int .i64 i ∧ Held w wr [rowR 5 1 (.slice A7 b.length c7) b.length (bv (cutX b p q i))]) (fun t _ => q.length - (intOf t).toNat)
        case atStart => exact ⟨0, by omega, rfl, S9.out⟩
        case round =>
          obtain ⟨i, hiq, rfl, S⟩ := hrel
          by_cases hlt2 : i < q.length
          · have o := S.at_ (l1 := [])
            obtain ⟨g, _, hv, _, _⟩ := ow_some o (by omega)
            cases hv
            rw [Hcut.out] at o
            obtain ⟨adq, rfl, hcq⟩ := rd_at (Rq.out _ S.k) hlt2
            obtain ⟨xx, yy, zz, hq1, hq2, hcell, hyy, hX, hst⟩ := xor_step o (j := b.length - q.length + i) rfl HXl.out (by rw [HXl.out]; omega) hlt2
            rw [← Hcut.out] at hst
            rw [hyy] at hcq
            have hfz := o.frozenAt (b.length - q.length + i)
            have hlw := ow_lt o (g := g) rfl
            have Hst := Lib.hid hst
            have HX := Lib.hid hX
            have S' := Lib.hid S
            have hd : decide ((i : Int) < (q.length : Int)) = true := by simpa using hlt2
            have hidx : ((b.length : Int) - (q.length : Int) + (i : Int)).toNat = b.length - q.length + i := by omega
            have hS9 : (fun V : World => V.cell? ⟨g, b.length - q.length + i, none⟩ = some (.int .u8 (xx : Int)) ∧ V.cell? (adq.add i) = some (.int .u8 (yy : Int))) wr.drew := ⟨hcell, hcq⟩
            clear S o hst hX hyy S9 hcell hcq
            go_wp2
            refine wp_region_lexf [24] [24] (fun V : World => V.cell? ⟨g, b.length - q.length + i, none⟩ = some (.int .u8 (xx : Int)) ∧ V.cell? (adq.add i) = some (.int .u8 (yy : Int))) (by kernel_rfl) (by kernel_rfl) hS9 (fun σ hne f hf hsur => ?_); have Hsur := Lib.hid hsur; clear hsur
            have hfa := fun y => (hf y).1
            have hfb := fun y => (hf y).2
            clear hf
            go_wp2_with (first
              | (refine lex_qq Hsur.out rfl rfl rfl ?_; intro K hK; go_big_quiet_op; go_big_quiet_on) | (refine lex_skipk rfl ?_; intro K hK; go_simp; refine hK _ _ ?_; clear hK K) | (refine lex_e rfl rfl ?_; intro K hK; go_step) | (refine lex_nil ?_)
              | ((with_reducible apply And.intro); · (intro hl; first | (exact ls_absurd hl rfl) | trivial)))
            go_roundw
            case rel => exact ⟨i + 1, by omega, by go_num, by rw [HX.out]; exact (S'.out.rowset (l1 := []) Hst.out ((Kp.refl [g] wr).setCell (.inl (by simp)) _)).kp ((Kp.refl [] _).drew)⟩
            case measure => simp [intOf]; omega
          · obtain rfl : i = q.length := by omega
            have o := S.at_ (l1 := [])
            have Kr := Lib.hid S.k
            have hlm : ((b.length : Int) - (p.length : Int)).toNat = b.length - p.length := by omega
            have hP1 := fun W (kk : Kp [] w W) => patch_any s Hlt.out.2.2 _ _ p ((b.length : Int) - (p.length : Int)) (by omega) W (Rp.out W kk)
            rw [hlm] at hP1
            have hP2 := fun W (kk : Kp [] w W) => patch_any (patch s p (b.length - p.length)) (patch_lt Hlt.out.2.2) _ _ q 0 (by decide) W (Rq.out W kk)
            have hQ1 := fun W (kk : Kp [] w W) => patch_any s Hlt.out.2.2 _ _ q 0 (by decide) W (Rq.out W kk)
            have hQ2 := fun W (kk : Kp [] w W) => patch_any (patch s q 0) (patch_lt Hlt.out.2.2) _ _ p ((b.length : Int) - (p.length : Int)) (by omega) W (Rp.out W kk)
            rw [hlm] at hQ2
            have hT1 := fun W (kk : Kp [] w W) => patch_any s Hlt.out.2.2 _ _ p (m : Int) (by omega) W (Rp.out W kk)
            have hT2 := fun W (kk : Kp [] w W) => patch_any (patch s p m) (patch_lt Hlt.out.2.2) _ _ p (m : Int) (by omega) W (Rp.out W kk)
            rw [Int.toNat_natCast] at hT1 hT2
            rw [patch_twice] at hT2
            have hX : ∀ (W : World) (g' : Nat), g' = W.heap.size → Kp [] wr W → Calls Try.prog 14 #[.slice (some ⟨g', 0, none⟩) 1 1] (W.alloc (.cells #[.slice A7 b.length c7] 22)) fun e w' => e = .returned (.int .u32 ((crc (cutX b p q q.length) : Nat) : Int)) ∧ W.alloc (.cells #[.slice A7 b.length c7] 22) = w' := fun W g' hg kk => by
              have := Sum_any _ _ _ (txs1 22 hg (rd_old (Rd.of_own o) kk)) (by simp)
              simpa using this
            rw [Hcx.out] at hX
            rw [patch_comm s 0 (b.length - p.length) q p] at hQ2
            rw [show (0 : Int).toNat = 0 from rfl] at hP2 hQ1
            generalize patch (patch s p (b.length - p.length)) q 0 = one at *
            generalize patch s p (b.length - p.length) = P1 at *
            generalize patch s q 0 = Q1 at *
            generalize patch s p m = T1 at *
            have HP1 := Lib.hid hP1
            have HP2 := Lib.hid hP2
            have HQ1 := Lib.hid hQ1
            have HQ2 := Lib.hid hQ2
            have HT1 := Lib.hid hT1
            have HT2 := Lib.hid hT2
            have HXs := Lib.hid hX
            clear S o hP1 hP2 hQ1 hQ2 hT1 hT2 hX hlm S9
            go_wp2_with (first
              | (go_at_call 27; ((with_reducible refine (HP1.out _ Kr.out).mono ?_); rintro e u1 ⟨rfl, k1⟩; have J1 := Lib.hid (Kr.out.trans k1 (by simp))))
              | (go_at_call 27; ((with_reducible refine (HP2.out _ J1.out).mono ?_); rintro e u2 ⟨rfl, k2⟩; have J2 := Lib.hid (J1.out.trans k2 (by simp))))
              | (go_at_call 27; ((with_reducible refine (HQ1.out _ J2.out).mono ?_); rintro e u3 ⟨rfl, k3⟩; have J3 := Lib.hid (J2.out.trans k3 (by simp))))
              | (go_at_call 27; ((with_reducible refine (HQ2.out _ J3.out).mono ?_); rintro e u4 ⟨rfl, k4⟩; have J4 := Lib.hid (J3.out.trans k4 (by simp)); have L4 := Lib.hid (((k1.trans k2 (by simp)).trans k3 (by simp)).trans k4 (by simp))))
              | (go_at_call 14; ((with_reducible refine (HXs.out _ _ rfl L4.out).mono ?_); rintro e u4 ⟨rfl, rfl⟩))
              | (go_at_call 27; ((with_reducible refine (HT1.out _ (J4.out.alloc _)).mono ?_); rintro e u5 ⟨rfl, k5⟩; have J5 := Lib.hid ((J4.out.alloc _).trans k5 (by simp))))
              | (go_at_call 27; ((with_reducible refine (HT2.out _ J5.out).mono ?_); rintro e u6 ⟨rfl, k6⟩; have J6 := Lib.hid (J5.out.trans k6 (by simp))))
              | (go_at_call 12; ((with_reducible refine (works_true _).mono ?_); rintro e u7 ⟨rfl, k7⟩)))
            go_ret
            exact ⟨rfl, J6.out.trans k7 (by simp)⟩
end Go.Proofs.Ytgldgkdnnimglaa
