/- CrcSolves: the walk. -/
import Derived.Test.YtgldgkdnnimglaaCrcR
namespace Go.Proofs.Ytgldgkdnnimglaa
open Go.RowKit

/-- b, with the first i bytes of p laid from place k on. -/
def lpart (b : List UInt8) (k : Nat) (p : List UInt8) (i : Nat) : List UInt8 := b.take k ++ p.take i ++ b.drop (k + i)
theorem lpart_zero (b : List UInt8) (k : Nat) (p : List UInt8) : lpart b k p 0 = b := by simp [lpart]
theorem lpart_head {b p : List UInt8} {k i : Nat} (h : k + i ≤ b.length) (hi : i ≤ p.length) : (b.take k ++ p.take i).length = k + i := by simp; omega
theorem lpart_next {b p : List UInt8} {k i : Nat} (h : k + i < b.length) (hi : i < p.length) : (lpart b k p i).set (k + i) p[i] = lpart b k p (i + 1) := by
  unfold lpart
  have hl := lpart_head (b := b) (p := p) (k := k) (i := i) (by omega) (by omega)
  rw [List.set_append_right _ _ (by omega), hl, Nat.sub_self, List.drop_eq_getElem_cons h, List.set_cons_zero]
  have h2 : p.take (i + 1) = p.take i ++ [p[i]] := List.take_succ_eq_append_getElem hi
  rw [h2, show k + (i + 1) = k + i + 1 from by omega, List.append_assoc, List.append_assoc, List.append_assoc]
  rfl
theorem info_some8 : ∃ i, Try.prog.info? 5 = some i := by
  obtain ⟨i0, hi, _⟩ := info_parts Try.infoU8
  exact ⟨i0, hi⟩
theorem eq_four (w : World) (a b : List UInt8) (ha : a.length = 4) (hb : b.length = 4) : (Op.equalIn 10000 43 (.agg (hashA a)) (.agg (hashA b))).run Try.prog w = .ok (a == b) w := by
  obtain ⟨i, hi⟩ := info_some8
  exact run_eq_bytes (P := Try.prog) w 9998 43 5 4 i Try.underlying43 hi Try.cellsU8 Try.underlying5 a b ha hb

set_option maxRecDepth 100000 in
set_option maxHeartbeats 1000000 in
theorem solves_true (w : World) (vb : Value) (b : List UInt8) (rb : Rd w 1 vb b.length (bv b)) (hb : b.length ≤ 140737488351232) (a : Int) (ha : -9223372036854775808 ≤ a ∧ a ≤ 9223372036854775807) (x : Nat) (hx : x < 4294967296) :
    Calls Try.prog 9 #[vb, .int .i64 a, .int .u32 x] w fun e w' => e = .returned (.bool true) ∧ Kp [] w w' := by
  obtain ⟨Ab, cb, rfl⟩ := rd_form rb
  have k0 : Kp [] w (w.alloc (.cells #[.slice Ab b.length cb] 22)) := (Kp.refl [] w).alloc _
  have ht : Txs (w.alloc (.cells #[.slice Ab b.length cb] 22)) (.slice (some ⟨w.heap.size, 0, none⟩) 1 1) [b] := txs1 22 rfl rb
  have hl2 : ∀ i (h : i < [b].length), [b][i].length ≤ 140737488355328 := fun i hi => by
    obtain rfl : i = 0 := by simp at hi; omega
    show b.length ≤ _; omega
  have K0 := Lib.hid k0
  by_cases hlong : 100000 < [b].flatten.length
  · have H := Lib.hid (long_yes _ _ _ ht (by simp) hl2 hlong)
    clear ht hl2 hlong k0 rb
    go_enter Try.func9, Try.ntmps9
    go_wp2_with (first
      | (go_at_call 11; ((with_reducible refine H.out.mono ?_); rintro e w' ⟨rfl, rfl⟩))
      | (go_at_call 12; ((with_reducible refine (works_true _).mono ?_); rintro e w1 ⟨rfl, k1⟩)))
    go_ret
    exact ⟨rfl, K0.out.trans k1 (by simp)⟩
  · have H := Lib.hid (long_not _ _ _ ht (by simp) hl2 hlong)
    have hle : b.length ≤ 100000 := by simpa using hlong
    have S0 := Lib.hid ((Held.start w).kp k0)
    have Rb := Lib.hid (fun W (k : Kp [] w W) => rd_old rb k)
    clear ht hl2 hlong k0 rb
    by_cases hno : a < 0 ∨ (b.length : Int) - a < 4
    · have Hn := Lib.hid (fun (A : Option Addr) c W => solve_no A b.length c a ha hno (by omega) x W)
      have Hr := Lib.hid (fun (A : Option Addr) c W => rsolve_no A b.length c a ha hno (by omega) x W)
      have Heq := fun W => eq_four W (List.replicate 4 0) (List.replicate 4 0) rfl rfl
      rw [show ((List.replicate 4 0 : List UInt8) == List.replicate 4 0) = true from rfl] at Heq
      have Heq2 : ∀ W, (Op.equalIn 10000 43 (.agg (hashA (List.replicate 4 0))) (.agg #[.int .u8 0, .int .u8 0, .int .u8 0, .int .u8 0])).run Try.prog W = .ok true W := Heq
      obtain ⟨z4, hz4⟩ : ∃ z, z = hashA (List.replicate 4 0) := ⟨_, rfl⟩
      have Hsz := Lib.hid (show z4.size = 4 by rw [hz4]; rfl)
      have H1 := Lib.hid (show ∀ u ∈ z4.toList, u.oneCell' = true by rw [hz4]; exact bv_one _)
      rw [← hz4] at Heq Heq2 Hn Hr
      have Hz4 := Lib.hid hz4
      clear hno hz4
      go_enter Try.func9, Try.ntmps9
      go_wp2_with (first
        | (go_at_call 11; ((with_reducible refine H.out.mono ?_); rintro e w' ⟨rfl, rfl⟩))
        | (go_at_call 13; ((with_reducible refine (clent_any (.slice Ab b.length cb) b b.length _ (Rb.out _ S0.out.k) (by omega)).mono ?_); rintro e w1 ⟨gx, cx, rfl, o1, k1, l1⟩; have S1 := Lib.hid (S0.out.rownew o1 k1 (fun g hg => by simp [Value.ownBlock] at hg; omega)); clear o1 k1 l1))
        | (go_at_call 29; ((with_reducible refine (Hn.out _ _ _).mono ?_); rintro e w2 ⟨rfl, k2⟩; have S2 := Lib.hid (S1.out.kp k2)))
        | (refine wpList_store_agg rfl 43 (.tmp 8) (.tmp 25) rfl w2.heap.size 0 rfl z4 rfl 43 (hashA (List.replicate 4 0)) (Blk.new _ _ _) (by rw [Try.infoFour, Hsz.out]) (by rw [Hsz.out]; decide) H1.out ?_; intro w3 c3 k3; have S3 := Lib.hid (S2.out.new (blkR w2.heap.size 43 z4) (((Kp.refl [] w2).alloc _).trans k3 (fun g hg => .inr (by simp at hg; omega))) (by rw [set_all _ _ (by rw [Hsz.out]; rfl)] at c3; exact c3) (fun b hb => by simp [blkR] at hb; omega)); clear c3 k3)
        | (go_at_call 30; ((with_reducible refine (Hr.out _ _ _).mono ?_); rintro e w4 ⟨rfl, k4⟩; have S4 := Lib.hid (S3.out.kp k4)))
        | (refine wpList_store_agg rfl 43 (.tmp 10) (.tmp 32) rfl w4.heap.size 0 rfl z4 rfl 43 (hashA (List.replicate 4 0)) (Blk.new _ _ _) (by rw [Try.infoFour, Hsz.out]) (by rw [Hsz.out]; decide) H1.out ?_; intro w5 c5 k5; have S5 := Lib.hid (S4.out.new (blkR w4.heap.size 43 z4) (((Kp.refl [] w4).alloc _).trans k5 (fun g hg => .inr (by simp at hg; omega))) (by rw [set_all _ _ (by rw [Hsz.out]; rfl)] at c5; exact c5) (fun b hb => by simp [blkR] at hb; omega)); clear c5 k5)
        | (refine wpList_load_agg rfl 43 (.tmp 8) rfl ⟨w2.heap.size, 0, none⟩ rfl z4.toList _ (S5.out.at_ (l1 := [_])).agg Try.underlying43 rfl (by rw [Try.infoFour, Array.length_toList, Hsz.out]) ?_)
        | (refine wpList_load_agg rfl 43 (.tmp 10) rfl ⟨w4.heap.size, 0, none⟩ rfl z4.toList _ (S5.out.at_ (l1 := [])).agg Try.underlying43 rfl (by rw [Try.infoFour, Array.length_toList, Hsz.out]) ?_)
        | (go_at_call 18; ((with_reducible refine (ckept_any gx cx b.length _ b _ (S5.out.at_ (l1 := [_, _])) (Rb.out _ S5.out.k) (by omega)).mono ?_); rintro e w' ⟨rfl, rfl⟩))
        | (go_at_call 12; ((with_reducible refine (works_true _).mono ?_); rintro e w6 ⟨rfl, k6⟩)))
      go_ret
      exact ⟨rfl, S5.out.k.trans k6 (by simp)⟩
    · obtain ⟨k, rfl⟩ := Int.eq_ofNat_of_zero_le (show 0 ≤ a by omega)
      obtain ⟨m, hm⟩ : ∃ m, k + 4 + m = b.length := ⟨b.length - k - 4, by omega⟩
      have Hn := Lib.hid (fun (A : Option Addr) c W h => solve_ok A b c k m x hm (by omega) hx W h)
      have Hr := Lib.hid (fun (A : Option Addr) c W h => rsolve_ok A b c k m x hm (by omega) hx W h)
      have hcrc := crc_solved (b.take k) (b.drop (k + 4)) x hx
      have hlp : lpart b k (le4 (solveN (b.take k) (b.drop (k + 4)) x)) 4 = b.take k ++ le4 (solveN (b.take k) (b.drop (k + 4)) x) ++ b.drop (k + 4) := rfl
      rw [← hlp] at hcrc
      generalize solveN (b.take k) (b.drop (k + 4)) x = X at *
      have Heq := fun W => eq_four W (le4 X) (le4 X) rfl rfl
      rw [show ((le4 X) == le4 X) = true from by simp] at Heq
      have Hg4 : Hid (∀ i, (h : i < 4) → (hashA (le4 X))[i]? = some (.int .u8 (((le4 X)[i]'(by simpa [le4] using h)).toNat : Int))) := Lib.hid (fun i h => by
        have : i < (le4 X).length := by simpa [le4] using h
        simp [hashA, bv, this])
      obtain ⟨z4, hz4⟩ : ∃ z, z = hashA (le4 X) := ⟨_, rfl⟩
      have Hsz := Lib.hid (show z4.size = 4 by rw [hz4]; rfl)
      have H1 := Lib.hid (show ∀ u ∈ z4.toList, u.oneCell' = true by rw [hz4]; exact bv_one _)
      rw [← hz4] at Heq Hn Hr Hg4
      have Hcrc := Lib.hid hcrc
      have hk4 : k + 4 ≤ b.length := by omega
      obtain ⟨i0, hi, hz0, hz1, hz2⟩ := info_parts Try.infoU8
      clear hno hz4 hm hcrc hlp
      go_enter Try.func9, Try.ntmps9
      go_wp2_with (first
        | (go_at_call 11; ((with_reducible refine H.out.mono ?_); rintro e w' ⟨rfl, rfl⟩))
        | (go_at_call 13; ((with_reducible refine (clent_any (.slice Ab b.length cb) b b.length _ (Rb.out _ S0.out.k) (by omega)).mono ?_); rintro e w1 ⟨gx, cx, rfl, o1, k1, l1⟩; have S1 := Lib.hid (S0.out.rownew o1 k1 (fun g hg => by simp [Value.ownBlock] at hg; omega)); clear o1 k1 l1))
        | (go_at_call 29; ((with_reducible refine (Hn.out _ _ _ (rd_ow_take (S1.out.at_ (l1 := [])) rfl (by omega))).mono ?_); rintro e w2 ⟨rfl, k2⟩; have S2 := Lib.hid (S1.out.kp k2)))
        | (refine wpList_store_agg rfl 43 (.tmp 8) (.tmp 25) rfl w2.heap.size 0 rfl z4 rfl 43 (hashA (List.replicate 4 0)) (Blk.new _ _ _) (by rw [Try.infoFour, Hsz.out]) (by rw [Hsz.out]; decide) H1.out ?_; intro w3 c3 k3; have S3 := Lib.hid (S2.out.new (blkR w2.heap.size 43 z4) (((Kp.refl [] w2).alloc _).trans k3 (fun g hg => .inr (by simp at hg; omega))) (by rw [set_all _ _ (by rw [Hsz.out]; rfl)] at c3; exact c3) (fun b hb => by simp [blkR] at hb; omega)); clear c3 k3)
        | (go_at_call 30; ((with_reducible refine (Hr.out _ _ _ (Rb.out _ S3.out.k)).mono ?_); rintro e w4 ⟨rfl, k4⟩; have S4 := Lib.hid (S3.out.kp k4)))
        | (refine wpList_store_agg rfl 43 (.tmp 10) (.tmp 32) rfl w4.heap.size 0 rfl z4 rfl 43 (hashA (List.replicate 4 0)) (Blk.new _ _ _) (by rw [Try.infoFour, Hsz.out]) (by rw [Hsz.out]; decide) H1.out ?_; intro w5 c5 k5; have S5 := Lib.hid (S4.out.new (blkR w4.heap.size 43 z4) (((Kp.refl [] w4).alloc _).trans k5 (fun g hg => .inr (by simp at hg; omega))) (by rw [set_all _ _ (by rw [Hsz.out]; rfl)] at c5; exact c5) (fun b hb => by simp [blkR] at hb; omega)); clear c5 k5)
        | (refine wpList_load_agg rfl 43 (.tmp 8) rfl ⟨w2.heap.size, 0, none⟩ rfl z4.toList _ (S5.out.at_ (l1 := [_])).agg Try.underlying43 rfl (by rw [Try.infoFour, Array.length_toList, Hsz.out]) ?_)
        | (refine wpList_load_agg rfl 43 (.tmp 10) rfl ⟨w4.heap.size, 0, none⟩ rfl z4.toList _ (S5.out.at_ (l1 := [])).agg Try.underlying43 rfl (by rw [Try.infoFour, Array.length_toList, Hsz.out]) ?_)
        | (go_at_call 18; ((with_reducible refine (ckept_any gx cx b.length _ b _ (S5.out.at_ (l1 := [_, _])) (Rb.out _ S5.out.k) (by omega)).mono ?_); rintro e w' ⟨rfl, rfl⟩))
        | (go_at_call 12; ((with_reducible refine (works_true _).mono ?_); rintro e w6 ⟨rfl, k6⟩))
        | (at_builtin; refine wpList_app _ rfl (.tmp 56) (.tmp 57) _ rfl 5 i0 _ 1 1 Try.underlying22 hi hz0 hz1 hz2 rfl (by decide) _ 0 [] rfl (ow_at 5 1 0 #[] (by simp) rfl (by decide)) (.slice Ab b.length cb) b.length (bv b) rfl (Rb.out _ (S5.out.k.alloc _)) (bv_one _) (by unfold maxLen; omega) (by omega) ?_))
      intro v7 w7 o7 g7 a7
      have S7 := Lib.hid ((S5.out.rownew (ow_at 5 1 0 #[] rfl rfl (by decide)) ((Kp.refl [] _).alloc _) (fun g hg => by simp [Value.ownBlock] at hg; omega)).grow (l1 := []) o7 (by simpa using g7) (by simpa using a7))
      obtain ⟨g, c7, rfl, hc1, hc2⟩ := ow_some o7 (by omega)
      have S7' := S7.out
      simp only [List.nil_append] at S7'
      have S8 := Lib.hid S7'
      clear o7 g7 a7 S7 S7' S5 S3 S1
      go_wp2
      generalize w2.heap.size = g8 at *
      generalize w4.heap.size = g10 at *
      go_loopw [13] (fun t wr => ∃ i : Nat, i ≤ 4 ∧ t = .int .i64 i ∧ Held w wr [rowR 5 1 (.slice (some ⟨g, 0, none⟩) b.length c7) b.length (bv (lpart b k (le4 X) i)), blkR g10 43 z4, blkR g8 43 z4, rowR 5 1 (.slice (some ⟨gx, 0, none⟩) (b.length + 2) cx) (b.length + 2) (bv (b ++ [165, 90]))]) (fun t _ => 4 - (intOf t).toNat)
      case atStart => exact ⟨0, by omega, rfl, by rw [lpart_zero]; exact S8.out⟩
      case round =>
        obtain ⟨i, hi4, rfl, S⟩ := hrel
        by_cases hlt : i < 4
        · have o := S.at_ (l1 := [])
          have hfz := o.frozenAt (k + i)
          have hlw := ow_lt o (g := g) rfl
          have hcx := o.cellAt (k + i) (by omega)
          rw [List.getElem?_eq_getElem (by have := o.1; omega)] at hcx
          generalize ((bv (lpart b k (le4 X) i))[k + i]'_) = u0 at hcx
          have h8 := (S.at_ (l1 := [_, _])).cell i
          have h8' : wr.cell? ⟨g8, i, none⟩ = some (.int .u8 (((le4 X)[i]'(by simpa [le4] using hlt)).toNat : Int)) := h8.trans (Hg4.out i hlt)
          have hnx := lpart_next (b := b) (p := le4 X) (k := k) (i := i) (by omega) (by simpa [le4] using hlt)
          have hst := (o.stored (g := g) (k + i) (.int .u8 (((le4 X)[i]'(by simpa [le4] using hlt)).toNat : Int))).1
          rw [bv_set, hnx] at hst
          have hq := ((le4 X)[i]'(by simpa [le4] using hlt)).toNat_lt
          have Hst : Hid (Ow (wr.setCell ⟨g, k + i, none⟩ (.int .u8 (((le4 X)[i]'(by simpa [le4] using hlt)).toNat : Int))) 5 1 (.slice (some ⟨g, 0, none⟩) b.length c7) b.length (bv (lpart b k (le4 X) (i + 1)))) := Lib.hid hst
          clear hst hnx h8
          generalize ((le4 X)[i]'(by simpa [le4] using hlt)).toNat = q at *
          have hd : decide ((i : Int) < 4) = true := by simpa using (by omega : (i : Int) < 4)
          have hidx : ((k : Int) + (i : Int)).toNat = k + i := by omega
          have S' := Lib.hid S
          clear S o
          go_wp2
          go_roundw
          case rel => exact ⟨i + 1, by omega, by go_num, S'.out.rowset (l1 := []) Hst.out ((Kp.refl [g] wr).setCell (.inl (by simp)) _)⟩
          case measure => simp [intOf]; omega
        · obtain rfl : i = 4 := by omega
          have o := S.at_ (l1 := [])
          have Kr := Lib.hid S.k
          have Hs1 : Hid (∀ (W : World) (g' : Nat), g' = W.heap.size → Kp [] wr W → Calls Try.prog 14 #[.slice (some ⟨g', 0, none⟩) 1 1] (W.alloc (.cells #[.slice (some ⟨g, 0, none⟩) b.length c7] 22)) fun e w' => e = .returned (.int .u32 (x : Int)) ∧ W.alloc (.cells #[.slice (some ⟨g, 0, none⟩) b.length c7] 22) = w') := Lib.hid (fun W g' hg kk => by
            have := Sum_any _ _ _ (txs1 22 hg (rd_old (Rd.of_own o) kk)) (by simp)
            rw [show ([lpart b k (le4 X) 4].flatten) = lpart b k (le4 X) 4 from by simp, Hcrc.out] at this
            exact this)
          clear S o S8 hk4 S4 S2
          go_wp2_with (first
            | (go_at_call 14; ((with_reducible refine (Hs1.out _ _ (by simp) (Kp.refl _ _)).mono ?_); rintro e w' ⟨rfl, rfl⟩))
            | (go_at_call 12; ((with_reducible refine (works_true _).mono ?_); rintro e w9 ⟨rfl, k9⟩)))
          go_ret
          exact ⟨rfl, (Kr.out.alloc _).trans k9 (by simp)⟩
end Go.Proofs.Ytgldgkdnnimglaa
