/- Several texts in one: ShaH, RshB, RshC, SigE, SigF, SigG, SigH, SigI. -/
import Derived.BigQuiet
import Derived.Test.YtapboamjpilckaaDoorP5
/- Block of the reference. -/
namespace Go.Proofs.YtapboamjpilckaaDoor
open Go.RowKit
def dsRA : List Nat := [7, 26, 27, 28, 29, 30, 31, 32, 33, 34, 35, 36, 37, 38, 39, 40, 41, 42, 43, 44]
def dsR1 : List Nat := [6, 7, 22, 23, 24, 25, 26, 27, 28, 29, 30, 31, 32, 33, 34, 35, 36, 37, 38, 39, 40, 41, 42, 43, 44]
def dsR2 : List Nat := [8, 9, 10, 45, 46, 47, 48, 49, 50, 51, 52, 53, 54, 55, 56, 57, 58, 59, 60, 61, 62, 63, 64, 65, 66, 67, 68, 69, 70, 71, 72, 73, 74, 75, 76, 77, 78, 79, 80, 81, 82, 83, 84, 85, 86, 87, 88, 89, 90, 91, 92, 93, 94, 95, 96, 97]
def dsR3 : List Nat := [11, 12, 13, 14, 15, 16, 17, 18, 19, 20, 21, 114, 115, 116, 117, 118, 119, 120, 121, 122, 123, 124, 125, 126, 127, 128, 129, 130, 131, 132, 133, 134, 135, 136, 137, 138, 139, 140, 141, 142, 143, 144, 145, 146, 147, 148, 149, 150, 151, 152, 153, 154, 155, 156, 157, 158, 159, 160, 161, 162, 163, 164, 165, 166, 167, 168, 169, 170, 171, 172, 173, 174, 175]
set_option maxRecDepth 100000 in
set_option maxHeartbeats 2000000 in
theorem rblk_lA {Q : Exit → Act → World → Prop} {a : Act} {w0 w : World} (b : List UInt8) (n0 cb : Nat) (ad : Addr) (hn0 : 64 ≤ n0) (hbl : 64 ≤ b.length) (HB : ∀ V, Kp [] w0 V → ∀ j, j < 64 → V.cell? (ad.add j) = some (.int .u8 ((b.getD j 0).toNat : Int))) (k g5 : Nat) (hlt : k < 16) (l : List Nat) (hl : l.length = k) (R : List Res) (hsz : a.tmps.size = 209)
    (o1 : Sl a 1 (.slice (some ad) n0 cb)) (o5 : Sl a 5 (.pointer (some ⟨g5, 0, none⟩))) (o6 : Sl a 6 (.int .i64 (k : Int))) (o7 : Sl a 7 (.int .i64 ((0 : Nat) : Int)))
    (S : Held w0 w (blkR g5 144 (u32A (pz l)) :: R))
    (hend : ∀ (a' : Act) (W : World), Same a a' dsRA → Held w0 W (blkR g5 144 (u32A (pz (l ++ [num ((b.drop (4 * k)).take 4)]))) :: R) → Q .normal a' W) :
    (Code.block 2 (blockOf 2 Tryd.f86)).wp Tryd.prog Q a w := by
  have hpl : (pz l).length = 64 := pz_length (by omega)
  have h00 : (pz l).set k (num ((b.drop (4 * k)).take 0)) = pz l := by
    refine List.ext_getElem? fun j => ?_
    by_cases hj : j = k
    · subst hj
      rw [List.getElem?_set_self (by omega)]
      unfold pz
      rw [List.getElem?_append_right (by omega), hl, Nat.sub_self, List.getElem?_replicate, if_pos (by omega)]
      simp [num]
    · rw [List.getElem?_set_ne (fun h => hj h.symm)]
  refine wp_block ?_
  conv => arg 2; whnf
  refine wp_loop (fun a' w' => ∃ r : Nat, r ≤ 4 ∧ Same a a' dsRA ∧ Sl a' 7 (.int .i64 (r : Int)) ∧ Held w0 w' (blkR g5 144 (u32A ((pz l).set k (num ((b.drop (4 * k)).take r)))) :: R)) (fun a' _ => 4 - (intOf (a'.eval (.tmp 7))).toNat) ⟨0, by omega, Same.refl _ _, o7, by rw [h00]; exact S⟩ ?_
  clear o7 S
  rintro a1 w1 ⟨r, hr, T, o7, S⟩
  have o1 := T.keep 1 _ (by decide) o1
  have o5 := T.keep 5 _ (by decide) o5
  have o6 := T.keep 6 _ (by decide) o6
  have hz1 := T.size.trans hsz
  have eCtr := o7.eval (by rw [hz1]; decide)
  refine wp_seq (wp_seq (rblk_r6 r hz1 o7 (fun a2 hs2 o27 => ?_)))
  have hz2 := hs2.size.trans hz1
  have o1 := hs2.keep 1 _ (by decide) o1
  have o5 := hs2.keep 5 _ (by decide) o5
  have o6 := hs2.keep 6 _ (by decide) o6
  have o7 := hs2.keep 7 _ (by decide) o7
  have T := T.trans hs2
  by_cases hlt4 : r < 4
  · refine wp_cond_true ((o27.eval (by rw [hz2]; decide)).trans (by rw [decide_eq_true (by omega)])) (wp_skip ?_)
    refine wp_seq (wp_block ?_)
    have hq : 4 * k + r < b.length := by omega
    have hc := (b.getD (4 * k + r) 0).toNat_lt
    have hnum : num ((b.drop (4 * k)).take (r + 1)) = 256 * num ((b.drop (4 * k)).take r) + (b.getD (4 * k + r) 0).toNat := by
      have e : (b.drop (4 * k))[r]? = some (b.getD (4 * k + r) 0) := by
        rw [List.getElem?_drop, List.getD_eq_getElem?_getD, List.getElem?_eq_getElem hq]; rfl
      rw [List.take_add_one, e]
      exact num_snoc _ _
    have hlt2 : num ((b.drop (4 * k)).take r) < 16777216 := by
      have := num4_lt ((b.drop (4 * k)).take 3)
      have h3 : ∀ j, j ≤ 3 → num ((b.drop (4 * k)).take j) < 256 ^ j := by
        intro j
        induction j with
        | zero => intro _; simp [num]
        | succ j ih =>
          intro hj
          have hjl : j < (b.drop (4 * k)).length := by rw [List.length_drop]; omega
          have := ih (by omega)
          have hb := ((b.drop (4 * k))[j]).toNat_lt
          rw [List.take_add_one, List.getElem?_eq_getElem hjl, show (some (b.drop (4 * k))[j]).toList = [(b.drop (4 * k))[j]] from rfl, num_snoc, Nat.pow_succ]
          omega
      have := h3 r (by omega)
      have h4 : 256 ^ r ≤ 256 ^ 3 := Nat.pow_le_pow_right (by decide) (by omega)
      omega
    refine rblk_r8 w0 k r (4 * k + r) g5 _ _ n0 cb ad _ R hlt hlt4 (Lib.hid rfl) (by omega) (List.getElem?_set_self (by omega)) hc (Lib.hid (fun V kk => HB V kk _ (by omega))) hz2 o1 o5 o6 o7 S (fun a3 w2 hs3 S => ?_)
    have hz3 := hs3.size.trans hz2
    have o1 := hs3.keep 1 _ (by decide) o1
    have o5 := hs3.keep 5 _ (by decide) o5
    have o6 := hs3.keep 6 _ (by decide) o6
    have o7 := hs3.keep 7 _ (by decide) o7
    have o27 := hs3.keep 27 _ (by decide) o27
    have T := T.trans hs3
    rw [List.set_set, show (num ((b.drop (4 * k)).take r) * 256 + (b.getD (4 * k + r) 0).toNat) % 4294967296 = num ((b.drop (4 * k)).take (r + 1)) from by rw [hnum]; omega] at S
    refine rblk_r7 r hlt4 hz3 o7 (fun a4 hs4 o7 => ?_)
    have hz4 := hs4.size.trans hz3
    have o1 := hs4.keep 1 _ (by decide) o1
    have o5 := hs4.keep 5 _ (by decide) o5
    have o6 := hs4.keep 6 _ (by decide) o6
    have o27 := hs4.keep 27 _ (by decide) o27
    have T := T.trans hs4
    refine ⟨⟨r + 1, by omega, T.more (by decide +kernel), o7, S⟩, ?_⟩
    show 4 - (intOf (a4.eval (.tmp 7))).toNat < 4 - (intOf (a1.eval (.tmp 7))).toNat
    rw [eCtr, o7.eval (by rw [hz4]; decide)]
    simp [intOf]; omega
  · obtain rfl : r = 4 := by omega
    refine wp_cond_false ((o27.eval (by rw [hz2]; decide)).trans (by rw [decide_eq_false (by omega)])) (wp_exit ?_)
    have e : (pz l).set k (num ((b.drop (4 * k)).take 4)) = pz (l ++ [num ((b.drop (4 * k)).take 4)]) := by rw [← pz_next (by omega), hl]
    rw [e] at S
    exact hend _ _ (T.more (by decide +kernel)) S
set_option maxRecDepth 100000 in
set_option maxHeartbeats 2000000 in
theorem rblk_l1 {Q : Exit → Act → World → Prop} {a : Act} {w0 w : World} (b : List UInt8) (n0 cb : Nat) (ad : Addr) (hn0 : 64 ≤ n0) (hbl : 64 ≤ b.length) (HB : ∀ V, Kp [] w0 V → ∀ j, j < 64 → V.cell? (ad.add j) = some (.int .u8 ((b.getD j 0).toNat : Int))) (g5 : Nat) (R : List Res) (hsz : a.tmps.size = 209)
    (o1 : Sl a 1 (.slice (some ad) n0 cb)) (o5 : Sl a 5 (.pointer (some ⟨g5, 0, none⟩))) (o6 : Sl a 6 (.int .i64 ((0 : Nat) : Int)))
    (S : Held w0 w (blkR g5 144 (u32A (List.replicate 64 0)) :: R))
    (hend : ∀ (a' : Act) (W : World), Same a a' dsR1 → Held w0 W (blkR g5 144 (u32A (pz (wsN b 16))) :: R) → Q .normal a' W) :
    (Code.block 0 (blockOf 0 Tryd.f86)).wp Tryd.prog Q a w := by
  refine wp_block ?_
  conv => arg 2; whnf
  refine wp_loop (fun a' w' => ∃ k : Nat, k ≤ 16 ∧ Same a a' dsR1 ∧ Sl a' 6 (.int .i64 (k : Int)) ∧ Held w0 w' (blkR g5 144 (u32A (pz (wsN b k))) :: R)) (fun a' _ => 16 - (intOf (a'.eval (.tmp 6))).toNat) ⟨0, by omega, Same.refl _ _, o6, S⟩ ?_
  clear o6 S
  rintro a1 w1 ⟨k, hk, T, o6, S⟩
  have o1 := T.keep 1 _ (by decide) o1
  have o5 := T.keep 5 _ (by decide) o5
  have hz1 := T.size.trans hsz
  have eCtr := o6.eval (by rw [hz1]; decide)
  refine wp_seq (wp_seq (rblk_r3 k hz1 o6 (fun a2 hs2 o23 => ?_)))
  have hz2 := hs2.size.trans hz1
  have o1 := hs2.keep 1 _ (by decide) o1
  have o5 := hs2.keep 5 _ (by decide) o5
  have o6 := hs2.keep 6 _ (by decide) o6
  have T := T.trans hs2
  by_cases hlt : k < 16
  · refine wp_cond_true ((o23.eval (by rw [hz2]; decide)).trans (by rw [decide_eq_true (by omega)])) (wp_skip ?_)
    refine wp_seq (wp_block ?_)
    refine wp_seq (rblk_r5 hz2 (fun a3 hs3 o7 => ?_))
    have hz3 := hs3.size.trans hz2
    have o1 := hs3.keep 1 _ (by decide) o1
    have o5 := hs3.keep 5 _ (by decide) o5
    have o6 := hs3.keep 6 _ (by decide) o6
    have o23 := hs3.keep 23 _ (by decide) o23
    have T := T.trans hs3
    refine rblk_lA b n0 cb ad hn0 hbl HB k g5 hlt _ (wsN_length b k) R hz3 o1 o5 o6 o7 S (fun a4 w2 hs4 S => ?_)
    have hz4 := hs4.size.trans hz3
    have o1 := hs4.keep 1 _ (by decide) o1
    have o5 := hs4.keep 5 _ (by decide) o5
    have o6 := hs4.keep 6 _ (by decide) o6
    have o23 := hs4.keep 23 _ (by decide) o23
    have T := T.trans hs4
    rw [← wsN_next16 b hlt] at S
    refine rblk_r4 k hlt hz4 o6 (fun a5 hs5 o6 => ?_)
    have hz5 := hs5.size.trans hz4
    have o1 := hs5.keep 1 _ (by decide) o1
    have o5 := hs5.keep 5 _ (by decide) o5
    have o23 := hs5.keep 23 _ (by decide) o23
    have T := T.trans hs5
    refine ⟨⟨k + 1, by omega, T.more (by decide +kernel), o6, S⟩, ?_⟩
    show 16 - (intOf (a5.eval (.tmp 6))).toNat < 16 - (intOf (a1.eval (.tmp 6))).toNat
    rw [eCtr, o6.eval (by rw [hz5]; decide)]
    simp [intOf]; omega
  · obtain rfl : k = 16 := by omega
    refine wp_cond_false ((o23.eval (by rw [hz2]; decide)).trans (by rw [decide_eq_false (by omega)])) (wp_exit ?_)
    exact hend _ _ (T.more (by decide +kernel)) S
set_option maxRecDepth 100000 in
set_option maxHeartbeats 2000000 in
theorem rblk_l2 {Q : Exit → Act → World → Prop} {a : Act} {w0 w : World} (b : List UInt8) (g5 : Nat) (R : List Res) (hsz : a.tmps.size = 209)
    (o5 : Sl a 5 (.pointer (some ⟨g5, 0, none⟩))) (o8 : Sl a 8 (.int .i64 ((16 : Nat) : Int)))
    (S : Held w0 w (blkR g5 144 (u32A (pz (wsN b 16))) :: R))
    (hend : ∀ (a' : Act) (W : World), Same a a' dsR2 → Held w0 W (blkR g5 144 (u32A (wsN b 64)) :: R) → Q .normal a' W) :
    (Code.block 4 (blockOf 4 Tryd.f86)).wp Tryd.prog Q a w := by
  refine wp_block ?_
  conv => arg 2; whnf
  refine wp_loop (fun a' w' => ∃ k : Nat, 16 ≤ k ∧ k ≤ 64 ∧ Same a a' dsR2 ∧ Sl a' 8 (.int .i64 (k : Int)) ∧ Held w0 w' (blkR g5 144 (u32A (pz (wsN b k))) :: R)) (fun a' _ => 64 - (intOf (a'.eval (.tmp 8))).toNat) ⟨16, by omega, by omega, Same.refl _ _, o8, S⟩ ?_
  clear o8 S
  rintro a1 w1 ⟨n, hn16, hn, T, o8, S⟩
  have o5 := T.keep 5 _ (by decide) o5
  have hz1 := T.size.trans hsz
  have eCtr := o8.eval (by rw [hz1]; decide)
  refine wp_seq (wp_seq (rblk_r10 n hz1 o8 (fun a2 hs2 o46 => ?_)))
  have hz2 := hs2.size.trans hz1
  have o5 := hs2.keep 5 _ (by decide) o5
  have o8 := hs2.keep 8 _ (by decide) o8
  have T := T.trans hs2
  by_cases hlt : n < 64
  · refine wp_cond_true ((o46.eval (by rw [hz2]; decide)).trans (by rw [decide_eq_true (by omega)])) (wp_skip ?_)
    obtain ⟨j, rfl⟩ : ∃ j, n = j + 16 := ⟨n - 16, by omega⟩
    have HWl := wsN_lt b (j + 16)
    have HWn := wsN_length b (j + 16)
    have Hnx := wsN_next48 b j
    generalize hl : wsN b (j + 16) = l at *
    have hpl : (pz l).length = 64 := pz_length (by omega)
    have HA : (pz l)[j]? = some (l.getD j 0) := pz_at (getD_at (by omega))
    have HC : (pz l)[j + 9]? = some (l.getD (j + 9) 0) := pz_at (getD_at (by omega))
    have HX : (pz l)[j + 1]? = some (l.getD (j + 1) 0) := pz_at (getD_at (by omega))
    have HY : (pz l)[j + 14]? = some (l.getD (j + 14) 0) := pz_at (getD_at (by omega))
    have HM : (pz l)[j + 16]? = some ((pz l).getD (j + 16) 0) := getD_at (by omega)
    have HXl := getD_lt HWl (j + 1)
    have HYl := getD_lt HWl (j + 14)
    have HE : ∀ x, (pz l).set (j + 16) x = pz (l ++ [x]) := fun x => by rw [← HWn]; exact pz_next (by omega) x
    generalize l.getD j 0 = v at *
    generalize l.getD (j + 9) 0 = c at *
    generalize l.getD (j + 1) 0 = x at *
    generalize l.getD (j + 14) 0 = y at *
    refine wp_seq (wp_block ?_)
    refine wp_seq (rblk_r12 j g5 x (pz l) (by omega) HX HXl (Lib.hid (fun V kk i x h => u32_cell ((S.at_ (l1 := [])).kp kk (by simp)) i x h)) hz2 o5 o8 (fun a3 W3 hs3 k3 o9 => ?_))
    have hz3 := hs3.size.trans hz2
    have o5 := hs3.keep 5 _ (by decide) o5
    have o8 := hs3.keep 8 _ (by decide) o8
    have o46 := hs3.keep 46 _ (by decide) o46
    have T := T.trans hs3
    have S := S.kp ((Kp.refl [] _).drew.trans k3 (by simp))
    refine wp_seq (rblk_r13 j g5 y (pz l) (by omega) HY HYl (Lib.hid (fun V kk i x h => u32_cell ((S.at_ (l1 := [])).kp kk (by simp)) i x h)) hz3 o5 o8 (fun a4 W4 hs4 k4 o10 => ?_))
    have hz4 := hs4.size.trans hz3
    have o5 := hs4.keep 5 _ (by decide) o5
    have o8 := hs4.keep 8 _ (by decide) o8
    have o46 := hs4.keep 46 _ (by decide) o46
    have o9 := hs4.keep 9 _ (by decide) o9
    have T := T.trans hs4
    have S := S.kp ((Kp.refl [] _).drew.trans k4 (by simp))
    refine rblk_r14 w0 j g5 _ _ v c _ (pz l) R (by omega) HA HC HM hz4 o5 o8 o9 o10 S (fun a5 W5 hs5 S => ?_)
    have hz5 := hs5.size.trans hz4
    have o5 := hs5.keep 5 _ (by decide) o5
    have o8 := hs5.keep 8 _ (by decide) o8
    have o46 := hs5.keep 46 _ (by decide) o46
    have o9 := hs5.keep 9 _ (by decide) o9
    have o10 := hs5.keep 10 _ (by decide) o10
    have T := T.trans hs5
    rw [HE] at S
    refine rblk_r11 (j + 16) hlt hz5 o8 (fun a6 hs6 o8 => ?_)
    have hz6 := hs6.size.trans hz5
    have o5 := hs6.keep 5 _ (by decide) o5
    have o46 := hs6.keep 46 _ (by decide) o46
    have o9 := hs6.keep 9 _ (by decide) o9
    have o10 := hs6.keep 10 _ (by decide) o10
    have T := T.trans hs6
    refine ⟨⟨j + 16 + 1, by omega, by omega, T.more (by decide +kernel), o8, ?_⟩, ?_⟩
    · rw [Hnx]
      exact S
    · show 64 - (intOf (a6.eval (.tmp 8))).toNat < 64 - (intOf (a1.eval (.tmp 8))).toNat
      rw [eCtr, o8.eval (by rw [hz6]; decide)]
      simp [intOf]; omega
  · obtain rfl : n = 64 := by omega
    refine wp_cond_false ((o46.eval (by rw [hz2]; decide)).trans (by rw [decide_eq_false (by omega)])) (wp_exit ?_)
    rw [pz_full (wsN_length b 64)] at S
    exact hend _ _ (T.more (by decide +kernel)) S
set_option maxRecDepth 100000 in
set_option maxHeartbeats 2000000 in
theorem rblk_l3 {Q : Exit → Act → World → Prop} {a : Act} {w0 w : World} (st ws : List Nat) (hst : Ws st) (hsl : st.length = 8) (hwl : ws.length = 64) (g5 : Nat) (R : List Res) (hsz : a.tmps.size = 209)
    (o5 : Sl a 5 (.pointer (some ⟨g5, 0, none⟩))) (o19 : Sl a 19 (.int .i64 ((0 : Nat) : Int))) (o11 : Sl a 11 (.int .u32 ((st.getD 0 0 : Nat) : Int))) (o12 : Sl a 12 (.int .u32 ((st.getD 1 0 : Nat) : Int))) (o13 : Sl a 13 (.int .u32 ((st.getD 2 0 : Nat) : Int))) (o14 : Sl a 14 (.int .u32 ((st.getD 3 0 : Nat) : Int))) (o15 : Sl a 15 (.int .u32 ((st.getD 4 0 : Nat) : Int))) (o16 : Sl a 16 (.int .u32 ((st.getD 5 0 : Nat) : Int))) (o17 : Sl a 17 (.int .u32 ((st.getD 6 0 : Nat) : Int))) (o18 : Sl a 18 (.int .u32 ((st.getD 7 0 : Nat) : Int)))
    (S : Held w0 w (blkR g5 144 (u32A ws) :: R))
    (hend : ∀ (a' : Act) (W : World), Same a a' dsR3 → Sl a' 11 (.int .u32 (((rnds st ws 64).getD 0 0 : Nat) : Int)) → Sl a' 12 (.int .u32 (((rnds st ws 64).getD 1 0 : Nat) : Int)) → Sl a' 13 (.int .u32 (((rnds st ws 64).getD 2 0 : Nat) : Int)) → Sl a' 14 (.int .u32 (((rnds st ws 64).getD 3 0 : Nat) : Int)) → Sl a' 15 (.int .u32 (((rnds st ws 64).getD 4 0 : Nat) : Int)) → Sl a' 16 (.int .u32 (((rnds st ws 64).getD 5 0 : Nat) : Int)) → Sl a' 17 (.int .u32 (((rnds st ws 64).getD 6 0 : Nat) : Int)) → Sl a' 18 (.int .u32 (((rnds st ws 64).getD 7 0 : Nat) : Int)) → Held w0 W (blkR g5 144 (u32A ws) :: R) → Q .normal a' W) :
    (Code.block 6 (blockOf 6 Tryd.f86)).wp Tryd.prog Q a w := by
  refine wp_block ?_
  conv => arg 2; whnf
  refine wp_loop (fun a' w' => ∃ k : Nat, k ≤ 64 ∧ Same a a' dsR3 ∧ Sl a' 19 (.int .i64 (k : Int)) ∧ (Sl a' 11 (.int .u32 (((rnds st ws k).getD 0 0 : Nat) : Int)) ∧ Sl a' 12 (.int .u32 (((rnds st ws k).getD 1 0 : Nat) : Int)) ∧ Sl a' 13 (.int .u32 (((rnds st ws k).getD 2 0 : Nat) : Int)) ∧ Sl a' 14 (.int .u32 (((rnds st ws k).getD 3 0 : Nat) : Int)) ∧ Sl a' 15 (.int .u32 (((rnds st ws k).getD 4 0 : Nat) : Int)) ∧ Sl a' 16 (.int .u32 (((rnds st ws k).getD 5 0 : Nat) : Int)) ∧ Sl a' 17 (.int .u32 (((rnds st ws k).getD 6 0 : Nat) : Int)) ∧ Sl a' 18 (.int .u32 (((rnds st ws k).getD 7 0 : Nat) : Int))) ∧ Held w0 w' (blkR g5 144 (u32A ws) :: R)) (fun a' _ => 64 - (intOf (a'.eval (.tmp 19))).toNat) ⟨0, by omega, Same.refl _ _, o19, ⟨o11, o12, o13, o14, o15, o16, o17, o18⟩, S⟩ ?_
  clear o19 S o11 o12 o13 o14 o15 o16 o17 o18
  rintro a1 w1 ⟨k, hk, T, o19, ⟨o11, o12, o13, o14, o15, o16, o17, o18⟩, S⟩
  have o5 := T.keep 5 _ (by decide) o5
  have hz1 := T.size.trans hsz
  have eCtr := o19.eval (by rw [hz1]; decide)
  refine wp_seq (wp_seq (rblk_r17 k hz1 o19 (fun a2 hs2 o115 => ?_)))
  have hz2 := hs2.size.trans hz1
  have o5 := hs2.keep 5 _ (by decide) o5
  have o11 := hs2.keep 11 _ (by decide) o11
  have o12 := hs2.keep 12 _ (by decide) o12
  have o13 := hs2.keep 13 _ (by decide) o13
  have o14 := hs2.keep 14 _ (by decide) o14
  have o15 := hs2.keep 15 _ (by decide) o15
  have o16 := hs2.keep 16 _ (by decide) o16
  have o17 := hs2.keep 17 _ (by decide) o17
  have o18 := hs2.keep 18 _ (by decide) o18
  have o19 := hs2.keep 19 _ (by decide) o19
  have T := T.trans hs2
  by_cases hlt : k < 64
  · refine wp_cond_true ((o115.eval (by rw [hz2]; decide)).trans (by rw [decide_eq_true (by omega)])) (wp_skip ?_)
    have hv := rnds_length st ws k
    have hvl := rnds_lt hst ws k
    have Hnext : rnds st ws (k + 1) = rnd (rnds st ws k) (kT.getD k 0) (ws.getD k 0) := rfl
    obtain ⟨v0, v1, v2, v3, v4, v5, v6, v7, hvv⟩ := list8 (hv.trans hsl)
    rw [hvv] at hvl Hnext o11 o12 o13 o14 o15 o16 o17 o18
    simp only [List.getD_cons_zero, List.getD_cons_succ] at o11 o12 o13 o14 o15 o16 o17 o18
    have HWt : ∀ W, Kp [] w1 W → ∀ V, Kp [] W V → V.cell? ⟨g5, k, none⟩ = some (.int .u32 ((ws.getD k 0 : Nat) : Int)) := fun W k1 V k2 => u32_cell ((S.at_ (l1 := [])).kp (k1.trans k2 (by simp)) (by simp)) k _ (getD_at (by rw [hwl]; exact hlt))
    have HK : ∀ V, Calls Tryd.prog 101 #[.int .i64 (k : Int)] V fun e w' => e = .returned (.int .u32 ((kT.getD k 0 : Nat) : Int)) ∧ Kp [] V w' := fun V => rk_any k hlt V
    generalize kT.getD k 0 = kk at *
    generalize ws.getD k 0 = wk at *
    refine wp_seq (wp_block ?_)
    refine wp_seq (rblk_r19 k g5 kk wk v4 v5 v6 v7 (hvl _ (by simp)) (hvl _ (by simp)) (hvl _ (by simp)) hlt (Lib.hid HK) (Lib.hid (HWt w1 (Kp.refl _ _))) hz2 o5 o15 o16 o17 o18 o19 (fun a3 W3 hs3 k3 o20 => ?_))
    have hz3 := hs3.size.trans hz2
    have o5 := hs3.keep 5 _ (by decide) o5
    have o11 := hs3.keep 11 _ (by decide) o11
    have o12 := hs3.keep 12 _ (by decide) o12
    have o13 := hs3.keep 13 _ (by decide) o13
    have o14 := hs3.keep 14 _ (by decide) o14
    have o15 := hs3.keep 15 _ (by decide) o15
    have o16 := hs3.keep 16 _ (by decide) o16
    have o17 := hs3.keep 17 _ (by decide) o17
    have o18 := hs3.keep 18 _ (by decide) o18
    have o19 := hs3.keep 19 _ (by decide) o19
    have o115 := hs3.keep 115 _ (by decide) o115
    have T := T.trans hs3
    have S := S.kp ((Kp.refl [] _).drew.trans k3 (by simp))
    refine wp_seq (rblk_r20 v0 v1 v2 (Lib.hid (hvl _ (by simp))) (Lib.hid (hvl _ (by simp))) (Lib.hid (hvl _ (by simp))) hz3 o11 o12 o13 (fun a4 W4 hs4 o21 k4 => ?_))
    have hz4 := hs4.size.trans hz3
    have o5 := hs4.keep 5 _ (by decide) o5
    have o11 := hs4.keep 11 _ (by decide) o11
    have o12 := hs4.keep 12 _ (by decide) o12
    have o13 := hs4.keep 13 _ (by decide) o13
    have o14 := hs4.keep 14 _ (by decide) o14
    have o15 := hs4.keep 15 _ (by decide) o15
    have o16 := hs4.keep 16 _ (by decide) o16
    have o17 := hs4.keep 17 _ (by decide) o17
    have o18 := hs4.keep 18 _ (by decide) o18
    have o19 := hs4.keep 19 _ (by decide) o19
    have o115 := hs4.keep 115 _ (by decide) o115
    have o20 := hs4.keep 20 _ (by decide) o20
    have T := T.trans hs4
    have S := S.kp k4
    refine wp_seq (rblk_r21 v4 v5 v6 hz4 o15 o16 o17 (fun a5 hs5 o16 o17 o18 => ?_))
    have hz5 := hs5.size.trans hz4
    have o5 := hs5.keep 5 _ (by decide) o5
    have o11 := hs5.keep 11 _ (by decide) o11
    have o12 := hs5.keep 12 _ (by decide) o12
    have o13 := hs5.keep 13 _ (by decide) o13
    have o14 := hs5.keep 14 _ (by decide) o14
    have o15 := hs5.keep 15 _ (by decide) o15
    have o19 := hs5.keep 19 _ (by decide) o19
    have o115 := hs5.keep 115 _ (by decide) o115
    have o20 := hs5.keep 20 _ (by decide) o20
    have o21 := hs5.keep 21 _ (by decide) o21
    have T := T.trans hs5
    refine wp_seq (rblk_r22 v3 _ hz5 o14 o20 (fun a6 hs6 o15 => ?_))
    have hz6 := hs6.size.trans hz5
    have o5 := hs6.keep 5 _ (by decide) o5
    have o11 := hs6.keep 11 _ (by decide) o11
    have o12 := hs6.keep 12 _ (by decide) o12
    have o13 := hs6.keep 13 _ (by decide) o13
    have o14 := hs6.keep 14 _ (by decide) o14
    have o16 := hs6.keep 16 _ (by decide) o16
    have o17 := hs6.keep 17 _ (by decide) o17
    have o18 := hs6.keep 18 _ (by decide) o18
    have o19 := hs6.keep 19 _ (by decide) o19
    have o115 := hs6.keep 115 _ (by decide) o115
    have o20 := hs6.keep 20 _ (by decide) o20
    have o21 := hs6.keep 21 _ (by decide) o21
    have T := T.trans hs6
    refine wp_seq (rblk_r23 v0 v1 v2 hz6 o11 o12 o13 (fun a7 hs7 o12 o13 o14 => ?_))
    have hz7 := hs7.size.trans hz6
    have o5 := hs7.keep 5 _ (by decide) o5
    have o11 := hs7.keep 11 _ (by decide) o11
    have o15 := hs7.keep 15 _ (by decide) o15
    have o16 := hs7.keep 16 _ (by decide) o16
    have o17 := hs7.keep 17 _ (by decide) o17
    have o18 := hs7.keep 18 _ (by decide) o18
    have o19 := hs7.keep 19 _ (by decide) o19
    have o115 := hs7.keep 115 _ (by decide) o115
    have o20 := hs7.keep 20 _ (by decide) o20
    have o21 := hs7.keep 21 _ (by decide) o21
    have T := T.trans hs7
    refine rblk_r24 _ _ hz7 o20 o21 (fun a8 hs8 o11 => ?_)
    have hz8 := hs8.size.trans hz7
    have o5 := hs8.keep 5 _ (by decide) o5
    have o12 := hs8.keep 12 _ (by decide) o12
    have o13 := hs8.keep 13 _ (by decide) o13
    have o14 := hs8.keep 14 _ (by decide) o14
    have o15 := hs8.keep 15 _ (by decide) o15
    have o16 := hs8.keep 16 _ (by decide) o16
    have o17 := hs8.keep 17 _ (by decide) o17
    have o18 := hs8.keep 18 _ (by decide) o18
    have o19 := hs8.keep 19 _ (by decide) o19
    have o115 := hs8.keep 115 _ (by decide) o115
    have o20 := hs8.keep 20 _ (by decide) o20
    have o21 := hs8.keep 21 _ (by decide) o21
    have T := T.trans hs8
    refine rblk_r18 k hlt hz8 o19 (fun a9 hs9 o19 => ?_)
    have hz9 := hs9.size.trans hz8
    have o5 := hs9.keep 5 _ (by decide) o5
    have o11 := hs9.keep 11 _ (by decide) o11
    have o12 := hs9.keep 12 _ (by decide) o12
    have o13 := hs9.keep 13 _ (by decide) o13
    have o14 := hs9.keep 14 _ (by decide) o14
    have o15 := hs9.keep 15 _ (by decide) o15
    have o16 := hs9.keep 16 _ (by decide) o16
    have o17 := hs9.keep 17 _ (by decide) o17
    have o18 := hs9.keep 18 _ (by decide) o18
    have o115 := hs9.keep 115 _ (by decide) o115
    have o20 := hs9.keep 20 _ (by decide) o20
    have o21 := hs9.keep 21 _ (by decide) o21
    have T := T.trans hs9
    refine ⟨⟨k + 1, by omega, T.more (by decide +kernel), o19, ?_, S⟩, ?_⟩
    · rw [Hnext]
      exact ⟨o11, o12, o13, o14, o15, o16, o17, o18⟩
    · show 64 - (intOf (a9.eval (.tmp 19))).toNat < 64 - (intOf (a1.eval (.tmp 19))).toNat
      rw [eCtr, o19.eval (by rw [hz9]; decide)]
      simp [intOf]; omega
  · obtain rfl : k = 64 := by omega
    refine wp_cond_false ((o115.eval (by rw [hz2]; decide)).trans (by rw [decide_eq_false (by omega)])) (wp_exit ?_)
    exact hend _ _ (T.more (by decide +kernel)) o11 o12 o13 o14 o15 o16 o17 o18 S
set_option maxRecDepth 100000 in
set_option maxHeartbeats 2000000 in
theorem rblock_any (st : List Nat) (hst : Ws st) (hsl : st.length = 8) (b : List UInt8) (hbl : b.length = 64) (v : Value) (w : World) (hv : Rd w 1 v 64 (bv b)) : Calls Tryd.prog 86 #[.agg (u32A st), v] w fun e w' => e = .returned (.agg (u32A (blkF st b))) ∧ Kp [] w w' := by
  obtain ⟨hl, A, cb, rfl, h1, h2, hA, hc⟩ := id hv
  rcases A with _ | ad
  · have := hA rfl; omega
  have HB : ∀ V, Kp [] w V → ∀ j, j < 64 → V.cell? (ad.add j) = some (.int .u8 ((b.getD j 0).toNat : Int)) := fun V kk j hj => by
    obtain ⟨_, A', c', he, _, _, _, hc'⟩ := rd_old hv kk
    cases he
    refine hc' ad rfl j _ ?_
    rw [bv_get, List.getD_eq_getElem?_getD, List.getElem?_eq_getElem (by omega)]
    rfl
  refine calls_fr Tryd.func86 rfl 209 rfl (fun a0 hsz hdf hAr => ?_)
  have hz0 : a0.tmps.size = 209 := hsz
  have o0 := hAr 0 _ rfl
  have o1 := hAr 1 _ rfl
  have D := hdf
  refine wp_seq (rblk_r0 w st [] (Held.start w) hz0 o0 (fun a1 w1 hs1 h => ?_))
  have hz1 := hs1.size.trans hz0
  have o0 := hs1.keep 0 _ (by decide) o0
  have o1 := hs1.keep 1 _ (by decide) o1
  have D := hs1.defers.trans D
  obtain ⟨g2, g4, o2, o4, S⟩ := h
  refine wp_seq (rblk_r1 w _ S hz1 (fun a2 w2 hs2 h => ?_))
  have hz2 := hs2.size.trans hz1
  have o1 := hs2.keep 1 _ (by decide) o1
  have o2 := hs2.keep 2 _ (by decide) o2
  have o4 := hs2.keep 4 _ (by decide) o4
  have D := hs2.defers.trans D
  obtain ⟨g5, o5, S⟩ := h
  refine wp_seq (wp_seq (rblk_r2 hz2 (fun a3 hs3 o6 => ?_)))
  have hz3 := hs3.size.trans hz2
  have o1 := hs3.keep 1 _ (by decide) o1
  have o2 := hs3.keep 2 _ (by decide) o2
  have o4 := hs3.keep 4 _ (by decide) o4
  have o5 := hs3.keep 5 _ (by decide) o5
  have D := hs3.defers.trans D
  refine rblk_l1 b 64 cb ad (by omega) (by omega) HB g5 _ hz3 o1 o5 o6 S (fun a4 w4 hs4 S => ?_)
  have hz4 := hs4.size.trans hz3
  have o2 := hs4.keep 2 _ (by decide) o2
  have o4 := hs4.keep 4 _ (by decide) o4
  have o5 := hs4.keep 5 _ (by decide) o5
  have D := hs4.defers.trans D
  refine wp_seq (wp_seq (rblk_r9 hz4 (fun a5 hs5 o8 => ?_)))
  have hz5 := hs5.size.trans hz4
  have o2 := hs5.keep 2 _ (by decide) o2
  have o4 := hs5.keep 4 _ (by decide) o4
  have o5 := hs5.keep 5 _ (by decide) o5
  have D := hs5.defers.trans D
  refine rblk_l2 b g5 _ hz5 o5 o8 S (fun a6 w6 hs6 S => ?_)
  have hz6 := hs6.size.trans hz5
  have o2 := hs6.keep 2 _ (by decide) o2
  have o4 := hs6.keep 4 _ (by decide) o4
  have o5 := hs6.keep 5 _ (by decide) o5
  have D := hs6.defers.trans D
  obtain ⟨s0, s1, s2, s3, s4, s5, s6, s7, hss⟩ := list8 hsl
  have hst' := hst
  rw [hss] at S
  refine wp_seq (rblk_r15 g2 s0 s1 s2 s3 s4 s5 s6 s7 (Lib.hid (fun V kk i x h => u32_cell ((S.at_ (l1 := [_, _])).kp kk (by simp)) i x h)) hz6 o2 (fun a7 w7 hs7 k7 o11 o12 o13 o14 o15 o16 o17 o18 => ?_))
  have hz7 := hs7.size.trans hz6
  have o2 := hs7.keep 2 _ (by decide) o2
  have o4 := hs7.keep 4 _ (by decide) o4
  have o5 := hs7.keep 5 _ (by decide) o5
  have D := hs7.defers.trans D
  have S := S.kp ((Kp.refl [] _).drew.trans k7 (by simp))
  refine wp_seq (wp_seq (rblk_r16 hz7 (fun a8 hs8 o19 => ?_)))
  have hz8 := hs8.size.trans hz7
  have o2 := hs8.keep 2 _ (by decide) o2
  have o4 := hs8.keep 4 _ (by decide) o4
  have o5 := hs8.keep 5 _ (by decide) o5
  have o11 := hs8.keep 11 _ (by decide) o11
  have o12 := hs8.keep 12 _ (by decide) o12
  have o13 := hs8.keep 13 _ (by decide) o13
  have o14 := hs8.keep 14 _ (by decide) o14
  have o15 := hs8.keep 15 _ (by decide) o15
  have o16 := hs8.keep 16 _ (by decide) o16
  have o17 := hs8.keep 17 _ (by decide) o17
  have o18 := hs8.keep 18 _ (by decide) o18
  have D := hs8.defers.trans D
  rw [← hss] at S
  refine rblk_l3 st (wsN b 64) hst hsl (wsN_length b 64) g5 _ hz8 o5 o19 (by rw [hss]; exact o11) (by rw [hss]; exact o12) (by rw [hss]; exact o13) (by rw [hss]; exact o14) (by rw [hss]; exact o15) (by rw [hss]; exact o16) (by rw [hss]; exact o17) (by rw [hss]; exact o18) S (fun a9 w9 hs9 o11 o12 o13 o14 o15 o16 o17 o18 S => ?_)
  have hz9 := hs9.size.trans hz8
  have o2 := hs9.keep 2 _ (by decide) o2
  have o4 := hs9.keep 4 _ (by decide) o4
  have o5 := hs9.keep 5 _ (by decide) o5
  have D := hs9.defers.trans D
  have hrl := (rnds_length st (wsN b 64) 64).trans hsl
  have hblk : blkF st b = List.zipWith (fun x y => (x + y) % 4294967296) (rnds st (wsN b 64) 64) st := rfl
  obtain ⟨v0, v1, v2, v3, v4, v5, v6, v7, hvv⟩ := list8 hrl
  rw [hvv] at o11 o12 o13 o14 o15 o16 o17 o18 hblk
  simp only [List.getD_cons_zero, List.getD_cons_succ] at o11 o12 o13 o14 o15 o16 o17 o18
  rw [hss] at S hblk
  have S := S.perm (List.Perm.swap _ _ _)
  refine wp_seq (rblk_r25 w g2 g4 s0 s1 s2 s3 s4 s5 s6 s7 v0 v1 v2 v3 v4 v5 v6 v7 (List.replicate 8 0) rfl [_] _ S hz9 o2 o4 o11 o12 o13 o14 o15 o16 o17 o18 (fun a10 w10 hs10 S => ?_))
  have hz10 := hs10.size.trans hz9
  have o2 := hs10.keep 2 _ (by decide) o2
  have o4 := hs10.keep 4 _ (by decide) o4
  have o5 := hs10.keep 5 _ (by decide) o5
  have o11 := hs10.keep 11 _ (by decide) o11
  have o12 := hs10.keep 12 _ (by decide) o12
  have o13 := hs10.keep 13 _ (by decide) o13
  have o14 := hs10.keep 14 _ (by decide) o14
  have o15 := hs10.keep 15 _ (by decide) o15
  have o16 := hs10.keep 16 _ (by decide) o16
  have o17 := hs10.keep 17 _ (by decide) o17
  have o18 := hs10.keep 18 _ (by decide) o18
  have D := hs10.defers.trans D
  have hfin : [(s0 + v0) % 4294967296, (s1 + v1) % 4294967296, (s2 + v2) % 4294967296, (s3 + v3) % 4294967296, (s4 + v4) % 4294967296, (s5 + v5) % 4294967296, (s6 + v6) % 4294967296, (s7 + v7) % 4294967296] = blkF st b := by
    rw [hss, hblk]
    simp only [List.zipWith_cons_cons, List.zipWith_nil_left, Nat.add_comm]
  rw [hfin] at S
  refine wp_ret (bodyPost_ret (results_cell1 (by rfl) (o4.eval (by rw [hz10]; decide)) (S.at_ (l1 := [])) Tryd.underlying111 rfl (by rw [u32A_size, blkF_length, hsl]; exact Tryd.info8w)) D ⟨rfl, S.k⟩)
end Go.Proofs.YtapboamjpilckaaDoor
/- The reference's Take, End, Sum. -/
namespace Go.Proofs.YtapboamjpilckaaDoor
open Go.RowKit
-- REG rtk0
set_option maxRecDepth 100000 in
set_option maxHeartbeats 2000000 in
theorem rtk_r0 {Q : Exit → Act → World → Prop} {a : Act} {w : World} (w0 : World) (st : List Nat) (n : Nat) (v : Value) (hs : st.length = 8) (hv : v.oneCell' = true) (L : List Res) (S : Held w0 w L) (hsz : a.tmps.size = 31) (o0 : Sl a 0 (.agg (undA st n v)))
    (hend : ∀ (a' : Act) (W : World), Same a a' [2, 4] → (∃ g2 g4, Sl a' 2 (.pointer (some ⟨g2, 0, none⟩)) ∧ Sl a' 4 (.pointer (some ⟨g4, 0, none⟩)) ∧ Held w0 W (blkR g4 113 (undA (List.replicate 8 0) 0 (.slice none 0 0)) :: blkR g2 113 (undA st n v) :: L)) → Q .normal a' W) : (Code.region 0 (opsOf 0 Tryd.f67).toArray false).wp Tryd.prog Q a w := by
  refine wp_region_lit (l := (opsOf 0 Tryd.f67)) ?_
  conv => arg 4; whnf
  unfold Sl at o0
  have S0 := Lib.hid ((S.newBlk 113 (undA st n v)).newBlk 113 (undA (List.replicate 8 0) 0 (.slice none 0 0)))
  simp only [World.size_alloc] at S0
  generalize hca : undA st n v = ca at *
  go_wp2
  try simp only [Act.put]
  exact hend _ _ (by repeat (first | (with_reducible refine same_set (by decide) ?_) | (with_reducible exact same_nil))) (⟨w.heap.size, w.heap.size + 1, (by unfold Sl; simp [hsz]), (by unfold Sl; simp [hsz]), S0.out⟩)
-- END rtk0
-- REG rtk1
set_option maxRecDepth 100000 in
set_option maxHeartbeats 2000000 in
theorem rtk_r1 {Q : Exit → Act → World → Prop} {a : Act} {w : World} (w0 : World) (g2 n : Nat) (st : List Nat) (hs : st.length = 8) (Ar Ax : Option Addr) (cr cx : Nat) (r l : List UInt8) (hl : r.length + l.length ≤ 140737488355328) (L : List Res) (HRr : ∀ V L', Held w0 V (L' ++ blkR g2 113 (undA st n (.slice Ar r.length cr)) :: L) → Rd V 1 (.slice Ar r.length cr) r.length (bv r)) (HRx : ∀ V L', Held w0 V (L' ++ blkR g2 113 (undA st n (.slice Ar r.length cr)) :: L) → Rd V 1 (.slice Ax l.length cx) l.length (bv l)) (S : Held w0 w (blkR g2 113 (undA st n (.slice Ar r.length cr)) :: L)) (hsz : a.tmps.size = 31) (o1 : Sl a 1 (.slice Ax l.length cx)) (o2 : Sl a 2 (.pointer (some ⟨g2, 0, none⟩)))
    (hend : ∀ (a' : Act) (W : World), Same a a' [6, 7, 8, 9, 10, 5] → (∃ A c, Sl a' 5 (.slice A (r ++ l).length c) ∧ Held w0 W (rowR 5 1 (.slice A (r ++ l).length c) (r ++ l).length (bv (r ++ l)) :: blkR g2 113 (undA st n (.slice Ar r.length cr)) :: L)) → Q .normal a' W) : (Code.region 1 (opsOf 1 Tryd.f67).toArray false).wp Tryd.prog Q a w := by
  refine wp_region_lit (l := (opsOf 1 Tryd.f67)) ?_
  conv => arg 4; whnf
  unfold Sl at o1 o2
  have c9 : w.cell? ⟨g2, 9, none⟩ = some (.slice Ar r.length cr) := by rw [(S.at_ (l1 := [])).cell]; exact undA_rest hs
  have S := Lib.hid S
  have HRr := Lib.hid HRr
  have HRx := Lib.hid HRx
  have Hl := Lib.hid hl
  clear hl hs
  obtain ⟨nr, hnr⟩ : ∃ nr, r.length = nr := ⟨_, rfl⟩
  obtain ⟨nl, hnl⟩ : ∃ nl, l.length = nl := ⟨_, rfl⟩
  have Hnr := Lib.hid hnr
  have Hnl := Lib.hid hnl
  rw [hnr] at c9
  rw [hnl] at o1
  clear hnr hnl
  go_wp2_with (at_builtin; first
    | (refine app_new rfl (.const (.slice none 0 0)) (.tmp 7) rfl rfl S.out (.slice Ar nr cr) r (by simp [Act.eval, hsz]) (by rw [← Hnr.out]; exact HRr.out w [] S.out) (by have := Hl.out; omega) ?_; intro v1 w1 S1; have S1 := Lib.hid S1; obtain ⟨A1, c1, hv1, _, _⟩ := ow_form (S1.out.at_ (l1 := [])); subst hv1)
    | (refine app_held [] rfl (.tmp 8) (.tmp 9) rfl (.slice A1 r.length c1) r (by simp [Act.eval, hsz]) S1.out (.slice Ax nl cx) l (by simp [Act.eval, hsz]) (by rw [← Hnl.out]; exact HRx.out w1 [_] S1.out) Hl.out ?_; intro v2 w2 S2; have S2 := Lib.hid S2; obtain ⟨A2, c2, hv2, _, _⟩ := ow_form (S2.out.at_ (l1 := [])); subst hv2))
  try simp only [Act.put]
  exact hend _ _ (by repeat (first | (with_reducible refine same_set (by decide) ?_) | (with_reducible exact same_nil))) (⟨A2, c2, (by unfold Sl; simp [hsz]), S2.out⟩)
-- END rtk1
-- REG rtk2
set_option maxRecDepth 100000 in
set_option maxHeartbeats 2000000 in
theorem rtk_r2 {Q : Exit → Act → World → Prop} {a : Act} {w : World} (A : Option Addr) (n c : Nat) (hsz : a.tmps.size = 31) (o5 : Sl a 5 (.slice A n c))
    (hend : ∀ (a' : Act), Same a a' [11, 12, 13] → Sl a' 13 (.bool (decide (64 ≤ n))) → Q .normal a' (w)) : (Code.region 2 (opsOf 2 Tryd.f67).toArray false).wp Tryd.prog Q a w := by
  refine wp_region_lit (l := (opsOf 2 Tryd.f67)) ?_
  conv => arg 4; whnf
  unfold Sl at o5
  go_wp2_with fail
  try simp only [Act.put]
  exact hend _ (by repeat (first | (with_reducible refine same_set (by decide) ?_) | (with_reducible exact same_nil))) (by unfold Sl; first | (simp [hsz]; done) | (simp [hsz]; omega))
-- END rtk2
-- REG rtk4
set_option maxRecDepth 100000 in
set_option maxHeartbeats 2000000 in
theorem rtk_r4 {Q : Exit → Act → World → Prop} {a : Act} {w : World} (A A1 : Option Addr) (n m c c1 : Nat) (hr : ∀ w, (Instr.sliceAt 22 (.slice A n c) (some (.int .i64 (64 : Int))) none none).run Tryd.prog w = .ok (.slice A1 m c1) w) (hsz : a.tmps.size = 31) (o5 : Sl a 5 (.slice A n c))
    (hend : ∀ (a' : Act), Same a a' [20, 21, 5] → Sl a' 5 (.slice A1 m c1) → Q .normal a' (w)) : (Code.region 4 (opsOf 4 Tryd.f67).toArray false).wp Tryd.prog Q a w := by
  refine wp_region_lit (l := (opsOf 4 Tryd.f67)) ?_
  conv => arg 4; whnf
  unfold Sl at o5
  go_wp2_with fail
  try simp only [Act.put]
  exact hend _ (by repeat (first | (with_reducible refine same_set (by decide) ?_) | (with_reducible exact same_nil))) (by unfold Sl; first | (simp [hsz]; done) | (simp [hsz]; omega))
-- END rtk4
-- REG rtk5
set_option maxRecDepth 100000 in
set_option maxHeartbeats 2000000 in
theorem rtk_r5 {Q : Exit → Act → World → Prop} {a : Act} {w : World} (w0 : World) (g2 n k c : Nat) (A : Option Addr) (st : List Nat) (v : Value) (hs : st.length = 8) (hn : n + k < 9223372036854775808) (L : List Res) (S : Held w0 w (blkR g2 113 (undA st n v) :: L)) (hsz : a.tmps.size = 31) (o1 : Sl a 1 (.slice A k c)) (o2 : Sl a 2 (.pointer (some ⟨g2, 0, none⟩)))
    (hend : ∀ (a' : Act) (W : World), Same a a' [22, 23, 24, 25, 26, 27] → (Held w0 W (blkR g2 113 (undA st (n + k) v) :: L)) → Q .normal a' W) : (Code.region 5 (opsOf 5 Tryd.f67).toArray false).wp Tryd.prog Q a w := by
  refine wp_region_lit (l := (opsOf 5 Tryd.f67)) ?_
  conv => arg 4; whnf
  unfold Sl at o1 o2
  have c1 : w.cell? ⟨g2, 8, none⟩ = some (.int .i64 (n : Int)) := by rw [(S.at_ (l1 := [])).cell]; exact undA_len hs
  have c2 := (S.at_ (l1 := [])).frozen 8
  have S2 : Hid (Held w0 (w.setCell ⟨g2, 8, none⟩ (.int .i64 ((n + k : Nat) : Int))) _) := Lib.hid (S.set (l1 := []) 8 (.int .i64 ((n + k : Nat) : Int)))
  rw [undA_setLen hs] at S2
  have hw := Lib.hid (show wrap64 ((n : Int) + (k : Int)) = ((n + k : Nat) : Int) from by unfold wrap64; omega)
  clear S hs hn
  go_wp2
  rw [hw.out]
  try simp only [Act.put]
  exact hend _ _ (by repeat (first | (with_reducible refine same_set (by decide) ?_) | (with_reducible exact same_nil))) (S2.out)
-- END rtk5
-- REG rtk6
set_option maxRecDepth 100000 in
set_option maxHeartbeats 2000000 in
theorem rtk_r6 {Q : Exit → Act → World → Prop} {a : Act} {w : World} (w0 : World) (g2 n m c : Nat) (A : Option Addr) (st : List Nat) (v : Value) (hs : st.length = 8) (L : List Res) (S : Held w0 w (blkR g2 113 (undA st n v) :: L)) (hsz : a.tmps.size = 31) (o2 : Sl a 2 (.pointer (some ⟨g2, 0, none⟩))) (o5 : Sl a 5 (.slice A m c))
    (hend : ∀ (a' : Act) (W : World), Same a a' [28, 29] → (Held w0 W (blkR g2 113 (undA st n (.slice A m c)) :: L)) → Q .normal a' W) : (Code.region 6 (opsOf 6 Tryd.f67).toArray false).wp Tryd.prog Q a w := by
  refine wp_region_lit (l := (opsOf 6 Tryd.f67)) ?_
  conv => arg 4; whnf
  unfold Sl at o2 o5
  have c1 : w.cell? ⟨g2, 9, none⟩ = some v := by rw [(S.at_ (l1 := [])).cell]; exact undA_rest hs
  have c2 := (S.at_ (l1 := [])).frozen 9
  have S2 : Hid (Held w0 (w.setCell ⟨g2, 9, none⟩ (.slice A m c)) _) := Lib.hid (S.set (l1 := []) 9 (.slice A m c))
  rw [undA_setRest hs] at S2
  clear S hs
  go_wp2
  try simp only [Act.put]
  exact hend _ _ (by repeat (first | (with_reducible refine same_set (by decide) ?_) | (with_reducible exact same_nil))) (S2.out)
-- END rtk6
-- REG rtk7
set_option maxRecDepth 100000 in
set_option maxHeartbeats 2000000 in
theorem rtk_r7 {Q : Exit → Act → World → Prop} {a : Act} {w : World} (w0 : World) (g2 g4 n m c : Nat) (A : Option Addr) (st : List Nat) (hs : st.length = 8) (L1 L2 : List Res) (S : Held w0 w (blkR g2 113 (undA st n (.slice A m c)) :: (L1 ++ blkR g4 113 (undA (List.replicate 8 0) 0 (.slice none 0 0)) :: L2))) (hsz : a.tmps.size = 31) (o2 : Sl a 2 (.pointer (some ⟨g2, 0, none⟩))) (o4 : Sl a 4 (.pointer (some ⟨g4, 0, none⟩)))
    (hend : ∀ (a' : Act) (W : World), Same a a' [30] → (Held w0 W (blkR g2 113 (undA st n (.slice A m c)) :: (L1 ++ blkR g4 113 (undA st n (.slice A m c)) :: L2))) → Q .normal a' W) : (Code.region 7 (opsOf 7 Tryd.f67).toArray false).wp Tryd.prog Q a w := by
  refine wp_region_lit (l := (opsOf 7 Tryd.f67)) ?_
  conv => arg 4; whnf
  unfold Sl at o2 o4
  have S := Lib.hid S
  have hz := Lib.hid (undA_size (n := n) (v := .slice A m c) hs)
  have hO := Lib.hid (undA_one (st := st) (n := n) (v := .slice A m c) rfl)
  obtain ⟨ch, hch⟩ : ∃ ch, Hid (undA st n (.slice A m c) = ch) := ⟨_, Lib.hid rfl⟩
  rw [hch.out] at S hz hO
  clear hs
  go_wp2_with (first
    | (refine wpList_load_blk rfl 113 (.tmp 2) rfl g2 (by simp [Act.eval, Act.put, hsz, o2]) 113 _ (S.out.at_ (l1 := [])) _ Tryd.underlying113 rfl (by rw [hz.out]; exact Tryd.infoUnder) ?_)
    | (refine wpList_store_blk rfl 113 (.tmp 4) (.tmp 30) rfl g4 (by simp [Act.eval, Act.put, hsz, o4]) ch (by simp [Act.eval, Act.put, hsz]) 113 _ (S.out.at_ (l1 := _ :: L1)) (by rw [hz.out]; exact Tryd.infoUnder) (by rw [hz.out]; rfl) hO.out ?_; intro w7 b7 k7; have S7 := Lib.hid (Held.setBlk (l1 := _ :: L1) S.out b7 k7); clear b7 k7))
  rw [← hch.out] at S7
  try simp only [Act.put]
  exact hend _ _ (by repeat (first | (with_reducible refine same_set (by decide) ?_) | (with_reducible exact same_nil))) (S7.out)
-- END rtk7
-- REG rtk3
set_option maxRecDepth 100000 in
set_option maxHeartbeats 2000000 in
theorem rtk_r3 {Q : Exit → Act → World → Prop} {a : Act} {w : World} (w0 : World) (g2 n m c c1 : Nat) (A A1 : Option Addr) (st : List Nat) (v : Value) (b : List UInt8) (hs : st.length = 8) (hst : Ws st) (hb : b.length = 64) (hr : ∀ w, (Instr.sliceAt 22 (.slice A m c) none (some (.int .i64 (64 : Int))) none).run Tryd.prog w = .ok (.slice A1 64 c1) w) (L : List Res) (r0 : Res) (hr0 : r0 ∈ L) (HB : ∀ V, r0.ok V → Rd V 1 (.slice A1 64 c1) 64 (bv b)) (hsz : a.tmps.size = 31) (o2 : Sl a 2 (.pointer (some ⟨g2, 0, none⟩))) (o5 : Sl a 5 (.slice A m c))
    (S0 : Held w0 w (blkR g2 113 (undA st n v) :: L))
    (hend : ∀ (a' : Act) (W : World), Same a a' [14, 15, 16, 17, 18, 19] → Held w0 W (blkR g2 113 (undA (blkF st b) n v) :: L) → Q .normal a' W) : (Code.region 3 (opsOf 3 Tryd.f67).toArray true).wp Tryd.prog Q a w := by
  have hap : apartB (opsOf 3 Tryd.f67) = true := by kernel_rfl
  refine wp_region_sep (Γ := Unit) (l := (opsOf 3 Tryd.f67)) 3 [0, 1, 2, 3, 4, 5, 6, 7, 9]
    (fun i vs gs => match i with | 0 => vs 0 = .pointer (some ⟨g2, 0, none⟩) | 1 => vs 1 = .agg (u32A st) | 2 => vs 2 = .slice A m c | 3 => vs 3 = .slice A1 64 c1 | 4 => vs 4 = .agg (u32A (blkF st b)) | 5 => vs 5 = .pointer (some ⟨g2, 0, none⟩) | _ => True)
    (fun i vs gs => match i with | 6 => [blkR g2 113 (undA (blkF st b) n v)] | 8 => [blkR g2 113 (undA st n v)] | 9 => L | _ => [])
    (fun i => match i with | 6 => [8] | _ => []) (fun i => match i with | 1 => [8] | 4 => [8, 9] | _ => []) S0 (by kernel_rfl) hap (by kernel_rfl) (by kernel_rfl) (fun i => match i with | 0 => [0] | 1 => [1] | 2 => [2] | 3 => [3] | 4 => [4] | 5 => [5] | _ => []) (by kernel_rfl) ?_ (by kernel_rfl) ?_ ?_ ?_
  · intro s vs vs' gs gs' h
    iterate 10 (rcases s with _ | s; · (first | exact ⟨rfl, id⟩ | (simp only [List.mem_cons, List.not_mem_nil, or_false, forall_eq] at h; simp [h])))
    exact ⟨rfl, id⟩
  · simp only [List.range, List.range.loop, List.flatMap_cons, List.flatMap_nil, List.append_nil]
    exact List.Perm.refl _
  · clear S0 hend
    refine ⟨?_, ?_, ?_, ?_, ?_, ?_, ?_, trivial⟩
    · intro vs gs A' W LF hA S hR hd hu K hK
      replace hK := hK default
      have e2 : A'.tmps[2]?.getD undef = .pointer (some ⟨g2, 0, none⟩) := slot_out hA hap (Nat.lt_of_lt_of_eq (Nat.le_of_ble_eq_true rfl : 2 < 31) hsz.symm) (by kernel_rfl) o2
      clear hA o2 o5
      go_step
      exact hK _ _ S rfl
    · intro vs gs A' W LF hA S hR hd hu K hK
      replace hK := hK default
      have f0 : vs 0 = .pointer (some ⟨g2, 0, none⟩) := hd 0 (by kernel_rfl)
      have e14 : A'.tmps[14]?.getD undef = vs 0 := slot_in hA hap (Nat.lt_of_lt_of_eq (Nat.le_of_ble_eq_true rfl : 14 < 31) hsz.symm) (by kernel_rfl)
      rw [f0] at e14
      clear hA o2 o5
      refine op_runs (v := .agg (u32A st)) (w' := W) (exec_load rfl (by simpa [Act.eval] using e14) (run_loadAt_agg W ⟨g2, 0, none⟩ 111 (u32A st).toList _ (und_stateAt (show Blk W g2 113 (undA st n v) from S.ok (blkR g2 113 (undA st n v)) (hR 8 (List.mem_singleton.2 rfl) _ (List.mem_singleton.2 rfl))) hs) Tryd.underlying111 rfl (by rw [Array.length_toList, u32A_size, hs]; exact Tryd.info8w))) ?_
      exact hK _ _ S rfl
    · intro vs gs A' W LF hA S hR hd hu K hK
      replace hK := hK default
      have e5 : A'.tmps[5]?.getD undef = .slice A m c := slot_out hA hap (Nat.lt_of_lt_of_eq (Nat.le_of_ble_eq_true rfl : 5 < 31) hsz.symm) (by kernel_rfl) o5
      clear hA o2 o5
      go_step
      exact hK _ _ S rfl
    · intro vs gs A' W LF hA S hR hd hu K hK
      replace hK := hK default
      have f2 : vs 2 = .slice A m c := hd 2 (by kernel_rfl)
      have e16 : A'.tmps[16]?.getD undef = vs 2 := slot_in hA hap (Nat.lt_of_lt_of_eq (Nat.le_of_ble_eq_true rfl : 16 < 31) hsz.symm) (by kernel_rfl)
      rw [f2] at e16
      clear hA o2 o5
      have hr := hr W
      go_step
      exact hK _ _ S rfl
    · intro vs gs A' W LF hA S hR hd hu K hK
      replace hK := hK default
      have f1 : vs 1 = .agg (u32A st) := hd 1 (by kernel_rfl)
      have e15 : A'.tmps[15]?.getD undef = vs 1 := slot_in hA hap (Nat.lt_of_lt_of_eq (Nat.le_of_ble_eq_true rfl : 15 < 31) hsz.symm) (by kernel_rfl)
      rw [f1] at e15
      have f3 : vs 3 = .slice A1 64 c1 := hd 3 (by kernel_rfl)
      have e17 : A'.tmps[17]?.getD undef = vs 3 := slot_in hA hap (Nat.lt_of_lt_of_eq (Nat.le_of_ble_eq_true rfl : 17 < 31) hsz.symm) (by kernel_rfl)
      rw [f3] at e17
      clear hA o2 o5
      generalize hca : u32A st = ca at *
      go_step
      rw [← hca]
      refine (rblock_any st hst hs b hb _ _ (HB W (S.ok r0 (hR 9 (List.mem_cons_of_mem _ (List.mem_singleton.2 rfl)) r0 hr0)))).mono ?_
      rintro e w' ⟨rfl, kq⟩
      exact hK _ _ (S.kp kq) rfl
    · intro vs gs A' W LF hA S hR hd hu K hK
      replace hK := hK default
      have e2 : A'.tmps[2]?.getD undef = .pointer (some ⟨g2, 0, none⟩) := slot_out hA hap (Nat.lt_of_lt_of_eq (Nat.le_of_ble_eq_true rfl : 2 < 31) hsz.symm) (by kernel_rfl) o2
      clear hA o2 o5
      go_step
      exact hK _ _ S rfl
    · intro vs gs A' W LF hA S hR hd hu K hK
      replace hK := hK default
      have f5 : vs 5 = .pointer (some ⟨g2, 0, none⟩) := hd 5 (by kernel_rfl)
      have e19 : A'.tmps[19]?.getD undef = vs 5 := slot_in hA hap (Nat.lt_of_lt_of_eq (Nat.le_of_ble_eq_true rfl : 19 < 31) hsz.symm) (by kernel_rfl)
      rw [f5] at e19
      have f4 : vs 4 = .agg (u32A (blkF st b)) := hd 4 (by kernel_rfl)
      have e18 : A'.tmps[18]?.getD undef = vs 4 := slot_in hA hap (Nat.lt_of_lt_of_eq (Nat.le_of_ble_eq_true rfl : 18 < 31) hsz.symm) (by kernel_rfl)
      rw [f4] at e18
      clear hA o2 o5
      have S1 : Held w0 W (blkR g2 113 (undA st n v) :: LF) := S
      refine op_store_part (.tmp 19) (.tmp 18) 111 rfl g2 0 (by simpa [Act.eval] using e19) (u32A (blkF st b)) (by simpa [Act.eval] using e18) 113 _ (S1.at_ (l1 := [])) (by rw [u32A_size, blkF_length, hs]; exact Tryd.info8w) (by rw [u32A_size, blkF_length, hs, undA_size hs]; omega) (u32A_one _) (fun w' hbk k => hK undef _ ?_ trivial)
      rw [undA_state hs _ ((blkF_length _ _).trans hs)] at hbk
      exact Held.setBlk (l1 := []) S1 hbk k
  · intro vs gs W S hp
    have S : Held w0 W (blkR g2 113 (undA (blkF st b) n v) :: L) := by simpa only [List.flatMap_cons, List.flatMap_nil, List.append_nil, List.nil_append, List.cons_append, List.append_assoc] using S
    rw [show putAll vs (opsOf 3 Tryd.f67) 0 a = putD [(14, vs 0), (15, vs 1), (16, vs 2), (17, vs 3), (18, vs 4), (19, vs 5)] a from by kernel_rfl]
    exact hend _ W (same_putD _ a)  S
-- END rtk3
def dsTkR : List Nat := [5, 11, 12, 13, 14, 15, 16, 17, 18, 19, 20, 21]
/-- What the reference's Take answers: its bytes lie in a row of its own. -/
def TkPost (w0 : World) (L : List Res) (st : List Nat) (n : Nat) (a : List UInt8) (k : Nat) (e : Ending) (w' : World) : Prop :=
  ∃ A c v, e = .returned (.agg (undA (fB st a (a.length / 64)) (n + k) (.slice A (a.length % 64) c))) ∧ Held w0 w' (rowR 5 1 v a.length (bv a) :: L) ∧ ∀ V, (rowR 5 1 v a.length (bv a)).ok V → Rd V 1 (.slice A (a.length % 64) c) (a.length % 64) (bv (a.drop (64 * (a.length / 64))))
set_option maxRecDepth 100000 in
set_option maxHeartbeats 2000000 in
theorem rtake_any (w0 : World) (L : List Res) (st : List Nat) (n : Nat) (hs : st.length = 8) (hst : Ws st) (Ar Ax : Option Addr) (cr cx : Nat) (r l : List UInt8) (hl : r.length + l.length ≤ 140737488355328) (hn : n + l.length < 9223372036854775808) (w : World) (S : Held w0 w L)
    (HRr : ∀ V L', Held w0 V (L' ++ L) → Rd V 1 (.slice Ar r.length cr) r.length (bv r)) (HRx : ∀ V L', Held w0 V (L' ++ L) → Rd V 1 (.slice Ax l.length cx) l.length (bv l)) :
    Calls Tryd.prog 67 #[.agg (undA st n (.slice Ar r.length cr)), .slice Ax l.length cx] w (TkPost w0 L st n (r ++ l) l.length) := by
  refine calls_fr Tryd.func67 rfl 31 rfl (fun a0 hsz hdf hAr => ?_)
  have hz0 : a0.tmps.size = 31 := hsz
  have D := hdf
  have o0 := hAr 0 _ rfl
  have o1 := hAr 1 _ rfl
  refine wp_seq (rtk_r0 w0 st n (.slice Ar r.length cr) hs rfl _ S hz0 o0 (fun a1 w1 hs1 h => ?_))
  have hz1 := hs1.size.trans hz0
  have o1 := hs1.keep 1 _ (by decide) o1
  have D := hs1.defers.trans D
  obtain ⟨g2, g4, o2, o4, S⟩ := h
  have S := S.perm (List.Perm.swap _ _ _)
  refine wp_seq (rtk_r1 w0 g2 n st hs Ar Ax cr cx r l hl (blkR g4 113 (undA (List.replicate 8 0) 0 (.slice none 0 0)) :: L) (fun V L' SV => HRr V (L' ++ [_, _]) (by rw [List.append_assoc]; exact SV)) (fun V L' SV => HRx V (L' ++ [_, _]) (by rw [List.append_assoc]; exact SV)) S hz1 o1 o2 (fun a2 w2 hs2 h => ?_))
  have hz2 := hs2.size.trans hz1
  have o1 := hs2.keep 1 _ (by decide) o1
  have o2 := hs2.keep 2 _ (by decide) o2
  have o4 := hs2.keep 4 _ (by decide) o4
  have D := hs2.defers.trans D
  obtain ⟨A0, c0, o5, S⟩ := h
  have S := S.perm (List.Perm.swap _ _ _)
  obtain ⟨al, hal⟩ : ∃ al, r ++ l = al := ⟨_, rfl⟩
  rw [hal] at S o5 ⊢
  obtain ⟨N, hN⟩ : ∃ N, al.length = N := ⟨_, rfl⟩
  obtain ⟨row, hrow⟩ : ∃ row, rowR 5 1 (.slice A0 al.length c0) al.length (bv al) = row := ⟨_, rfl⟩
  have hR0 : ∀ V, row.ok V → Rd V 1 (.slice A0 al.length c0) al.length (bv al) := fun V h => by rw [← hrow] at h; exact Rd.of_own h
  rw [hrow] at S
  refine wp_seq (wp_block ?_)
  conv => arg 2; whnf
  refine wp_loop (fun a' w' => ∃ (q : Nat) (A : Option Addr) (c m : Nat), 64 * q + m = al.length ∧ Same a2 a' dsTkR ∧ Sl a' 5 (.slice A m c) ∧ (∀ V, row.ok V → Rd V 1 (.slice A m c) m (bv (al.drop (64 * q)))) ∧ Held w0 w' (blkR g2 113 (undA (fB st al q) n (.slice Ar r.length cr)) :: row :: blkR g4 113 (undA (List.replicate 8 0) 0 (.slice none 0 0)) :: L)) (fun a' _ => lenV (a'.eval (.tmp 5))) ⟨0, A0, c0, al.length, by omega, Same.refl _ _, o5, fun V h => hR0 V h, S⟩ ?_
  clear o5 S hR0
  rintro a1 w3 ⟨q, A, c, m, hm, T, o5, HB, S⟩
  have hz1 := T.size.trans hz2
  have o1 := T.keep 1 _ (by decide) o1
  have o2 := T.keep 2 _ (by decide) o2
  have o4 := T.keep 4 _ (by decide) o4
  have eCtr := o5.eval (by rw [hz1]; decide)
  refine wp_seq (wp_seq (rtk_r2 A m c hz1 o5 (fun a2 hs2 o13 => ?_)))
  have hz2 := hs2.size.trans hz1
  have o1 := hs2.keep 1 _ (by decide) o1
  have o2 := hs2.keep 2 _ (by decide) o2
  have o4 := hs2.keep 4 _ (by decide) o4
  have o5 := hs2.keep 5 _ (by decide) o5
  have T := T.trans hs2
  by_cases hlt : 64 ≤ m
  · refine wp_cond_true ((o13.eval (by rw [hz2]; decide)).trans (by rw [decide_eq_true hlt])) (wp_skip ?_)
    have hrow0 : row ∈ (row :: blkR g4 113 (undA (List.replicate 8 0) 0 (.slice none 0 0)) :: L) := List.mem_cons_self ..
    obtain ⟨hlm, A', c', he, hmc, -⟩ := HB w3 (S.ok row (List.mem_cons_of_mem _ hrow0))
    cases he
    have hdl : (al.drop (64 * q)).length = m := by rw [List.length_drop]; omega
    obtain ⟨A1, c1, run1, rd1, -⟩ := cut_hi A m c 64 64 rfl hlt hmc
    obtain ⟨A2, c2, run2, rd2, -⟩ := cut_lo A m c 64 (m - 64) 64 rfl (by omega)
    have hs' := fB_length hs al q
    have hb64 : ((al.drop (64 * q)).take 64).length = 64 := by rw [List.length_take]; omega
    refine wp_block ?_
    refine wp_seq (rtk_r3 w0 g2 n m c c1 A A1 (fB st al q) (.slice Ar r.length cr) ((al.drop (64 * q)).take 64) hs' (fB_lt hst al q) hb64 run1 _ row hrow0 (fun V hV => by have := rd1 V _ (HB V hV); simpa using this) hz2 o2 o5 S (fun a3 w4 hs3 S => ?_))
    have hz3 := hs3.size.trans hz2
    have o1 := hs3.keep 1 _ (by decide) o1
    have o2 := hs3.keep 2 _ (by decide) o2
    have o4 := hs3.keep 4 _ (by decide) o4
    have o5 := hs3.keep 5 _ (by decide) o5
    have o13 := hs3.keep 13 _ (by decide) o13
    have T := T.trans hs3
    refine rtk_r4 A A2 m (m - 64) c c2 run2 hz3 o5 (fun a4 hs4 o5 => ?_)
    have hz4 := hs4.size.trans hz3
    have o1 := hs4.keep 1 _ (by decide) o1
    have o2 := hs4.keep 2 _ (by decide) o2
    have o4 := hs4.keep 4 _ (by decide) o4
    have o13 := hs4.keep 13 _ (by decide) o13
    have T := T.trans hs4
    refine ⟨⟨q + 1, A2, c2, m - 64, by omega, T.more (by decide +kernel), o5, fun V hV => ?_, S⟩, ?_⟩
    · have := rd2 V _ (HB V hV)
      rw [List.drop_drop, List.take_of_length_le (by rw [List.length_drop]; omega)] at this
      rw [show 64 * (q + 1) = 64 * q + 64 from by omega]
      exact this
    · show lenV _ < lenV _
      rw [eCtr, o5.eval (by rw [hz4]; decide)]
      show m - 64 < m
      omega
  · refine wp_cond_false ((o13.eval (by rw [hz2]; decide)).trans (by rw [decide_eq_false hlt])) (wp_exit ?_)
    have D2 := T.defers.trans D
    have hq : q = al.length / 64 := by omega
    have hmm : m = al.length % 64 := by omega
    have hs' := fB_length hs al q
    refine wp_seq (rtk_r5 w0 g2 n l.length cx Ax _ _ hs' hn _ S hz2 o1 o2 (fun a3 w5 hs3 S => ?_))
    have hz3 := hs3.size.trans hz2
    have o1 := hs3.keep 1 _ (by decide) o1
    have o2 := hs3.keep 2 _ (by decide) o2
    have o4 := hs3.keep 4 _ (by decide) o4
    have o5 := hs3.keep 5 _ (by decide) o5
    have D2 := hs3.defers.trans D2
    refine wp_seq (rtk_r6 w0 g2 _ m c A _ _ hs' _ S hz3 o2 o5 (fun a4 w6 hs4 S => ?_))
    have hz4 := hs4.size.trans hz3
    have o1 := hs4.keep 1 _ (by decide) o1
    have o2 := hs4.keep 2 _ (by decide) o2
    have o4 := hs4.keep 4 _ (by decide) o4
    have o5 := hs4.keep 5 _ (by decide) o5
    have D2 := hs4.defers.trans D2
    refine wp_seq (rtk_r7 w0 g2 g4 _ m c A _ hs' [_] _ S hz4 o2 o4 (fun a5 w7 hs5 S => ?_))
    have hz5 := hs5.size.trans hz4
    have o1 := hs5.keep 1 _ (by decide) o1
    have o2 := hs5.keep 2 _ (by decide) o2
    have o4 := hs5.keep 4 _ (by decide) o4
    have o5 := hs5.keep 5 _ (by decide) o5
    have D2 := hs5.defers.trans D2
    refine wp_ret (bodyPost_ret (results_cell1 (by rfl) (o4.eval (by rw [hz5]; decide)) (S.at_ (l1 := [_, _])) Tryd.underlying113 rfl (by rw [undA_size hs']; exact Tryd.infoUnder)) D2 ?_)
    subst hq hmm
    refine ⟨A, c, _, rfl, ?_, fun V hV => HB V (by rw [← hrow]; exact hV)⟩
    have S := S.drop.dropAt (l1 := [_])
    rw [← hrow] at S
    exact S
end Go.Proofs.YtapboamjpilckaaDoor
/- The reference's End, Sum. -/
namespace Go.Proofs.YtapboamjpilckaaDoor
open Go.RowKit
-- REG ren0
set_option maxRecDepth 100000 in
set_option maxHeartbeats 2000000 in
theorem ren_r0 {Q : Exit → Act → World → Prop} {a : Act} {w : World} (w0 : World) (st : List Nat) (n : Nat) (v : Value) (L : List Res) (S : Held w0 w L) (hsz : a.tmps.size = 35) (o0 : Sl a 0 (.agg (undA st n v)))
    (hend : ∀ (a' : Act) (W : World), Same a a' [1, 2] → (∃ g1 g2, Sl a' 1 (.pointer (some ⟨g1, 0, none⟩)) ∧ Sl a' 2 (.pointer (some ⟨g2, 0, none⟩)) ∧ Held w0 W (blkR g2 25 (hashA (List.replicate 32 0)) :: blkR g1 113 (undA st n v) :: L)) → Q .normal a' W) : (Code.region 0 (opsOf 0 Tryd.f68).toArray false).wp Tryd.prog Q a w := by
  refine wp_region_lit (l := (opsOf 0 Tryd.f68)) ?_
  conv => arg 4; whnf
  unfold Sl at o0
  have S0 := Lib.hid ((S.newBlk 113 (undA st n v)).newBlk 25 (hashA (List.replicate 32 0)))
  simp only [World.size_alloc] at S0
  generalize hca : undA st n v = ca at *
  go_wp2
  try simp only [Act.put]
  exact hend _ _ (by repeat (first | (with_reducible refine same_set (by decide) ?_) | (with_reducible exact same_nil))) (⟨w.heap.size, w.heap.size + 1, (by unfold Sl; simp [hsz]), (by unfold Sl; simp [hsz]), S0.out⟩)
-- END ren0
-- REG ren1
set_option maxRecDepth 100000 in
set_option maxHeartbeats 2000000 in
theorem ren_r1 {Q : Exit → Act → World → Prop} {a : Act} {w : World} (g n : Nat) (cs : Array Value) (hc : cs[8]? = some (.int .i64 (n : Int))) (hb : Blk w g 113 cs) (hn : n < 1152921504606846976) (hsz : a.tmps.size = 35) (o1 : Sl a 1 (.pointer (some ⟨g, 0, none⟩)))
    (hend : ∀ (a' : Act), Same a a' [6, 7, 8, 9, 3] → Sl a' 3 (.int .u64 ((8 * n : Nat) : Int)) → Q .normal a' (w)) : (Code.region 1 (opsOf 1 Tryd.f68).toArray false).wp Tryd.prog Q a w := by
  refine wp_region_lit (l := (opsOf 1 Tryd.f68)) ?_
  conv => arg 4; whnf
  unfold Sl at o1
  have c1 : w.cell? ⟨g, 8, none⟩ = some (.int .i64 (n : Int)) := by rw [hb.cell]; exact hc
  have hw := Lib.hid (show ((n : Int) * 8) % 18446744073709551616 = ((8 * n : Nat) : Int) from by omega)
  have hn := Lib.hid hn
  clear hb hc
  go_wp2
  first | rw [hw.out] | skip
  try simp only [Act.put]
  exact hend _ (by repeat (first | (with_reducible refine same_set (by decide) ?_) | (with_reducible exact same_nil))) (by unfold Sl; first | (simp [hsz]; done) | (simp [hsz]; omega))
-- END ren1
-- REG ren2
set_option maxRecDepth 100000 in
set_option maxHeartbeats 2000000 in
theorem ren_r2 {Q : Exit → Act → World → Prop} {a : Act} {w : World} (w0 : World) (L : List Res) (S : Held w0 w L) (hsz : a.tmps.size = 35) 
    (hend : ∀ (a' : Act) (W : World), Same a a' [10, 4] → (∃ A c, Sl a' 4 (.slice A 1 c) ∧ Held w0 W (rowR 5 1 (.slice A 1 c) 1 (bv [128]) :: L)) → Q .normal a' W) : (Code.region 2 (opsOf 2 Tryd.f68).toArray false).wp Tryd.prog Q a w := by
  refine wp_region_lit (l := (opsOf 2 Tryd.f68)) ?_
  conv => arg 4; whnf
  have S1 := Lib.hid (S.rownew (ow_new w 5 1 1 #[.int .u8 128] rfl (by decide)) ((Kp.refl [] w).alloc _) (fun g hg => Nat.le_of_eq (Option.some.inj hg)))
  go_wp2
  try simp only [Act.put]
  exact hend _ _ (by repeat (first | (with_reducible refine same_set (by decide) ?_) | (with_reducible exact same_nil))) (⟨_, _, (by unfold Sl; simp [hsz]), S1.out⟩)
-- END ren2
-- REG ren3
set_option maxRecDepth 100000 in
set_option maxHeartbeats 2000000 in
theorem ren_r3 {Q : Exit → Act → World → Prop} {a : Act} {w : World} (g m p cm cp : Nat) (Am Ap : Option Addr) (cs : Array Value) (hc : cs[9]? = some (.slice Am m cm)) (hb : Blk w g 113 cs) (hm : m < 1000) (hp : p < 1000) (hsz : a.tmps.size = 35) (o1 : Sl a 1 (.pointer (some ⟨g, 0, none⟩))) (o4 : Sl a 4 (.slice Ap p cp))
    (hend : ∀ (a' : Act), Same a a' [11, 12, 13, 14, 15, 16, 17, 18, 19] → Sl a' 19 (.bool ((((m + p + 8) % 64 : Nat) : Int) != 0)) → Q .normal a' (w)) : (Code.region 3 (opsOf 3 Tryd.f68).toArray false).wp Tryd.prog Q a w := by
  refine wp_region_lit (l := (opsOf 3 Tryd.f68)) ?_
  conv => arg 4; whnf
  unfold Sl at o1 o4
  have c1 : w.cell? ⟨g, 9, none⟩ = some (.slice Am m cm) := by rw [hb.cell]; exact hc
  have hw1 : wrap64 ((m : Int) + (p : Int)) = (m : Int) + (p : Int) := by unfold wrap64; omega
  have hw2 : wrap64 ((m : Int) + (p : Int) + 8) = ((m + p + 8 : Nat) : Int) := by unfold wrap64; omega
  have ht : Int.tmod ((m + p + 8 : Nat) : Int) 64 = (((m + p + 8) % 64 : Nat) : Int) := rfl
  obtain ⟨q, hq⟩ : ∃ q, (m + p + 8) % 64 = q := ⟨_, rfl⟩
  rw [hq] at ht hend
  obtain ⟨s, hs⟩ : ∃ s, m + p + 8 = s := ⟨_, rfl⟩
  rw [hs] at ht hw2
  clear hb hc hq hs hm hp
  go_wp2_with fail
  try simp only [Act.put]
  exact hend _ (by repeat (first | (with_reducible refine same_set (by decide) ?_) | (with_reducible exact same_nil))) (by unfold Sl; first | (simp [hsz]; done) | (simp [hsz]; omega))
-- END ren3
-- REG ren4
set_option maxRecDepth 100000 in
set_option maxHeartbeats 2000000 in
theorem ren_r4 {Q : Exit → Act → World → Prop} {a : Act} {w : World} (w0 : World) (A : Option Addr) (c : Nat) (xs : List UInt8) (hx : xs.length ≤ 1000) (L : List Res) (S : Held w0 w (rowR 5 1 (.slice A xs.length c) xs.length (bv xs) :: L)) (hsz : a.tmps.size = 35) (o4 : Sl a 4 (.slice A xs.length c))
    (hend : ∀ (a' : Act) (W : World), Same a a' [20, 21, 22, 4] → (∃ A c, Sl a' 4 (.slice A (xs ++ [0]).length c) ∧ Held w0 W (rowR 5 1 (.slice A (xs ++ [0]).length c) (xs ++ [0]).length (bv (xs ++ [0])) :: L)) → Q .normal a' W) : (Code.region 4 (opsOf 4 Tryd.f68).toArray false).wp Tryd.prog Q a w := by
  refine wp_region_lit (l := (opsOf 4 Tryd.f68)) ?_
  conv => arg 4; whnf
  unfold Sl at o4
  have S1 := Lib.hid (S.alloc (.cells #[.int .u8 0] 5))
  have HR := Lib.hid (rd_lit w 5 #[.int .u8 0] [0] rfl (by simp))
  have Hx := Lib.hid hx
  clear S hx
  obtain ⟨nx, hnx⟩ : ∃ nx, xs.length = nx := ⟨_, rfl⟩
  have Hnx := Lib.hid hnx
  rw [hnx] at o4
  clear hnx
  go_wp2_with (at_builtin; refine app_held [] rfl (.tmp 20) (.tmp 21) rfl (.slice A nx c) xs (by simp [Act.eval, hsz]) (by rw [← Hnx.out]; exact S1.out) (.slice (some ⟨w.heap.size, 0, none⟩) 1 1) [0] (by simp [Act.eval, hsz]) HR.out (by have := Hx.out; simp; omega) ?_; intro v2 w2 S2; have S2 := Lib.hid S2; obtain ⟨A2, c2, hv2, _, _⟩ := ow_form (S2.out.at_ (l1 := [])); subst hv2)
  try simp only [Act.put]
  exact hend _ _ (by repeat (first | (with_reducible refine same_set (by decide) ?_) | (with_reducible exact same_nil))) (⟨A2, c2, (by unfold Sl; simp [hsz]), S2.out⟩)
-- END ren4
-- REG ren5
set_option maxRecDepth 100000 in
set_option maxHeartbeats 2000000 in
theorem ren_r5 {Q : Exit → Act → World → Prop} {a : Act} {w : World} (w0 : World) (g1 n N cx cr : Nat) (Ax Ar : Option Addr) (st : List Nat) (xs r : List UInt8) (v : Value) (hv : v = .slice Ar r.length cr) (hs : st.length = 8) (hst : Ws st) (hx : xs.length ≤ 1000) (hr1 : r.length ≤ 1000) (hn : n < 1152921504606846976) (L : List Res) (r0 : Res) (hr0 : r0 ∈ L) (HB : ∀ V, r0.ok V → Rd V 1 v r.length (bv r)) (hsz : a.tmps.size = 35) (o1 : Sl a 1 (.pointer (some ⟨g1, 0, none⟩))) (o3 : Sl a 3 (.int .u64 (N : Int))) (o4 : Sl a 4 (.slice Ax xs.length cx))
    (S0 : Held w0 w (rowR 5 1 (.slice Ax xs.length cx) xs.length (bv xs) :: blkR g1 113 (undA st n v) :: L))
    (hend : ∀ (a' : Act) (vs : Nat → Value) (gs : Nat → (Option Addr × Nat × Value)) (W : World), Same a a' [23, 24, 25, 26, 27, 28] → Held w0 W (rowR 5 1 (vs 3) 8 (bv (be 8 N)) :: rowR 5 1 (vs 4) (xs ++ be 8 N).length (bv (xs ++ be 8 N)) :: rowR 5 1 (gs 5).2.2 (r ++ (xs ++ be 8 N)).length (bv (r ++ (xs ++ be 8 N))) :: blkR g1 113 (undA (fB st (r ++ (xs ++ be 8 N)) ((r ++ (xs ++ be 8 N)).length / 64)) (n + (xs ++ be 8 N).length) (.slice (gs 5).1 ((r ++ (xs ++ be 8 N)).length % 64) (gs 5).2.1)) :: L) → Q .normal a' W) : (Code.region 5 (opsOf 5 Tryd.f68).toArray true).wp Tryd.prog Q a w := by
  have hap : apartB (opsOf 5 Tryd.f68) = true := by kernel_rfl
  refine wp_region_sep (Γ := (Option Addr × Nat × Value)) (l := (opsOf 5 Tryd.f68)) 3 [0, 1, 2, 3, 4, 5, 6, 9]
    (fun i vs gs => match i with | 0 => vs 0 = .agg (undA st n v) | 1 => vs 1 = .slice Ax xs.length cx | 2 => vs 2 = .int .u64 (N : Int) | 3 => ∃ A c, vs 3 = .slice A 8 c | 4 => ∃ A c, vs 4 = .slice A (xs ++ be 8 N).length c | 5 => vs 5 = .agg (undA (fB st (r ++ (xs ++ be 8 N)) ((r ++ (xs ++ be 8 N)).length / 64)) (n + (xs ++ be 8 N).length) (.slice (gs 5).1 ((r ++ (xs ++ be 8 N)).length % 64) (gs 5).2.1)) | _ => True)
    (fun i vs gs => match i with | 3 => [rowR 5 1 (vs 3) 8 (bv (be 8 N))] | 4 => [rowR 5 1 (vs 4) (xs ++ be 8 N).length (bv (xs ++ be 8 N))] | 5 => [rowR 5 1 (gs 5).2.2 (r ++ (xs ++ be 8 N)).length (bv (r ++ (xs ++ be 8 N)))] | 6 => [blkR g1 113 (undA (fB st (r ++ (xs ++ be 8 N)) ((r ++ (xs ++ be 8 N)).length / 64)) (n + (xs ++ be 8 N).length) (.slice (gs 5).1 ((r ++ (xs ++ be 8 N)).length % 64) (gs 5).2.1))] | 7 => [rowR 5 1 (.slice Ax xs.length cx) xs.length (bv xs)] | 8 => [blkR g1 113 (undA st n v)] | 9 => L | _ => [])
    (fun i => match i with | 4 => [7] | 6 => [8] | _ => []) (fun i => match i with | 0 => [8] | 4 => [3] | 5 => [4, 9] | _ => []) S0 (by kernel_rfl) hap (by kernel_rfl) (by kernel_rfl) (fun i => match i with | 0 => [0] | 1 => [1] | 2 => [2] | 3 => [3] | 4 => [4] | 5 => [5] | 6 => [5] | _ => []) (by kernel_rfl) ?_ (by kernel_rfl) ?_ ?_ ?_
  · intro s vs vs' gs gs' h
    iterate 10 (rcases s with _ | s; · (first | exact ⟨rfl, id⟩ | (simp only [List.mem_cons, List.not_mem_nil, or_false, forall_eq] at h; simp [h])))
    exact ⟨rfl, id⟩
  · simp only [List.range, List.range.loop, List.flatMap_cons, List.flatMap_nil, List.append_nil]
    exact List.Perm.refl _
  · clear S0 hend
    refine ⟨?_, ?_, ?_, ?_, ?_, ?_, ?_, trivial⟩
    · intro vs gs A' W LF hA S hR hd hu K hK
      replace hK := hK default
      have e1 : A'.tmps[1]?.getD undef = .pointer (some ⟨g1, 0, none⟩) := slot_out hA hap (Nat.lt_of_lt_of_eq (Nat.le_of_ble_eq_true rfl : 1 < 35) hsz.symm) (by kernel_rfl) o1
      clear hA o1 o3 o4
      refine op_runs (v := .agg (undA st n v)) (w' := W) (exec_load rfl (by simpa [Act.eval] using e1) (run_loadAt_agg W ⟨g1, 0, none⟩ 113 (undA st n v).toList _ (Blk.agg (show Blk W g1 113 (undA st n v) from S.ok (blkR g1 113 (undA st n v)) (hR 8 (List.mem_singleton.2 rfl) _ (List.mem_singleton.2 rfl)))) Tryd.underlying113 rfl (by rw [Array.length_toList, undA_size hs]; exact Tryd.infoUnder))) ?_
      exact hK _ _ S rfl
    · intro vs gs A' W LF hA S hR hd hu K hK
      replace hK := hK default
      have e4 : A'.tmps[4]?.getD undef = .slice Ax xs.length cx := slot_out hA hap (Nat.lt_of_lt_of_eq (Nat.le_of_ble_eq_true rfl : 4 < 35) hsz.symm) (by kernel_rfl) o4
      clear hA o1 o3 o4
      go_step
      exact hK _ _ S rfl
    · intro vs gs A' W LF hA S hR hd hu K hK
      replace hK := hK default
      have e3 : A'.tmps[3]?.getD undef = .int .u64 (N : Int) := slot_out hA hap (Nat.lt_of_lt_of_eq (Nat.le_of_ble_eq_true rfl : 3 < 35) hsz.symm) (by kernel_rfl) o3
      clear hA o1 o3 o4
      go_step
      exact hK _ _ S rfl
    · intro vs gs A' W LF hA S hR hd hu K hK
      replace hK := hK default
      have f2 : vs 2 = .int .u64 (N : Int) := hd 2 (by kernel_rfl)
      have e25 : A'.tmps[25]?.getD undef = vs 2 := slot_in hA hap (Nat.lt_of_lt_of_eq (Nat.le_of_ble_eq_true rfl : 25 < 35) hsz.symm) (by kernel_rfl)
      rw [f2] at e25
      clear hA o1 o3 o4
      go_step
      refine (reight_any w0 LF N _ S).mono ?_
      rintro e w' ⟨u, rfl, S2⟩
      obtain ⟨A1, c1, hu, _, _⟩ := ow_form (S2.at_ (l1 := []))
      exact hK _ _ S2 ⟨A1, c1, hu⟩
    · intro vs gs A' W LF hA S hR hd hu K hK
      replace hK := hK default
      have f1 : vs 1 = .slice Ax xs.length cx := hd 1 (by kernel_rfl)
      have e24 : A'.tmps[24]?.getD undef = vs 1 := slot_in hA hap (Nat.lt_of_lt_of_eq (Nat.le_of_ble_eq_true rfl : 24 < 35) hsz.symm) (by kernel_rfl)
      rw [f1] at e24
      have f3 : ∃ A c, vs 3 = .slice A 8 c := hd 3 (by kernel_rfl)
      have e26 : A'.tmps[26]?.getD undef = vs 3 := slot_in hA hap (Nat.lt_of_lt_of_eq (Nat.le_of_ble_eq_true rfl : 26 < 35) hsz.symm) (by kernel_rfl)
      clear hA o1 o3 o4
      have h3 := rd_of_row (e := 5) S (List.mem_cons_of_mem _ (hR 3 (List.mem_singleton.2 rfl) _ (List.mem_singleton.2 rfl)))
      refine op_app (.tmp 24) (.tmp 26) 22 5 rfl Tryd.infoU8 Tryd.underlying22 rfl (by decide) (.slice Ax xs.length cx) xs.length (bv xs) (by simpa [Act.eval] using e24) S (vs 3) 8 (bv (be 8 N)) (by simpa [Act.eval] using e26) h3 (bv_one _) (by unfold maxLen; omega) (by omega) (fun v' w' S' => ?_)
      rw [← bv_append, show xs.length + 8 = (xs ++ be 8 N).length from by simp] at S'
      obtain ⟨A1, c1, hu, _, _⟩ := ow_form (S'.at_ (l1 := []))
      exact hK v' w' S' ⟨A1, c1, hu⟩
    · intro vs gs A' W LF hA S hR hd hu K hK
      have f0 : vs 0 = .agg (undA st n v) := hd 0 (by kernel_rfl)
      have e23 : A'.tmps[23]?.getD undef = vs 0 := slot_in hA hap (Nat.lt_of_lt_of_eq (Nat.le_of_ble_eq_true rfl : 23 < 35) hsz.symm) (by kernel_rfl)
      rw [f0] at e23
      have f4 : ∃ A c, vs 4 = .slice A (xs ++ be 8 N).length c := hd 4 (by kernel_rfl)
      have e27 : A'.tmps[27]?.getD undef = vs 4 := slot_in hA hap (Nat.lt_of_lt_of_eq (Nat.le_of_ble_eq_true rfl : 27 < 35) hsz.symm) (by kernel_rfl)
      clear hA o1 o3 o4
      obtain ⟨A1, c1, hq⟩ := f4
      rw [hq] at e27
      have h4 : rowR 5 1 (vs 4) (xs ++ be 8 N).length (bv (xs ++ be 8 N)) ∈ LF := hR 4 (List.mem_cons_self ..) _ (List.mem_singleton.2 rfl)
      have h9 : r0 ∈ LF := hR 9 (List.mem_cons_of_mem _ (List.mem_singleton.2 rfl)) r0 hr0
      rw [hq] at h4
      have HT := rtake_any w0 LF st n hs hst Ar A1 cr c1 r (xs ++ be 8 N) (by simp; omega) (by simp; omega) W S (fun V L' SV => by have := HB V (SV.ok r0 (List.mem_append_right _ h9)); rw [hv] at this; exact this) (fun V L' SV => Rd.of_own (SV.ok _ (List.mem_append_right _ h4)))
      rw [← hv] at HT
      generalize hca : undA st n v = ca at *
      generalize hln : (xs ++ be 8 N).length = ln at *
      go_step
      refine HT.mono ?_
      rintro e w' ⟨A2, c2, u, rfl, S2, H2⟩
      subst hln
      exact hK (A2, c2, u) _ _ S2 rfl
    · intro vs gs A' W LF hA S hR hd hu K hK
      have e1 : A'.tmps[1]?.getD undef = .pointer (some ⟨g1, 0, none⟩) := slot_out hA hap (Nat.lt_of_lt_of_eq (Nat.le_of_ble_eq_true rfl : 1 < 35) hsz.symm) (by kernel_rfl) o1
      have f5 : vs 5 = .agg (undA (fB st (r ++ (xs ++ be 8 N)) ((r ++ (xs ++ be 8 N)).length / 64)) (n + (xs ++ be 8 N).length) (.slice (gs 5).1 ((r ++ (xs ++ be 8 N)).length % 64) (gs 5).2.1)) := hd 5 (by kernel_rfl)
      have e28 : A'.tmps[28]?.getD undef = vs 5 := slot_in hA hap (Nat.lt_of_lt_of_eq (Nat.le_of_ble_eq_true rfl : 28 < 35) hsz.symm) (by kernel_rfl)
      rw [f5] at e28
      clear hA o1 o3 o4
      have S1 : Held w0 W (blkR g1 113 (undA st n v) :: LF) := S
      have hsz2 : (undA (fB st (r ++ (xs ++ be 8 N)) ((r ++ (xs ++ be 8 N)).length / 64)) (n + (xs ++ be 8 N).length) (.slice (gs 5).1 ((r ++ (xs ++ be 8 N)).length % 64) (gs 5).2.1)).size = 10 := undA_size (fB_length hs _ _)
      refine op_store_part (.tmp 1) (.tmp 28) 113 rfl g1 0 (by simpa [Act.eval] using e1) (undA (fB st (r ++ (xs ++ be 8 N)) ((r ++ (xs ++ be 8 N)).length / 64)) (n + (xs ++ be 8 N).length) (.slice (gs 5).1 ((r ++ (xs ++ be 8 N)).length % 64) (gs 5).2.1)) (by simpa [Act.eval] using e28) 113 _ (S1.at_ (l1 := [])) (by rw [hsz2]; exact Tryd.infoUnder) (by rw [hsz2, undA_size hs]; exact Nat.le_refl _) (undA_one rfl) (fun w' hbk k => hK default undef _ ?_ trivial)
      rw [set_all _ _ (by rw [hsz2, undA_size hs])] at hbk
      exact Held.setBlk (l1 := []) S1 hbk k
  · intro vs gs W S hp
    have S : Held w0 W (rowR 5 1 (vs 3) 8 (bv (be 8 N)) :: rowR 5 1 (vs 4) (xs ++ be 8 N).length (bv (xs ++ be 8 N)) :: rowR 5 1 (gs 5).2.2 (r ++ (xs ++ be 8 N)).length (bv (r ++ (xs ++ be 8 N))) :: blkR g1 113 (undA (fB st (r ++ (xs ++ be 8 N)) ((r ++ (xs ++ be 8 N)).length / 64)) (n + (xs ++ be 8 N).length) (.slice (gs 5).1 ((r ++ (xs ++ be 8 N)).length % 64) (gs 5).2.1)) :: L) := by simpa only [List.flatMap_cons, List.flatMap_nil, List.append_nil, List.nil_append, List.cons_append, List.append_assoc] using S
    rw [show putAll vs (opsOf 5 Tryd.f68) 0 a = putD [(23, vs 0), (24, vs 1), (25, vs 2), (26, vs 3), (27, vs 4), (28, vs 5)] a from by kernel_rfl]
    exact hend _ vs gs W (same_putD _ a)  S
-- END ren5
-- REG ren6
set_option maxRecDepth 100000 in
set_option maxHeartbeats 2000000 in
theorem ren_r6 {Q : Exit → Act → World → Prop} {a : Act} {w : World} (w0 : World) (L : List Res) (S : Held w0 w L) (hsz : a.tmps.size = 35) 
    (hend : ∀ (a' : Act) (W : World), Same a a' [5] → (∃ g, Sl a' 5 (.pointer (some ⟨g, 0, none⟩)) ∧ Held w0 W (blkR g 25 (hashA (List.replicate 32 0)) :: L)) → Q .normal a' W) : (Code.region 6 (opsOf 6 Tryd.f68).toArray false).wp Tryd.prog Q a w := by
  refine wp_region_lit (l := (opsOf 6 Tryd.f68)) ?_
  conv => arg 4; whnf
  have S0 := Lib.hid (S.newBlk 25 (hashA (List.replicate 32 0)))
  go_wp2
  try simp only [Act.put]
  exact hend _ _ (by repeat (first | (with_reducible refine same_set (by decide) ?_) | (with_reducible exact same_nil))) (⟨w.heap.size, (by unfold Sl; simp [hsz]), S0.out⟩)
-- END ren6
-- REG ren7
set_option maxRecDepth 100000 in
set_option maxHeartbeats 2000000 in
theorem ren_r7 {Q : Exit → Act → World → Prop} {a : Act} {w : World} (w0 : World) (g1 g5 n : Nat) (st : List Nat) (v : Value) (hs : st.length = 8) (L : List Res) (hsz : a.tmps.size = 35) (o1 : Sl a 1 (.pointer (some ⟨g1, 0, none⟩))) (o5 : Sl a 5 (.pointer (some ⟨g5, 0, none⟩)))
    (S0 : Held w0 w (blkR g5 25 (hashA (List.replicate 32 0)) :: blkR g1 113 (undA st n v) :: L))
    (hend : ∀ (a' : Act) (vs : Nat → Value) (gs : Nat → Unit) (W : World), Same a a' [29, 30, 31, 32, 33] → Held w0 W (rowR 5 1 (vs 3) 32 (bv (st.flatMap (be 4))) :: blkR g5 25 (hashA (st.flatMap (be 4))) :: blkR g1 113 (undA st n v) :: L) → Q .normal a' W) : (Code.region 7 (opsOf 7 Tryd.f68).toArray true).wp Tryd.prog Q a w := by
  have hap : apartB (opsOf 7 Tryd.f68) = true := by kernel_rfl
  refine wp_region_sep (Γ := Unit) (l := (opsOf 7 Tryd.f68)) 3 [0, 1, 2, 3, 4, 6, 7]
    (fun i vs gs => match i with | 0 => vs 0 = .slice (some ⟨g5, 0, none⟩) 32 32 | 1 => vs 1 = .pointer (some ⟨g1, 0, none⟩) | 2 => vs 2 = .agg (u32A st) | 3 => ∃ A c, vs 3 = .slice A 32 c | _ => True)
    (fun i vs gs => match i with | 3 => [rowR 5 1 (vs 3) 32 (bv (st.flatMap (be 4)))] | 4 => [blkR g5 25 (hashA (st.flatMap (be 4)))] | 5 => [blkR g5 25 (hashA (List.replicate 32 0))] | 6 => [blkR g1 113 (undA st n v)] | 7 => L | _ => [])
    (fun i => match i with | 4 => [5] | _ => []) (fun i => match i with | 2 => [6] | 4 => [3] | _ => []) S0 (by kernel_rfl) hap (by kernel_rfl) (by kernel_rfl) (fun i => match i with | 0 => [0] | 1 => [1] | 2 => [2] | 3 => [3] | _ => []) (by kernel_rfl) ?_ (by kernel_rfl) ?_ ?_ ?_
  · intro s vs vs' gs gs' h
    iterate 8 (rcases s with _ | s; · (first | exact ⟨rfl, id⟩ | (simp only [List.mem_cons, List.not_mem_nil, or_false, forall_eq] at h; simp [h])))
    exact ⟨rfl, id⟩
  · simp only [List.range, List.range.loop, List.flatMap_cons, List.flatMap_nil, List.append_nil]
    exact List.Perm.refl _
  · clear S0 hend
    refine ⟨?_, ?_, ?_, ?_, ?_, trivial⟩
    · intro vs gs A' W LF hA S hR hd hu K hK
      replace hK := hK default
      have e5 : A'.tmps[5]?.getD undef = .pointer (some ⟨g5, 0, none⟩) := slot_out hA hap (Nat.lt_of_lt_of_eq (Nat.le_of_ble_eq_true rfl : 5 < 35) hsz.symm) (by kernel_rfl) o5
      clear hA o1 o5
      go_step
      exact hK _ _ S rfl
    · intro vs gs A' W LF hA S hR hd hu K hK
      replace hK := hK default
      have e1 : A'.tmps[1]?.getD undef = .pointer (some ⟨g1, 0, none⟩) := slot_out hA hap (Nat.lt_of_lt_of_eq (Nat.le_of_ble_eq_true rfl : 1 < 35) hsz.symm) (by kernel_rfl) o1
      clear hA o1 o5
      go_step
      exact hK _ _ S rfl
    · intro vs gs A' W LF hA S hR hd hu K hK
      replace hK := hK default
      have f1 : vs 1 = .pointer (some ⟨g1, 0, none⟩) := hd 1 (by kernel_rfl)
      have e30 : A'.tmps[30]?.getD undef = vs 1 := slot_in hA hap (Nat.lt_of_lt_of_eq (Nat.le_of_ble_eq_true rfl : 30 < 35) hsz.symm) (by kernel_rfl)
      rw [f1] at e30
      clear hA o1 o5
      refine op_runs (v := .agg (u32A st)) (w' := W) (exec_load rfl (by simpa [Act.eval] using e30) (run_loadAt_agg W ⟨g1, 0, none⟩ 111 (u32A st).toList _ (und_stateAt (show Blk W g1 113 (undA st n v) from S.ok (blkR g1 113 (undA st n v)) (hR 6 (List.mem_singleton.2 rfl) _ (List.mem_singleton.2 rfl))) hs) Tryd.underlying111 rfl (by rw [Array.length_toList, u32A_size, hs]; exact Tryd.info8w))) ?_
      exact hK _ _ S rfl
    · intro vs gs A' W LF hA S hR hd hu K hK
      replace hK := hK default
      have f2 : vs 2 = .agg (u32A st) := hd 2 (by kernel_rfl)
      have e31 : A'.tmps[31]?.getD undef = vs 2 := slot_in hA hap (Nat.lt_of_lt_of_eq (Nat.le_of_ble_eq_true rfl : 31 < 35) hsz.symm) (by kernel_rfl)
      rw [f2] at e31
      clear hA o1 o5
      generalize hca : u32A st = ca at *
      go_step
      rw [← hca]
      refine (rwords_any w0 LF st hs _ S).mono ?_
      rintro e w' ⟨u, rfl, S2⟩
      obtain ⟨A1, c1, hu, _, _⟩ := ow_form (S2.at_ (l1 := []))
      exact hK _ _ S2 ⟨A1, c1, hu⟩
    · intro vs gs A' W LF hA S hR hd hu K hK
      replace hK := hK default
      have f0 : vs 0 = .slice (some ⟨g5, 0, none⟩) 32 32 := hd 0 (by kernel_rfl)
      have e29 : A'.tmps[29]?.getD undef = vs 0 := slot_in hA hap (Nat.lt_of_lt_of_eq (Nat.le_of_ble_eq_true rfl : 29 < 35) hsz.symm) (by kernel_rfl)
      rw [f0] at e29
      have f3 : ∃ A c, vs 3 = .slice A 32 c := hd 3 (by kernel_rfl)
      have e32 : A'.tmps[32]?.getD undef = vs 3 := slot_in hA hap (Nat.lt_of_lt_of_eq (Nat.le_of_ble_eq_true rfl : 32 < 35) hsz.symm) (by kernel_rfl)
      clear hA o1 o5
      have S1 : Held w0 W (blkR g5 25 (hashA (List.replicate 32 0)) :: LF) := S
      have h3 := rd_of_row (e := 5) S1 (List.mem_cons_of_mem _ (hR 3 (List.mem_singleton.2 rfl) _ (List.mem_singleton.2 rfl)))
      have hfl : (st.flatMap (be 4)).length = 32 := by rw [flat4, hs]
      refine op_copy_blk (.tmp 29) (.tmp 32) 22 22 rfl 5 Tryd.underlying22 (by kernel_rfl) g5 0 32 32 (by simpa [Act.eval] using e29) _ (by simpa [Act.eval] using e32) 32 (bv (st.flatMap (be 4))) h3 25 _ (S1.at_ (l1 := [])) (by rw [hashA_size]; exact Nat.le_refl _) (bv_one _) 32 rfl (fun w' hbk k => hK _ _ ?_ trivial)
      rw [List.take_of_length_le (by rw [bv_length]; omega), show (splice (hashA (List.replicate 32 0)).toList 0 (bv (st.flatMap (be 4)))).toArray = hashA (st.flatMap (be 4)) from by unfold splice; rw [List.take_zero, List.nil_append, List.drop_of_length_le (by rw [bv_length, hfl]; exact Nat.le_refl _), List.append_nil]; rfl] at hbk
      exact Held.setBlk (l1 := []) S1 hbk k
  · intro vs gs W S hp
    have S : Held w0 W (rowR 5 1 (vs 3) 32 (bv (st.flatMap (be 4))) :: blkR g5 25 (hashA (st.flatMap (be 4))) :: blkR g1 113 (undA st n v) :: L) := by simpa only [List.flatMap_cons, List.flatMap_nil, List.append_nil, List.nil_append, List.cons_append, List.append_assoc] using S
    rw [show putAll vs (opsOf 7 Tryd.f68) 0 a = putD [(29, vs 0), (30, vs 1), (31, vs 2), (32, vs 3), (33, vs 4)] a from by kernel_rfl]
    exact hend _ vs gs W (same_putD _ a)  S
-- END ren7
-- REG ren8
set_option maxRecDepth 100000 in
set_option maxHeartbeats 2000000 in
theorem ren_r8 {Q : Exit → Act → World → Prop} {a : Act} {w : World} (w0 : World) (g5 g2 : Nat) (cs c2 : List UInt8) (hl : cs.length = 32) (h2 : c2.length = 32) (L1 L2 L3 : List Res) (S : Held w0 w (L1 ++ blkR g5 25 (hashA cs) :: (L2 ++ blkR g2 25 (hashA c2) :: L3))) (hsz : a.tmps.size = 35) (o2 : Sl a 2 (.pointer (some ⟨g2, 0, none⟩))) (o5 : Sl a 5 (.pointer (some ⟨g5, 0, none⟩)))
    (hend : ∀ (a' : Act) (W : World), Same a a' [34] → (Held w0 W ((L1 ++ blkR g5 25 (hashA cs) :: L2) ++ blkR g2 25 (hashA cs) :: L3)) → Q .normal a' W) : (Code.region 8 (opsOf 8 Tryd.f68).toArray false).wp Tryd.prog Q a w := by
  refine wp_region_lit (l := (opsOf 8 Tryd.f68)) ?_
  conv => arg 4; whnf
  unfold Sl at o2 o5
  have S := Lib.hid S
  have HL := Lib.hid hl
  have H2 := Lib.hid h2
  clear hl h2
  have S' : Hid (Held w0 w ((L1 ++ blkR g5 25 (hashA cs) :: L2) ++ blkR g2 25 (hashA c2) :: L3)) := Lib.hid (by have := S.out; simpa [List.append_assoc] using this)
  go_wp2_with (first
    | (refine wpList_load_blk rfl 25 (.tmp 5) rfl g5 (by simp [Act.eval, Act.put, hsz, o5]) 25 _ S.out.at_ _ Tryd.underlying25 rfl (by rw [hashA_size, HL.out]; exact Tryd.infoHashP) ?_)
    | (refine wpList_store_blk rfl 25 (.tmp 2) (.tmp 34) rfl g2 (by simp [Act.eval, Act.put, hsz, o2]) (hashA cs) (by simp [Act.eval, Act.put, hsz]) 25 _ S'.out.at_ (by rw [hashA_size, HL.out]; exact Tryd.infoHashP) (by rw [hashA_size, hashA_size, HL.out, H2.out]) (hashA_one cs) ?_; intro w7 b7 k7; have S7 := Lib.hid (Held.setBlk S'.out b7 k7); clear b7 k7))
  try simp only [Act.put]
  exact hend _ _ (by repeat (first | (with_reducible refine same_set (by decide) ?_) | (with_reducible exact same_nil))) (S7.out)
-- END ren8
def dsEn : List Nat := [4, 11, 12, 13, 14, 15, 16, 17, 18, 19, 20, 21, 22]
def padB (j : Nat) : List UInt8 := 128 :: List.replicate j 0
theorem padB_length (j : Nat) : (padB j).length = 1 + j := by unfold padB; simp; omega
theorem padB_next (j : Nat) : padB j ++ [0] = padB (j + 1) := by unfold padB; rw [List.cons_append, ← List.replicate_succ']
theorem padR (m r j : Nat) (hr : r = m % 64) : ((r + (1 + j) + 8) % 64 = 0) ↔ ((m + 1 + j) % 64 = 56) := by omega
set_option maxRecDepth 100000 in
set_option maxHeartbeats 2000000 in
theorem rend_any (w0 : World) (L : List Res) (m : List UInt8) (hm : m.length < 1152921504606846976) (A : Option Addr) (c : Nat) (r0 : Res) (hr0 : r0 ∈ L) (w : World) (S : Held w0 w L)
    (HB : ∀ V, r0.ok V → Rd V 1 (.slice A (m.length % 64) c) (m.length % 64) (bv (m.drop (64 * (m.length / 64))))) :
    Calls Tryd.prog 68 #[.agg (undA (shaN m (m.length / 64)) m.length (.slice A (m.length % 64) c))] w fun e w' => e = .returned (.agg (hashA (shaF m))) ∧ Held w0 w' L := by
  have hs := shaN_length m (m.length / 64)
  have hst := shaN_lt m (m.length / 64)
  obtain ⟨rr, hrr⟩ : ∃ rr, m.drop (64 * (m.length / 64)) = rr := ⟨_, rfl⟩
  have hrl : rr.length = m.length % 64 := by rw [← hrr, List.length_drop]; omega
  have hr64 : rr.length < 64 := by omega
  rw [hrr, ← hrl] at HB
  rw [← hrl]
  refine calls_fr Tryd.func68 rfl 35 rfl (fun a0 hsz hdf hAr => ?_)
  have hz0 : a0.tmps.size = 35 := hsz
  have D := hdf
  have o0 := hAr 0 _ rfl
  refine wp_seq (ren_r0 w0 _ _ _ _ S hz0 o0 (fun a1 w1 hs1 h => ?_))
  have hz1 := hs1.size.trans hz0
  have D := hs1.defers.trans D
  obtain ⟨g1, g2, o1, o2, S⟩ := h
  have S := S.perm (List.Perm.swap _ _ _)
  refine wp_seq (ren_r1 g1 _ _ (undA_len hs) (S.at_ (l1 := [])) hm hz1 o1 (fun a2 hs2 o3 => ?_))
  have hz2 := hs2.size.trans hz1
  have o1 := hs2.keep 1 _ (by decide) o1
  have o2 := hs2.keep 2 _ (by decide) o2
  have D := hs2.defers.trans D
  refine wp_seq (ren_r2 w0 _ S hz2 (fun a3 w3 hs3 h => ?_))
  have hz3 := hs3.size.trans hz2
  have o1 := hs3.keep 1 _ (by decide) o1
  have o2 := hs3.keep 2 _ (by decide) o2
  have o3 := hs3.keep 3 _ (by decide) o3
  have D := hs3.defers.trans D
  obtain ⟨Ap, cp, o4, S⟩ := h
  refine wp_seq (wp_block ?_)
  conv => arg 2; whnf
  refine wp_loop (fun a' w' => ∃ (j : Nat) (Ap : Option Addr) (cp : Nat), j ≤ padZ m.length ∧ Same a3 a' dsEn ∧ Sl a' 4 (.slice Ap (padB j).length cp) ∧ Held w0 w' (rowR 5 1 (.slice Ap (padB j).length cp) (padB j).length (bv (padB j)) :: blkR g1 113 (undA (shaN m (m.length / 64)) m.length (.slice A rr.length c)) :: blkR g2 25 (hashA (List.replicate 32 0)) :: L)) (fun a' _ => 65 - lenV (a'.eval (.tmp 4))) ⟨0, Ap, cp, by omega, Same.refl _ _, o4, S⟩ ?_
  clear o4 S
  rintro a1 w1 ⟨j, Ap, cp, hj, T, o4, S⟩
  have hz1 := T.size.trans hz3
  have o1 := T.keep 1 _ (by decide) o1
  have o2 := T.keep 2 _ (by decide) o2
  have o3 := T.keep 3 _ (by decide) o3
  have eCtr := o4.eval (by rw [hz1]; decide)
  have hpl := padB_length j
  have hpz := (padZ_spec m.length).2
  have hiff := padR m.length rr.length j hrl
  refine wp_seq (wp_seq (ren_r3 g1 rr.length _ c cp A Ap _ (undA_rest hs) (S.at_ (l1 := [_])) (by omega) (by rw [hpl]; omega) hz1 o1 o4 (fun a2 hs2 o19 => ?_)))
  have hz2 := hs2.size.trans hz1
  have o1 := hs2.keep 1 _ (by decide) o1
  have o2 := hs2.keep 2 _ (by decide) o2
  have o3 := hs2.keep 3 _ (by decide) o3
  have o4 := hs2.keep 4 _ (by decide) o4
  have T := T.trans hs2
  rw [hpl] at o19
  by_cases hlt : (rr.length + (1 + j) + 8) % 64 = 0
  · refine wp_cond_false ((o19.eval (by rw [hz2]; decide)).trans (by rw [hlt]; rfl)) (wp_exit ?_)
    obtain rfl := padZ_end _ _ (hiff.1 hlt) hj
    have D2 := T.defers.trans D
    refine wp_seq (ren_r5 w0 g1 m.length (8 * m.length) cp c Ap A _ (padB (padZ m.length)) rr (.slice A rr.length c) rfl hs hst (by rw [hpl]; omega) (by omega) hm (blkR g2 25 (hashA (List.replicate 32 0)) :: L) r0 (List.mem_cons_of_mem _ hr0) HB hz2 o1 o3 o4 S (fun a3 vs5 gs5 w5 hs3 S => ?_))
    have hz3 := hs3.size.trans hz2
    have o1 := hs3.keep 1 _ (by decide) o1
    have o2 := hs3.keep 2 _ (by decide) o2
    have D2 := hs3.defers.trans D2
    have hal : m ++ (padB (padZ m.length) ++ be 8 (8 * m.length)) = pad m := by unfold pad padB; rfl
    have hpm := pad_mod m
    have hpl2 : (pad m).length = 64 * (m.length / 64) + (rr ++ (padB (padZ m.length) ++ be 8 (8 * m.length))).length := by
      rw [← hal]
      simp only [List.length_append]
      omega
    have hst2 : fB (shaN m (m.length / 64)) (rr ++ (padB (padZ m.length) ++ be 8 (8 * m.length))) ((rr ++ (padB (padZ m.length) ++ be 8 (8 * m.length))).length / 64) = shaN (pad m) ((pad m).length / 64) := by
      rw [← hrr, fB_go (by omega), hal, hrr]
      congr 1
      omega
    rw [hst2] at S
    have hs2 := shaN_length (pad m) ((pad m).length / 64)
    refine wp_seq (ren_r6 w0 _ S hz3 (fun a4 w6 hs4 h => ?_))
    have hz4 := hs4.size.trans hz3
    have o1 := hs4.keep 1 _ (by decide) o1
    have o2 := hs4.keep 2 _ (by decide) o2
    have D2 := hs4.defers.trans D2
    obtain ⟨g5, o5, S⟩ := h
    have S := S.perm (List.Perm.cons _ (List.perm_middle (l₁ := [_, _, _])))
    refine wp_seq (ren_r7 w0 g1 g5 _ _ _ hs2 _ hz4 o1 o5 S (fun a5 vs7 gs7 w7 hs5 S => ?_))
    have hz5 := hs5.size.trans hz4
    have o1 := hs5.keep 1 _ (by decide) o1
    have o2 := hs5.keep 2 _ (by decide) o2
    have o5 := hs5.keep 5 _ (by decide) o5
    have D2 := hs5.defers.trans D2
    have ef : (shaN (pad m) ((pad m).length / 64)).flatMap (be 4) = shaF m := rfl
    rw [ef] at S
    refine wp_seq (ren_r8 w0 g5 g2 _ _ (shaF_length m) rfl [_] [_, _, _, _] _ S hz5 o2 o5 (fun a6 w8 hs6 S => ?_))
    have hz6 := hs6.size.trans hz5
    have o1 := hs6.keep 1 _ (by decide) o1
    have o2 := hs6.keep 2 _ (by decide) o2
    have o5 := hs6.keep 5 _ (by decide) o5
    have D2 := hs6.defers.trans D2
    refine wp_ret (bodyPost_ret (results_cell1 (by rfl) (o2.eval (by rw [hz6]; decide)) (S.at_ (l1 := [_, _, _, _, _, _])) Tryd.underlying25 rfl (by rw [hashA_size, shaF_length]; exact Tryd.infoHashP)) D2 ⟨rfl, ?_⟩)
    exact S.drop.drop.drop.drop.drop.drop.drop
  · refine wp_cond_true ((o19.eval (by rw [hz2]; decide)).trans (by rw [bne_iff_ne.2 (by omega)])) (wp_skip ?_)
    have hjl := padZ_le _ _ (fun h => hlt (hiff.2 h)) hj
    refine wp_block ?_
    refine ren_r4 w0 Ap cp _ (by rw [hpl]; omega) _ S hz2 o4 (fun a3 w4 hs3 h => ?_)
    have hz3 := hs3.size.trans hz2
    have o1 := hs3.keep 1 _ (by decide) o1
    have o2 := hs3.keep 2 _ (by decide) o2
    have o3 := hs3.keep 3 _ (by decide) o3
    have T := T.trans hs3
    obtain ⟨A2, c2, o4, S⟩ := h
    rw [padB_next] at o4 S
    refine ⟨⟨j + 1, A2, c2, hjl, T.more (by decide +kernel), o4, S⟩, ?_⟩
    show 65 - lenV _ < 65 - lenV _
    rw [eCtr, o4.eval (by rw [hz3]; decide)]
    show 65 - (padB (j + 1)).length < 65 - (padB j).length
    rw [padB_length, padB_length]
    omega
set_option maxRecDepth 100000 in
set_option maxHeartbeats 1000000 in
theorem rsha_any (w0 : World) (L : List Res) (A : Option Addr) (c : Nat) (m : List UInt8) (hm : m.length ≤ 140737488355328) (w : World) (S : Held w0 w L) (HX : ∀ V L', Held w0 V (L' ++ L) → Rd V 1 (.slice A m.length c) m.length (bv m)) :
    Calls Tryd.prog 42 #[.slice A m.length c] w fun e w' => e = .returned (.agg (hashA (shaF m))) ∧ Held w0 w' L := by
  have HX := Lib.hid HX
  have S0 := Lib.hid (S.newBlk 25 (hashA (List.replicate 32 0)))
  clear S
  have HT : Hid (∀ V, Held w0 V (blkR w.heap.size 25 (hashA (List.replicate 32 0)) :: L) → Calls Tryd.prog 67 #[.agg (undA hF 0 (.slice none 0 0)), .slice A m.length c] V (TkPost w0 (blkR w.heap.size 25 (hashA (List.replicate 32 0)) :: L) hF 0 m m.length)) := Lib.hid (fun V SV => rtake_any w0 _ hF 0 rfl hF_lt none A 0 c [] m (by simpa using hm) (by omega) V SV (fun V' L' _ => Rd.nil _ _) (fun V' L' SV' => HX.out V' (L' ++ [_]) (by rw [List.append_assoc]; exact SV')))
  generalize hg2 : w.heap.size = g2 at *
  obtain ⟨ch, hch⟩ : ∃ ch, Hid (undA hF 0 (.slice none 0 0) = ch) := ⟨_, Lib.hid rfl⟩
  have HN := Lib.hid rnew_any
  rw [hch.out] at HT HN
  have hO := Lib.hid (hashA_one (shaF m))
  have hsz1 : Hid ((hashA (shaF m)).size = 32) := Lib.hid (by rw [hashA_size, shaF_length])
  have HE : Hid (∀ V A c v, Held w0 V (rowR 5 1 v m.length (bv m) :: blkR g2 25 (hashA (List.replicate 32 0)) :: L) → (∀ V, (rowR 5 1 v m.length (bv m)).ok V → Rd V 1 (.slice A (m.length % 64) c) (m.length % 64) (bv (m.drop (64 * (m.length / 64))))) →
      Calls Tryd.prog 68 #[.agg (undA (fB hF m (m.length / 64)) (0 + m.length) (.slice A (m.length % 64) c))] V fun e w' => e = .returned (.agg (hashA (shaF m))) ∧ Held w0 w' (rowR 5 1 v m.length (bv m) :: blkR g2 25 (hashA (List.replicate 32 0)) :: L)) := Lib.hid (fun V A c v SV HB => by
    rw [fB_hF, Nat.zero_add]
    exact rend_any w0 _ m (by omega) A c _ (List.mem_cons_self ..) V SV HB)
  obtain ⟨cq, hcq⟩ : ∃ cq, Hid (hashA (shaF m) = cq) := ⟨_, Lib.hid rfl⟩
  rw [hcq.out] at HE hO hsz1 ⊢
  generalize hln : m.length = ml at *
  go_enter Tryd.func42, Tryd.ntmps42
  go_wp2_with fail
  refine (HN.out _).mono ?_
  rintro e w2 ⟨rfl, k2⟩
  have S2 := Lib.hid (S0.out.kp k2)
  clear k2
  go_wp2_with fail
  refine (HT.out _ S2.out).mono ?_
  rintro e w3 ⟨A3, c3, v3, rfl, S3, H3⟩
  rw [hln] at S3 H3
  have HE3 := Lib.hid (HE.out w3 A3 c3 v3 S3 H3)
  clear S3 H3
  obtain ⟨cu, hcu⟩ : ∃ cu, undA (fB hF m (ml / 64)) (0 + ml) (.slice A3 (ml % 64) c3) = cu := ⟨_, rfl⟩
  rw [hln, hcu]
  rw [hcu] at HE3
  clear hcu
  go_wp2_with fail
  refine HE3.out.mono ?_
  rintro e w4 ⟨rfl, S4⟩
  have S4 := Lib.hid S4
  go_wp2_with (refine wpList_store_blk rfl 25 (.tmp 2) (.tmp 6) rfl g2 (by simp [Act.eval, Act.put]) cq (by simp [Act.eval, Act.put]) 25 _ (S4.out.at_ (l1 := [_])) (by rw [hsz1.out]; exact Tryd.infoHashP) (by rw [hsz1.out]; rfl) hO.out ?_; intro w5 b5 k5; have S5 := Lib.hid (Held.setBlk (l1 := [_]) S4.out b5 k5); clear b5 k5)
  refine bodyPost_ret (results_cell1 (by rfl) rfl (S5.out.at_ (l1 := [_])) Tryd.underlying25 rfl (by rw [hsz1.out]; exact Tryd.infoHashP)) rfl ?_
  exact ⟨rfl, S5.out.drop.drop⟩
end Go.Proofs.YtapboamjpilckaaDoor
/- The reference's Mac. -/
namespace Go.Proofs.YtapboamjpilckaaDoor
open Go.RowKit
-- REG rmc0
set_option maxRecDepth 100000 in
set_option maxHeartbeats 2000000 in
theorem rmc_r0 {Q : Exit → Act → World → Prop} {a : Act} {w : World} (w0 : World) (L : List Res) (S : Held w0 w L) (hsz : a.tmps.size = 54) 
    (hend : ∀ (a' : Act) (W : World), Same a a' [4] → (∃ g, Sl a' 4 (.pointer (some ⟨g, 0, none⟩)) ∧ Held w0 W (blkR g 25 (hashA (List.replicate 32 0)) :: L)) → Q .normal a' W) : (Code.region 0 (opsOf 0 Tryd.f11).toArray false).wp Tryd.prog Q a w := by
  refine wp_region_lit (l := (opsOf 0 Tryd.f11)) ?_
  conv => arg 4; whnf
  have S0 := Lib.hid (S.newBlk 25 (hashA (List.replicate 32 0)))
  go_wp2
  try simp only [Act.put]
  exact hend _ _ (by repeat (first | (with_reducible refine same_set (by decide) ?_) | (with_reducible exact same_nil))) (⟨w.heap.size, (by unfold Sl; simp [hsz]), S0.out⟩)
-- END rmc0
-- REG rmc1
set_option maxRecDepth 100000 in
set_option maxHeartbeats 2000000 in
theorem rmc_r1 {Q : Exit → Act → World → Prop} {a : Act} {w : World} (w0 : World) (A : Option Addr) (c : Nat) (s : List UInt8) (hl : s.length ≤ 140737488355328) (L : List Res) (hr : Rd w 1 (.slice A s.length c) s.length (bv s)) (S : Held w0 w L) (hsz : a.tmps.size = 54) (o0 : Sl a 0 (.slice A s.length c))
    (hend : ∀ (a' : Act) (W : World), Same a a' [11, 12, 5] → (∃ A c, Sl a' 5 (.slice A s.length c) ∧ Held w0 W (rowR 5 1 (.slice A (s).length c) (s).length (bv (s)) :: L)) → Q .normal a' W) : (Code.region 1 (opsOf 1 Tryd.f11).toArray false).wp Tryd.prog Q a w := by
  refine wp_region_lit (l := (opsOf 1 Tryd.f11)) ?_
  conv => arg 4; whnf
  unfold Sl at o0
  have S := Lib.hid S
  have hr := Lib.hid hr
  have hl := Lib.hid hl
  obtain ⟨ns, hns⟩ : ∃ ns, s.length = ns := ⟨_, rfl⟩
  have Hns := Lib.hid hns
  rw [hns] at o0
  clear hns
  go_wp2_with (at_builtin; refine app_new rfl (.const (.slice none 0 0)) (.tmp 11) rfl rfl S.out (.slice A ns c) s (by simp [Act.eval, hsz]) (by rw [← Hns.out]; exact hr.out) hl.out ?_; intro v1 w1 S1; have S1 := Lib.hid S1; obtain ⟨A1, c1, hv1, _, _⟩ := ow_form (S1.out.at_ (l1 := [])); subst hv1)
  try simp only [Act.put]
  exact hend _ _ (by repeat (first | (with_reducible refine same_set (by decide) ?_) | (with_reducible exact same_nil))) (⟨A1, c1, (by unfold Sl; simp [hsz]), S1.out⟩)
-- END rmc1
-- REG rmc2
set_option maxRecDepth 100000 in
set_option maxHeartbeats 2000000 in
theorem rmc_r2 {Q : Exit → Act → World → Prop} {a : Act} {w : World} (A : Option Addr) (n c : Nat) (hsz : a.tmps.size = 54) (o5 : Sl a 5 (.slice A n c))
    (hend : ∀ (a' : Act), Same a a' [13, 14, 15] → Sl a' 15 (.bool (decide (64 < n))) → Q .normal a' (w)) : (Code.region 2 (opsOf 2 Tryd.f11).toArray false).wp Tryd.prog Q a w := by
  refine wp_region_lit (l := (opsOf 2 Tryd.f11)) ?_
  conv => arg 4; whnf
  unfold Sl at o5
  go_wp2_with fail
  try simp only [Act.put]
  exact hend _ (by repeat (first | (with_reducible refine same_set (by decide) ?_) | (with_reducible exact same_nil))) (by unfold Sl; first | (simp [hsz]; done) | (simp [hsz]; omega))
-- END rmc2
-- REG rmc5
set_option maxRecDepth 100000 in
set_option maxHeartbeats 2000000 in
theorem rmc_r5 {Q : Exit → Act → World → Prop} {a : Act} {w : World} (A : Option Addr) (n c : Nat) (hsz : a.tmps.size = 54) (o5 : Sl a 5 (.slice A n c))
    (hend : ∀ (a' : Act), Same a a' [20, 21, 22] → Sl a' 22 (.bool (decide (n < 64))) → Q .normal a' (w)) : (Code.region 5 (opsOf 5 Tryd.f11).toArray false).wp Tryd.prog Q a w := by
  refine wp_region_lit (l := (opsOf 5 Tryd.f11)) ?_
  conv => arg 4; whnf
  unfold Sl at o5
  go_wp2_with fail
  try simp only [Act.put]
  exact hend _ (by repeat (first | (with_reducible refine same_set (by decide) ?_) | (with_reducible exact same_nil))) (by unfold Sl; first | (simp [hsz]; done) | (simp [hsz]; omega))
-- END rmc5
-- REG rmc3
set_option maxRecDepth 100000 in
set_option maxHeartbeats 2000000 in
theorem rmc_r3 {Q : Exit → Act → World → Prop} {a : Act} {w : World} (w0 : World) (A : Option Addr) (c : Nat) (s : List UInt8) (hl : s.length ≤ 140737488355328) (L : List Res) (S : Held w0 w (rowR 5 1 (.slice A (s).length c) (s).length (bv (s)) :: L)) (hsz : a.tmps.size = 54) (o5 : Sl a 5 (.slice A s.length c))
    (hend : ∀ (a' : Act) (W : World), Same a a' [16, 17, 6] → (∃ g, Sl a' 6 (.pointer (some ⟨g, 0, none⟩)) ∧ Held w0 W (blkR g 25 (hashA (shaF s)) :: rowR 5 1 (.slice A (s).length c) (s).length (bv (s)) :: L)) → Q .normal a' W) : (Code.region 3 (opsOf 3 Tryd.f11).toArray false).wp Tryd.prog Q a w := by
  refine wp_region_lit (l := (opsOf 3 Tryd.f11)) ?_
  conv => arg 4; whnf
  unfold Sl at o5
  have HR := Lib.hid (rsha_any w0 _ A c s hl w S (fun V L' SV => Rd.of_own SV.at_))
  have hO := Lib.hid (hashA_one (shaF (s)))
  have hsz1 : Hid ((hashA (shaF (s))).size = 32) := Lib.hid (by rw [hashA_size, shaF_length])
  obtain ⟨ch, hch⟩ : ∃ ch, Hid (hashA (shaF (s)) = ch) := ⟨_, Lib.hid rfl⟩
  rw [hch.out] at HR hO hsz1
  obtain ⟨ns, hns⟩ : ∃ ns, s.length = ns := ⟨_, rfl⟩
  have Hns := Lib.hid hns
  rw [hns] at o5 HR
  clear hns
  clear S hl
  go_wp2_with fail
  refine HR.out.mono ?_
  rintro e w4 ⟨rfl, S4⟩
  have S4 := Lib.hid (S4.newBlk 25 (hashA (List.replicate 32 0)))
  rw [← Hns.out] at S4
  go_wp2_with (refine wpList_store_blk rfl 25 (.tmp 6) (.tmp 17) rfl w4.heap.size (by simp [Act.eval, Act.put, hsz]) ch (by simp [Act.eval, Act.put, hsz]) 25 _ (S4.out.at_ (l1 := [])) (by rw [hsz1.out]; exact Tryd.infoHashP) (by rw [hsz1.out]; rfl) hO.out ?_; intro w5 b5 k5; have S5 := Lib.hid (Held.setBlk (l1 := []) S4.out b5 k5); clear b5 k5)
  rw [← hch.out] at S5
  try simp only [Act.put]
  exact hend _ _ (by repeat (first | (with_reducible refine same_set (by decide) ?_) | (with_reducible exact same_nil))) (⟨_, (by unfold Sl; simp [hsz]), S5.out⟩)
-- END rmc3
-- REG rmc4
set_option maxRecDepth 100000 in
set_option maxHeartbeats 2000000 in
theorem rmc_r4 {Q : Exit → Act → World → Prop} {a : Act} {w : World} (w0 : World) (g6 : Nat) (h : List UInt8) (hh : h.length = 32) (L : List Res) (S : Held w0 w (blkR g6 25 (hashA h) :: L)) (hsz : a.tmps.size = 54) (o6 : Sl a 6 (.pointer (some ⟨g6, 0, none⟩)))
    (hend : ∀ (a' : Act) (W : World), Same a a' [18, 19, 5] → (∃ A c, Sl a' 5 (.slice A h.length c) ∧ Held w0 W (rowR 5 1 (.slice A (h).length c) (h).length (bv (h)) :: blkR g6 25 (hashA h) :: L)) → Q .normal a' W) : (Code.region 4 (opsOf 4 Tryd.f11).toArray false).wp Tryd.prog Q a w := by
  refine wp_region_lit (l := (opsOf 4 Tryd.f11)) ?_
  conv => arg 4; whnf
  unfold Sl at o6
  have hr := Lib.hid (Rd.of_hash (S.at_ (l1 := [])) hh)
  have S := Lib.hid S
  have hh := Lib.hid hh
  go_wp2_with (at_builtin; refine app_new rfl (.const (.slice none 0 0)) (.tmp 18) rfl rfl S.out (.slice (some ⟨g6, 0, none⟩) 32 32) h (by simp [Act.eval, hsz]) (by rw [hh.out]; exact hr.out) (by rw [hh.out]; decide) ?_; intro v1 w1 S1; have S1 := Lib.hid S1; obtain ⟨A1, c1, hv1, _, _⟩ := ow_form (S1.out.at_ (l1 := [])); subst hv1)
  try simp only [Act.put]
  exact hend _ _ (by repeat (first | (with_reducible refine same_set (by decide) ?_) | (with_reducible exact same_nil))) (⟨A1, c1, (by unfold Sl; simp [hsz]; exact hh.out.symm), S1.out⟩)
-- END rmc4
-- REG rmc6
set_option maxRecDepth 100000 in
set_option maxHeartbeats 2000000 in
theorem rmc_r6 {Q : Exit → Act → World → Prop} {a : Act} {w : World} (w0 : World) (A : Option Addr) (c : Nat) (xs : List UInt8) (hx : xs.length ≤ 1000) (L : List Res) (S : Held w0 w (rowR 5 1 (.slice A (xs).length c) (xs).length (bv (xs)) :: L)) (hsz : a.tmps.size = 54) (o5 : Sl a 5 (.slice A xs.length c))
    (hend : ∀ (a' : Act) (W : World), Same a a' [23, 24, 25, 5] → (∃ A c, Sl a' 5 (.slice A (xs ++ [0]).length c) ∧ Held w0 W (rowR 5 1 (.slice A (xs ++ [0]).length c) (xs ++ [0]).length (bv (xs ++ [0])) :: L)) → Q .normal a' W) : (Code.region 6 (opsOf 6 Tryd.f11).toArray false).wp Tryd.prog Q a w := by
  refine wp_region_lit (l := (opsOf 6 Tryd.f11)) ?_
  conv => arg 4; whnf
  unfold Sl at o5
  have S1 := Lib.hid (S.alloc (.cells #[.int .u8 0] 5))
  have HR := Lib.hid (rd_lit w 5 #[.int .u8 0] [0] rfl (by simp))
  have Hx := Lib.hid hx
  clear S hx
  obtain ⟨nx, hnx⟩ : ∃ nx, xs.length = nx := ⟨_, rfl⟩
  have Hnx := Lib.hid hnx
  rw [hnx] at o5
  clear hnx
  go_wp2_with (at_builtin; refine app_held [] rfl (.tmp 23) (.tmp 24) rfl (.slice A nx c) xs (by simp [Act.eval, hsz]) (by rw [← Hnx.out]; exact S1.out) (.slice (some ⟨w.heap.size, 0, none⟩) 1 1) [0] (by simp [Act.eval, hsz]) HR.out (by have := Hx.out; simp; omega) ?_; intro v2 w2 S2; have S2 := Lib.hid S2; obtain ⟨A2, c2, hv2, _, _⟩ := ow_form (S2.out.at_ (l1 := [])); subst hv2)
  try simp only [Act.put]
  exact hend _ _ (by repeat (first | (with_reducible refine same_set (by decide) ?_) | (with_reducible exact same_nil))) (⟨A2, c2, (by unfold Sl; simp [hsz]), S2.out⟩)
-- END rmc6
-- REG rmc7
set_option maxRecDepth 100000 in
set_option maxHeartbeats 2000000 in
theorem rmc_r7 {Q : Exit → Act → World → Prop} {a : Act} {w : World}  (hsz : a.tmps.size = 54) 
    (hend : ∀ (a' : Act), Same a a' [7, 8] → Sl a' 7 (.slice none 0 0) → Sl a' 8 (.slice none 0 0) → Q .normal a' (w)) : (Code.region 7 (opsOf 7 Tryd.f11).toArray false).wp Tryd.prog Q a w := by
  refine wp_region_lit (l := (opsOf 7 Tryd.f11)) ?_
  conv => arg 4; whnf
  go_wp2_with fail
  try simp only [Act.put]
  exact hend _ (by repeat (first | (with_reducible refine same_set (by decide) ?_) | (with_reducible exact same_nil))) (by unfold Sl; first | (simp [hsz]; done) | (simp [hsz]; omega)) (by unfold Sl; first | (simp [hsz]; done) | (simp [hsz]; omega))
-- END rmc7
-- REG rmc8
set_option maxRecDepth 100000 in
set_option maxHeartbeats 2000000 in
theorem rmc_r8 {Q : Exit → Act → World → Prop} {a : Act} {w : World}  (hsz : a.tmps.size = 54) 
    (hend : ∀ (a' : Act), Same a a' [9] → Sl a' 9 (.int .i64 ((0 : Nat) : Int)) → Q .normal a' (w)) : (Code.region 8 (opsOf 8 Tryd.f11).toArray false).wp Tryd.prog Q a w := by
  refine wp_region_lit (l := (opsOf 8 Tryd.f11)) ?_
  conv => arg 4; whnf
  go_wp2_with fail
  try simp only [Act.put]
  exact hend _ (by repeat (first | (with_reducible refine same_set (by decide) ?_) | (with_reducible exact same_nil))) (by unfold Sl; first | (simp [hsz]; done) | (simp [hsz]; omega))
-- END rmc8
-- REG rmc9
set_option maxRecDepth 100000 in
set_option maxHeartbeats 2000000 in
theorem rmc_r9 {Q : Exit → Act → World → Prop} {a : Act} {w : World} (k : Nat) (hsz : a.tmps.size = 54) (o9 : Sl a 9 (.int .i64 (k : Int)))
    (hend : ∀ (a' : Act), Same a a' [26, 27] → Sl a' 27 (.bool (decide ((k : Int) < 64))) → Q .normal a' (w)) : (Code.region 9 (opsOf 9 Tryd.f11).toArray false).wp Tryd.prog Q a w := by
  refine wp_region_lit (l := (opsOf 9 Tryd.f11)) ?_
  conv => arg 4; whnf
  unfold Sl at o9
  go_wp2_with fail
  try simp only [Act.put]
  exact hend _ (by repeat (first | (with_reducible refine same_set (by decide) ?_) | (with_reducible exact same_nil))) (by unfold Sl; first | (simp [hsz]; done) | (simp [hsz]; omega))
-- END rmc9
-- REG rmc10
set_option maxRecDepth 100000 in
set_option maxHeartbeats 2000000 in
theorem rmc_r10 {Q : Exit → Act → World → Prop} {a : Act} {w : World} (k : Nat) (hk : k < 64) (hsz : a.tmps.size = 54) (o9 : Sl a 9 (.int .i64 (k : Int)))
    (hend : ∀ (a' : Act), Same a a' [28, 29, 9] → Sl a' 9 (.int .i64 ((k + 1 : Nat) : Int)) → Q .normal a' (w)) : (Code.region 10 (opsOf 10 Tryd.f11).toArray false).wp Tryd.prog Q a w := by
  refine wp_region_lit (l := (opsOf 10 Tryd.f11)) ?_
  conv => arg 4; whnf
  unfold Sl at o9
  go_wp2_with fail
  try simp only [Act.put]
  exact hend _ (by repeat (first | (with_reducible refine same_set (by decide) ?_) | (with_reducible exact same_nil))) (by unfold Sl; first | (simp [hsz]; done) | (simp [hsz]; omega))
-- END rmc10
-- REG rmc11
set_option maxRecDepth 100000 in
set_option maxHeartbeats 2000000 in
theorem rmc_r11 {Q : Exit → Act → World → Prop} {a : Act} {w : World} (w0 : World) (k c ck : Nat) (A : Option Addr) (adk : Addr) (xs : List UInt8) (b : UInt8) (hk : k < 64) (hx : xs.length ≤ 1000) (hc : w.cell? (adk.add k) = some (.int .u8 (b.toNat : Int))) (LL : List Res) (S : Held w0 w (rowR 5 1 (.slice A (xs).length c) (xs).length (bv (xs)) :: LL)) (hsz : a.tmps.size = 54) (o5 : Sl a 5 (.slice (some adk) 64 ck)) (o7 : Sl a 7 (.slice A xs.length c)) (o9 : Sl a 9 (.int .i64 (k : Int)))
    (hend : ∀ (a' : Act) (W : World), Same a a' [30, 31, 32, 33, 34, 35, 36, 37, 7] → (∃ A2 c2, Sl a' 7 (.slice A2 (xs ++ [b ^^^ 54]).length c2) ∧ Held w0 W (rowR 5 1 (.slice A2 (xs ++ [b ^^^ 54]).length c2) (xs ++ [b ^^^ 54]).length (bv (xs ++ [b ^^^ 54])) :: LL)) → Q .normal a' W) : (Code.region 11 (opsOf 11 Tryd.f11).toArray false).wp Tryd.prog Q a w := by
  refine wp_region_lit (l := (opsOf 11 Tryd.f11)) ?_
  conv => arg 4; whnf
  unfold Sl at o5 o7 o9
  have hxb := xor_byte b 54
  rw [show ((54 : UInt8).toNat : Int) = 54 from rfl] at hxb
  have S1 := Lib.hid (S.alloc (.cells #[.int .u8 ((b ^^^ 54).toNat : Int)] 5))
  have HR := Lib.hid (rd_lit w 5 #[.int .u8 ((b ^^^ 54).toNat : Int)] [b ^^^ 54] rfl (by simp))
  have Hx := Lib.hid hx
  clear S hx
  generalize b ^^^ 54 = y at *
  obtain ⟨nx, hnx⟩ : ∃ nx, xs.length = nx := ⟨_, rfl⟩
  have Hnx := Lib.hid hnx
  rw [hnx] at o7
  clear hnx
  go_wp2_with (at_builtin; refine app_held [] rfl (.tmp 30) (.tmp 36) rfl (.slice A nx c) xs (by simp [Act.eval, hsz]) (by rw [← Hnx.out]; exact S1.out) (.slice (some ⟨w.heap.size, 0, none⟩) 1 1) [y] (by simp [Act.eval, hsz]) HR.out (by have := Hx.out; simp; omega) ?_; intro v2 w2 S2; have S2 := Lib.hid S2; obtain ⟨A2, c2, hv2, _, _⟩ := ow_form (S2.out.at_ (l1 := [])); subst hv2)
  try simp only [Act.put]
  exact hend _ _ (by repeat (first | (with_reducible refine same_set (by decide) ?_) | (with_reducible exact same_nil))) (⟨A2, c2, (by unfold Sl; simp [hsz]), S2.out⟩)
-- END rmc11
-- REG rmc12
set_option maxRecDepth 100000 in
set_option maxHeartbeats 2000000 in
theorem rmc_r12 {Q : Exit → Act → World → Prop} {a : Act} {w : World} (w0 : World) (k c ck : Nat) (A : Option Addr) (adk : Addr) (xs : List UInt8) (b : UInt8) (hk : k < 64) (hx : xs.length ≤ 1000) (hc : w.cell? (adk.add k) = some (.int .u8 (b.toNat : Int))) (r0 : Res) (LL : List Res) (S : Held w0 w (r0 :: rowR 5 1 (.slice A (xs).length c) (xs).length (bv (xs)) :: LL)) (hsz : a.tmps.size = 54) (o5 : Sl a 5 (.slice (some adk) 64 ck)) (o8 : Sl a 8 (.slice A xs.length c)) (o9 : Sl a 9 (.int .i64 (k : Int)))
    (hend : ∀ (a' : Act) (W : World), Same a a' [38, 39, 40, 41, 42, 43, 44, 45, 8] → (∃ A2 c2, Sl a' 8 (.slice A2 (xs ++ [b ^^^ 92]).length c2) ∧ Held w0 W (r0 :: rowR 5 1 (.slice A2 (xs ++ [b ^^^ 92]).length c2) (xs ++ [b ^^^ 92]).length (bv (xs ++ [b ^^^ 92])) :: LL)) → Q .normal a' W) : (Code.region 12 (opsOf 12 Tryd.f11).toArray false).wp Tryd.prog Q a w := by
  refine wp_region_lit (l := (opsOf 12 Tryd.f11)) ?_
  conv => arg 4; whnf
  unfold Sl at o5 o8 o9
  have hxb := xor_byte b 92
  rw [show ((92 : UInt8).toNat : Int) = 92 from rfl] at hxb
  have S1 := Lib.hid (S.alloc (.cells #[.int .u8 ((b ^^^ 92).toNat : Int)] 5))
  have HR := Lib.hid (rd_lit w 5 #[.int .u8 ((b ^^^ 92).toNat : Int)] [b ^^^ 92] rfl (by simp))
  have Hx := Lib.hid hx
  clear S hx
  generalize b ^^^ 92 = y at *
  obtain ⟨nx, hnx⟩ : ∃ nx, xs.length = nx := ⟨_, rfl⟩
  have Hnx := Lib.hid hnx
  rw [hnx] at o8
  clear hnx
  go_wp2_with (at_builtin; refine app_held [_] rfl (.tmp 38) (.tmp 44) rfl (.slice A nx c) xs (by simp [Act.eval, hsz]) (by rw [← Hnx.out]; exact S1.out) (.slice (some ⟨w.heap.size, 0, none⟩) 1 1) [y] (by simp [Act.eval, hsz]) HR.out (by have := Hx.out; simp; omega) ?_; intro v2 w2 S2; have S2 := Lib.hid S2; obtain ⟨A2, c2, hv2, _, _⟩ := ow_form (S2.out.at_ (l1 := [_])); subst hv2)
  try simp only [Act.put]
  exact hend _ _ (by repeat (first | (with_reducible refine same_set (by decide) ?_) | (with_reducible exact same_nil))) (⟨A2, c2, (by unfold Sl; simp [hsz]), S2.out⟩)
-- END rmc12
-- REG rmc13
set_option maxRecDepth 100000 in
set_option maxHeartbeats 2000000 in
theorem rmc_r13 {Q : Exit → Act → World → Prop} {a : Act} {w : World} (w0 : World) (A Ax : Option Addr) (c cx : Nat) (s x : List UInt8) (hl : s.length + x.length ≤ 140737488355328) (L : List Res) (S : Held w0 w (rowR 5 1 (.slice A (s).length c) (s).length (bv (s)) :: L)) (hx : Rd w 1 (.slice Ax x.length cx) x.length (bv x)) (hsz : a.tmps.size = 54) (o1 : Sl a 1 (.slice Ax x.length cx)) (o7 : Sl a 7 (.slice A s.length c))
    (hend : ∀ (a' : Act) (W : World), Same a a' [46, 47, 48, 49, 10] → (∃ g A c, Sl a' 10 (.pointer (some ⟨g, 0, none⟩)) ∧ Held w0 W (blkR g 25 (hashA (shaF (s ++ x))) :: rowR 5 1 (.slice A (s ++ x).length c) (s ++ x).length (bv (s ++ x)) :: L)) → Q .normal a' W) : (Code.region 13 (opsOf 13 Tryd.f11).toArray false).wp Tryd.prog Q a w := by
  refine wp_region_lit (l := (opsOf 13 Tryd.f11)) ?_
  conv => arg 4; whnf
  unfold Sl at o1 o7
  have HR : Hid (∀ V A c, Held w0 V (rowR 5 1 (.slice A (s ++ x).length c) (s ++ x).length (bv (s ++ x)) :: L) → Calls Tryd.prog 42 #[.slice A (s ++ x).length c] V fun e w' => e = .returned (.agg (hashA (shaF (s ++ x)))) ∧ Held w0 w' (rowR 5 1 (.slice A (s ++ x).length c) (s ++ x).length (bv (s ++ x)) :: L)) := Lib.hid (fun V A c SV => rsha_any w0 _ A c (s ++ x) (by rw [List.length_append]; exact hl) V SV (fun V' L' SV' => Rd.of_own SV'.at_))
  have hO := Lib.hid (hashA_one (shaF (s ++ x)))
  have hsz1 : Hid ((hashA (shaF (s ++ x))).size = 32) := Lib.hid (by rw [hashA_size, shaF_length])
  obtain ⟨ch, hch⟩ : ∃ ch, Hid (hashA (shaF (s ++ x)) = ch) := ⟨_, Lib.hid rfl⟩
  rw [hch.out] at HR hO hsz1
  have S := Lib.hid S
  have Hx := Lib.hid hx
  have Hl := Lib.hid hl
  clear hl hx
  obtain ⟨ns, hns⟩ : ∃ ns, s.length = ns := ⟨_, rfl⟩
  have Hns := Lib.hid hns
  rw [hns] at o7
  clear hns
  obtain ⟨nx, hnx⟩ : ∃ nx, x.length = nx := ⟨_, rfl⟩
  have Hnx := Lib.hid hnx
  rw [hnx] at o1
  clear hnx
  go_wp2_with (at_builtin; refine app_held [] rfl (.tmp 46) (.tmp 47) rfl (.slice A ns c) s (by simp [Act.eval, hsz]) (by rw [← Hns.out]; exact S.out) (.slice Ax nx cx) x (by simp [Act.eval, hsz]) (by rw [← Hnx.out]; exact Hx.out) Hl.out ?_; intro v2 w2 S2; obtain ⟨A2, c2, hv2, _, _⟩ := ow_form (S2.at_ (l1 := [])); subst hv2; have HR2 := Lib.hid (HR.out w2 A2 c2 S2); clear S2; obtain ⟨nz, hnz⟩ : ∃ nz, (s ++ x).length = nz := ⟨_, rfl⟩; rw [hnz] at HR2 ⊢; have Hnz := Lib.hid hnz; clear hnz)
  refine HR2.out.mono ?_
  rintro e w4 ⟨rfl, S4⟩
  have S4 := Lib.hid (S4.newBlk 25 (hashA (List.replicate 32 0)))
  rw [← Hnz.out] at S4
  go_wp2_with (refine wpList_store_blk rfl 25 (.tmp 10) (.tmp 49) rfl w4.heap.size (by simp [Act.eval, Act.put, hsz]) ch (by simp [Act.eval, Act.put, hsz]) 25 _ (S4.out.at_ (l1 := [])) (by rw [hsz1.out]; exact Tryd.infoHashP) (by rw [hsz1.out]; rfl) hO.out ?_; intro w5 b5 k5; have S5 := Lib.hid (Held.setBlk (l1 := []) S4.out b5 k5); clear b5 k5)
  rw [← hch.out] at S5
  try simp only [Act.put]
  exact hend _ _ (by repeat (first | (with_reducible refine same_set (by decide) ?_) | (with_reducible exact same_nil))) (⟨_, A2, c2, (by unfold Sl; simp [hsz]), S5.out⟩)
-- END rmc13
-- REG rmc14
set_option maxRecDepth 100000 in
set_option maxHeartbeats 2000000 in
theorem rmc_r14 {Q : Exit → Act → World → Prop} {a : Act} {w : World} (w0 : World) (A : Option Addr) (c g10 g4 : Nat) (s h : List UInt8) (hs : s.length = 64) (hh : h.length = 32) (L1 L : List Res) (S : Held w0 w (rowR 5 1 (.slice A (s).length c) (s).length (bv (s)) :: blkR g10 25 (hashA h) :: (L1 ++ blkR g4 25 (hashA (List.replicate 32 0)) :: L))) (hsz : a.tmps.size = 54) (o4 : Sl a 4 (.pointer (some ⟨g4, 0, none⟩))) (o8 : Sl a 8 (.slice A s.length c)) (o10 : Sl a 10 (.pointer (some ⟨g10, 0, none⟩)))
    (hend : ∀ (a' : Act) (W : World), Same a a' [50, 51, 52, 53] → (∃ A c, Held w0 W (rowR 5 1 (.slice A (s ++ h).length c) (s ++ h).length (bv (s ++ h)) :: blkR g10 25 (hashA h) :: (L1 ++ blkR g4 25 (hashA (shaF (s ++ h))) :: L))) → Q .normal a' W) : (Code.region 14 (opsOf 14 Tryd.f11).toArray false).wp Tryd.prog Q a w := by
  refine wp_region_lit (l := (opsOf 14 Tryd.f11)) ?_
  conv => arg 4; whnf
  unfold Sl at o4 o8 o10
  have HR : Hid (∀ V A c, Held w0 V (rowR 5 1 (.slice A (s ++ h).length c) (s ++ h).length (bv (s ++ h)) :: blkR g10 25 (hashA h) :: (L1 ++ blkR g4 25 (hashA (List.replicate 32 0)) :: L)) → Calls Tryd.prog 42 #[.slice A (s ++ h).length c] V fun e w' => e = .returned (.agg (hashA (shaF (s ++ h)))) ∧ Held w0 w' (rowR 5 1 (.slice A (s ++ h).length c) (s ++ h).length (bv (s ++ h)) :: blkR g10 25 (hashA h) :: (L1 ++ blkR g4 25 (hashA (List.replicate 32 0)) :: L))) := Lib.hid (fun V A c SV => rsha_any w0 _ A c (s ++ h) (by rw [List.length_append]; omega) V SV (fun V' L' SV' => Rd.of_own SV'.at_))
  have hr := Lib.hid (Rd.of_hash (S.at_ (l1 := [_])) hh)
  have hO := Lib.hid (hashA_one (shaF (s ++ h)))
  have hsz1 : Hid ((hashA (shaF (s ++ h))).size = 32) := Lib.hid (by rw [hashA_size, shaF_length])
  obtain ⟨ch, hch⟩ : ∃ ch, Hid (hashA (shaF (s ++ h)) = ch) := ⟨_, Lib.hid rfl⟩
  rw [hch.out] at HR hO hsz1
  have S := Lib.hid S
  have Hh := Lib.hid hh
  have Hs := Lib.hid hs
  clear hh hs
  obtain ⟨ns, hns⟩ : ∃ ns, s.length = ns := ⟨_, rfl⟩
  have Hns := Lib.hid hns
  rw [hns] at o8
  clear hns
  go_wp2_with (at_builtin; refine app_held [] rfl (.tmp 50) (.tmp 51) rfl (.slice A ns c) s (by simp [Act.eval, hsz]) (by rw [← Hns.out]; exact S.out) (.slice (some ⟨g10, 0, none⟩) 32 32) h (by simp [Act.eval, hsz]) (by rw [Hh.out]; exact hr.out) (by rw [Hs.out, Hh.out]; decide) ?_; intro v2 w2 S2; obtain ⟨A2, c2, hv2, _, _⟩ := ow_form (S2.at_ (l1 := [])); subst hv2; have HR2 := Lib.hid (HR.out w2 A2 c2 S2); clear S2; obtain ⟨nz, hnz⟩ : ∃ nz, (s ++ h).length = nz := ⟨_, rfl⟩; rw [hnz] at HR2 ⊢; have Hnz := Lib.hid hnz; clear hnz)
  refine HR2.out.mono ?_
  rintro e w4 ⟨rfl, S4⟩
  have S4 := Lib.hid S4
  rw [← Hnz.out] at S4
  go_wp2_with (refine wpList_store_blk rfl 25 (.tmp 4) (.tmp 53) rfl g4 (by simp [Act.eval, Act.put, hsz, o4]) ch (by simp [Act.eval, Act.put, hsz]) 25 _ (S4.out.at_ (l1 := _ :: _ :: L1)) (by rw [hsz1.out]; exact Tryd.infoHashP) (by rw [hsz1.out]; rfl) hO.out ?_; intro w5 b5 k5; have S5 := Lib.hid (Held.setBlk (l1 := _ :: _ :: L1) S4.out b5 k5); clear b5 k5)
  rw [← hch.out] at S5
  try simp only [Act.put]
  exact hend _ _ (by repeat (first | (with_reducible refine same_set (by decide) ?_) | (with_reducible exact same_nil))) (⟨A2, c2, S5.out⟩)
-- END rmc14
def dsMc0 : List Nat := [5, 20, 21, 22, 23, 24, 25]
def dsMc1 : List Nat := [7, 8, 9, 26, 27, 28, 29, 30, 31, 32, 33, 34, 35, 36, 37, 38, 39, 40, 41, 42, 43, 44, 45]
set_option maxRecDepth 100000 in
set_option maxHeartbeats 2000000 in
theorem rmc_l0 {Q : Exit → Act → World → Prop} {a : Act} {w0 w : World} (kk : List UInt8) (hkl : kk.length ≤ 64) (A : Option Addr) (c : Nat) (L : List Res) (hsz : a.tmps.size = 54) (o5 : Sl a 5 (.slice A kk.length c)) (S : Held w0 w (rowR 5 1 (.slice A kk.length c) kk.length (bv kk) :: L))
    (hend : ∀ (a' : Act) (W : World) (A : Option Addr) (c : Nat), Same a a' dsMc0 → Sl a' 5 (.slice A 64 c) → Held w0 W (rowR 5 1 (.slice A 64 c) 64 (bv (kk ++ List.replicate (64 - kk.length) 0)) :: L) → Q .normal a' W) :
    (Code.block 0 (blockOf 0 Tryd.f11)).wp Tryd.prog Q a w := by
  refine wp_block ?_
  conv => arg 2; whnf
  refine wp_loop (fun a' w' => ∃ (j : Nat) (A : Option Addr) (c : Nat), kk.length + j ≤ 64 ∧ Same a a' dsMc0 ∧ Sl a' 5 (.slice A (kk ++ List.replicate j 0).length c) ∧ Held w0 w' (rowR 5 1 (.slice A (kk ++ List.replicate j 0).length c) (kk ++ List.replicate j 0).length (bv (kk ++ List.replicate j 0)) :: L)) (fun a' _ => 64 - lenV (a'.eval (.tmp 5))) ⟨0, A, c, by omega, Same.refl _ _, by rw [List.replicate_zero, List.append_nil]; exact o5, by rw [List.replicate_zero, List.append_nil]; exact S⟩ ?_
  clear o5 S
  rintro a1 w1 ⟨j, A, c, hj, T, o5, S⟩
  have hz1 := T.size.trans hsz
  have eCtr := o5.eval (by rw [hz1]; decide)
  have hl : (kk ++ List.replicate j 0).length = kk.length + j := by simp
  refine wp_seq (wp_seq (rmc_r5 A _ c hz1 o5 (fun a2 hs2 o22 => ?_)))
  have hz2 := hs2.size.trans hz1
  have o5 := hs2.keep 5 _ (by decide) o5
  have T := T.trans hs2
  rw [hl] at o22
  by_cases hlt : kk.length + j < 64
  · refine wp_cond_true ((o22.eval (by rw [hz2]; decide)).trans (by rw [decide_eq_true hlt])) (wp_skip ?_)
    refine wp_block ?_
    refine rmc_r6 w0 A c _ (by rw [hl]; omega) _ S hz2 o5 (fun a3 w2 hs3 h => ?_)
    have hz3 := hs3.size.trans hz2
    have o22 := hs3.keep 22 _ (by decide) o22
    have T := T.trans hs3
    obtain ⟨A2, c2, o5, S⟩ := h
    have e : kk ++ List.replicate j 0 ++ [0] = kk ++ List.replicate (j + 1) 0 := by rw [List.append_assoc, ← List.replicate_succ']
    rw [e] at o5 S
    refine ⟨⟨j + 1, A2, c2, by omega, T.more (by decide +kernel), o5, S⟩, ?_⟩
    show 64 - lenV _ < 64 - lenV _
    rw [eCtr, o5.eval (by rw [hz3]; decide)]
    show 64 - (kk ++ List.replicate (j + 1) 0).length < 64 - (kk ++ List.replicate j 0).length
    rw [hl, List.length_append, List.length_replicate]
    omega
  · refine wp_cond_false ((o22.eval (by rw [hz2]; decide)).trans (by rw [decide_eq_false hlt])) (wp_exit ?_)
    obtain rfl : j = 64 - kk.length := by omega
    have h64 : (kk ++ List.replicate (64 - kk.length) 0).length = 64 := by rw [hl]; omega
    rw [h64] at o5 S
    exact hend _ _ A c (T.more (by decide +kernel)) o5 S
set_option maxRecDepth 100000 in
set_option maxHeartbeats 2000000 in
theorem rmc_l1 {Q : Exit → Act → World → Prop} {a : Act} {w0 w : World} (kk : List UInt8) (hkl : kk.length = 64) (Ak : Option Addr) (ck : Nat) (L : List Res) (hsz : a.tmps.size = 54) (o5 : Sl a 5 (.slice Ak 64 ck)) (o7 : Sl a 7 (.slice none 0 0)) (o8 : Sl a 8 (.slice none 0 0)) (o9 : Sl a 9 (.int .i64 ((0 : Nat) : Int))) (S : Held w0 w (rowR 5 1 (.slice Ak 64 ck) 64 (bv kk) :: L))
    (hend : ∀ (a' : Act) (W : World) (A7 A8 : Option Addr) (c7 c8 : Nat), Same a a' dsMc1 → Sl a' 7 (.slice A7 (turned kk 54).length c7) → Sl a' 8 (.slice A8 (turned kk 92).length c8) → Held w0 W (rowR 5 1 (.slice A7 (turned kk 54).length c7) (turned kk 54).length (bv (turned kk 54)) :: rowR 5 1 (.slice A8 (turned kk 92).length c8) (turned kk 92).length (bv (turned kk 92)) :: rowR 5 1 (.slice Ak 64 ck) 64 (bv kk) :: L) → Q .normal a' W) :
    (Code.block 2 (blockOf 2 Tryd.f11)).wp Tryd.prog Q a w := by
  refine wp_block ?_
  conv => arg 2; whnf
  refine wp_loop (fun a' w' => ∃ (k : Nat) (A7 A8 : Option Addr) (c7 c8 : Nat), k ≤ 64 ∧ Same a a' dsMc1 ∧ Sl a' 9 (.int .i64 (k : Int)) ∧ Sl a' 7 (.slice A7 (turned (kk.take k) 54).length c7) ∧ Sl a' 8 (.slice A8 (turned (kk.take k) 92).length c8) ∧ Held w0 w' (rowR 5 1 (.slice A7 (turned (kk.take k) 54).length c7) (turned (kk.take k) 54).length (bv (turned (kk.take k) 54)) :: rowR 5 1 (.slice A8 (turned (kk.take k) 92).length c8) (turned (kk.take k) 92).length (bv (turned (kk.take k) 92)) :: rowR 5 1 (.slice Ak 64 ck) 64 (bv kk) :: L)) (fun a' _ => 64 - (intOf (a'.eval (.tmp 9))).toNat)
    ⟨0, none, none, 0, 0, by omega, Same.refl _ _, o9, o7, o8, (S.rownew (World.ownsRow_nil _ _ _ _) (Kp.refl [] _) (by simp [Value.ownBlock])).rownew (World.ownsRow_nil _ _ _ _) (Kp.refl [] _) (by simp [Value.ownBlock])⟩ ?_
  clear o7 o8 o9 S
  rintro a1 w1 ⟨k, A7, A8, c7, c8, hk, T, o9, o7, o8, S⟩
  have hz1 := T.size.trans hsz
  have o5 := T.keep 5 _ (by decide) o5
  have eCtr := o9.eval (by rw [hz1]; decide)
  have ht : ∀ t, (turned (kk.take k) t).length ≤ 1000 := fun t => by unfold turned; rw [List.length_map, List.length_take]; omega
  refine wp_seq (wp_seq (rmc_r9 k hz1 o9 (fun a2 hs2 o27 => ?_)))
  have hz2 := hs2.size.trans hz1
  have o5 := hs2.keep 5 _ (by decide) o5
  have o7 := hs2.keep 7 _ (by decide) o7
  have o8 := hs2.keep 8 _ (by decide) o8
  have o9 := hs2.keep 9 _ (by decide) o9
  have T := T.trans hs2
  by_cases hlt : k < 64
  · refine wp_cond_true ((o27.eval (by rw [hz2]; decide)).trans (by rw [decide_eq_true (by omega)])) (wp_skip ?_)
    have hR := Rd.of_own (S.at_ (l1 := [_, _]))
    obtain ⟨-, A', c', he, -, -, hA, hc⟩ := id hR
    cases he
    obtain ⟨adk, rfl⟩ : ∃ adk, Ak = some adk := by
      rcases Ak with _ | adk
      · have := hA rfl; omega
      · exact ⟨adk, rfl⟩
    have hkk : k < kk.length := by omega
    have hcell : ∀ V, Kp [] w1 V → True := fun _ _ => trivial
    have hc1 : w1.cell? (adk.add k) = some (.int .u8 (kk[k].toNat : Int)) := hc adk rfl k _ (by rw [bv_get, List.getElem?_eq_getElem hkk]; rfl)
    have htn : ∀ t, turned (kk.take k) t ++ [kk[k] ^^^ t] = turned (kk.take (k + 1)) t := fun t => by unfold turned; rw [List.take_add_one, List.getElem?_eq_getElem hkk]; simp only [Option.toList_some, List.map_append, List.map_cons, List.map_nil]
    refine wp_seq (wp_block ?_)
    refine wp_seq (rmc_r11 w0 k c7 ck A7 adk _ kk[k] hlt (ht _) hc1 _ S hz2 o5 o7 o9 (fun a3 w2 hs3 h => ?_))
    have hz3 := hs3.size.trans hz2
    have o5 := hs3.keep 5 _ (by decide) o5
    have o8 := hs3.keep 8 _ (by decide) o8
    have o9 := hs3.keep 9 _ (by decide) o9
    have o27 := hs3.keep 27 _ (by decide) o27
    have T := T.trans hs3
    obtain ⟨A7, c7, o7, S⟩ := h
    rw [htn] at o7 S
    have hc2 : w2.cell? (adk.add k) = some (.int .u8 (kk[k].toNat : Int)) := by
      obtain ⟨-, A', c', he, -, -, -, hc⟩ := Rd.of_own (S.at_ (l1 := [_, _]))
      cases he
      exact hc adk rfl k _ (by rw [bv_get, List.getElem?_eq_getElem hkk]; rfl)
    refine rmc_r12 w0 k c8 ck A8 adk _ kk[k] hlt (ht _) hc2 _ _ S hz3 o5 o8 o9 (fun a4 w3 hs4 h => ?_)
    have hz4 := hs4.size.trans hz3
    have o5 := hs4.keep 5 _ (by decide) o5
    have o9 := hs4.keep 9 _ (by decide) o9
    have o27 := hs4.keep 27 _ (by decide) o27
    have o7 := hs4.keep 7 _ (by decide) o7
    have T := T.trans hs4
    obtain ⟨A8, c8, o8, S⟩ := h
    rw [htn] at o8 S
    refine rmc_r10 k hlt hz4 o9 (fun a5 hs5 o9 => ?_)
    have hz5 := hs5.size.trans hz4
    have o5 := hs5.keep 5 _ (by decide) o5
    have o27 := hs5.keep 27 _ (by decide) o27
    have o7 := hs5.keep 7 _ (by decide) o7
    have o8 := hs5.keep 8 _ (by decide) o8
    have T := T.trans hs5
    refine ⟨⟨k + 1, A7, A8, c7, c8, by omega, T.more (by decide +kernel), o9, o7, o8, S⟩, ?_⟩
    show 64 - (intOf _).toNat < 64 - (intOf _).toNat
    rw [eCtr, o9.eval (by rw [hz5]; decide)]
    simp [intOf]; omega
  · obtain rfl : k = 64 := by omega
    refine wp_cond_false ((o27.eval (by rw [hz2]; decide)).trans (by rw [decide_eq_false (by omega)])) (wp_exit ?_)
    rw [List.take_of_length_le (by omega)] at o7 o8 S
    exact hend _ _ A7 A8 c7 c8 (T.more (by decide +kernel)) o7 o8 S
set_option maxRecDepth 100000 in
set_option maxHeartbeats 2000000 in
theorem rmac_any (w0 : World) (L : List Res) (A : Option Addr) (c : Nat) (sec : List UInt8) (hs : sec.length ≤ 140737488355328) (Ax : Option Addr) (cx : Nat) (x : List UInt8) (hx : 64 + x.length ≤ 140737488355328) (w : World) (S : Held w0 w L)
    (HS : ∀ V L', Held w0 V (L' ++ L) → Rd V 1 (.slice A sec.length c) sec.length (bv sec)) (HX : ∀ V L', Held w0 V (L' ++ L) → Rd V 1 (.slice Ax x.length cx) x.length (bv x)) :
    Calls Tryd.prog 11 #[.slice A sec.length c, .slice Ax x.length cx] w fun e w' => e = .returned (.agg (hashA (macF sec x))) ∧ Held w0 w' L := by
  refine calls_fr Tryd.func11 rfl 54 rfl (fun a0 hsz hdf hAr => ?_)
  have hz0 : a0.tmps.size = 54 := hsz
  have D := hdf
  have o0 := hAr 0 _ rfl
  have o1 := hAr 1 _ rfl
  refine wp_seq (rmc_r0 w0 _ S hz0 (fun a1 w1 hs1 h => ?_))
  have hz1 := hs1.size.trans hz0
  have o0 := hs1.keep 0 _ (by decide) o0
  have o1 := hs1.keep 1 _ (by decide) o1
  have D := hs1.defers.trans D
  obtain ⟨g4, o4, S⟩ := h
  refine wp_seq (rmc_r1 w0 A c sec hs _ (HS _ [_] S) S hz1 o0 (fun a2 w2 hs2 h => ?_))
  have hz2 := hs2.size.trans hz1
  have o1 := hs2.keep 1 _ (by decide) o1
  have o4 := hs2.keep 4 _ (by decide) o4
  have D := hs2.defers.trans D
  obtain ⟨A5, c5, o5, S⟩ := h
  have tail : ∀ (a3 : Act) (w3 : World) (kk : List UInt8) (A5 : Option Addr) (c5 : Nat) (L1 : List Res), kk.length ≤ 64 → kk ++ List.replicate (64 - kk.length) 0 = key64 sec → a3.tmps.size = 54 → a3.defers = [] → Sl a3 1 (.slice Ax x.length cx) → Sl a3 4 (.pointer (some ⟨g4, 0, none⟩)) → Sl a3 5 (.slice A5 kk.length c5) → Held w0 w3 (rowR 5 1 (.slice A5 kk.length c5) kk.length (bv kk) :: (L1 ++ blkR g4 25 (hashA (List.replicate 32 0)) :: L)) →
      (tailOf 2 Tryd.f11).wp Tryd.prog (bodyPost Tryd.prog Tryd.f11 fun e w' => e = .returned (.agg (hashA (macF sec x))) ∧ Held w0 w' L) a3 w3 := by
    intro a3 w3 kk A5 c5 L1 hkl hkk hz3 D o1 o4 o5 S
    refine wp_seq (rmc_l0 kk hkl A5 c5 _ hz3 o5 S (fun a4 w4 A6 c6 hs4 o5 S => ?_))
    have hz4 := hs4.size.trans hz3
    have o1 := hs4.keep 1 _ (by decide) o1
    have o4 := hs4.keep 4 _ (by decide) o4
    have D := hs4.defers.trans D
    rw [hkk] at S
    refine wp_seq (rmc_r7 hz4 (fun a5 hs5 o7 o8 => ?_))
    have hz5 := hs5.size.trans hz4
    have o1 := hs5.keep 1 _ (by decide) o1
    have o4 := hs5.keep 4 _ (by decide) o4
    have o5 := hs5.keep 5 _ (by decide) o5
    have D := hs5.defers.trans D
    refine wp_seq (wp_seq (rmc_r8 hz5 (fun a6 hs6 o9 => ?_)))
    have hz6 := hs6.size.trans hz5
    have o1 := hs6.keep 1 _ (by decide) o1
    have o4 := hs6.keep 4 _ (by decide) o4
    have o5 := hs6.keep 5 _ (by decide) o5
    have o7 := hs6.keep 7 _ (by decide) o7
    have o8 := hs6.keep 8 _ (by decide) o8
    have D := hs6.defers.trans D
    refine rmc_l1 (key64 sec) (key64_length sec) A6 c6 _ hz6 o5 o7 o8 o9 S (fun a7 w7 A7 A8 c7 c8 hs7 o7 o8 S => ?_)
    have hz7 := hs7.size.trans hz6
    have o1 := hs7.keep 1 _ (by decide) o1
    have o4 := hs7.keep 4 _ (by decide) o4
    have o5 := hs7.keep 5 _ (by decide) o5
    have D := hs7.defers.trans D
    have hr := HX w7 ([_, _, _] ++ L1 ++ [_]) (by
      have := S
      simpa [List.append_assoc] using this)
    have h54 : (turned (key64 sec) 54).length = 64 := by unfold turned; rw [List.length_map, key64_length]
    have h92 : (turned (key64 sec) 92).length = 64 := by unfold turned; rw [List.length_map, key64_length]
    refine wp_seq (rmc_r13 w0 A7 Ax c7 cx _ x (by rw [h54]; exact hx) _ S hr hz7 o1 o7 (fun a8 w8 hs8 h => ?_))
    have hz8 := hs8.size.trans hz7
    have o1 := hs8.keep 1 _ (by decide) o1
    have o4 := hs8.keep 4 _ (by decide) o4
    have o5 := hs8.keep 5 _ (by decide) o5
    have o7 := hs8.keep 7 _ (by decide) o7
    have o8 := hs8.keep 8 _ (by decide) o8
    have D := hs8.defers.trans D
    obtain ⟨g10, A13, c13, o10, S⟩ := h
    have S := S.perm ((List.Perm.cons _ (List.Perm.swap _ _ _)).trans (List.Perm.swap _ _ _))
    refine wp_seq (rmc_r14 w0 A8 c8 g10 g4 _ _ h92 (shaF_length _) (_ :: _ :: L1) L S hz8 o4 o8 o10 (fun a9 w9 hs9 h => ?_))
    have hz9 := hs9.size.trans hz8
    have o1 := hs9.keep 1 _ (by decide) o1
    have o4 := hs9.keep 4 _ (by decide) o4
    have o5 := hs9.keep 5 _ (by decide) o5
    have o7 := hs9.keep 7 _ (by decide) o7
    have o8 := hs9.keep 8 _ (by decide) o8
    have o10 := hs9.keep 10 _ (by decide) o10
    have D := hs9.defers.trans D
    obtain ⟨A14, c14, S⟩ := h
    refine wp_ret (bodyPost_ret (results_cell1 (by rfl) (o4.eval (by rw [hz9]; decide)) (S.at_ (l1 := _ :: _ :: _ :: _ :: L1)) Tryd.underlying25 rfl (by rw [hashA_size, shaF_length]; exact Tryd.infoHashP)) D ⟨rfl, ?_⟩)
    exact S.drop.drop.sub ((List.sublist_cons_self _ _).trans (List.sublist_append_right _ _))
  refine wp_seq (wp_seq (rmc_r2 A5 sec.length c5 hz2 o5 (fun a3 hs3 o15 => ?_)))
  have hz3 := hs3.size.trans hz2
  have o1 := hs3.keep 1 _ (by decide) o1
  have o4 := hs3.keep 4 _ (by decide) o4
  have o5 := hs3.keep 5 _ (by decide) o5
  have D := hs3.defers.trans D
  by_cases hlt : 64 < sec.length
  · refine wp_cond_true ((o15.eval (by rw [hz3]; decide)).trans (by rw [decide_eq_true hlt])) ?_
    refine wp_seq (rmc_r3 w0 A5 c5 sec hs _ S hz3 o5 (fun a4 w3 hs4 h => ?_))
    have hz4 := hs4.size.trans hz3
    have o1 := hs4.keep 1 _ (by decide) o1
    have o4 := hs4.keep 4 _ (by decide) o4
    have o15 := hs4.keep 15 _ (by decide) o15
    have D := hs4.defers.trans D
    obtain ⟨g6, o6, S⟩ := h
    refine rmc_r4 w0 g6 _ (shaF_length sec) _ S hz4 o6 (fun a5 w4 hs5 h => ?_)
    have hz5 := hs5.size.trans hz4
    have o1 := hs5.keep 1 _ (by decide) o1
    have o4 := hs5.keep 4 _ (by decide) o4
    have o15 := hs5.keep 15 _ (by decide) o15
    have o6 := hs5.keep 6 _ (by decide) o6
    have D := hs5.defers.trans D
    obtain ⟨A6, c6, o5, S⟩ := h
    exact tail _ _ (shaF sec) A6 c6 [_, _] (by rw [shaF_length]; omega) (by unfold key64; rw [if_pos hlt]) hz5 D o1 o4 o5 S
  · refine wp_cond_false ((o15.eval (by rw [hz3]; decide)).trans (by rw [decide_eq_false hlt])) (wp_skip ?_)
    exact tail _ _ sec A5 c5 [] (by omega) (by unfold key64; rw [if_neg hlt]) hz3 D o1 o4 o5 S
end Go.Proofs.YtapboamjpilckaaDoor
/- Names and keys of both packages. -/
namespace Go.Proofs.YtapboamjpilckaaDoor
open Go.RowKit
def okB (c : UInt8) : Bool := decide (33 ≤ c.toNat) && decide (c.toNat ≤ 126)
theorem nmOk_eq (l : List UInt8) : nmOk l = (decide (0 < l.length) && decide (l.length ≤ 64) && l.all okB) := rfl
theorem all_take_succ {l : List UInt8} {k : Nat} (h : k < l.length) : (l.take (k + 1)).all okB = ((l.take k).all okB && okB l[k]) := by
  rw [List.take_add_one, List.getElem?_eq_getElem h, Option.toList_some, List.all_append, List.all_cons, List.all_nil, Bool.and_true]
theorem all_of_take {l : List UInt8} {k : Nat} (h : k < l.length) (hb : okB l[k] = false) : l.all okB = false := by
  rw [List.all_eq_false]
  exact ⟨l[k], List.getElem_mem h, by simp [hb]⟩
theorem nonempty_strS {s : ByteArray} (h : 0 < s.size) : s.toList.isEmpty = false := by
  rw [Lib.toList_data]
  cases hl : s.data.toList with
  | nil => have : s.data.toList.length = s.size := rfl; rw [hl] at this; simp at this; omega
  | cons _ _ => rfl
set_option maxRecDepth 100000 in
set_option maxHeartbeats 1000000 in
theorem signer_any (s : ByteArray) (hs : s.size ≤ 9223372036854775807) (w : World) : Calls Tryd.prog 54 #[.string s] w fun e w' => e = .returned (.bool (nmOk s.data.toList)) ∧ w = w' := by
  have hsz : s.data.toList.length = s.size := rfl
  go_enter Tryd.func54, Tryd.ntmps54
  go_wp2
  go_loopw [3, 6] (fun _ i wr => ∃ k : Nat, k ≤ s.size ∧ i = .int .i64 (k : Int) ∧ Hid ((s.data.toList.take k).all okB = true) ∧ w = wr) (fun _ i _ => s.size - (intOf i).toNat)
  case atStart => exact ⟨0, by omega, rfl, Lib.hid rfl, rfl⟩
  case round =>
    obtain ⟨k, hk, rfl, HA, rfl⟩ := hrel
    by_cases hlt : k < s.size
    · have hx := run_str_indexP s k hlt w
      have hkl : k < s.data.toList.length := hlt
      have hok : okB s[k] = (decide (33 ≤ s[k].toNat) && decide (s[k].toNat ≤ 126)) := rfl
      have hts := Lib.hid (all_take_succ hkl)
      have htf := Lib.hid (all_of_take hkl)
      have he : s.data.toList[k] = s[k] := rfl
      rw [he] at hts htf
      have hc := s[k].toNat_lt
      generalize hcc : s[k] = c at *
      by_cases h1 : c.toNat < 33
      · have Hb : Hid (nmOk s.data.toList = false) := Lib.hid (by rw [nmOk_eq, htf.out (by rw [hok]; simp; omega), Bool.and_false])
        clear hts htf hok he hcc
        go_wp2
        go_ret
        exact ⟨by rw [Hb.out]; rfl, rfl⟩
      · by_cases h2 : 126 < c.toNat
        · have Hb : Hid (nmOk s.data.toList = false) := Lib.hid (by rw [nmOk_eq, htf.out (by rw [hok]; simp; omega), Bool.and_false])
          clear hts htf hok he hcc
          go_wp2
          go_ret
          exact ⟨by rw [Hb.out]; rfl, rfl⟩
        · have Hb : Hid ((s.data.toList.take (k + 1)).all okB = true) := Lib.hid (by rw [hts.out, HA.out, hok]; simp; omega)
          clear hts htf hok he hcc
          go_wp2
          go_roundw
          case rel => exact ⟨k + 1, by omega, by go_num, Hb, trivial⟩
          case measure => simp [intOf]; omega
    · obtain rfl : k = s.size := by omega
      have hall : Hid (nmOk s.data.toList = (decide (0 < s.size) && decide (s.size ≤ 64))) := Lib.hid (by
        rw [nmOk_eq, show s.data.toList.all okB = true from by have := HA.out; rwa [List.take_of_length_le (by omega)] at this, Bool.and_true]; rfl)
      by_cases h0 : s.size = 0
      · have hse : s = { data := #[] } := by
          have : s.data.size = 0 := h0
          cases s with | mk d => simp at this; simp [this]
        subst hse
        go_wp2
        go_ret
        exact ⟨by rw [hall.out]; rfl, rfl⟩
      · have hem : s.toList.isEmpty = false := nonempty_strS (by omega)
        have hd : Hid ((decide (0 < s.size) && decide (s.size ≤ 64)) = decide ((s.size : Int) ≤ 64)) := Lib.hid (by rw [decide_eq_true (show 0 < s.size by omega), Bool.true_and]; congr 1; exact propext ⟨fun h => by omega, fun h => by omega⟩)
        go_wp2
        go_ret
        exact ⟨by rw [hall.out, hd.out]; rfl, rfl⟩
set_option maxRecDepth 100000 in
set_option maxHeartbeats 1000000 in
theorem smay_any (s : ByteArray) (hs : s.size ≤ 9223372036854775807) (A : Option Addr) (n c : Nat) (w : World) : Calls Tryd.prog 48 #[.agg #[.string s, .slice A n c]] w fun e w' => e = .returned (.bool (nmOk s.data.toList && decide (0 < n) && decide (n ≤ 256))) ∧ Kp [] w w' := by
  have S0 := Lib.hid ((Held.start w).newBlk 42 #[.string s, .slice A n c])
  obtain ⟨c0, c1, -⟩ := Blk.c2 (S0.out.at_ (l1 := []))
  have HS := Lib.hid (fun V => signer_any s hs V)
  generalize nmOk s.data.toList = b at *
  go_enter Tryd.func48, Tryd.ntmps48
  go_wp2_with fail
  refine (HS.out _).mono ?_
  rintro e w' ⟨rfl, rfl⟩
  cases b
  · go_wp2
    go_ret
    exact ⟨rfl, S0.out.k⟩
  · by_cases h0 : 0 < n
    · have hz : (0 : Int) < (n : Int) := by omega
      go_wp2
      go_ret
      refine ⟨?_, S0.out.k⟩
      simp [h0]
      omega
    · obtain rfl : n = 0 := by omega
      go_wp2
      go_ret
      exact ⟨rfl, S0.out.k⟩
end Go.Proofs.YtapboamjpilckaaDoor
/- Signatures in memory; the order of names. -/
namespace Go.Proofs.YtapboamjpilckaaDoor
open Go.RowKit
theorem less_cmp : ∀ a b : List UInt8, Op.bytesLess a b = decide (cmpB a b < 0)
  | [], [] => rfl
  | [], _ :: _ => rfl
  | _ :: _, [] => rfl
  | x :: a, y :: b => by
    rw [cmpB_cons]
    unfold Op.bytesLess
    have ih := less_cmp a b
    by_cases h1 : x.toNat < y.toNat
    · rw [if_pos h1]
      simp [UInt8.lt_iff_toNat_lt, h1]
    · rw [if_neg h1]
      by_cases h2 : y.toNat < x.toNat
      · rw [if_pos h2]
        have : ¬ x = y := fun e => by subst e; omega
        simp [UInt8.lt_iff_toNat_lt, h1, this]
      · rw [if_neg h2]
        have : x = y := UInt8.toNat_inj.1 (by omega)
        subst this
        simp [ih]
theorem cmp_beq (a b : List UInt8) : (a == b) = decide (cmpB a b = 0) := by
  rw [Bool.eq_iff_iff, beq_iff_eq, decide_eq_true_iff]
  exact ⟨fun h => by subst h; exact cmpB_self a, cmpB_zero⟩
theorem leq_cmp (a b : List UInt8) : (Op.bytesLess a b || a == b) = decide (cmpB a b ≤ 0) := by
  rw [less_cmp, cmp_beq, Bool.eq_iff_iff, Bool.or_eq_true, decide_eq_true_iff, decide_eq_true_iff, decide_eq_true_iff]
  omega
def strV (s : List UInt8) : Value := .string ⟨s.toArray⟩
theorem str_list (s : List UInt8) : (ByteArray.mk s.toArray).toList = s := by rw [Lib.toList_data]
theorem str_size (s : List UInt8) : (ByteArray.mk s.toArray).size = s.length := by show s.toArray.size = _; simp
/-- A signature's cells. -/
def sgL (s : SigD) : List Value := strV s.1 :: bv s.2
def sgA (s : SigD) : Array Value := (sgL s).toArray
def sgsC (l : List SigD) : List Value := l.flatMap sgL
def SgOk (l : List SigD) : Prop := ∀ s, s ∈ l → s.2.length = 32 ∧ s.1.length ≤ 9223372036854775807
theorem sgL_length {s : SigD} (h : s.2.length = 32) : (sgL s).length = 33 := by simp [sgL, bv_length, h]
theorem sgA_size {s : SigD} (h : s.2.length = 32) : (sgA s).size = 33 := by simp only [sgA, List.size_toArray]; exact sgL_length h
theorem sgA_one (s : SigD) : ∀ u, u ∈ (sgA s).toList → u.oneCell' = true := by
  intro u hu
  simp only [sgA, List.toList_toArray, sgL, List.mem_cons] at hu
  rcases hu with rfl | hu
  · rfl
  · exact bv_one _ u hu
theorem sgsC_length : ∀ {l : List SigD}, SgOk l → (sgsC l).length = l.length * 33
  | [], _ => rfl
  | s :: l, h => by
    show (sgL s ++ sgsC l).length = _
    rw [List.length_append, sgL_length (h s (by simp)).1, sgsC_length (fun x hx => h x (by simp [hx])), List.length_cons]; omega
theorem sgsC_at : ∀ {l : List SigD} {k : Nat} {s : SigD}, SgOk l → l[k]? = some s → ∀ j u, (sgL s)[j]? = some u → (sgsC l)[k * 33 + j]? = some u
  | [], _, _, _, h => by simp at h
  | s :: l, 0, _, hok, h => fun j u hu => by
    obtain rfl : s = _ := by simpa using h
    show (sgL s ++ sgsC l)[0 * 33 + j]? = _
    rw [Nat.zero_mul, Nat.zero_add, List.getElem?_append_left (List.getElem?_eq_some_iff.1 hu).1]
    exact hu
  | s :: l, k + 1, x, hok, h => fun j u hu => by
    show (sgL s ++ sgsC l)[(k + 1) * 33 + j]? = _
    have h1 := sgL_length (hok s (by simp)).1
    rw [List.getElem?_append_right (by omega), h1, show (k + 1) * 33 + j - 33 = k * 33 + j from by omega]
    exact sgsC_at (fun y hy => hok y (by simp [hy])) (by simpa using h) j u hu
theorem sgs_at {W : World} {ad : Addr} {c n : Nat} {l : List SigD} (h : Rd W 33 (.slice (some ad) n c) n (sgsC l)) (hok : SgOk l) {k : Nat} {s : SigD} (hk : l[k]? = some s) : ∀ j u, (sgL s)[j]? = some u → W.cell? ((ad.add (k * 33)).add j) = some u := by
  intro j u hu
  obtain ⟨-, A', c', he, -, -, -, hc⟩ := h
  cases he
  rw [add_of_add]
  exact hc ad rfl _ u (sgsC_at hok hk j u hu)
/-- A note's cells. -/
def ntL (z : Int) (h : List UInt8) (v : Value) : List Value := .int .i64 z :: (bv h ++ [v])
def ntA (z : Int) (h : List UInt8) (v : Value) : Array Value := (ntL z h v).toArray
section
variable {z : Int} {h : List UInt8} {v : Value}
theorem ntA_size (hh : h.length = 32) : (ntA z h v).size = 34 := by simp [ntA, ntL, bv_length, hh]
theorem ntA_one (hv : v.oneCell' = true) : ∀ u, u ∈ (ntA z h v).toList → u.oneCell' = true := by
  intro u hu
  simp only [ntA, List.toList_toArray, ntL, List.mem_cons, List.mem_append, List.not_mem_nil, or_false] at hu
  rcases hu with rfl | hu | rfl
  · rfl
  · exact bv_one _ u hu
  · exact hv
theorem ntA_sigs (hh : h.length = 32) : (ntA z h v)[33]? = some v := by
  simp only [ntA, List.getElem?_toArray, ntL, List.getElem?_cons_succ]
  rw [List.getElem?_append_right (by rw [bv_length]; omega), bv_length, hh]; rfl
theorem ntA_setSigs (hh : h.length = 32) (u : Value) : (ntA z h v).setIfInBounds 33 u = ntA z h u := by
  unfold ntA ntL
  rw [List.setIfInBounds_toArray, List.set_cons_succ, List.set_append_right _ _ (by rw [bv_length]; omega), bv_length, hh]; rfl
theorem nt_pointAt {w : World} {g : Nat} {t : TypeId} (b : Blk w g t (ntA z h v)) : ∀ j u, (ptA z h).toList[j]? = some u → w.cell? ((⟨g, 0, none⟩ : Addr).add j) = some u := by
  intro j u hu
  refine b.agg j u ?_
  simp only [ntA, List.toList_toArray, ntL]
  have e : Value.int .i64 z :: (bv h ++ [v]) = (ptA z h).toList ++ [v] := rfl
  rw [e, List.getElem?_append_left (List.getElem?_eq_some_iff.1 hu).1]
  exact hu
end
theorem Tryd.infoNote : (Tryd.prog.info? 36).map (·.size) = some 34 := by kernel_rfl
theorem Tryd.infoSig : (Tryd.prog.info? 81).map (·.size) = some 33 := by kernel_rfl
theorem Tryd.infoSigZ : (Tryd.prog.info? 81).map (fun i => (i.zero, i.size, i.bytes)) = some (some (.agg (sgA ([], List.replicate 32 0))), 33, 48) := by kernel_rfl
end Go.Proofs.YtapboamjpilckaaDoor
/- Check of both packages. -/
namespace Go.Proofs.YtapboamjpilckaaDoor
open Go.RowKit
def lastN (l : List SigD) (k : Nat) : List UInt8 := match k with
  | 0 => []
  | k + 1 => (l.getD k ([], [])).1
theorem rising_drop {l : List SigD} {k : Nat} {s : SigD} (h : l[k]? = some s) : rising (lastN l k) (l.drop k) = (nmOk s.1 && decide (0 < cmpB s.1 (lastN l k)) && rising s.1 (l.drop (k + 1))) := by
  have hk := (List.getElem?_eq_some_iff.1 h).1
  have hs := (List.getElem?_eq_some_iff.1 h).2
  rw [List.drop_eq_getElem_cons hk, hs]
  rfl
theorem lastN_succ {l : List SigD} {k : Nat} {s : SigD} (h : l[k]? = some s) : lastN l (k + 1) = s.1 := by
  show (l.getD k ([], [])).1 = _
  rw [List.getD_eq_getElem?_getD, h]
  rfl
theorem str_of (s : List UInt8) : ∃ b : ByteArray, Hid (strV s = .string b) ∧ Hid (b.toList = s) ∧ b.size = s.length ∧ Hid (b.data.toList = s) := ⟨⟨s.toArray⟩, Lib.hid rfl, Lib.hid (str_list s), str_size s, Lib.hid rfl⟩
def chkN (z : Int) (l : List SigD) : Int := if mayN z l then 0 else 2
set_option maxRecDepth 100000 in
set_option maxHeartbeats 2000000 in
theorem scheck_any (z : Int) (hz : -9223372036854775808 ≤ z ∧ z ≤ 9223372036854775807) (h : List UInt8) (hh : h.length = 32) (l : List SigD) (hok : SgOk l) (hll : l.length ≤ 9223372036854775807) (A : Option Addr) (c : Nat) (w : World) (LDw : LD w) (hv : Rd w 33 (.slice A l.length c) l.length (sgsC l)) :
    Calls Tryd.prog 24 #[.agg (ntA z h (.slice A l.length c))] w fun e w' => e = .returned (.int .i64 (chkN z l)) ∧ Kp [] w w' := by
  have S0 := Lib.hid ((Held.start w).newBlk 36 (ntA z h (.slice A l.length c)))
  have hpA := Lib.hid (nt_pointAt (S0.out.at_ (l1 := [])))
  have c33 : (w.alloc (.cells (ntA z h (.slice A l.length c)) 36)).cell? ⟨w.heap.size, 33, none⟩ = some (.slice A l.length c) := by rw [(S0.out.at_ (l1 := [])).cell]; exact ntA_sigs hh
  have HP := Lib.hid (ptA_size (s := z) hh)
  have HT := Lib.hid (fun V (hk : Kp [] w V) => ptext_any z hz h hh V (LDw.kp hk))
  have HV := Lib.hid hv
  clear hv
  have hchk : ∀ b, mayN z l = b → chkN z l = if b then 0 else 2 := fun b hb => by unfold chkN; rw [hb]
  have Hchk := Lib.hid hchk
  clear hchk
  obtain ⟨ca, hca⟩ : ∃ ca, ntA z h (.slice A l.length c) = ca := ⟨_, rfl⟩
  rw [hca] at S0 hpA c33 ⊢
  obtain ⟨cp, hcp⟩ : ∃ cp, Hid (ptA z h = cp) := ⟨_, Lib.hid rfl⟩
  rw [hcp.out] at hpA HP HT
  clear hca
  unfold TextPost at HT
  obtain ⟨ts, hts⟩ : ∃ ts : ByteArray, (⟨(txt z h).toArray⟩ : ByteArray) = ts := ⟨_, rfl⟩
  rw [hts] at HT
  clear hts
  have hcg := fun V (hk : Kp [] (w.alloc (.cells ca 36)) V) => cell_kept c33 hk
  have Hcg := Lib.hid hcg
  clear hcg
  go_enter Tryd.func24, Tryd.ntmps24
  go_wp2_with (refine wpList_load_agg rfl 33 (.tmp 9) rfl ⟨w.heap.size, 0, none⟩ (by simp [Act.eval, Act.put]) cp.toList _ hpA.out Tryd.underlying33 rfl (by rw [Array.length_toList, HP.out]; exact Tryd.infoPointP) ?_)
  refine (HT.out _ S0.out.k).mono ?_
  rintro e w1 ⟨rfl, k1⟩
  have S1 := Lib.hid (S0.out.kp k1)
  have c33 := Hcg.out w1 k1
  clear k1 HT hpA
  by_cases hz0 : z < 0
  · have e : txE z = 2 := if_pos hz0
    rw [e]
    have Hm := Lib.hid (Hchk.out false (by unfold mayN; rw [decide_eq_false (by omega), Bool.false_and, Bool.false_and]))
    go_wp2
    go_ret
    exact ⟨by rw [Hm.out]; rfl, S1.out.k⟩
  · have e : txE z = 0 := if_neg hz0
    rw [e]
    clear e
    by_cases h64 : 64 < l.length
    · have h64' : (64 : Int) < (l.length : Int) := by omega
      have Hm := Lib.hid (Hchk.out false (by unfold mayN; rw [decide_eq_false (show ¬ l.length ≤ 64 by omega), Bool.and_false, Bool.false_and]))
      go_wp2
      go_ret
      exact ⟨by rw [Hm.out]; rfl, S1.out.k⟩
    · have h64' : ¬ (64 : Int) < (l.length : Int) := by omega
      have hma : mayN z l = rising [] l := by unfold mayN; rw [decide_eq_true (by omega), decide_eq_true (show l.length ≤ 64 by omega)]; rfl
      have Hma := Lib.hid hma
      clear hma
      go_wp2
      go_loopw [5, 7, 25] (fun last _ i wr => ∃ k : Nat, k ≤ l.length ∧ i = .int .i64 (k : Int) ∧ last = strV (lastN l k) ∧ Hid (rising [] l = rising (lastN l k) (l.drop k)) ∧ Kp [] w wr) (fun _ _ i _ => l.length - (intOf i).toNat)
      case atStart => exact ⟨0, by omega, rfl, rfl, Lib.hid rfl, S1.out.k⟩
      case round =>
        clear c33
        obtain ⟨k, hk, rfl, rfl, HA, K⟩ := hrel
        have K := Lib.hid K
        by_cases hlt : k < l.length
        · obtain ⟨s, hs⟩ : ∃ s, l[k]? = some s := ⟨_, List.getElem?_eq_getElem hlt⟩
          have hsk := hok s (List.mem_of_getElem? hs)
          obtain ⟨ad, rfl⟩ : ∃ ad, A = some ad := by
            obtain ⟨-, A', c', he, -, -, hA, -⟩ := HV.out
            cases he
            rcases A with _ | ad
            · have := hA rfl; omega
            · exact ⟨ad, rfl⟩
          have hat := Lib.hid (sgs_at (rd_old HV.out K.out) hok hs)
          have hrd := Lib.hid (rising_drop hs)
          have hln := Lib.hid (lastN_succ hs)
          have hsz := Lib.hid (sgA_size hsk.1)
          have hone := Lib.hid (sgA_one s)
          have hlist : (sgA s).toList = sgL s := rfl
          obtain ⟨ns, hns, hnl, hnz, hnd⟩ := str_of s.1
          obtain ⟨ls, hls, hll2, -, -⟩ := str_of (lastN l k)
          have HS := Lib.hid (fun V => signer_any ns (by rw [hnz]; exact hsk.2) V)
          rw [hnd.out] at HS
          have hle : Hid ((Op.bytesLess ns.toList ls.toList || ns.toList == ls.toList) = decide (cmpB s.1 (lastN l k) ≤ 0)) := Lib.hid (by rw [hnl.out, hll2.out]; exact leq_cmp _ _)
          obtain ⟨cs, hcs⟩ : ∃ cs, Hid (sgA s = cs) := ⟨_, Lib.hid rfl⟩
          have hc0 : Hid (cs[0]? = some (.string ns)) := Lib.hid (by rw [← hcs.out, ← hns.out]; rfl)
          rw [← hlist] at hat
          rw [hcs.out] at hat hsz hone
          rw [hls.out]
          clear hnz hsk hlist hs
          have S3 := Lib.hid ((Held.start wr).newBlk 81 (sgA ([], List.replicate 32 0)))
          generalize hlk : lastN l k = lk at *
          go_wp2_with (first
            | (refine wpList_load_agg rfl 81 (.tmp 27) rfl (ad.add (k * 33)) (by simp [Act.eval, Act.put]) cs.toList _ hat.out Tryd.underlying81 rfl (by rw [Array.length_toList, hsz.out]; exact Tryd.infoSig) ?_)
            | (refine wpList_store_blk rfl 81 (.tmp 7) (.tmp 28) rfl wr.heap.size (by simp [Act.eval, Act.put]) cs (by simp [Act.eval, Act.put]) 81 _ (S3.out.at_ (l1 := [])) (by rw [hsz.out]; exact Tryd.infoSig) (by rw [hsz.out]; rfl) hone.out ?_; intro w5 b5 k5; have S5 := Lib.hid (Held.setBlk (l1 := []) S3.out b5 k5); have c5 : w5.cell? ⟨wr.heap.size, 0, none⟩ = some (.string ns) := (by rw [b5.cell]; exact hc0.out); clear b5 k5))
          refine (HS.out _).mono ?_
          rintro e w6 ⟨rfl, rfl⟩
          have K5 := Lib.hid (K.out.trans S5.out.k (by simp))
          by_cases hnm : nmOk s.1 = true
          · rw [hnm]
            by_cases hcm : cmpB s.1 lk ≤ 0
            · have hle := hle.out
              rw [decide_eq_true hcm] at hle
              have Hm := Lib.hid (Hchk.out false (by rw [Hma.out, HA.out, hrd.out, decide_eq_false (by omega), Bool.and_false, Bool.false_and]))
              clear hcm hnm
              go_wp2
              go_ret
              exact ⟨by rw [Hm.out]; rfl, K5.out⟩
            · have hle := hle.out
              rw [decide_eq_false hcm] at hle
              have Hr : Hid (rising [] l = rising (lastN l (k + 1)) (l.drop (k + 1))) := Lib.hid (by rw [HA.out, hrd.out, hnm, decide_eq_true (show 0 < cmpB s.1 lk by omega), hln.out]; rfl)
              clear hcm hnm
              go_wp2
              go_roundw
              case rel => exact ⟨k + 1, by omega, by go_num, by rw [hln.out, hns.out], Hr, K5.out⟩
              case measure => simp [intOf]; omega
          · have hnm' : nmOk s.1 = false := by simpa using hnm
            rw [hnm']
            have Hm := Lib.hid (Hchk.out false (by rw [Hma.out, HA.out, hrd.out, hnm', Bool.false_and, Bool.false_and]))
            clear hnm hnm'
            go_wp2
            go_ret
            exact ⟨by rw [Hm.out]; rfl, K5.out⟩
        · obtain rfl : k = l.length := by omega
          have Hm := Lib.hid (Hchk.out true (by rw [Hma.out, HA.out, List.drop_length]; rfl))
          go_wp2
          go_ret
          exact ⟨by rw [Hm.out]; rfl, K.out⟩
end Go.Proofs.YtapboamjpilckaaDoor
/- May, Check of the reference. -/
namespace Go.Proofs.YtapboamjpilckaaDoor
open Go.RowKit
end Go.Proofs.YtapboamjpilckaaDoor
