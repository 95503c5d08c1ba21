/- Walks of package crc: numbers carried. -/
import Derived.Test.YtgldgkdnnimglaaCrcE
import Derived.Laws.Bits128
namespace Go.Proofs.Ytgldgkdnnimglaa
open Go.RowKit

theorem i64_and1 (n : Int) : bits .and .i64 n 1 = n % 2 := by
  have h1 : (BitVec.ofInt 64 1).toNat = 2 ^ 1 - 1 := by decide
  have key : (BitVec.ofInt 64 n &&& BitVec.ofInt 64 1).toNat = (n % ((2 ^ 64 : Nat) : Int)).toNat % 2 ^ 1 := by
    rw [BitVec.toNat_and, BitVec.toNat_ofInt, h1, Nat.and_two_pow_sub_one_eq_mod]
  show IntKind.i64.wrap ((BitVec.ofInt 64 n &&& BitVec.ofInt 64 1).toNat : Nat) = n % 2
  rw [key, IntKind.wrap_i64]
  omega
theorem mat62 : matOf (far 62) = matOf eight := by
  rw [← far_mat, show (62 : Nat) = 31 + 31 from rfl, itn_add, far_mat, mat31, far_mat, mat31]
theorem mat_turn {k : Nat} (hk : k ≤ 63) (h0 : 0 < k) (h : k % 31 = 0) : matOf (far k) = matOf eight := by
  rcases (show k = 31 ∨ k = 62 by omega) with rfl | rfl
  · exact mat31
  · exact mat62
theorem far_mov (k : Nat) : Mov (matOf (far k)) := matOf_mov fun _ h => far_lt k h
theorem sq_far (k : Nat) : sqM (matOf (far k)) = matOf (far (k + 1)) := by
  rw [sqM_mat (far_lin k) (fun x hx => far_lt k hx)]
  congr 1
  funext x
  exact (far_succ k x).symm
theorem lt63 {N k : Nat} (hN : N ≤ 9223372036854775807) (h : N / 2 ^ k ≠ 0) : k < 63 := by
  rcases Nat.lt_or_ge k 63 with hk | hk
  · exact hk
  · exfalso
    apply h
    apply Nat.div_eq_of_lt
    have : 2 ^ 63 ≤ 2 ^ k := Nat.pow_le_pow_right (by omega) hk
    omega
/-- What stands in the loop. -/
structure Cy (w wr : World) (g5 g6 k : Nat) : Prop where
  kp : Kp [] w wr
  b5 : Blk wr g5 71 (movA (matOf eight))
  b6 : Blk wr g6 71 (movA (matOf (far k)))
  l5 : w.heap.size ≤ g5
  l6 : g5 < g6

theorem cy_next {w wr : World} {g5 g6 k : Nat} (h : Cy w wr g5 g6 k) (w4 w5 : World) (k4 : Kp [] wr w4) (k5 : Kp [g6] w4 w5)
    (c5 : Blk w5 g6 71 ((movA (matOf (far k))).toList.take 0 ++ (movA (matOf (far (k + 1)))).toList ++ (movA (matOf (far k))).toList.drop (0 + (movA (matOf (far (k + 1)))).size)).toArray) : Cy w w5 g5 g6 (k + 1) := by
  have l6 := h.l6
  have l5 := h.l5
  refine ⟨(h.kp.trans k4 (by simp)).trans k5 (fun g hg => .inr (by simp at hg; omega)), (h.b5.kp k4 (by simp)).kp k5 (by simp; omega), ?_, l5, l6⟩
  rw [set_all _ _ (by rw [movA_size, movA_size, matOf_length, matOf_length])] at c5
  exact c5
set_option maxRecDepth 100000 in
set_option maxHeartbeats 2000000 in
theorem carry_any (x : Nat) (hx : x < 4294967296) (n : Int) (hn : n ≤ 9223372036854775807) (w : World) :
    Calls Try.prog 19 #[.int .u32 x, .int .i64 n] w fun e w' => e = .returned (.int .u32 (carry x n.toNat)) ∧ Kp [] w w' := by
  have Hone := Lib.hid (movA_one (matOf eight))
  have Hsz : Hid ((movA (matOf eight)).size = 32) := Lib.hid (by rw [movA_size, matOf_length])
  have Hby := Lib.hid (byByte_any w)
  have Hdef := Lib.hid (show movA (matOf eight) = movA (matOf eight) from rfl)
  go_enter Try.func19, Try.ntmps19
  generalize hcs : movA (matOf eight) = cs at Hone Hsz Hby
  have Hcs := Lib.hid hcs
  clear hcs
  go_wp2_with (first
    | (go_at_call 43; refine Hby.out.mono ?_; rintro e w1 ⟨rfl, k1⟩)
    | (refine wpList_store_agg rfl 71 (.tmp 5) (.tmp 8) rfl w1.heap.size 0 rfl cs rfl 71 _ (Blk.new _ _ _) (by rw [Try.infoMoves, Hsz.out]) (by rw [Hsz.out]; decide) Hone.out ?_; intro w2 c2 k2)
    | (refine wpList_load_agg rfl 71 (.tmp 5) rfl ⟨w1.heap.size, 0, none⟩ rfl cs.toList _ (Blk.agg (by rw [set_all _ _ (by rw [Hsz.out]; decide)] at c2; exact c2)) Try.underlying71 rfl (by rw [Try.infoMoves, Array.length_toList, Hsz.out]) ?_)
    | (refine wpList_store_agg rfl 71 (.tmp 6) (.tmp 9) rfl w2.heap.size 0 rfl cs rfl 71 _ (Blk.new _ _ _) (by rw [Try.infoMoves, Hsz.out]) (by rw [Hsz.out]; decide) Hone.out ?_; intro w3 c3 k3))
  have e5 : Blk w2 w1.heap.size 71 cs := by rw [set_all _ _ (by rw [Hsz.out]; decide)] at c2; exact c2
  have e6 : Blk w3 w2.heap.size 71 cs := by rw [set_all _ _ (by rw [Hsz.out]; decide)] at c3; exact c3
  have kk2 : Kp [] w w2 := (k1.alloc _).trans k2 (fun g hg => .inr (by simp at hg; subst hg; exact k1.size))
  have kk3 : Kp [] w2 w3 := ((Kp.refl [] w2).alloc _).trans k3 (fun g hg => .inr (by simp at hg; omega))
  have C0 : Cy w w3 w1.heap.size w2.heap.size 0 := ⟨kk2.trans kk3 (by simp), by rw [Hcs.out]; exact e5.kp kk3 (by simp), by
    have h : matOf (far 0) = matOf eight := (far_mat 0).symm
    rw [h, Hcs.out]; exact e6, k1.size, e5.lt⟩
  clear c2 c3 k1 k2 k3 kk2 kk3 e5 e6 Hone Hby
  generalize w1.heap.size = g5 at *
  generalize w2.heap.size = g6 at *
  go_loopw [0, 1, 7] (fun u v t wr => ∃ (k : Nat) (m : Int), m ≤ 9223372036854775807 ∧ m.toNat = n.toNat / 2 ^ k ∧ v = .int .i64 m ∧ u = .int .u32 ((carry x (n.toNat % 2 ^ k) : Nat) : Int) ∧ t = .int .i64 k ∧ k ≤ 63 ∧ Cy w wr g5 g6 k) (fun _ v _ _ => (intOf v).toNat)
  case atStart => exact ⟨0, n, hn, by simp, rfl, by rw [Nat.pow_zero, Nat.mod_one]; rfl, rfl, by omega, C0⟩
  case round =>
    clear C0
    obtain ⟨k, m, hm, hmt, rfl, rfl, rfl, hk, C⟩ := hrel
    have hX := carry_lt (n.toNat % 2 ^ k) hx
    have Hz : Hid (n.toNat / 2 ^ k = 0 → carry x n.toNat = carry x (n.toNat % 2 ^ k)) := Lib.hid (fun h => by
      rw [Nat.mod_eq_of_lt]
      exact (Nat.div_eq_zero_iff_lt (Nat.pow_pos (by omega))).1 h)
    have Hbit := Lib.hid (carry_bit x n.toNat k)
    generalize carry x (n.toNat % 2 ^ k) = X at *
    by_cases hm0 : m ≤ 0
    · have Hz2 := Lib.hid (Hz.out (by omega))
      have C' := Lib.hid C
      clear Hz hmt C
      go_wp2
      go_ret
      exact ⟨by rw [Hz2.out]; rfl, C'.out.kp⟩
    · obtain ⟨M, rfl⟩ := Int.eq_ofNat_of_zero_le (show 0 ≤ m by omega)
      rw [Int.toNat_natCast] at hmt
      have hk63 := lt63 (N := n.toNat) (k := k) (by omega) (by omega)
      have Hmt : Hid (M / 2 = n.toNat / 2 ^ (k + 1)) := Lib.hid (by rw [div_pow_succ, ← hmt])
      have hb := Hbit.out
      rw [← hmt] at hb
      have hand := i64_and1 (M : Int)
      have Hnx := Lib.hid (cy_next C)
      have Ho := Lib.hid (of_any g6 (matOf (far k)) (far_mov k) X hX wr C.b6)
      have Hof := Lib.hid (show ofL (matOf (far k)) X = far k X from ofL_mat (far_lin k) hX)
      have Ht := twice_any g6 (matOf (far k)) (far_mov k) wr C.b6
      rw [sq_far] at Ht
      have Htw := Lib.hid Ht
      have Hone2 := Lib.hid (movA_one (matOf (far (k + 1))))
      have Hsz2 : Hid ((movA (matOf (far (k + 1)))).size = 32) := Lib.hid (by rw [movA_size, matOf_length])
      have Hsz0 : Hid ((movA (matOf (far k))).size = 32) := Lib.hid (by rw [movA_size, matOf_length])
      have Htn := Lib.hid (fun h => mat_turn (k := k + 1) (by omega) (by omega) h)
      have Heq := fun W => eq_mov W (matOf eight) (matOf_length _)
      clear Ht Hz
      have hpos : (0 : Int) < (M : Int) := by omega
      have Hmt0 := Lib.hid hmt
      have hod0 := bit_cases M
      rw [show (n.toNat / 2 ^ k) = M from hmt.symm] at Hbit
      clear hb hm0 hmt
      rcases hod0 with hod | hod
      · have hod' : ((M : Int) % 2 == 1) = false := by simp; omega
        rw [if_neg (by omega)] at Hbit
        have C' := Lib.hid C
        clear hod C
        by_cases ht : (k + 1) % 31 = 0
        · have ht' : (((k : Int) + 1) % 31 == 0) = true := by simp; omega
          go_wp2_with (first
            | (go_at_call 44; refine Ho.out.mono ?_; rintro e w' ⟨rfl, rfl⟩)
            | (go_at_call 45; refine Htw.out.mono ?_; rintro e w4 ⟨rfl, k4⟩)
            | (refine wpList_store_agg rfl 71 (.tmp 6) (.tmp 19) rfl g6 0 rfl (movA (matOf (far (k + 1)))) rfl 71 _ (C'.out.b6.kp k4 (by simp)) (by rw [Try.infoMoves, Hsz2.out]) (by rw [Hsz2.out, Hsz0.out]; decide) Hone2.out ?_; intro w5 c5 k5; have C5 := Lib.hid (Hnx.out w4 w5 k4 k5 c5); clear c5 k5)
            | (refine wpList_load_run rfl 71 (.tmp 6) rfl (.pointer (some ⟨g6, 0, none⟩)) rfl (.agg (movA (matOf eight))) (run_loadAt_agg w5 _ 71 (movA (matOf eight)).toList _ (Blk.agg (by have := C5.out.b6; rw [Htn.out ht] at this; exact this)) Try.underlying71 rfl (by rw [Try.infoMoves, Array.length_toList, Hcs.out, Hsz.out])) ?_)
            | (refine wpList_load_run rfl 71 (.tmp 5) rfl (.pointer (some ⟨g5, 0, none⟩)) rfl (.agg (movA (matOf eight))) (run_loadAt_agg w5 _ 71 (movA (matOf eight)).toList _ C5.out.b5.agg Try.underlying71 rfl (by rw [Try.infoMoves, Array.length_toList, Hcs.out, Hsz.out])) ?_))
          go_roundw
          case rel => exact ⟨k + 1, ((M / 2 : Nat) : Int), by omega, by rw [Int.toNat_natCast, Hmt.out], rfl, by rw [Hbit.out], by go_num, by omega, C5.out⟩
          case measure => simp [intOf]; omega
        · have ht' : (((k : Int) + 1) % 31 == 0) = false := by simp; omega
          go_wp2_with (first
            | (go_at_call 44; refine Ho.out.mono ?_; rintro e w' ⟨rfl, rfl⟩)
            | (go_at_call 45; refine Htw.out.mono ?_; rintro e w4 ⟨rfl, k4⟩)
            | (refine wpList_store_agg rfl 71 (.tmp 6) (.tmp 19) rfl g6 0 rfl (movA (matOf (far (k + 1)))) rfl 71 _ (C'.out.b6.kp k4 (by simp)) (by rw [Try.infoMoves, Hsz2.out]) (by rw [Hsz2.out, Hsz0.out]; decide) Hone2.out ?_; intro w5 c5 k5; have C5 := Lib.hid (Hnx.out w4 w5 k4 k5 c5); clear c5 k5))
          go_roundw
          case rel => exact ⟨k + 1, ((M / 2 : Nat) : Int), by omega, by rw [Int.toNat_natCast, Hmt.out], rfl, by rw [Hbit.out], by go_num, by omega, C5.out⟩
          case measure => simp [intOf]; omega
      · have hod' : ((M : Int) % 2 == 1) = true := by simp; omega
        rw [if_pos hod] at Hbit
        have C' := Lib.hid C
        clear hod C
        by_cases ht : (k + 1) % 31 = 0
        · have ht' : (((k : Int) + 1) % 31 == 0) = true := by simp; omega
          go_wp2_with (first
            | (go_at_call 44; refine Ho.out.mono ?_; rintro e w' ⟨rfl, rfl⟩)
            | (go_at_call 45; refine Htw.out.mono ?_; rintro e w4 ⟨rfl, k4⟩)
            | (refine wpList_store_agg rfl 71 (.tmp 6) (.tmp 19) rfl g6 0 rfl (movA (matOf (far (k + 1)))) rfl 71 _ (C'.out.b6.kp k4 (by simp)) (by rw [Try.infoMoves, Hsz2.out]) (by rw [Hsz2.out, Hsz0.out]; decide) Hone2.out ?_; intro w5 c5 k5; have C5 := Lib.hid (Hnx.out w4 w5 k4 k5 c5); clear c5 k5)
            | (refine wpList_load_run rfl 71 (.tmp 6) rfl (.pointer (some ⟨g6, 0, none⟩)) rfl (.agg (movA (matOf eight))) (run_loadAt_agg w5 _ 71 (movA (matOf eight)).toList _ (Blk.agg (by have := C5.out.b6; rw [Htn.out ht] at this; exact this)) Try.underlying71 rfl (by rw [Try.infoMoves, Array.length_toList, Hcs.out, Hsz.out])) ?_)
            | (refine wpList_load_run rfl 71 (.tmp 5) rfl (.pointer (some ⟨g5, 0, none⟩)) rfl (.agg (movA (matOf eight))) (run_loadAt_agg w5 _ 71 (movA (matOf eight)).toList _ C5.out.b5.agg Try.underlying71 rfl (by rw [Try.infoMoves, Array.length_toList, Hcs.out, Hsz.out])) ?_))
          go_roundw
          case rel => exact ⟨k + 1, ((M / 2 : Nat) : Int), by omega, by rw [Int.toNat_natCast, Hmt.out], rfl, by rw [Hbit.out, ← Hof.out], by go_num, by omega, C5.out⟩
          case measure => simp [intOf]; omega
        · have ht' : (((k : Int) + 1) % 31 == 0) = false := by simp; omega
          go_wp2_with (first
            | (go_at_call 44; refine Ho.out.mono ?_; rintro e w' ⟨rfl, rfl⟩)
            | (go_at_call 45; refine Htw.out.mono ?_; rintro e w4 ⟨rfl, k4⟩)
            | (refine wpList_store_agg rfl 71 (.tmp 6) (.tmp 19) rfl g6 0 rfl (movA (matOf (far (k + 1)))) rfl 71 _ (C'.out.b6.kp k4 (by simp)) (by rw [Try.infoMoves, Hsz2.out]) (by rw [Hsz2.out, Hsz0.out]; decide) Hone2.out ?_; intro w5 c5 k5; have C5 := Lib.hid (Hnx.out w4 w5 k4 k5 c5); clear c5 k5))
          go_roundw
          case rel => exact ⟨k + 1, ((M / 2 : Nat) : Int), by omega, by rw [Int.toNat_natCast, Hmt.out], rfl, by rw [Hbit.out, ← Hof.out], by go_num, by omega, C5.out⟩
          case measure => simp [intOf]; omega
end Go.Proofs.Ytgldgkdnnimglaa
