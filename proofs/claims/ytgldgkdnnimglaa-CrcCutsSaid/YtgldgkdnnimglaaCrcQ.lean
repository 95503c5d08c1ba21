/- Walks: four bytes solved, by the program and by the reference. -/
import Derived.Test.YtgldgkdnnimglaaCrcP
import Derived.Test.YtgldgkdnnimglaaCut
import Derived.IntWalk
namespace Go.Proofs.Ytgldgkdnnimglaa
open Go.RowKit

theorem Try.infoFour : (Try.prog.info? 43).map (·.size) = some 4 := by kernel_rfl
theorem le4A (x : Nat) (h : x < 4294967296) : hashA (le4 x) = #[.int .u8 ((x : Int) % 256), .int .u8 ((x : Int) / 256 % 256), .int .u8 ((x : Int) / 65536 % 256), .int .u8 ((x : Int) / 16777216)] := by
  unfold hashA le4 bv
  simp only [List.map_cons, List.map_nil, UInt8.toNat_ofNat']
  rw [Nat.mod_eq_of_lt (show x / 16777216 < 2 ^ 8 by omega)]
  rfl
theorem zeroA : hashA (List.replicate 4 0) = #[.int .u8 0, .int .u8 0, .int .u8 0, .int .u8 0] := rfl
set_option maxRecDepth 100000 in
set_option maxHeartbeats 800000 in
theorem solve_no (A : Option Addr) (n c : Nat) (at_ : Int) (hat : -9223372036854775808 ≤ at_ ∧ at_ ≤ 9223372036854775807) (h : at_ < 0 ∨ (n : Int) - at_ < 4) (hn : n ≤ 140737488355328) (x : Int) (w : World) :
    Calls Try.prog 29 #[.slice A n c, .int .i64 at_, .int .u32 x] w fun e w' => e = .returned (.tuple #[.agg (hashA (List.replicate 4 0)), .bool false]) ∧ Kp [] w w' := by
  have b0 := Blk.new w 43 (hashA (List.replicate 4 0))
  have k0 : Kp [] w (w.alloc (.cells (hashA (List.replicate 4 0)) 43)) := (Kp.refl [] w).alloc _
  have B0 := Lib.hid b0
  have K0 := Lib.hid k0
  clear b0 k0
  by_cases h1 : at_ < 0
  · clear h
    go_enter Try.func29, Try.ntmps29
    go_wp2_with (refine wpList_store_agg rfl 43 (.tmp 6) (.tmp 20) rfl w.heap.size 0 rfl (hashA (List.replicate 4 0)) rfl 43 (hashA (List.replicate 4 0)) B0.out (by rw [Try.infoFour]; rfl) (by decide) (bv_one _) ?_; intro w2 c2 k2)
    rw [set_all _ _ rfl] at c2
    exact bodyPost_ret (results_cell_tmp (by rfl) rfl c2 Try.underlying43 rfl (by rw [Try.infoFour]; rfl)) rfl ⟨rfl, K0.out.trans k2 (fun g hg => .inr (by simp at hg; omega))⟩
  · have h2 : (n : Int) - at_ < 4 := by omega
    clear h
    go_enter Try.func29, Try.ntmps29
    go_wp2_with (refine wpList_store_agg rfl 43 (.tmp 6) (.tmp 20) rfl w.heap.size 0 rfl (hashA (List.replicate 4 0)) rfl 43 (hashA (List.replicate 4 0)) B0.out (by rw [Try.infoFour]; rfl) (by decide) (bv_one _) ?_; intro w2 c2 k2)
    rw [set_all _ _ rfl] at c2
    exact bodyPost_ret (results_cell_tmp (by rfl) rfl c2 Try.underlying43 rfl (by rw [Try.infoFour]; rfl)) rfl ⟨rfl, K0.out.trans k2 (fun g hg => .inr (by simp at hg; omega))⟩
set_option maxRecDepth 100000 in
set_option maxHeartbeats 800000 in
theorem rsolve_no (A : Option Addr) (n c : Nat) (at_ : Int) (hat : -9223372036854775808 ≤ at_ ∧ at_ ≤ 9223372036854775807) (h : at_ < 0 ∨ (n : Int) - at_ < 4) (hn : n ≤ 140737488355328) (x : Int) (w : World) :
    Calls Try.prog 30 #[.slice A n c, .int .i64 at_, .int .u32 x] w fun e w' => e = .returned (.tuple #[.agg (hashA (List.replicate 4 0)), .bool false]) ∧ Kp [] w w' := by
  have b0 := Blk.new w 43 (hashA (List.replicate 4 0))
  have k0 : Kp [] w (w.alloc (.cells (hashA (List.replicate 4 0)) 43)) := (Kp.refl [] w).alloc _
  have B0 := Lib.hid b0
  have K0 := Lib.hid k0
  clear b0 k0
  by_cases h1 : at_ < 0
  · clear h
    go_enter Try.func30, Try.ntmps30
    go_wp2_with (refine wpList_store_agg rfl 43 (.tmp 6) (.tmp 21) rfl w.heap.size 0 rfl (hashA (List.replicate 4 0)) rfl 43 (hashA (List.replicate 4 0)) B0.out (by rw [Try.infoFour]; rfl) (by decide) (bv_one _) ?_; intro w2 c2 k2)
    rw [set_all _ _ rfl] at c2
    exact bodyPost_ret (results_cell_tmp (by rfl) rfl c2 Try.underlying43 rfl (by rw [Try.infoFour]; rfl)) rfl ⟨rfl, K0.out.trans k2 (fun g hg => .inr (by simp at hg; omega))⟩
  · have h2 : (n : Int) - 4 < at_ := by omega
    clear h
    go_enter Try.func30, Try.ntmps30
    go_wp2_with (refine wpList_store_agg rfl 43 (.tmp 6) (.tmp 21) rfl w.heap.size 0 rfl (hashA (List.replicate 4 0)) rfl 43 (hashA (List.replicate 4 0)) B0.out (by rw [Try.infoFour]; rfl) (by decide) (bv_one _) ?_; intro w2 c2 k2)
    rw [set_all _ _ rfl] at c2
    exact bodyPost_ret (results_cell_tmp (by rfl) rfl c2 Try.underlying43 rfl (by rw [Try.infoFour]; rfl)) rfl ⟨rfl, K0.out.trans k2 (fun g hg => .inr (by simp at hg; omega))⟩

theorem Txs.drew {w : World} {v : Value} {L : List (List UInt8)} (h : Txs w v L) : Txs w.drew v L := h.kp0 ((Kp.refl [] w).drew)
theorem Txs.alloc {w : World} {v : Value} {L : List (List UInt8)} (h : Txs w v L) (o : Obj) : Txs (w.alloc o) v L := h.kp0 ((Kp.refl [] w).alloc o)
theorem rd_zero4 {w : World} {g : Nat} (t : TypeId) (hg : g = w.heap.size) : Rd (w.alloc (.cells #[.int .u8 0, .int .u8 0, .int .u8 0, .int .u8 0] t)) 1 (.slice (some ⟨g, 0, none⟩) 4 4) 4 (bv [0, 0, 0, 0]) := by
  subst hg; exact rd_lit w t _ [0, 0, 0, 0] rfl (by decide)
theorem more_zero (a : List UInt8) : more (crc a) [0, 0, 0, 0] = crc (a ++ [0, 0, 0, 0]) := (crc_append a _).symm
set_option maxRecDepth 100000 in
set_option maxHeartbeats 1600000 in
theorem solve_ok (A : Option Addr) (b : List UInt8) (c at_ m want : Nat) (hm : at_ + 4 + m = b.length) (hn : b.length ≤ 140737488355328) (hw : want < 4294967296) (w : World) (hb : Rd w 1 (.slice A b.length c) b.length (bv b)) :
    Calls Try.prog 29 #[.slice A b.length c, .int .i64 at_, .int .u32 want] w fun e w' => e = .returned (.tuple #[.agg (hashA (le4 (solveN (b.take at_) (b.drop (at_ + 4)) want))), .bool true]) ∧ Kp [] w w' := by
  have hnc : b.length ≤ c := by obtain ⟨_, _, _, hv, h1, _⟩ := hb; cases hv; exact h1
  obtain ⟨A1, c1, run1, rd1, _⟩ := cut_hi A b.length c at_ (at_ : Int) rfl (by omega) hnc
  obtain ⟨A2, c2, run2, rd2, _⟩ := cut_lo A b.length c (at_ + 4) m ((at_ : Int) + 4) (by omega) hm
  have hway := solve_way (b.take at_) (b.drop (at_ + 4)) want hw
  have hlm : (b.drop (at_ + 4)).length = m := by rw [List.length_drop]; omega
  rw [hlm] at hway
  have hx := solveN_lt (b.take at_) (b.drop (at_ + 4)) want
  have b0 := Blk.new w 43 (hashA (List.replicate 4 0))
  have k0 : Kp [] w (w.alloc (.cells (hashA (List.replicate 4 0)) 43)) := (Kp.refl [] w).alloc _
  have R1 : Hid (∀ W, Kp [] w W → Rd W 1 (.slice A1 at_ c1) at_ (bv (b.take at_))) := Lib.hid (fun W k => by have := rd1 W b (rd_old hb k); rwa [List.drop_zero] at this)
  have R2 : Hid (∀ W, Kp [] w W → Rd W 1 (.slice A2 m c2) m (bv (b.drop (at_ + 4)))) := Lib.hid (fun W k => by have := rd2 W b (rd_old hb k); rwa [List.take_of_length_le (by omega)] at this)
  have H3 := Lib.hid (fun W (k : Kp [] w W) => more_any (crc (b.take at_ ++ [0, 0, 0, 0])) (crc_lt _) _ _ (b.drop (at_ + 4)) W (R2.out W k))
  rw [← crc_append] at H3
  have H2 : Hid (∀ (V : World) (v : Value), Rd V 1 v 4 (bv [0, 0, 0, 0]) → Calls Try.prog 16 #[.int .u32 (crc (b.take at_) : Int), v] V fun e w' => e = .returned (.int .u32 (crc (b.take at_ ++ [0, 0, 0, 0]) : Int)) ∧ V = w') := Lib.hid (fun V v h => by
    have := more_any (crc (b.take at_)) (crc_lt _) v 4 [0, 0, 0, 0] V h
    rw [more_zero] at this
    exact this)
  have H1 : Hid (∀ (V : World) (v : Value), Txs V v [b.take at_] → Calls Try.prog 14 #[v] V fun e w' => e = .returned (.int .u32 ((crc (b.take at_) : Nat) : Int)) ∧ V = w') := Lib.hid (fun V v h => by
    have := Sum_any v _ V h (by simp)
    simpa using this)
  have hs1 := crc_lt (b.take at_ ++ [0, 0, 0, 0] ++ b.drop (at_ + 4))
  generalize crc (b.take at_ ++ [0, 0, 0, 0] ++ b.drop (at_ + 4)) = s at *
  generalize crc (b.take at_ ++ [0, 0, 0, 0]) = s2 at *
  generalize crc (b.take at_) = s1 at *
  have hsw : s ^^^ want < 4294967296 := Nat.xor_lt_two_pow (n := 32) hs1 hw
  have hr : m % ord < 2147483647 := Nat.mod_lt _ (by decide)
  have hrem : ((b.length : Int) - (at_ : Int) - 4) % 2147483647 = ((m % ord : Nat) : Int) := by
    have : (b.length : Int) - (at_ : Int) - 4 = (m : Int) := by omega
    rw [this]; rfl
  have hC1 := fun W => carry_any (s ^^^ want) hsw (2147483647 - ((m % ord : Nat) : Int)) (by omega) W
  rw [show (2147483647 - ((m % ord : Nat) : Int)).toNat = ord - m % ord from by unfold ord at *; omega] at hC1
  have hc1 := carry_lt (ord - m % ord) hsw
  have hC2 := fun W => carry_any _ hc1 2147483643 (by decide) W
  rw [show (2147483643 : Int).toNat = ord - 4 from rfl, hway] at hC2
  have HX := Lib.hid (u32_xor_nat s want hs1 hw)
  generalize carry (s ^^^ want) (ord - m % ord) = y at *
  generalize hxx : solveN (b.take at_) (b.drop (at_ + 4)) want = x at *
  generalize s ^^^ want = sw at *
  generalize m % ord = r at *
  have C1 := Lib.hid hC1
  have C2 := Lib.hid hC2
  have B0 := Lib.hid b0
  have K0 := Lib.hid k0
  have Hrem := Lib.hid hrem
  have hx2 : x < 4294967296 := hx
  have HxA := Lib.hid (le4A x hx2)
  clear hway hlm b0 k0 hb rd1 rd2 hC1 hC2 hrem hxx hx hc1 hsw
  go_enter Try.func29, Try.ntmps29
  go_wp2_with fail
  have hwr : IntKind.i64.wrap ((at_ : Int) + 4) = (at_ : Int) + 4 := IntWalk.i64_in _ (by omega)
  have hb0 : (0 : Int) ≤ (at_ : Int) + 4 := by omega
  have hb1 : (at_ : Int) + 4 ≤ (b.length : Int) := by omega
  go_region_held3 (fun _ : World => True) (trivial)
    (first
      | (go_at_call 14; ((refine (H1.out _ _ ?_).mono ?_); ((repeat (first | refine Txs.drew ?_ | exact txs1 22 (by simp) (R1.out _ (by repeat (first | exact K0.out | refine Kp.drew ?_ | refine Kp.alloc ?_ _)))  | refine Txs.alloc ?_ _)))); rintro e w' ⟨rfl, rfl⟩)
      | (go_at_call 16; ((with_reducible refine (H2.out _ _ ?_).mono ?_); ((repeat (first | refine Rd.drew ?_ | exact rd_zero4 5 (by simp) | refine Rd.alloc ?_ _)))); rintro e w' ⟨rfl, rfl⟩)
      | (go_at_call 16; ((with_reducible refine (H3.out _ ?_).mono ?_); ((repeat (first | exact K0.out | refine Kp.drew ?_ | refine Kp.alloc ?_ _)))); rintro e w' ⟨rfl, rfl⟩))
  all_goals
    clear hwr hb0 hb1
    have hrem := Hrem.out
    have hx0 := HX.out
    go_wp2_with (first
      | (go_at_call 19; ((with_reducible refine (C1.out _).mono ?_); rintro e w1 ⟨rfl, k1⟩; have kz : Kp [] (w.alloc (.cells (hashA (List.replicate 4 0)) 43)) w1 := Kp.trans (S := []) (by repeat (first | exact Kp.refl _ _ | refine Kp.drew ?_ | refine Kp.alloc ?_ _)) k1 (by simp); clear k1))
      | (go_at_call 19; ((with_reducible refine (C2.out _).mono ?_); rintro e w2 ⟨rfl, k2⟩; have kz2 := kz.trans k2 (by simp); clear k2))
      | (refine wpList_store_agg rfl 43 (.tmp 6) (.tmp 58) rfl w.heap.size 0 rfl #[.int .u8 ((x : Int) % 256), .int .u8 ((x : Int) / 256 % 256), .int .u8 ((x : Int) / 65536 % 256), .int .u8 ((x : Int) / 16777216)] rfl 43 (hashA (List.replicate 4 0)) (B0.out.kp kz2 (by simp)) (by rw [Try.infoFour]; rfl) (by simp [hashA, bv]) (by simp [Value.oneCell']) ?_; intro w3 c3 k3; rw [← HxA.out] at c3))
    rw [set_all (hashA (List.replicate 4 0)) (hashA (le4 x)) rfl] at c3
    exact bodyPost_ret (results_cell_tmp (by rfl) rfl c3 Try.underlying43 rfl (by rw [Try.infoFour]; rfl)) rfl ⟨rfl, (K0.out.trans kz2 (by simp)).trans k3 (fun g hg => .inr (by simp at hg; omega))⟩
end Go.Proofs.Ytgldgkdnnimglaa
