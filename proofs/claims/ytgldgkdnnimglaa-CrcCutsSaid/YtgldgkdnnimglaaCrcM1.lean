/- CrcMasks, CrcCarries: the walks. -/
import Derived.Test.YtgldgkdnnimglaaCrcL
namespace Go.Proofs.Ytgldgkdnnimglaa
open Go.RowKit

set_option maxRecDepth 100000 in
set_option maxHeartbeats 800000 in
theorem masks_true (w : World) (x : Nat) (hx : x < 4294967296) : Calls Try.prog 5 #[.int .u32 x] w fun e w' => e = .returned (.bool true) ∧ Kp [] w w' := by
  have H1 := Lib.hid (fun W => Mask_any x hx W)
  have H2 := Lib.hid (fun W => rMask_any x hx W)
  have H3 := Lib.hid (fun W => Unmask_any x hx W)
  have H4 := fun W => Unmask_any (mask x) (mask_lt x) W
  have H5 := fun W => Mask_any (unmask x) (unmask_lt x) W
  rw [unmask_mask hx] at H4
  rw [mask_unmask hx] at H5
  have H4' := Lib.hid H4
  have H5' := Lib.hid H5
  clear H4 H5
  generalize mask x = m at *
  generalize unmask x = u at *
  go_enter Try.func5, Try.ntmps5
  go_wp2_with (first
    | (go_at_call 24; ((with_reducible refine (H1.out _).mono ?_); rintro e w' ⟨rfl, rfl⟩))
    | (go_at_call 24; ((with_reducible refine (H5'.out _).mono ?_); rintro e w' ⟨rfl, rfl⟩))
    | (go_at_call 25; ((with_reducible refine (H2.out _).mono ?_); rintro e w' ⟨rfl, rfl⟩))
    | (go_at_call 26; ((with_reducible refine (H3.out _).mono ?_); rintro e w' ⟨rfl, rfl⟩))
    | (go_at_call 26; ((with_reducible refine (H4'.out _).mono ?_); rintro e w' ⟨rfl, rfl⟩))
    | (go_at_call 12; ((with_reducible refine (works_true _).mono ?_); rintro e w1 ⟨rfl, k1⟩)))
  go_ret
  exact ⟨rfl, k1⟩
set_option maxRecDepth 100000 in
set_option maxHeartbeats 800000 in
theorem carries_true (w : World) (x : Nat) (hx : x < 4294967296) (y : Nat) (hy : y < 4294967296) (n : Int) (hn : -9223372036854775808 ≤ n ∧ n ≤ 9223372036854775807) :
    Calls Try.prog 4 #[.int .u32 x, .int .u32 y, .int .i64 n] w fun e w' => e = .returned (.bool true) ∧ Kp [] w w' := by
  have H1 := Lib.hid (fun W => carry_any x hx n hn.2 W)
  have H2 := Lib.hid (fun W => rcarry_any x hx n hn.2 W)
  have H3 := Lib.hid (fun W => join_any x y hx hy n hn.2 W)
  have H4 := Lib.hid (fun W => rjoin_any x y hx hy n hn.2 W)
  have H5 := Lib.hid (fun W => part_any x y hx hy n hn.2 W)
  have H6 := Lib.hid (fun W => rjoin_any y x hy hx n hn.2 W)
  generalize carry x n.toNat = a at *
  generalize join x y n.toNat = b at *
  generalize join y x n.toNat = c at *
  go_enter Try.func4, Try.ntmps4
  go_wp2_with (first
    | (go_at_call 19; ((with_reducible refine (H1.out _).mono ?_); rintro e w1 ⟨rfl, k1⟩))
    | (go_at_call 20; ((with_reducible refine (H2.out _).mono ?_); rintro e w' ⟨rfl, rfl⟩))
    | (go_at_call 21; ((with_reducible refine (H3.out _).mono ?_); rintro e w2 ⟨rfl, k2⟩))
    | (go_at_call 22; ((with_reducible refine (H4.out _).mono ?_); rintro e w' ⟨rfl, rfl⟩))
    | (go_at_call 23; ((with_reducible refine (H5.out _).mono ?_); rintro e w3 ⟨rfl, k3⟩))
    | (go_at_call 22; ((with_reducible refine (H6.out _).mono ?_); rintro e w' ⟨rfl, rfl⟩))
    | (go_at_call 12; ((with_reducible refine (works_true _).mono ?_); rintro e w4 ⟨rfl, k4⟩)))
  go_ret
  exact ⟨rfl, ((k1.trans k2 (by simp)).trans k3 (by simp)).trans k4 (by simp)⟩
end Go.Proofs.Ytgldgkdnnimglaa
