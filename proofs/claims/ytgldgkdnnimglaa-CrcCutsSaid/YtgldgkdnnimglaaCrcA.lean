/- Walks of package crc: steps, bytes. -/
import Derived.Test.YtgldgkdnnimglaaRows
import Derived.Test.YtgldgkdnnimglaaCrcM
import Derived.Laws.BitsAllLaws
namespace Go.Proofs.Ytgldgkdnnimglaa
open Go.RowKit

theorem ret_int {k : IntKind} {a b : Int} (h : a = b) : Ending.returned (.int k a) = .returned (.int k b) := by rw [h]
theorem stp_even {x : Nat} (h : x % 2 = 0) : stp x = x / 2 := by unfold stp; rw [h, Nat.zero_mul, Nat.xor_zero]
theorem stp_odd {x : Nat} (h : x % 2 = 1) : stp x = x / 2 ^^^ P32 := by unfold stp; rw [h, Nat.one_mul]
theorem u32_x (a b : Nat) (ha : a < 4294967296) (hb : b < 4294967296) : bits .xor .u32 (a : Int) (b : Int) = ((a ^^^ b : Nat) : Int) := u32_xor_nat a b ha hb
theorem and1 {x : Nat} (h : x < 4294967296) (b : Bool) (c : (bits .and .u32 (x : Int) 1 == 1) = b) : ((x : Int) % 2 == 1) = b := by
  have := u32_and_nat x 1 h (by decide)
  rw [Nat.and_one_is_mod] at this
  rw [show bits .and .u32 (x : Int) 1 = ((x % 2 : Nat) : Int) from this] at c
  exact c
theorem way_odd {x : Nat} (h : x < 4294967296) (c : ((x : Int) % 2 == 1) = true) : bits .xor .u32 ((x : Int) / 2) 2197175160 = (stp x : Int) := by
  have : (x : Int) % 2 = 1 := by simpa using c
  rw [stp_odd (by omega), ← u32_xor_nat (x / 2) P32 (by omega) (by decide)]
  rfl
theorem way_even {x : Nat} (c : ((x : Int) % 2 == 1) = false) : (x : Int) / 2 = (stp x : Int) := by
  have : ¬ (x : Int) % 2 = 1 := by simpa using c
  rw [stp_even (by omega)]
  rfl
set_option maxHeartbeats 400000 in
theorem step_any (x : Nat) (h : x < 4294967296) (w : World) : Calls Try.prog 50 #[.int .u32 x] w fun e w' => e = .returned (.int .u32 (stp x)) ∧ w = w' := by
  go_enter Try.func50, Try.ntmps50
  go_wp2
  all_goals go_ret
  · exact ⟨ret_int (way_odd h (and1 h _ (by assumption))), rfl⟩
  · exact ⟨ret_int (way_even (and1 h _ (by assumption))), rfl⟩
set_option maxHeartbeats 400000 in
theorem Step_any (x : Nat) (h : x < 4294967296) (w : World) : Calls Try.prog 51 #[.int .u32 x] w fun e w' => e = .returned (.int .u32 (stp x)) ∧ w = w' := by
  go_enter Try.func51, Try.ntmps51
  go_wp2
  all_goals go_ret
  · exact ⟨ret_int (way_odd h (by assumption)), rfl⟩
  · exact ⟨ret_int (way_even (by assumption)), rfl⟩
set_option maxHeartbeats 400000 in
theorem Eight_any (x : Nat) (h : x < 4294967296) (w : World) : Calls Try.prog 42 #[.int .u32 x] w fun e w' => e = .returned (.int .u32 (eight x)) ∧ w = w' := by
  go_enter Try.func42, Try.ntmps42
  go_wp2
  go_loop [0, 3] (fun v i => ∃ k : Nat, k ≤ 8 ∧ i = .int .i64 k ∧ v = .int .u32 ((itn stp k x : Nat) : Int)) (fun _ i => 8 - (intOf i).toNat)
  case atStart => exact ⟨0, by omega, rfl, rfl⟩
  case round =>
    obtain ⟨k, hk, rfl, rfl⟩ := hrel
    have hb : itn stp k x < 4294967296 := itn_stp_lt k h
    by_cases hlt : k < 8
    · go_wp2_with (go_at_call 51; refine (Step_any _ hb _).mono ?_; rintro e w' ⟨rfl, rfl⟩)
      go_round
      case rel => exact ⟨k + 1, by omega, by go_num, by rw [itn_succ]⟩
      case measure => simp [intOf]; omega
    · obtain rfl : k = 8 := by omega
      go_wp2
      go_ret
      exact ⟨rfl, rfl⟩
theorem way_un {y : Nat} (h : y < 4294967296) (c : 2147483648 ≤ y) : (bits .xor .u32 (y : Int) 2197175160 * 2 % 4294967296 + 1) = (unstp y : Int) := by
  have h1 := xor_bit31 h c
  rw [show bits .xor .u32 (y : Int) 2197175160 = ((y ^^^ P32 : Nat) : Int) from u32_xor_nat y P32 h (by decide)]
  unfold unstp
  rw [if_pos c]
  omega
theorem way_un0 {y : Nat} (c : ¬ 2147483648 ≤ y) : (y : Int) * 2 % 4294967296 = (unstp y : Int) := by
  unfold unstp
  rw [if_neg c]; omega
set_option maxRecDepth 100000 in
set_option maxHeartbeats 400000 in
theorem Unstep_any (x : Nat) (h : x < 4294967296) (w : World) : Calls Try.prog 47 #[.int .u32 x] w fun e w' => e = .returned (.int .u32 (unstp x)) ∧ w = w' := by
  by_cases c : 2147483648 ≤ x
  · have e := way_un h c
    have H := Lib.hid (ret_int (k := .u32) e)
    have c' := Lib.hid c
    have hh := Lib.hid h
    have hd : decide ((2147483648 : Int) ≤ (x : Int)) = true := by simpa using (by omega : (2147483648 : Int) ≤ (x : Int))
    clear c e h
    go_enter Try.func47, Try.ntmps47
    go_wp2
    go_ret
    exact ⟨H.out, rfl⟩
  · have H := Lib.hid (ret_int (k := .u32) (way_un0 c))
    have hd : decide ((2147483648 : Int) ≤ (x : Int)) = false := by simpa using (by omega : ¬ (2147483648 : Int) ≤ (x : Int))
    clear c
    go_enter Try.func47, Try.ntmps47
    go_wp2
    go_ret
    exact ⟨H.out, rfl⟩
/-! ### Masks -/
def mask (x : Nat) : Nat := (x / 32768 + x * 131072 % 4294967296 + 2726488792) % 4294967296
def unmask (m : Nat) : Nat := (m + 1568478504) % 4294967296 / 131072 + (m + 1568478504) % 4294967296 * 32768 % 4294967296
theorem rot15 {q r : Nat} (_hq : q < 131072) (hr : r < 32768) : (q * 32768 + r) / 32768 + (q * 32768 + r) * 131072 % 4294967296 = r * 131072 + q := by omega
theorem rot17 {q r : Nat} (hq : q < 131072) (_hr : r < 32768) : (r * 131072 + q) / 131072 + (r * 131072 + q) * 32768 % 4294967296 = q * 32768 + r := by omega
theorem unmask_mask {x : Nat} (h : x < 4294967296) : unmask (mask x) = x := by
  obtain ⟨q, r, rfl, hq, hr⟩ : ∃ q r, x = q * 32768 + r ∧ q < 131072 ∧ r < 32768 := ⟨x / 32768, x % 32768, by omega, by omega, by omega⟩
  unfold unmask mask
  rw [rot15 hq hr, show ((r * 131072 + q + 2726488792) % 4294967296 + 1568478504) % 4294967296 = r * 131072 + q from by omega, rot17 hq hr]
theorem mask_unmask {x : Nat} (h : x < 4294967296) : mask (unmask x) = x := by
  unfold unmask mask
  obtain ⟨r, q, e, hq, hr⟩ : ∃ r q, (x + 1568478504) % 4294967296 = r * 131072 + q ∧ q < 131072 ∧ r < 32768 := ⟨(x + 1568478504) % 4294967296 / 131072, (x + 1568478504) % 4294967296 % 131072, by omega, by omega, by omega⟩
  rw [e, rot17 hq hr, rot15 hq hr, ← e]
  omega
theorem mask_lt (x : Nat) : mask x < 4294967296 := by unfold mask; omega
theorem unmask_lt (x : Nat) : unmask x < 4294967296 := by unfold unmask; omega
theorem or_add (x k : Nat) (hk : k ≤ 32) (h : x < 4294967296) : (x / 2 ^ k ||| x * 2 ^ (32 - k) % 2 ^ 32) = x / 2 ^ k + x * 2 ^ (32 - k) % 2 ^ 32 := by
  have e : x * 2 ^ (32 - k) % 2 ^ 32 = (x % 2 ^ k) <<< (32 - k) := by
    rw [Nat.shiftLeft_eq]
    conv => lhs; rw [show (2 : Nat) ^ 32 = 2 ^ k * 2 ^ (32 - k) from by rw [← Nat.pow_add]; congr 1; omega]
    rw [Nat.mul_mod_mul_right]
  have hlt : x / 2 ^ k < 2 ^ (32 - k) := by
    rw [Nat.div_lt_iff_lt_mul (Nat.pow_pos (by omega)), ← Nat.pow_add, show 32 - k + k = 32 from by omega]
    exact h
  rw [e, Nat.or_comm, ← Nat.shiftLeft_add_eq_or_of_lt hlt, Nat.add_comm]
theorem way_mask {x : Nat} (h : x < 4294967296) : (bits .or .u32 ((x : Int) / 32768) ((x : Int) * 131072 % 4294967296) + 2726488792) % 4294967296 = (mask x : Int) := by
  have e := u32_or_nat (x / 32768) (x * 131072 % 4294967296) (by omega) (by omega)
  have := or_add x 15 (by omega) h
  rw [show (2 : Nat) ^ 15 = 32768 from rfl, show (2 : Nat) ^ (32 - 15) = 131072 from rfl, show (2 : Nat) ^ 32 = 4294967296 from rfl] at this
  rw [this] at e
  rw [show bits .or .u32 ((x : Int) / 32768) ((x : Int) * 131072 % 4294967296) = ((x / 32768 + x * 131072 % 4294967296 : Nat) : Int) from e]
  unfold mask; omega
theorem way_rmask {x : Nat} : ((x : Int) / 32768 + (x : Int) * 131072 % 4294967296 + 2726488792) % 4294967296 = (mask x : Int) := by
  unfold mask; omega
theorem way_unmask {x : Nat} : bits .or .u32 (((x : Int) - 2726488792) % 4294967296 / 131072) (((x : Int) - 2726488792) % 4294967296 * 32768 % 4294967296) = (unmask x : Int) := by
  have hy : ((x : Int) - 2726488792) % 4294967296 = (((x + 1568478504) % 4294967296 : Nat) : Int) := by omega
  rw [hy]
  unfold unmask
  have hlt : (x + 1568478504) % 4294967296 < 4294967296 := by omega
  generalize (x + 1568478504) % 4294967296 = y at hlt
  have e := u32_or_nat (y / 131072) (y * 32768 % 4294967296) (by omega) (by omega)
  have := or_add y 17 (by omega) hlt
  rw [show (2 : Nat) ^ 17 = 131072 from rfl, show (2 : Nat) ^ (32 - 17) = 32768 from rfl, show (2 : Nat) ^ 32 = 4294967296 from rfl] at this
  rw [this] at e
  exact e
set_option maxHeartbeats 400000 in
theorem Mask_any (x : Nat) (h : x < 4294967296) (w : World) : Calls Try.prog 24 #[.int .u32 x] w fun e w' => e = .returned (.int .u32 (mask x)) ∧ w = w' := by
  have H := Lib.hid (ret_int (k := .u32) (way_mask h))
  go_enter Try.func24, Try.ntmps24
  go_wp2
  go_ret
  exact ⟨H.out, rfl⟩
set_option maxHeartbeats 400000 in
theorem rMask_any (x : Nat) (_h : x < 4294967296) (w : World) : Calls Try.prog 25 #[.int .u32 x] w fun e w' => e = .returned (.int .u32 (mask x)) ∧ w = w' := by
  have H := Lib.hid (ret_int (k := .u32) (way_rmask (x := x)))
  go_enter Try.func25, Try.ntmps25
  go_wp2
  go_ret
  exact ⟨H.out, rfl⟩
set_option maxRecDepth 100000 in
set_option maxHeartbeats 400000 in
theorem Unmask_any (x : Nat) (_h : x < 4294967296) (w : World) : Calls Try.prog 26 #[.int .u32 x] w fun e w' => e = .returned (.int .u32 (unmask x)) ∧ w = w' := by
  have H := Lib.hid (ret_int (k := .u32) (way_unmask (x := x)))
  go_enter Try.func26, Try.ntmps26
  go_wp2
  go_ret
  exact ⟨H.out, rfl⟩
end Go.Proofs.Ytgldgkdnnimglaa
