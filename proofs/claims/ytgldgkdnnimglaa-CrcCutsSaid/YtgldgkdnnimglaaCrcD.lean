/- The reference for layer 2: products, and numbers carried. -/
import Derived.Test.YtgldgkdnnimglaaCrcC
namespace Go.Proofs.Ytgldgkdnnimglaa
open Go.RowKit

theorem and_pow (a n : Nat) : a &&& 2 ^ n = a / 2 ^ n % 2 * 2 ^ n := by
  apply Nat.eq_of_testBit_eq
  intro i
  rw [Nat.testBit_and, Nat.testBit_two_pow, Nat.testBit_mul_two_pow]
  by_cases h : n = i
  · subst h
    rw [Nat.testBit_eq_decide_div_mod_eq]
    rcases bit_cases (a / 2 ^ n) with h | h <;> rw [h] <;> simp
  · rcases Nat.lt_or_ge i n with h1 | h1
    · simp [h, Nat.not_le.2 h1]
    · obtain ⟨d, rfl⟩ : ∃ d, i = n + 1 + d := ⟨i - n - 1, by omega⟩
      have e : (1 : Nat).testBit (d + 1) = false := by rw [Nat.testBit_succ]; simp
      rcases bit_cases (a / 2 ^ n) with h | h <;> rw [h]
      · simp [show n ≠ n + 1 + d from by omega]
      · rw [show n + 1 + d - n = d + 1 from by omega, e]; simp [show n ≠ n + 1 + d from by omega]
theorem pow_lt32 {m : Nat} (h : m ≤ 32) : 2 ^ m / 2 < 4294967296 := by
  have : 2 ^ m ≤ 2 ^ 32 := Nat.pow_le_pow_right (by omega) h
  omega
theorem pow_half (n : Nat) : 2 ^ (n + 1) / 2 = 2 ^ n := by rw [Nat.pow_succ]; omega
set_option maxHeartbeats 800000 in
theorem times_any (a b : Nat) (ha : a < 4294967296) (hb : b < 4294967296) (w : World) :
    Calls Try.prog 46 #[.int .u32 a, .int .u32 b] w fun e w' => e = .returned (.int .u32 (times a b)) ∧ w = w' := by
  go_enter Try.func46, Try.ntmps46
  go_wp2
  go_loop [1, 5, 6] (fun u v i => ∃ m c p : Nat, m ≤ 32 ∧ i = .int .u32 ((2 ^ m / 2 : Nat) : Int) ∧ u = .int .u32 (c : Int) ∧ v = .int .u32 (p : Int) ∧ c < 4294967296 ∧ p < 4294967296 ∧ timesL a m c p = times a b) (fun _ _ i => (intOf i).toNat)
  case atStart => exact ⟨32, b, 0, by omega, rfl, rfl, rfl, hb, by omega, rfl⟩
  case round =>
    obtain ⟨m, c, p, hm, rfl, rfl, rfl, hc, hp, hrest⟩ := hrel
    have Hrest := Lib.hid hrest
    clear hrest
    rcases m with _ | n
    · go_wp2
      go_ret
      have := Hrest.out
      rw [timesL] at this
      subst this
      exact ⟨rfl, rfl⟩
    · rw [pow_half]
      have hlt := pow_lt32 hm
      rw [pow_half] at hlt
      have Hand := Lib.hid (u32_and_nat a (2 ^ n) ha hlt)
      have Hnx := Lib.hid (and_pow a n)
      have hpos : 0 < 2 ^ n := Nat.pow_pos (by omega)
      have Hr := Lib.hid (show timesL a n (stp c) (p ^^^ (a / 2 ^ n % 2 * c)) = times a b from Hrest.out)
      have Hx := Lib.hid (u32_xor_nat p c hp hc)
      have hs : stp c < 4294967296 := stp_lt hc
      have hbit := bit_cases (a / 2 ^ n)
      generalize hB : 2 ^ n = B at *
      have HB := Lib.hid hB
      clear hB
      generalize a / B % 2 = t at *
      have Hm := Lib.hid hm
      clear hm
      have hand := Hand.out
      rw [Hnx.out] at hand
      rcases hbit with rfl | rfl
      · rw [Nat.zero_mul] at hand
        have h2 := Hr.out
        rw [Nat.zero_mul, Nat.xor_zero] at h2
        have H2 := Lib.hid h2
        clear h2
        go_wp2_with (go_at_call 51; refine (Step_any _ hc _).mono ?_; rintro e w' ⟨rfl, rfl⟩)
        go_round
        case rel => exact ⟨n, _, _, by have := Hm.out; omega, by rw [HB.out]; rfl, rfl, rfl, hs, hp, H2.out⟩
        case measure => simp [intOf]; omega
      · rw [Nat.one_mul] at hand
        have h2 := Hr.out
        rw [Nat.one_mul] at h2
        have H2 := Lib.hid h2
        clear h2
        go_wp2_with (go_at_call 51; refine (Step_any _ hc _).mono ?_; rintro e w' ⟨rfl, rfl⟩)
        go_round
        case rel => exact ⟨n, _, _, by have := Hm.out; omega, by rw [HB.out]; rfl, rfl, by rw [Hx.out], hs, Nat.xor_lt_two_pow (n := 32) hp hc, H2.out⟩
        case measure => simp [intOf]; omega

/-! ### Carried -/
theorem carry_zero (x : Nat) : carry x 0 = x := rfl
theorem div_pow_succ (N k : Nat) : N / 2 ^ (k + 1) = N / 2 ^ k / 2 := by rw [Nat.pow_succ, Nat.div_div_eq_div_mul]
set_option maxHeartbeats 800000 in
theorem rcarry_any (x : Nat) (hx : x < 4294967296) (n : Int) (hn : n ≤ 9223372036854775807) (w : World) :
    Calls Try.prog 20 #[.int .u32 x, .int .i64 n] w fun e w' => e = .returned (.int .u32 (carry x n.toNat)) ∧ w = w' := by
  by_cases h0 : n ≤ 0
  · rw [show n.toNat = 0 from by omega, carry_zero]
    go_enter Try.func20, Try.ntmps20
    go_wp2
    go_loop [0, 1, 5] (fun u v i => u = .int .u32 x ∧ v = .int .i64 n ∧ i = .int .u32 8388608) (fun _ _ _ => 0)
    case atStart => exact ⟨rfl, rfl, rfl⟩
    case round =>
      obtain ⟨rfl, rfl, rfl⟩ := hrel
      go_wp2
      go_ret
      exact ⟨rfl, rfl⟩
  · obtain ⟨N, rfl⟩ := Int.eq_ofNat_of_zero_le (show 0 ≤ n by omega)
    rw [Int.toNat_natCast]
    go_enter Try.func20, Try.ntmps20
    go_wp2
    go_loop [0, 1, 5] (fun u v i => ∃ k : Nat, v = .int .i64 ((N / 2 ^ k : Nat) : Int) ∧ u = .int .u32 ((carry x (N % 2 ^ k) : Nat) : Int) ∧ i = .int .u32 (powr k : Int)) (fun _ v _ => (intOf v).toNat)
    case atStart => exact ⟨0, by simp, by rw [Nat.pow_zero, Nat.mod_one]; rfl, by rw [powr_zero]; rfl⟩
    case round =>
      obtain ⟨k, rfl, rfl, rfl⟩ := hrel
      have hX := carry_lt (N % 2 ^ k) hx
      have hbit := carry_bit x N k
      rw [← times_powr k hX] at hbit
      have hle : N / 2 ^ k ≤ N := Nat.div_le_self _ _
      have Hdn := Lib.hid (div_pow_succ N k)
      have hq := powr_lt k
      have Hq := Lib.hid (powr_succ k)
      have hq1 : times (powr k) (powr k) < 4294967296 := times_lt hq
      have hxq : times (carry x (N % 2 ^ k)) (powr k) < 4294967296 := times_lt hq
      have Hz : Hid (N / 2 ^ k = 0 → carry x N = carry x (N % 2 ^ k)) := Lib.hid (fun h => by
        rw [Nat.mod_eq_of_lt]
        exact (Nat.div_eq_zero_iff_lt (Nat.pow_pos (by omega))).1 h)
      generalize carry x (N % 2 ^ k) = X at *
      generalize powr k = q at *
      generalize N / 2 ^ k = M at *
      have Hbit := Lib.hid hbit
      clear hbit
      by_cases hM : M = 0
      · subst hM
        have Hz2 := Lib.hid (Hz.out rfl)
        clear Hz
        go_wp2
        go_ret
        exact ⟨by rw [Hz2.out]; rfl, rfl⟩
      · rcases bit_cases M with hodd | hodd
        · have hb := Hbit.out
          rw [if_neg (by omega)] at hb
          have Hb := Lib.hid hb
          have hod : ((M : Int) % 2 == 1) = false := by simp; omega
          clear hb hodd
          go_wp2_with (go_at_call 46; ((with_reducible refine (times_any _ _ (by assumption) (by assumption) _).mono ?_); rintro e w' ⟨rfl, rfl⟩))
          go_round
          case rel => exact ⟨k + 1, by rw [Hdn.out]; rfl, by rw [Hb.out], by rw [Hq.out]⟩
          case measure => simp [intOf]; omega
        · have hb := Hbit.out
          rw [if_pos hodd] at hb
          have Hb := Lib.hid hb
          have hod : ((M : Int) % 2 == 1) = true := by simp; omega
          clear hb hodd
          go_wp2_with (go_at_call 46; ((with_reducible refine (times_any _ _ (by assumption) (by assumption) _).mono ?_); rintro e w' ⟨rfl, rfl⟩))
          go_round
          case rel => exact ⟨k + 1, by rw [Hdn.out]; rfl, by rw [Hb.out], by rw [Hq.out]⟩
          case measure => simp [intOf]; omega
end Go.Proofs.Ytgldgkdnnimglaa
