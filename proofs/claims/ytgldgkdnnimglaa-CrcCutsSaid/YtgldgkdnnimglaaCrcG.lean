/- Walks: joined, parted, patched; and the reference's. -/
import Derived.Test.YtgldgkdnnimglaaCrcF
namespace Go.Proofs.Ytgldgkdnnimglaa
open Go.RowKit

def join (a b n : Nat) : Nat := carry a n ^^^ b
theorem join_lt {a b n : Nat} (ha : a < 4294967296) (hb : b < 4294967296) : join a b n < 4294967296 := Nat.xor_lt_two_pow (n := 32) (carry_lt n ha) hb
theorem hid_carry {x : Nat} (n : Int) (hx : x < 4294967296) : carry x n.toNat < 4294967296 := carry_lt _ hx
set_option maxHeartbeats 400000 in
theorem join_any (a b : Nat) (ha : a < 4294967296) (hb : b < 4294967296) (n : Int) (hn : n ≤ 9223372036854775807) (w : World) :
    Calls Try.prog 21 #[.int .u32 a, .int .u32 b, .int .i64 n] w fun e w' => e = .returned (.int .u32 (join a b n.toNat)) ∧ Kp [] w w' := by
  have H := Lib.hid (carry_any a ha n hn w)
  have hj : join a b n.toNat = carry a n.toNat ^^^ b := rfl
  rw [hj]
  have e := u32_xor_nat (carry a n.toNat) b (hid_carry n ha) hb
  generalize carry a n.toNat = c at *
  clear hj
  go_enter Try.func21, Try.ntmps21
  go_wp2_with (go_at_call 19; ((with_reducible refine H.out.mono ?_); rintro e w1 ⟨rfl, k1⟩))
  go_ret
  exact ⟨rfl, k1⟩
set_option maxHeartbeats 400000 in
theorem part_any (a b : Nat) (ha : a < 4294967296) (hb : b < 4294967296) (n : Int) (hn : n ≤ 9223372036854775807) (w : World) :
    Calls Try.prog 23 #[.int .u32 a, .int .u32 b, .int .i64 n] w fun e w' => e = .returned (.int .u32 (join b a n.toNat)) ∧ Kp [] w w' := by
  have H := Lib.hid (join_any b a hb ha n hn w)
  generalize join b a n.toNat = c at *
  go_enter Try.func23, Try.ntmps23
  go_wp2_with (go_at_call 21; ((with_reducible refine H.out.mono ?_); rintro e w1 ⟨rfl, k1⟩))
  go_ret
  exact ⟨rfl, k1⟩
set_option maxHeartbeats 400000 in
theorem rjoin_any (a b : Nat) (ha : a < 4294967296) (hb : b < 4294967296) (n : Int) (hn : n ≤ 9223372036854775807) (w : World) :
    Calls Try.prog 22 #[.int .u32 a, .int .u32 b, .int .i64 n] w fun e w' => e = .returned (.int .u32 (join a b n.toNat)) ∧ w = w' := by
  have H := Lib.hid (rcarry_any a ha n hn w)
  have hj : join a b n.toNat = carry a n.toNat ^^^ b := rfl
  rw [hj]
  have e := u32_xor_nat (carry a n.toNat) b (hid_carry n ha) hb
  generalize carry a n.toNat = c at *
  clear hj
  go_enter Try.func22, Try.ntmps22
  go_wp2_with (go_at_call 20; ((with_reducible refine H.out.mono ?_); rintro e w1 ⟨rfl, rfl⟩))
  go_ret
  exact ⟨rfl, rfl⟩
/-! ### Patched -/
def patch (s : Nat) (l : List UInt8) (n : Nat) : Nat := s ^^^ carry (thru 0 l) n
theorem patch_lt {s n : Nat} {l : List UInt8} (h : s < 4294967296) : patch s l n < 4294967296 := Nat.xor_lt_two_pow (n := 32) h (carry_lt n (thru_lt l (by decide)))
set_option maxHeartbeats 400000 in
theorem patch_any (s : Nat) (hs : s < 4294967296) (v : Value) (m : Nat) (bs : List UInt8) (n : Int) (hn : n ≤ 9223372036854775807) (w : World) (hv : Rd w 1 v m (bv bs)) :
    Calls Try.prog 27 #[.int .u32 s, v, .int .i64 n] w fun e w' => e = .returned (.int .u32 (patch s bs n.toNat)) ∧ Kp [] w w' := by
  have ht : thru 0 bs < 4294967296 := thru_lt bs (by decide)
  have H1 := Lib.hid (show Calls Try.prog 41 #[.int .u32 0, v] w (fun e w' => e = .returned (.int .u32 (thru 0 bs)) ∧ w = w') from through_any 0 (by decide) v m bs w hv)
  have H := Lib.hid (carry_any (thru 0 bs) ht n hn w)
  have hj : patch s bs n.toNat = s ^^^ carry (thru 0 bs) n.toNat := rfl
  rw [hj]
  have e := u32_xor_nat s (carry (thru 0 bs) n.toNat) hs (hid_carry n ht)
  generalize carry (thru 0 bs) n.toNat = c at *
  generalize thru 0 bs = t at *
  clear hj
  go_enter Try.func27, Try.ntmps27
  go_wp2_with (first
    | (go_at_call 41; ((with_reducible refine H1.out.mono ?_); rintro e w1 ⟨rfl, rfl⟩))
    | (go_at_call 19; ((with_reducible refine H.out.mono ?_); rintro e w1 ⟨rfl, k1⟩)))
  go_ret
  exact ⟨rfl, k1⟩
set_option maxHeartbeats 800000 in
theorem rpatch_any (s : Nat) (hs : s < 4294967296) (v : Value) (m : Nat) (bs : List UInt8) (n : Int) (hn : n ≤ 9223372036854775807) (w : World) (hv : Rd w 1 v m (bv bs)) :
    Calls Try.prog 28 #[.int .u32 s, v, .int .i64 n] w fun e w' => e = .returned (.int .u32 (patch s bs n.toNat)) ∧ w = w' := by
  obtain ⟨A, c, rfl, rfl, hm, hA, hc⟩ := rd_get hv
  have Hc := Lib.hid hc
  have HA := Lib.hid hA
  clear hc hA hv
  unfold maxLen at hm
  have ht : thru 0 bs < 4294967296 := thru_lt bs (by decide)
  have H := Lib.hid (rcarry_any (thru 0 bs) ht n hn w)
  have hj : patch s bs n.toNat = s ^^^ carry (thru 0 bs) n.toNat := rfl
  rw [hj]
  have e1 := Lib.hid (u32_xor_nat s (carry (thru 0 bs) n.toNat) hs (hid_carry n ht))
  generalize carry (thru 0 bs) n.toNat = cr at *
  clear hj
  go_enter Try.func28, Try.ntmps28
  go_wp2
  go_loop [7, 8] (fun u i => ∃ k : Nat, k ≤ bs.length ∧ i = .int .i64 k ∧ u = .int .u32 ((thru 0 (bs.take k) : Nat) : Int)) (fun _ i => bs.length - (intOf i).toNat)
  case atStart => exact ⟨0, by omega, rfl, by simp [thru]⟩
  case round =>
    obtain ⟨k, hk, rfl, rfl⟩ := hrel
    by_cases hlt : k < bs.length
    · obtain ⟨ad, rfl⟩ : ∃ ad, A = some ad := by
        cases A with
        | none => have := HA.out rfl; omega
        | some ad => exact ⟨ad, rfl⟩
      have hcell := Hc.out ad rfl k hlt
      have Ht := Lib.hid (thru_take (x := 0) hlt)
      have hT : thru 0 (bs.take k) < 4294967296 := thru_lt _ (by decide)
      have hY := xor_u8_lt bs[k] hT
      have hq := bs[k].toNat_lt
      generalize thru 0 (bs.take k) = T at *
      generalize bs[k].toNat = q at *
      have Hx := u32_xor_nat T q hT (by omega)
      go_wp2_with (go_at_call 42; refine (Eight_any _ hY _).mono ?_; rintro e w' ⟨rfl, rfl⟩)
      go_round
      case rel => exact ⟨k + 1, by omega, by go_num, by rw [Ht.out]⟩
      case measure => simp [intOf]; omega
    · obtain rfl : k = bs.length := by omega
      rw [List.take_length]
      have e3 := e1.out
      generalize thru 0 bs = t at *
      go_wp2_with (go_at_call 20; ((with_reducible refine H.out.mono ?_); rintro e w1 ⟨rfl, rfl⟩))
      go_ret
      exact ⟨rfl, rfl⟩
end Go.Proofs.Ytgldgkdnnimglaa
