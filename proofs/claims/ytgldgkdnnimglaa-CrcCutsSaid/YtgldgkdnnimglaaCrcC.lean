/- Walks of package crc, and of the reference: sums of texts. -/
import Derived.Test.YtgldgkdnnimglaaCrcB
namespace Go.Proofs.Ytgldgkdnnimglaa
open Go.RowKit

theorem u32_not (x : Nat) (h : x < 4294967296) : bits .xor .u32 IntKind.u32.max (x : Int) = (not32 x : Int) := by
  have h1 := u32_xor_nat 4294967295 x (by decide) h
  rw [Nat.xor_comm, ← not32_xor h] at h1
  exact h1
set_option maxHeartbeats 400000 in
theorem more_any (x : Nat) (hx : x < 4294967296) (v : Value) (n : Nat) (bs : List UInt8) (w : World) (hv : Rd w 1 v n (bv bs)) :
    Calls Try.prog 16 #[.int .u32 x, v] w fun e w' => e = .returned (.int .u32 (more x bs)) ∧ w = w' := by
  have e1 := u32_not x hx
  have hm : more x bs = not32 (thru (not32 x) bs) := rfl
  rw [hm]
  clear hm
  have hz := not32_lt x
  generalize not32 x = z at *
  have e2 := u32_not (thru z bs) (thru_lt bs hz)
  have H := Lib.hid (through_any z hz v n bs w hv)
  clear hv
  generalize thru z bs = t at *
  go_enter Try.func16, Try.ntmps16
  go_wp2_with (go_at_call 41; ((with_reducible refine H.out.mono ?_); rintro e w' ⟨rfl, rfl⟩))
  go_ret
  exact ⟨rfl, rfl⟩
set_option maxHeartbeats 800000 in
theorem rmore_any (x : Nat) (hx : x < 4294967296) (v : Value) (n : Nat) (bs : List UInt8) (w : World) (hv : Rd w 1 v n (bv bs)) :
    Calls Try.prog 17 #[.int .u32 x, v] w fun e w' => e = .returned (.int .u32 (more x bs)) ∧ w = w' := by
  obtain ⟨A, c, rfl, rfl, hn, hA, hc⟩ := rd_get hv
  have Hc := Lib.hid hc
  have HA := Lib.hid hA
  clear hc hA hv
  unfold maxLen at hn
  have e1 := u32_not x hx
  have hz := not32_lt x
  have e2 := Lib.hid (u32_not (thru (not32 x) bs) (thru_lt bs (not32_lt x)))
  have hm : more x bs = not32 (thru (not32 x) bs) := rfl
  rw [hm]
  clear hm
  generalize not32 x = z at *
  go_enter Try.func17, Try.ntmps17
  go_wp2
  clear e1
  go_loop [5, 6] (fun u i => ∃ k : Nat, k ≤ bs.length ∧ i = .int .i64 k ∧ u = .int .u32 ((thru z (bs.take k) : Nat) : Int)) (fun _ i => bs.length - (intOf i).toNat)
  case atStart => exact ⟨0, by omega, rfl, by simp [thru]⟩
  case round =>
    obtain ⟨k, hk, rfl, rfl⟩ := hrel
    by_cases hlt : k < bs.length
    · obtain ⟨ad, rfl⟩ : ∃ ad, A = some ad := by
        cases A with
        | none => have := HA.out rfl; omega
        | some ad => exact ⟨ad, rfl⟩
      have hcell := Hc.out ad rfl k hlt
      have Ht := Lib.hid (thru_take (x := z) hlt)
      have hT : thru z (bs.take k) < 4294967296 := thru_lt _ hz
      have hY := xor_u8_lt bs[k] hT
      have hq := bs[k].toNat_lt
      generalize thru z (bs.take k) = T at *
      generalize bs[k].toNat = q at *
      have Hx := u32_xor_nat T q hT (by omega)
      go_wp2_with (go_at_call 42; refine (Eight_any _ hY _).mono ?_; rintro e w' ⟨rfl, rfl⟩)
      go_round
      case rel => exact ⟨k + 1, by omega, by go_num, by rw [Ht.out]⟩
      case measure => simp [intOf]; omega
    · obtain rfl : k = bs.length := by omega
      have e3 := e2.out
      go_wp2
      go_ret
      exact ⟨rfl, rfl⟩
set_option maxHeartbeats 400000 in
theorem rsum_any (v : Value) (n : Nat) (bs : List UInt8) (w : World) (hv : Rd w 1 v n (bv bs)) :
    Calls Try.prog 15 #[v] w fun e w' => e = .returned (.int .u32 (crc bs)) ∧ w = w' := by
  have H := Lib.hid (rmore_any 0 (by decide) v n bs w hv)
  clear hv
  go_enter Try.func15, Try.ntmps15
  go_wp2_with (go_at_call 17; refine H.out.mono ?_; rintro e w' ⟨rfl, rfl⟩)
  go_ret
  exact ⟨rfl, rfl⟩
end Go.Proofs.Ytgldgkdnnimglaa
