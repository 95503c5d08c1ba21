/- Walks: lists of texts: their sum, are they long; Append, New. -/
import Derived.Test.YtgldgkdnnimglaaCrcH
import Derived.Test.YtgldgkdnnimglaaTexts
namespace Go.Proofs.Ytgldgkdnnimglaa
open Go.RowKit

theorem crc_flat_succ (L : List (List UInt8)) (j : Nat) (h : j < L.length) : (L.take (j + 1)).flatten = (L.take j).flatten ++ L[j] := by
  rw [List.take_succ_eq_append_getElem h, List.flatten_append]; simp
set_option maxHeartbeats 800000 in
theorem Sum_any (v : Value) (L : List (List UInt8)) (w : World) (h : Txs w v L) (hL : L.length ≤ 1073741824) :
    Calls Try.prog 14 #[v] w fun e w' => e = .returned (.int .u32 ((crc L.flatten : Nat) : Int)) ∧ w = w' := by
  obtain ⟨A, c, rfl, hA, hc⟩ := h.open_
  have HA := Lib.hid hA
  have Hc := Lib.hid hc
  clear hA hc h
  go_enter Try.func14, Try.ntmps14
  go_wp2
  go_loop [3, 5, 8] (fun s _ t => ∃ j : Nat, j ≤ L.length ∧ t = .int .i64 j ∧ s = .int .u32 ((crc (L.take j).flatten : Nat) : Int)) (fun _ _ t => L.length - (intOf t).toNat)
  case atStart => exact ⟨0, by omega, rfl, by simp [crc_nil]⟩
  case round =>
    obtain ⟨j, hj, rfl, rfl⟩ := hrel
    by_cases hlt : j < L.length
    · obtain ⟨ad, rfl⟩ := HA.out (by omega)
      obtain ⟨u, hcell, hu⟩ := Hc.out ad rfl j hlt
      have Hfl := Lib.hid (crc_flat_succ L j hlt)
      have Hm := Lib.hid (more_any (crc (L.take j).flatten) (crc_lt _) u _ L[j] w hu)
      have Hap := Lib.hid (crc_append (L.take j).flatten L[j])
      generalize more (crc (L.take j).flatten) L[j] = m at *
      generalize crc (L.take j).flatten = t at *
      go_wp2_with (go_at_call 16; ((with_reducible refine Hm.out.mono ?_); rintro e w1 ⟨rfl, rfl⟩))
      go_round
      case rel => exact ⟨j + 1, by omega, by go_num, by rw [Hfl.out, Hap.out]⟩
      case measure => simp [intOf]; omega
    · obtain rfl : j = L.length := by omega
      rw [List.take_length]
      go_wp2
      go_ret
      exact ⟨rfl, rfl⟩
end Go.Proofs.Ytgldgkdnnimglaa
