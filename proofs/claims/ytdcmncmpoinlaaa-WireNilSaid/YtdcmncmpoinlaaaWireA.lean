/- Walks of package wire: numbers. -/
import Derived.Test.YtdcmncmpoinlaaaRows
import Derived.Test.YtdcmncmpoinlaaaNum
namespace Go.Proofs.Ytdcmncmpoinlaaa
open Go.RowKit

theorem nat_le8 {k : Nat} (h : k ≤ 8) : k = 0 ∨ k = 1 ∨ k = 2 ∨ k = 3 ∨ k = 4 ∨ k = 5 ∨ k = 6 ∨ k = 7 ∨ k = 8 := by omega
theorem Try.infoU8 : (Try.prog.info? 5).map (fun i => (i.zero, i.size, i.bytes)) = some (some (.int .u8 0), 1, 1) := by kernel_rfl

theorem two_pow8 (i : Nat) : (2 : Int) ^ (8 * i) = ((256 ^ i : Nat) : Int) := by
  have h : (2 : Nat) ^ (8 * i) = 256 ^ i := by rw [Nat.pow_mul]
  rw [← h, Int.natCast_pow]
  rfl
theorem byte_of (x i : Nat) : Value.int .u8 ((x : Int) / 2 ^ (8 * i) % 256) = Value.int .u8 ((UInt8.ofNat (x / 256 ^ i)).toNat : Int) := by
  rw [UInt8.toNat_ofNat', two_pow8, Int.natCast_emod, Int.natCast_ediv]
  rfl
theorem form_step {w wr w1 : World} {v u v' : Value} {n k i x : Nat} {xs : List UInt8} {o : Obj} (hj : i + 1 ≤ k)
    (hown1 : Ow w1 5 1 v' (n + (k - (i + 1)) + 1) (bv (xs ++ (be k x).take (k - (i + 1))) ++ [Value.int .u8 ((x : Int) / 2 ^ (8 * i) % 256)]))
    (hkp : Kp v.ownBlock.toList w wr) (hat : u.ownBlock = v.ownBlock ∨ ∃ g, u.ownBlock = some g ∧ w.heap.size ≤ g)
    (hg1 : (wr.alloc o).grownBy w1 u.ownBlock) (hat1 : v'.ownBlock = u.ownBlock ∨ v'.ownBlock = some (wr.heap.size + 1)) :
    ∃ j : Nat, j ≤ k ∧ (Value.int .i64 ((i : Int) - 1)) = .int .i64 ((j : Int) - 1) ∧ Ow w1 5 1 v' (n + (k - j)) (bv (xs ++ (be k x).take (k - j))) ∧ Kp v.ownBlock.toList w w1 ∧
      (v'.ownBlock = v.ownBlock ∨ ∃ g, v'.ownBlock = some g ∧ w.heap.size ≤ g) := by
  refine ⟨i, by omega, rfl, ?_, (hkp.alloc o).grown hg1 ?_, ?_⟩
  · rw [be_take_succ k x i (by omega), ← List.append_assoc, bv_append (xs ++ _), show n + (k - i) = n + (k - (i + 1)) + 1 from by omega, show k - i - 1 = k - (i + 1) from by omega]
    rw [byte_of] at hown1
    exact hown1
  · intro g hg
    rcases hat with h | ⟨g', h, hlt⟩
    · rw [h] at hg; left; rw [hg]; simp
    · rw [h] at hg; cases hg; right; exact hlt
  · rcases hat1 with h | h
    · rw [h]; exact hat
    · right; exact ⟨_, h, by have := hkp.size; omega⟩

set_option maxHeartbeats 400000 in
theorem form_any (v : Value) (n : Nat) (xs : List UInt8) (k : Nat) (hk : k ≤ 8) (x : Nat) (_hx : x < 18446744073709551616) (w : World) (hown : Ow w 5 1 v n (bv xs)) (hn : n + k ≤ 140737488355328) :
   Calls Try.prog 36 #[v, .int .i64 k, .int .u64 x] w fun e w' => ∃ v', e = .returned v' ∧ Ow w' 5 1 v' (n + k) (bv (xs ++ be k x)) ∧ Kp v.ownBlock.toList w w' ∧
      (v'.ownBlock = v.ownBlock ∨ ∃ g, v'.ownBlock = some g ∧ w.heap.size ≤ g) := by
  obtain ⟨i0, hi, hz0, hz1, hz2⟩ := info_parts Try.infoU8
  go_enter Try.func36, Try.ntmps36
  go_wp2
  go_loopw [0, 7] (fun u t wr => ∃ j : Nat, j ≤ k ∧ t = .int .i64 ((j : Int) - 1) ∧ Ow wr 5 1 u (n + (k - j)) (bv (xs ++ (be k x).take (k - j))) ∧ Kp v.ownBlock.toList w wr ∧
      (u.ownBlock = v.ownBlock ∨ ∃ g, u.ownBlock = some g ∧ w.heap.size ≤ g)) (fun _ n _ => ((intOf n) + 1).toNat)
  case atStart => exact ⟨k, by omega, rfl, by simpa using hown, Kp.refl _ _, .inl rfl⟩
  case round =>
    obtain ⟨j, hj, rfl, hown', hkp, hat⟩ := hrel
    by_cases h0 : j = 0
    · subst h0
      go_wp2
      go_ret
      refine ⟨_, rfl, ?_, hkp, hat⟩
      rw [Nat.sub_zero, List.take_of_length_le (by simp)] at hown'
      exact hown'
    · obtain ⟨i, rfl⟩ : ∃ i, j = i + 1 := ⟨j - 1, by omega⟩
      clear h0
      go_wp2_with (at_builtin; go_loud (refine wpList_app _ rfl (.tmp 14) (.tmp 20) _ rfl 5 i0 _ 1 1 Try.underlying36 hi hz0 hz1 hz2 rfl (by decide) _ _ _ rfl (hown'.alloc _) (.slice (some ⟨wr.heap.size, 0, none⟩) 1 1) 1 [Value.int .u8 ((x : Int) / 2 ^ (8 * i) % 256)] rfl (rd_new _ _ _) (one_bv _ rfl) (by unfold maxLen; omega) (by omega) ?_))
      intro v' w1 hown1 hg1 hat1
      go_wp2
      go_roundw
      case rel => exact form_step hj hown1 hkp hat hg1 hat1
      case measure => simp [intOf]

set_option maxHeartbeats 400000 in
theorem width_u8 (w : World) : Calls Try.prog 61 #[] w fun e w' => e = .returned (.int .i64 1) ∧ w = w' := by
  go_enter Try.func61, Try.ntmps61
  go_wp2
  go_loop [1, 2] (fun n t => ∃ k : Nat, k ≤ 1 ∧ n = .int .i64 k ∧ t = .int .u64 (2 ^ (8 - 8 * k) - 1)) (fun n _ => 1 - (intOf n).toNat)
  case atStart => exact ⟨0, by omega, rfl, rfl⟩
  case round =>
    obtain ⟨k, hk, rfl, rfl⟩ := hrel
    rcases (show k = 0 ∨ k = 1 from by omega) with rfl | rfl
    all_goals simp only [Nat.reduceMul, Nat.reduceSub, Int.reducePow, Int.reduceSub]
    all_goals go_wp2
    all_goals first
      | (go_ret; exact ⟨rfl, rfl⟩)
      | (go_round
         case rel => first | exact ⟨1, by omega, rfl, rfl⟩
         case measure => simp [intOf])

set_option maxHeartbeats 400000 in
theorem width_u16 (w : World) : Calls Try.prog 39 #[] w fun e w' => e = .returned (.int .i64 2) ∧ w = w' := by
  go_enter Try.func39, Try.ntmps39
  go_wp2
  go_loop [1, 2] (fun n t => ∃ k : Nat, k ≤ 2 ∧ n = .int .i64 k ∧ t = .int .u64 (2 ^ (16 - 8 * k) - 1)) (fun n _ => 2 - (intOf n).toNat)
  case atStart => exact ⟨0, by omega, rfl, rfl⟩
  case round =>
    obtain ⟨k, hk, rfl, rfl⟩ := hrel
    rcases (show k = 0 ∨ k = 1 ∨ k = 2 from by omega) with rfl | rfl | rfl
    all_goals simp only [Nat.reduceMul, Nat.reduceSub, Int.reducePow, Int.reduceSub]
    all_goals go_wp2
    all_goals first
      | (go_ret; exact ⟨rfl, rfl⟩)
      | (go_round
         case rel => first | exact ⟨1, by omega, rfl, rfl⟩ | exact ⟨2, by omega, rfl, rfl⟩
         case measure => simp [intOf])

set_option maxHeartbeats 400000 in
theorem width_u32 (w : World) : Calls Try.prog 63 #[] w fun e w' => e = .returned (.int .i64 4) ∧ w = w' := by
  go_enter Try.func63, Try.ntmps63
  go_wp2
  go_loop [1, 2] (fun n t => ∃ k : Nat, k ≤ 4 ∧ n = .int .i64 k ∧ t = .int .u64 (2 ^ (32 - 8 * k) - 1)) (fun n _ => 4 - (intOf n).toNat)
  case atStart => exact ⟨0, by omega, rfl, rfl⟩
  case round =>
    obtain ⟨k, hk, rfl, rfl⟩ := hrel
    rcases (show k = 0 ∨ k = 1 ∨ k = 2 ∨ k = 3 ∨ k = 4 from by omega) with rfl | rfl | rfl | rfl | rfl
    all_goals simp only [Nat.reduceMul, Nat.reduceSub, Int.reducePow, Int.reduceSub]
    all_goals go_wp2
    all_goals first
      | (go_ret; exact ⟨rfl, rfl⟩)
      | (go_round
         case rel => first | exact ⟨1, by omega, rfl, rfl⟩ | exact ⟨2, by omega, rfl, rfl⟩ | exact ⟨3, by omega, rfl, rfl⟩ | exact ⟨4, by omega, rfl, rfl⟩
         case measure => simp [intOf])

set_option maxHeartbeats 400000 in
theorem width_u64 (w : World) : Calls Try.prog 37 #[] w fun e w' => e = .returned (.int .i64 8) ∧ w = w' := by
  go_enter Try.func37, Try.ntmps37
  go_wp2
  go_loop [1, 2] (fun n t => ∃ k : Nat, k ≤ 8 ∧ n = .int .i64 k ∧ t = .int .u64 (2 ^ (64 - 8 * k) - 1)) (fun n _ => 8 - (intOf n).toNat)
  case atStart => exact ⟨0, by omega, rfl, rfl⟩
  case round =>
    obtain ⟨k, hk, rfl, rfl⟩ := hrel
    rcases (show k = 0 ∨ k = 1 ∨ k = 2 ∨ k = 3 ∨ k = 4 ∨ k = 5 ∨ k = 6 ∨ k = 7 ∨ k = 8 from by omega) with rfl | rfl | rfl | rfl | rfl | rfl | rfl | rfl | rfl
    all_goals simp only [Nat.reduceMul, Nat.reduceSub, Int.reducePow, Int.reduceSub]
    all_goals go_wp2
    all_goals first
      | (go_ret; exact ⟨rfl, rfl⟩)
      | (go_round
         case rel => first | exact ⟨1, by omega, rfl, rfl⟩ | exact ⟨2, by omega, rfl, rfl⟩ | exact ⟨3, by omega, rfl, rfl⟩ | exact ⟨4, by omega, rfl, rfl⟩ | exact ⟨5, by omega, rfl, rfl⟩ | exact ⟨6, by omega, rfl, rfl⟩ | exact ⟨7, by omega, rfl, rfl⟩ | exact ⟨8, by omega, rfl, rfl⟩
         case measure => simp [intOf])

set_option maxHeartbeats 400000 in
theorem width_word (w : World) : Calls Try.prog 38 #[] w fun e w' => e = .returned (.int .i64 2) ∧ w = w' := by
  go_enter Try.func38, Try.ntmps38
  go_wp2
  go_loop [1, 2] (fun n t => ∃ k : Nat, k ≤ 2 ∧ n = .int .i64 k ∧ t = .int .u64 (2 ^ (16 - 8 * k) - 1)) (fun n _ => 2 - (intOf n).toNat)
  case atStart => exact ⟨0, by omega, rfl, rfl⟩
  case round =>
    obtain ⟨k, hk, rfl, rfl⟩ := hrel
    rcases (show k = 0 ∨ k = 1 ∨ k = 2 from by omega) with rfl | rfl | rfl
    all_goals simp only [Nat.reduceMul, Nat.reduceSub, Int.reducePow, Int.reduceSub]
    all_goals go_wp2
    all_goals first
      | (go_ret; exact ⟨rfl, rfl⟩)
      | (go_round
         case rel => first | exact ⟨1, by omega, rfl, rfl⟩ | exact ⟨2, by omega, rfl, rfl⟩
         case measure => simp [intOf])
end Go.Proofs.Ytdcmncmpoinlaaa
