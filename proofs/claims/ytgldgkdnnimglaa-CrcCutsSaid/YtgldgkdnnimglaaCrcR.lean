/- Walks: four bytes solved by the reference. -/
import Derived.Test.YtgldgkdnnimglaaCrcQ
namespace Go.Proofs.Ytgldgkdnnimglaa
open Go.RowKit

theorem unthru_step {x : Nat} {l : List UInt8} {j : Nat} (h : j < l.length) : unthru x (l.drop j) = itn unstp 8 (unthru x (l.drop (j + 1))) ^^^ l[j].toNat := by
  rw [List.drop_eq_getElem_cons h]; rfl
set_option maxRecDepth 100000 in
set_option maxHeartbeats 600000 in
theorem rsolve_ok (A : Option Addr) (b : List UInt8) (c at_ m want : Nat) (hm : at_ + 4 + m = b.length) (hn : b.length ≤ 140737488355328) (hw : want < 4294967296) (w : World) (hb : Rd w 1 (.slice A b.length c) b.length (bv b)) :
    Calls Try.prog 30 #[.slice A b.length c, .int .i64 at_, .int .u32 want] w fun e w' => e = .returned (.tuple #[.agg (hashA (le4 (solveN (b.take at_) (b.drop (at_ + 4)) want))), .bool true]) ∧ Kp [] w w' := by
  have hnc : b.length ≤ c := by obtain ⟨_, _, _, hv, h1, _⟩ := hb; cases hv; exact h1
  obtain ⟨A1, c1, run1, rd1, -⟩ := cut_hi A b.length c at_ (at_ : Int) rfl (by omega) hnc
  have b0 := Blk.new w 43 (hashA (List.replicate 4 0))
  have k0 : Kp [] w (w.alloc (.cells (hashA (List.replicate 4 0)) 43)) := (Kp.refl [] w).alloc _
  have B0 := Lib.hid b0
  have K0 := Lib.hid k0
  have H1 := Lib.hid (rsum_any (.slice A1 at_ c1) at_ (b.take at_) _ (by have := rd1 _ b (rd_old hb k0); rwa [List.drop_zero] at this))
  obtain ⟨_, _, hv, -, -, hA, hc⟩ := rd_get (rd_old hb k0)
  cases hv
  have Hc := Lib.hid hc
  have HA := Lib.hid hA
  have e1 := u32_not want hw
  have hnz := not32_lt (crc (b.take at_))
  have e2 := Lib.hid (u32_not (crc (b.take at_)) (crc_lt _))
  obtain ⟨T, hT⟩ : ∃ T, T = b.drop (at_ + 4) := ⟨_, rfl⟩
  have hlm : T.length = m := by rw [hT, List.length_drop]; omega
  have hcellT : ∀ ad, A = some ad → ∀ j, (h : j < T.length) → (w.alloc (.cells (hashA (List.replicate 4 0)) 43)).cell? (ad.add (at_ + 4 + j)) = some (.int .u8 (T[j].toNat : Int)) := fun ad had j h => by
    have := hc ad had (at_ + 4 + j) (by omega)
    rw [this]; subst hT; simp
  rw [← hT]
  have Hx : Hid (itn unstp 32 (unthru (not32 want) T) ^^^ not32 (crc (b.take at_)) = solveN (b.take at_) T want) := Lib.hid rfl
  have hx := solveN_lt (b.take at_) T want
  have hz32 := not32_lt want
  generalize solveN (b.take at_) T want = x at *
  have HcT := Lib.hid hcellT
  have Hlm := Lib.hid hlm
  have HX : Hid (bits .xor .u32 ((itn unstp 32 (unthru (not32 want) T) : Nat) : Int) (not32 (crc (b.take at_)) : Int) = (x : Int)) := Lib.hid (by
    rw [← Hx.out]
    exact u32_xor_nat _ _ (itn_unstp_lt 32 (unthru_lt (not32_lt want) T)) hnz)
  have HxA := Lib.hid (le4A x hx)
  generalize not32 want = z0 at *
  generalize not32 (crc (b.take at_)) = nc at *
  generalize crc (b.take at_) = cr at *
  have Hun : Hid (∀ j, unthru z0 (T.drop j) < 4294967296) := Lib.hid (fun j => unthru_lt hz32 _)
  clear hlm hT b0 k0 hc Hc hA hb rd1 hcellT Hx
  go_enter Try.func30, Try.ntmps30
  go_wp2
  clear e1
  go_loop [8, 9, 10] (fun u i _ => ∃ j : Nat, j ≤ m ∧ i = .int .i64 ((at_ : Int) + 4 + (j : Int) - 1) ∧ u = .int .u32 ((unthru z0 (T.drop j) : Nat) : Int)) (fun _ i _ => ((intOf i) - (at_ : Int) - 3).toNat)
  case atStart => exact ⟨m, Nat.le_refl _, by congr 1; omega, by rw [List.drop_of_length_le (by rw [Hlm.out]; exact Nat.le_refl _)]; rfl⟩
  case round =>
    obtain ⟨j, hj, rfl, rfl⟩ := hrel
    rcases j with _ | j
    · have hz2 := Hun.out 0
      rw [List.drop_zero] at hz2 ⊢
      go_wp2
      go_loop [8, 11] (fun u i => ∃ k : Nat, k ≤ 32 ∧ i = .int .i64 k ∧ u = .int .u32 ((itn unstp k (unthru z0 T) : Nat) : Int)) (fun _ i => 32 - (intOf i).toNat)
      case atStart => exact ⟨0, by omega, rfl, rfl⟩
      case round =>
        obtain ⟨k, hk, rfl, rfl⟩ := hrel
        have hb := itn_unstp_lt k hz2
        by_cases hl8 : k < 32
        · go_wp2_with (go_at_call 47; refine (Unstep_any _ hb _).mono ?_; rintro e w' ⟨rfl, rfl⟩)
          go_round
          case rel => exact ⟨k + 1, by omega, by go_num, by rw [itn_succ]⟩
          case measure => simp [intOf]; omega
        · obtain rfl : k = 32 := by omega
          have e3 := e2.out
          have e4 := HX.out
          go_wp2_with (first
            | (go_at_call 15; refine H1.out.mono ?_; rintro e w' ⟨rfl, rfl⟩)
            | (refine wpList_store_agg rfl 43 (.tmp 6) (.tmp 70) rfl w.heap.size 0 rfl #[.int .u8 ((x : Int) % 256), .int .u8 ((x : Int) / 256 % 256), .int .u8 ((x : Int) / 65536 % 256), .int .u8 ((x : Int) / 16777216)] rfl 43 (hashA (List.replicate 4 0)) B0.out (by rw [Try.infoFour]; rfl) (by simp [hashA, bv]) (by simp [Value.oneCell']) ?_; intro w3 c3 k3; rw [← HxA.out] at c3))
          rw [set_all (hashA (List.replicate 4 0)) (hashA (le4 x)) rfl] at c3
          exact bodyPost_ret (results_cell_tmp (by rfl) rfl c3 Try.underlying43 rfl (by rw [Try.infoFour]; rfl)) rfl ⟨rfl, K0.out.trans k3 (fun g hg => .inr (by simp at hg; omega))⟩
    · have hjT : j < T.length := by rw [Hlm.out]; omega
      have hlt : at_ + 4 + j < b.length := by omega
      obtain ⟨ad, rfl⟩ : ∃ ad, A = some ad := by
        cases A with
        | none => have := HA.out rfl; omega
        | some ad => exact ⟨ad, rfl⟩
      have hcell := HcT.out ad rfl j hjT
      rw [zeroA] at hcell
      have Hst := Lib.hid (unthru_step (x := z0) hjT)
      have hu1 := Hun.out (j + 1)
      generalize unthru z0 (T.drop (j + 1)) = U at *
      have hq := T[j].toNat_lt
      generalize T[j].toNat = q at *
      have Hx3 := Lib.hid (u32_xor_nat (itn unstp 8 U) q (itn_unstp_lt 8 hu1) (by omega))
      have hidx : ((at_ : Int) + 4 + ((j + 1 : Nat) : Int) - 1).toNat = at_ + 4 + j := by omega
      have hidx2 : (at_ : Int) + 4 + ((j + 1 : Nat) : Int) - 1 = (at_ : Int) + 4 + (j : Int) := by omega
      rw [hidx2]
      clear hidx hidx2
      have hidx : ((at_ : Int) + 4 + (j : Int)).toNat = at_ + 4 + j := by omega
      go_wp2
      go_loop [8, 10] (fun u i => ∃ k : Nat, k ≤ 8 ∧ i = .int .i64 k ∧ u = .int .u32 ((itn unstp k U : Nat) : Int)) (fun _ i => 8 - (intOf i).toNat)
      case atStart => exact ⟨0, by omega, rfl, rfl⟩
      case round =>
        obtain ⟨k, hk, rfl, rfl⟩ := hrel
        have hb := itn_unstp_lt k hu1
        by_cases hl8 : k < 8
        · go_wp2_with (go_at_call 47; refine (Unstep_any _ hb _).mono ?_; rintro e w' ⟨rfl, rfl⟩)
          go_round
          case rel => exact ⟨k + 1, by omega, by go_num, by rw [itn_succ]⟩
          case measure => simp [intOf]; omega
        · obtain rfl : k = 8 := by omega
          have e4 := Hx3.out
          generalize itn unstp 8 U = V at *
          clear hb
          go_wp2
          go_round
          case rel => exact ⟨j, by omega, by congr 1, by rw [Hst.out]⟩
          case measure => simp [intOf]; omega
end Go.Proofs.Ytgldgkdnnimglaa
