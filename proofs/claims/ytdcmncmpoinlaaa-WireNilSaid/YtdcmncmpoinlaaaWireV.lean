/- Walks of the reference for layer 1, and of the law's helpers: Number, Eight, List; lent, left, spoil. -/
import Derived.Test.YtdcmncmpoinlaaaWireT
import Derived.Test.YtdcmncmpoinlaaaHeld
namespace Go.Proofs.Ytdcmncmpoinlaaa
open Go.RowKit

theorem be_get (k x i : Nat) (h : i < k) : (be k x)[i]? = some (UInt8.ofNat (x / 256 ^ (k - 1 - i))) := by
  induction k generalizing i with
  | zero => omega
  | succ k ih =>
    rw [be_succ]
    rcases i with _ | i
    · simp
    · rw [List.getElem?_cons_succ, ih i (by omega)]
      rw [show k + 1 - 1 - (i + 1) = k - 1 - i from by omega]
theorem paint_step {α : Type} (L : List α) (u : α) (j : Nat) (hj : j < L.length) : (List.replicate j u ++ L.drop j).set j u = List.replicate (j + 1) u ++ L.drop (j + 1) := by
  rw [List.drop_eq_getElem_cons hj, List.set_append_right _ _ (by simp), List.length_replicate, Nat.sub_self, List.set_cons_zero, List.replicate_succ', List.append_assoc]
  rfl
theorem fill_step {α : Type} (L : List α) (z u : α) (j : Nat) (hj : j + 1 ≤ L.length) (hu : L[j]? = some u) : (List.replicate (j + 1) z ++ L.drop (j + 1)).set j u = List.replicate j z ++ L.drop j := by
  have hl : j < L.length := by omega
  have h1 : L.drop j = u :: L.drop (j + 1) := by
    rw [List.drop_eq_getElem_cons hl]
    rw [List.getElem?_eq_getElem hl] at hu
    cases hu
    rfl
  rw [h1, List.replicate_succ', List.append_assoc, List.set_append_right _ _ (by simp)]
  simp

set_option maxRecDepth 100000 in
set_option maxHeartbeats 400000 in
theorem number_ref (k : Nat) (hk : k ≤ 8) (x : Nat) (hx : x < 18446744073709551616) (w : World) :
    Calls Try.prog 44 #[.int .i64 k, .int .u64 x] w fun e w' => ∃ v, e = .returned v ∧ Ow w' 5 1 v k (bv (be k x)) ∧ Kp [] w w' ∧ ∀ g, v.ownBlock = some g → w.heap.size ≤ g := by
  obtain ⟨i0, hi, hz0, hz1, hz2⟩ := info_parts Try.infoU8
  go_enter Try.func44, Try.ntmps44
  go_wp2_with (at_make; refine wpList_make_full _ rfl (.tmp 7) (.tmp 7) _ rfl 0 5 i0 _ 1 Try.underlying36 hi hz0 hz1 _ _ _ _ k rfl rfl rfl rfl (by rw [hz2]; omega) (by unfold maxLen; omega) (Nat.zero_le _) ?_)
  intro w1 hown1 hg1
  have h0 : Ow w1 5 1 (.slice (some ⟨w.heap.size, 0, none⟩) k k) k (List.replicate k (.int .u8 0) ++ (bv (be k x)).drop k) := by
    have := hown1
    rw [toList_madeCells_one] at this
    rw [List.drop_of_length_le (by simp [bv_length]), List.append_nil]
    exact this
  have k1 : Kp [] w w1 := Kp.of_grown hg1
  have hsz : w.heap.size < w1.heap.size := by
    have := ow_lt h0 (g := w.heap.size) rfl
    exact this
  have Hbe := Lib.hid (be_get k x)
  clear hown1 hg1
  go_wp2
  go_loopw [1, 6] (fun y t wr => ∃ j : Nat, j ≤ k ∧ t = .int .i64 ((j : Int) - 1) ∧ y = .int .u64 ((x / 256 ^ (k - j) : Nat) : Int) ∧ Ow wr 5 1 (.slice (some ⟨w.heap.size, 0, none⟩) k k) k (List.replicate j (.int .u8 0) ++ (bv (be k x)).drop j) ∧ Kp [] w wr) (fun _ n _ => ((intOf n) + 1).toNat)
  case atStart => exact ⟨k, Nat.le_refl _, rfl, by simp, h0, k1⟩
  case round =>
    obtain ⟨j, hj, rfl, rfl, ho, hkp⟩ := hrel
    have hlt : x / 256 ^ (k - j) < 18446744073709551616 := Nat.lt_of_le_of_lt (Nat.div_le_self _ _) hx
    rcases j with _ | j
    · go_wp2
      go_ret
      refine ⟨_, rfl, ?_, hkp, by simp [Value.ownBlock]⟩
      simpa using ho
    · have hget := Hbe.out j (by omega)
      rw [show k - 1 - j = k - (j + 1) from by omega] at hget
      have hcell := ho.cellAt j (by omega)
      have hfz := ho.frozenAt j
      have hlw := ow_lt ho (g := w.heap.size) rfl
      rw [List.getElem?_append_left (by simp), List.getElem?_replicate_of_lt (by omega)] at hcell
      generalize hq : x / 256 ^ (k - (j + 1)) = q at *
      have hst := ho.stored (g := w.heap.size) j (.int .u8 ((q % 256 : Nat) : Int))
      have Hst := Lib.hid hst
      have Hq := Lib.hid hq
      have Hget := Lib.hid hget
      clear hst hq hget
      go_wp2
      go_roundw
      case rel =>
        refine ⟨j, by omega, by go_num, ?_, ?_, ?_⟩
        · have : x / 256 ^ (k - j) = q / 256 := by
            rw [← Hq.out, Nat.div_div_eq_div_mul, ← Nat.pow_succ, show (k - (j + 1)).succ = k - j from by omega]
          rw [this]; congr 1
        · have h2 := Hst.out.1
          rw [fill_step _ _ _ j (by rw [bv_length, be_length]; omega) (by rw [bv_get, Hget.out, Option.map_some, UInt8.toNat_ofNat'])] at h2
          rw [Int.natCast_emod] at h2
          exact h2
        · exact hkp.setCell (.inr (Nat.le_refl _)) _
      case measure => simp [intOf]

set_option maxHeartbeats 400000 in
theorem eight_ref (x : Int) (w : World) :
    Calls Try.prog 46 #[.int .i64 x] w fun e w' => ∃ v, e = .returned v ∧ Ow w' 5 1 v 8 (bv (be 8 (tou64 x))) ∧ Kp [] w w' ∧ ∀ g, v.ownBlock = some g → w.heap.size ≤ g := by
  go_enter Try.func46, Try.ntmps46
  go_wp2_with fail
  rw [wrap_u64_nat]
  refine (number_ref 8 (by decide) (tou64 x) (tou64_lt x) w).mono ?_
  rintro e w' ⟨v, rfl, h⟩
  go_wp2
  go_ret
  exact ⟨v, rfl, h⟩

theorem ow_some {w : World} {e : TypeId} {s n : Nat} {v : Value} {xs : List Value} (h : Ow w e s v n xs) (hn : 0 < n) : ∃ g c, v = .slice (some ⟨g, 0, none⟩) n c ∧ n ≤ c ∧ c ≤ maxLen := by
  rcases h.2 with ⟨_, h0⟩ | ⟨g, cap, cur, rfl, _, _, hnc, hcm, _⟩
  · omega
  · exact ⟨g, cap, rfl, hnc, hcm⟩
/-- The beginning of a row is a row. -/
theorem ow_take {w : World} {e : TypeId} {s n m c : Nat} {A : Option Addr} {xs : List Value} (h : Ow w e s (.slice A n c) n xs) (hm : m ≤ n) (_hn : 0 < n) : Ow w e s (.slice A m c) m (xs.take (m * s)) := by
  have hle : m * s ≤ n * s := Nat.mul_le_mul_right _ hm
  rcases h.2 with ⟨_, h0⟩ | ⟨g, cap, cur, hv, hb, hh, hnc, hcm, hcs, htk⟩
  · omega
  · cases hv
    refine ⟨by rw [List.length_take, h.1]; omega, .inr ⟨g, _, cur, rfl, hb, hh, by omega, hcm, hcs, ?_⟩⟩
    rw [← htk, List.take_take, Nat.min_eq_left hle]

set_option maxRecDepth 100000 in
set_option maxHeartbeats 400000 in
theorem lent_any (x : Value) (bs : List UInt8) (n : Nat) (w : World) (hx : Rd w 1 x n (bv bs)) (hn : n + 2 ≤ 140737488355328) :
    Calls Try.prog 21 #[x] w fun e w' => ∃ g c, e = .returned (.slice (some ⟨g, 0, none⟩) n c) ∧ Ow w' 5 1 (.slice (some ⟨g, 0, none⟩) (n + 2) c) (n + 2) (bv (bs ++ [165, 166])) ∧ Kp [] w w' ∧ w.heap.size ≤ g := by
  obtain ⟨i0, hi, hz0, hz1, hz2⟩ := info_parts Try.infoU8
  obtain ⟨A, c, rfl⟩ := rd_form hx
  have Hx := Lib.hid hx
  clear hx
  go_enter Try.func21, Try.ntmps21
  go_wp2_with (at_builtin; refine wpList_app _ rfl (.const (.slice none 0 0)) (.tmp 4) _ rfl 5 i0 _ 1 1 Try.underlying36 hi hz0 hz1 hz2 rfl (by decide) _ 0 [] rfl (World.ownsRow_nil _ _ _ _) (.slice A n c) n (bv bs) rfl Hx.out (bv_one _) (by unfold maxLen; omega) (by omega) ?_)
  intro v1 w1 hown1 hg1 hat1
  go_wp2_with (at_builtin; go_loud (refine wpList_app _ rfl (.tmp 5) (.tmp 6) _ rfl 5 i0 _ 1 1 Try.underlying36 hi hz0 hz1 hz2 rfl (by decide) v1 n (bv bs) rfl (hown1.alloc _) (.slice (some ⟨w1.heap.size, 0, none⟩) 2 2) 2 (bv [165, 166]) rfl (rd_lit w1 5 _ [165, 166] rfl (by decide)) (bv_one _) (by unfold maxLen; omega) (by omega) ?_))
  intro v2 w2 hown2 hg2 hat2
  obtain ⟨g, c2, rfl, hc2, hc3⟩ := ow_some hown2 (by omega)
  have hc4 : c2 ≤ 9223372036854775807 := by unfold maxLen at hc3; omega
  go_wp2
  go_ret
  have hf : w.heap.size ≤ g := by
    rcases hat2 with h | h
    · rcases hat1 with h1 | h1
      · rw [h1] at h; cases h
      · rw [h1] at h; simp [Value.ownBlock] at h; omega
    · simp [Value.ownBlock] at h; have := hg1.size; omega
  refine ⟨g, c2, rfl, by rw [bv_append]; exact hown2, ?_, hf⟩
  have k1 : Kp [] w w1 := (Kp.refl [] w).grown hg1 (by simp [Value.ownBlock])
  refine (k1.alloc _).grown hg2 ?_
  intro b hb
  rcases hat1 with h1 | h1
  · rw [h1] at hb; cases hb
  · rw [h1] at hb; cases hb; exact .inr (Nat.le_refl _)

set_option maxRecDepth 100000 in
set_option maxHeartbeats 400000 in
theorem left_any (g c n : Nat) (y : Value) (bs : List UInt8) (w : World) (hm : Ow w 5 1 (.slice (some ⟨g, 0, none⟩) (n + 2) c) (n + 2) (bv (bs ++ [165, 166]))) (hy : Rd w 1 y n (bv bs)) (hn : n + 2 ≤ 140737488355328) :
    Calls Try.prog 22 #[.slice (some ⟨g, 0, none⟩) n c, y] w fun e w' => e = .returned (.bool true) ∧ w = w' := by
  have hbl : bs.length = n := by have := hy.1; rw [bv_length] at this; omega
  have h1 := hm.cellAt n (by omega)
  have h2 := hm.cellAt (n + 1) (by omega)
  rw [bv_get, List.getElem?_append_right (by omega), hbl, Nat.sub_self] at h1
  rw [bv_get, List.getElem?_append_right (by omega), hbl, Nat.add_sub_cancel_left] at h2
  simp at h1 h2
  obtain ⟨g', c', hv, hc2, hc3⟩ := ow_some hm (by omega)
  cases hv
  have hc4 : c ≤ 9223372036854775807 := by unfold maxLen at hc3; omega
  have hpre : Rd w 1 (.slice (some ⟨g, 0, none⟩) n c) n (bv bs) := by
    have := ow_take hm (m := n) (by omega) (by omega)
    rw [Nat.mul_one, bv_append, List.take_left' (by rw [bv_length]; exact hbl)] at this
    exact Rd.of_own this
  have Hs := Lib.hid (same_any _ _ bs bs n n w hpre hy)
  obtain ⟨A, cy, rfl⟩ := rd_form hy
  clear hpre hy hm hbl hc3
  go_enter Try.func22, Try.ntmps22
  go_wp2_with (go_at_call 16; refine Hs.out.mono ?_; rintro e w' ⟨rfl, rfl⟩; have hbb : (bs == bs) = true := beq_self_eq_true _)
  go_ret
  exact ⟨rfl, rfl⟩

set_option maxRecDepth 100000 in
set_option maxHeartbeats 400000 in
theorem spoil_any (v : Value) (n : Nat) (xs : List Value) (w : World) (hm : Ow w 5 1 v n xs) (hn : n ≤ 140737488355328) :
    Calls Try.prog 20 #[v] w fun e w' => e = .returned (.tuple #[]) ∧ Ow w' 5 1 v n (List.replicate n (.int .u8 99)) ∧ Kp v.ownBlock.toList w w' := by
  obtain ⟨A, c, rfl, _, _⟩ := ow_form hm
  go_enter Try.func20, Try.ntmps20
  go_wp2
  go_loopw [2] (fun t wr => ∃ j : Nat, j ≤ n ∧ t = .int .i64 (j : Int) ∧ Ow wr 5 1 (.slice A n c) n (List.replicate j (.int .u8 99) ++ xs.drop j) ∧ Kp (Value.slice A n c).ownBlock.toList w wr) (fun t _ => n - (intOf t).toNat)
  case atStart => exact ⟨0, Nat.zero_le _, rfl, by simpa using hm, Kp.refl _ _⟩
  case round =>
    obtain ⟨j, hj, rfl, ho, hkp⟩ := hrel
    by_cases hlt : j < n
    · obtain ⟨g, c', hv, hc2, hc3⟩ := ow_some ho (by omega)
      cases hv
      have hxl : xs.length = n := by have := hm.1; omega
      obtain ⟨u, hu⟩ : ∃ u, xs[j]? = some u := ⟨_, List.getElem?_eq_getElem (by omega)⟩
      have hcell := ho.cellAt j (by omega)
      have hfz := ho.frozenAt j
      have hlw := ow_lt ho (g := g) rfl
      rw [List.getElem?_append_right (by simp), List.length_replicate, Nat.sub_self, List.getElem?_drop, Nat.add_zero, hu] at hcell
      have hst := ho.stored (g := g) j (.int .u8 99)
      have Hst := Lib.hid hst
      have Hxl := Lib.hid hxl
      have Hu := Lib.hid hu
      clear hst hxl hu hm
      go_wp2
      go_roundw
      case rel =>
        refine ⟨j + 1, by omega, by go_num, ?_, hkp.setCell (.inl (by simp [Value.ownBlock])) _⟩
        have h2 := Hst.out.1
        rw [paint_step _ _ _ (by rw [Hxl.out]; exact hlt)] at h2
        exact h2
      case measure => simp [intOf]; omega
    · have hj' : j = n := by omega
      subst hj'
      have hxl : xs.drop j = [] := List.drop_of_length_le (by have := hm.1; omega)
      rw [hxl, List.append_nil] at ho
      clear hxl hm
      go_wp2
      go_end0
      exact ⟨rfl, ho, hkp⟩
end Go.Proofs.Ytdcmncmpoinlaaa
