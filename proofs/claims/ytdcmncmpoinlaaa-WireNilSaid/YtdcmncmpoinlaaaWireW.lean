/- Walks for layer 1's laws: the reference's List; 'puts'. -/
import Derived.Test.YtdcmncmpoinlaaaWireV
import Derived.Test.YtdcmncmpoinlaaaWireU
namespace Go.Proofs.Ytdcmncmpoinlaaa
open Go.RowKit

set_option maxHeartbeats 400000 in
theorem num_any (x : Int) (w : World) : Calls Try.prog 17 #[.int .i64 x] w fun e w' => e = .returned (.int .i64 x) ∧ w = w' := by
  go_enter Try.func17, Try.ntmps17
  go_wp2
  go_ret
  exact ⟨rfl, rfl⟩

set_option maxHeartbeats 400000 in
theorem rlist_arg (k : Int) (x : Value) (w : World) (hk : k < 1 ∨ 4 < k) :
    Calls Try.prog 47 #[.int .i64 k, x] w fun e w' => e = .returned (.tuple #[.slice none 0 0, .int .i64 2]) ∧ w = w' := by
  rcases hk with hk | hk
  all_goals
    go_enter Try.func47, Try.ntmps47
    go_wp2
    go_ret2
    exact ⟨rfl, rfl⟩

set_option maxRecDepth 100000 in
set_option maxHeartbeats 800000 in
theorem rlist_ok (k : Nat) (hk : 1 ≤ k ∧ k ≤ 4) (x : Value) (ns : List UInt8) (w : World) (hx : Rd w 1 x ns.length (bv ns)) (hlt : ns.length < 256 ^ k) (hn : ns.length + 4 ≤ 140737488355328) :
    Calls Try.prog 47 #[.int .i64 k, x] w fun e w' => ∃ v, e = .returned (.tuple #[v, .int .i64 0]) ∧ Ow w' 5 1 v (k + ns.length) (bv (be k ns.length ++ ns)) ∧ Kp [] w w' ∧ ∀ g, v.ownBlock = some g → w.heap.size ≤ g := by
  obtain ⟨i0, hi, hz0, hz1, hz2⟩ := info_parts Try.infoU8
  have Hx := Lib.hid hx
  obtain ⟨A, c, rfl⟩ := rd_form hx
  clear hx
  have h2 : ns.length < 18446744073709551616 := by omega
  have H2 := Lib.hid h2
  clear h2
  obtain ⟨hk1, hk2⟩ := hk
  have hd : decide (((256 ^ k : Nat) : Int) ≤ (ns.length : Int)) = false := by rw [decide_eq_false_iff_not]; omega
  rcases (show k = 1 ∨ k = 2 ∨ k = 3 ∨ k = 4 from by omega) with rfl | rfl | rfl | rfl
  all_goals
    simp only [Nat.reducePow, Int.cast_ofNat_Int] at hd
    clear hlt
    go_enter Try.func47, Try.ntmps47
    go_wp2_with fail
    refine (number_ref _ (by decide) ns.length H2.out w).mono ?_
    rintro e w1 ⟨v1, rfl, h1, h2, h3⟩
    have Hx1 := Lib.hid (Hx.out.kp h2 (fun _ _ => by simp))
    go_wp2_with (at_builtin; go_loud (refine wpList_app _ rfl (.tmp 24) (.tmp 25) _ rfl 5 i0 _ 1 1 Try.underlying36 hi hz0 hz1 hz2 rfl (by decide) v1 _ _ rfl h1 (.slice A ns.length c) ns.length (bv ns) rfl Hx1.out (bv_one _) (by unfold maxLen; omega) (by omega) ?_))
    intro v2 w2 hown2 hg2 hat2
    go_wp2
    go_ret2
    refine ⟨v2, rfl, by rw [bv_append]; exact hown2, h2.grown hg2 (fun g hg => .inr (h3 g hg)), ?_⟩
    intro g hg
    rcases hat2 with h | h
    · rw [h] at hg; exact h3 g hg
    · rw [h] at hg; simp at hg; have := h2.size; omega

set_option maxRecDepth 100000 in
set_option maxHeartbeats 800000 in
theorem rlist_long (k : Nat) (hk : 1 ≤ k ∧ k ≤ 4) (x : Value) (n : Nat) (hx : ∃ A c, x = .slice A n c) (w : World) (hlt : 256 ^ k ≤ n) (hn : n ≤ 140737488355328) :
    Calls Try.prog 47 #[.int .i64 k, x] w fun e w' => e = .returned (.tuple #[.slice none 0 0, .int .i64 3]) ∧ w = w' := by
  obtain ⟨A, c, rfl⟩ := hx
  obtain ⟨hk1, hk2⟩ := hk
  have hd : decide (((256 ^ k : Nat) : Int) ≤ (n : Int)) = true := by rw [decide_eq_true_iff]; omega
  rcases (show k = 1 ∨ k = 2 ∨ k = 3 ∨ k = 4 from by omega) with rfl | rfl | rfl | rfl
  all_goals
    simp only [Nat.reducePow, Int.cast_ofNat_Int] at hd
    clear hlt
    go_enter Try.func47, Try.ntmps47
    go_wp2
    go_ret2
    exact ⟨rfl, rfl⟩

set_option maxRecDepth 100000 in
set_option maxHeartbeats 800000 in
theorem w_list_long (p : Nat) (v : Value) (bs : List UInt8) (k : Nat) (hk : 1 ≤ k ∧ k ≤ 4) (x : Value) (n : Nat) (hx : ∃ A c, x = .slice A n c) (w : World) (_hw : Wr w p v bs) (hlt : 256 ^ k ≤ n) (hn : n ≤ 140737488355328) :
    Calls Try.prog 33 #[.pointer (some ⟨p, 0, none⟩), .int .i64 k, x] w fun e w' => e = .returned (.int .i64 3) ∧ w = w' := by
  obtain ⟨A, c, rfl⟩ := hx
  obtain ⟨hk1, hk2⟩ := hk
  have hpos : 0 < n / 256 ^ k := Nat.div_pos hlt (Nat.pow_pos (by decide))
  have hd : decide ((0 : Int) < (n : Int) / ((256 ^ k : Nat) : Int)) = true := by rw [decide_eq_true_iff]; omega
  rcases (show k = 1 ∨ k = 2 ∨ k = 3 ∨ k = 4 from by omega) with rfl | rfl | rfl | rfl
  all_goals
    simp only [Nat.reducePow, Int.cast_ofNat_Int] at hd
    clear hlt hpos
    go_enter Try.func33, Try.ntmps33
    go_wp2
    go_ret
    exact ⟨rfl, rfl⟩
end Go.Proofs.Ytdcmncmpoinlaaa
