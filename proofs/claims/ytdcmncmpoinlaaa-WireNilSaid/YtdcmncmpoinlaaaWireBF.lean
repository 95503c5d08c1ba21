/- WireReads: the reference's List. -/
import Derived.Test.YtdcmncmpoinlaaaWireBE
namespace Go.Proofs.Ytdcmncmpoinlaaa
open Go.RowKit

theorem d_leftn (d : Nat) (x : Value) (a : Nat) (bs : List UInt8) (m : Nat) (hm : bs.length = a + m) (w : World) (h : Dr w d x a bs) :
    Calls Try.prog 26 #[.pointer (some ⟨d, 0, none⟩)] w fun e w' => e = .returned (.int .i64 m) ∧ ∃ n, w' = w.drewN n := by
  have := d_left d x a bs w h
  rwa [show (bs.length : Int) - a = m by omega] at this
theorem Dr.drewN {w : World} {d a : Nat} {x : Value} {bs : List UInt8} (h : Dr w d x a bs) (n : Nat) : Dr (w.drewN n) d x a bs := ⟨h.blk, h.rd, h.le, h.len, h.ne⟩

set_option maxRecDepth 100000 in
set_option maxHeartbeats 1000000 in
theorem d_list_arg (d : Nat) (k most : Int) (hk : k < 1 ∨ 4 < k ∨ most < 0) (w : World) :
    Calls Try.prog 60 #[.pointer (some ⟨d, 0, none⟩), .int .i64 k, .int .i64 most] w fun e w' => e = .returned (.tuple #[.slice none 0 0, .int .i64 2]) ∧ w = w' := by
  have hk : k < 1 ∨ (¬ k < 1 ∧ 4 < k) ∨ (¬ k < 1 ∧ ¬ 4 < k ∧ most < 0) := by omega
  rcases hk with hk | ⟨hk0, hk⟩ | ⟨hk0, hk1, hk⟩
  all_goals
    go_enter Try.func60, Try.ntmps60
    go_wp2
    go_ret2
    exact ⟨rfl, rfl⟩

set_option maxRecDepth 100000 in
set_option maxHeartbeats 1000000 in
theorem d_list_end (d : Nat) (x : Value) (a k most : Nat) (bs : List UInt8) (hk1 : 1 ≤ k) (hk4 : k ≤ 4) (hk : bs.length < a + k) (w : World) (h : Dr w d x a bs) :
    Calls Try.prog 60 #[.pointer (some ⟨d, 0, none⟩), .int .i64 k, .int .i64 most] w fun e w' => e = .returned (.tuple #[.slice none 0 0, .int .i64 110]) ∧ Kp [] w w' := by
  have hle := h.le
  have hc1 := h.blk.cell 1
  simp at hc1
  go_enter Try.func60, Try.ntmps60
  go_wp2_with (go_at_call 49; refine (d_number_end d x a bs k (by omega) w h).mono ?_; rintro e w' ⟨rfl, k1⟩)
  go_ret2
  exact ⟨rfl, k1⟩

set_option maxRecDepth 100000 in
set_option maxHeartbeats 1000000 in
theorem d_list_no (d : Nat) (x : Value) (a k most : Nat) (bs : List UInt8) (er : Int) (hk1 : 1 ≤ k) (hk4 : k ≤ 4) (hmost : most ≤ 9223372036854775807) (hk : a + k ≤ bs.length) (w : World) (h : Dr w d x a bs)
    (h1 : (er = 3 ∧ most < num ((bs.drop a).take k)) ∨ (er = 110 ∧ num ((bs.drop a).take k) ≤ most ∧ bs.length < a + k + num ((bs.drop a).take k))) :
    Calls Try.prog 60 #[.pointer (some ⟨d, 0, none⟩), .int .i64 k, .int .i64 most] w fun e w' => e = .returned (.tuple #[.slice none 0 0, .int .i64 er]) ∧ Kp [d] w w' ∧ Dr w' d x a bs := by
  have hle := h.le
  have hlen := h.len
  have hc1 := h.blk.cell 1
  simp at hc1
  have hnum := d_number d x a bs k (by omega) hk w h
  have hN64 : num ((bs.drop a).take k) < 18446744073709551616 := by
    have h1 := num_lt ((bs.drop a).take k)
    have : 256 ^ ((bs.drop a).take k).length ≤ 256 ^ 7 := Nat.pow_le_pow_right (by omega) (by rw [List.length_take]; omega)
    omega
  generalize num ((bs.drop a).take k) = N at *
  have Hnum := Lib.hid hnum
  clear hnum
  obtain ⟨m, hm⟩ : ∃ m, m = bs.length - (a + k) := ⟨_, rfl⟩
  have hm' : bs.length = a + k + m := by omega
  rcases h1 with ⟨rfl, h1⟩ | ⟨rfl, h1, h2⟩
  · go_enter Try.func60, Try.ntmps60
    go_wp2_with (go_at_call 49; refine Hnum.out.mono ?_; rintro e w1 ⟨rfl, g1, k1⟩; have z1 := g1.blk.frozen 1; have l1 := g1.blk.lt; have y1 := g1.blk.cell 1)
    go_ret2
    obtain ⟨g2, k2⟩ := g1.set (b := a) hle
    exact ⟨rfl, k1.trans k2 (fun g hg => .inl hg), g2⟩
  · have hmN : m < N := by omega
    have hnN : ¬ most < N := by omega
    have Hm := Lib.hid (And.intro hm hm')
    have hm48 : m ≤ 140737488355328 := by omega
    clear hm hm' h2
    go_enter Try.func60, Try.ntmps60
    go_wp2_with (first
      | (go_at_call 49; refine Hnum.out.mono ?_; rintro e w1 ⟨rfl, g1, k1⟩)
      | (go_at_call 26; refine (d_leftn d x (a + k) bs m Hm.out.2 _ g1).mono ?_; rintro e w2 ⟨rfl, nq, rfl⟩; have g3 := g1.drewN nq; have z1 := g3.blk.frozen 1; have l1 := g3.blk.lt; have y1 := g3.blk.cell 1))
    go_ret2
    obtain ⟨g4, k4⟩ := g3.set (b := a) hle
    exact ⟨rfl, (k1.drewN nq).trans k4 (fun g hg => .inl hg), g4⟩

set_option maxRecDepth 100000 in
set_option maxHeartbeats 1000000 in
theorem d_list (d : Nat) (x : Value) (a k most : Nat) (bs : List UInt8) (hk1 : 1 ≤ k) (hk4 : k ≤ 4) (hmost : most ≤ 9223372036854775807) (hk : a + k ≤ bs.length) (w : World) (h : Dr w d x a bs)
    (h1 : num ((bs.drop a).take k) ≤ most) (h2 : a + k + num ((bs.drop a).take k) ≤ bs.length) :
    Calls Try.prog 60 #[.pointer (some ⟨d, 0, none⟩), .int .i64 k, .int .i64 most] w fun e w' =>
      ∃ u, e = .returned (.tuple #[u, .int .i64 0]) ∧ Ow w' 5 1 u (num ((bs.drop a).take k)) (bv ((bs.drop (a + k)).take (num ((bs.drop a).take k)))) ∧ Kp [d] w w' ∧ Dr w' d x (a + k + num ((bs.drop a).take k)) bs ∧ ∀ b, u.ownBlock = some b → w.heap.size ≤ b := by
  have hle := h.le
  have hlen := h.len
  have hc1 := h.blk.cell 1
  simp at hc1
  have hnum := d_number d x a bs k (by omega) hk w h
  generalize num ((bs.drop a).take k) = N at *
  have Hnum := Lib.hid hnum
  clear hnum
  obtain ⟨m, hm⟩ : ∃ m, m = bs.length - (a + k) := ⟨_, rfl⟩
  have hm' : bs.length = a + k + m := by omega
  have hmN : ¬ m < N := by omega
  have hnN : ¬ most < N := by omega
  have Hm := Lib.hid (And.intro hm (And.intro hm' h2))
  have hm48 : m ≤ 140737488355328 := by omega
  have hN48 : N ≤ 140737488355328 := by omega
  clear hm hm' h2
  go_enter Try.func60, Try.ntmps60
  go_wp2_with (first
    | (go_at_call 49; refine Hnum.out.mono ?_; rintro e w1 ⟨rfl, g1, k1⟩)
    | (go_at_call 26; refine (d_leftn d x (a + k) bs m Hm.out.2.1 _ g1).mono ?_; rintro e w2 ⟨rfl, nq, rfl⟩)
    | (go_at_call 57; refine (d_raw d x (a + k) bs N _ (g1.drewN nq) Hm.out.2.2).mono ?_; rintro e w3 ⟨u, rfl, o3, k3, g3, f3⟩; obtain ⟨A3, c3, rfl, _, _⟩ := ow_form o3))
  go_ret2
  exact ⟨_, rfl, o3, (k1.drewN nq).trans k3 (fun g hg => .inl hg), g3, fun b hb => Nat.le_trans (k1.drewN nq).size (f3 b hb)⟩
end Go.Proofs.Ytdcmncmpoinlaaa
