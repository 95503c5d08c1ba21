/- WireNil: the walk. -/
import Derived.Test.YtdcmncmpoinlaaaWireD1
namespace Go.Proofs.Ytdcmncmpoinlaaa
open Go.RowKit

/-- A row of noughts is made, whatever the guard. -/
theorem wpList_noughts {ops : Array Oper} {rest : List Oper} {o : Oper} {a : Act} {w : World} {Q : Exit → Act → World → Prop} (hgd : Region.wanted o (yielded ops a.tmps) = true) (n : Nat) (hn : n ≤ 1073741824)
    (ho : o.op = .makeSlice 36 (.const (.int .i64 (n : Int))) (.const (.int .i64 (n : Int))))
    (h : ∀ w1, Ow w1 5 1 (.slice (some ⟨w.heap.size, 0, none⟩) n n) n (bv (List.replicate n 0)) → Kp [] w w1 → wpList Try.prog ops Q rest (a.put o.dst (.slice (some ⟨w.heap.size, 0, none⟩) n n)) w1) : wpList Try.prog ops Q (o :: rest) a w := by
  obtain ⟨i0, hi, hz0, hz1, hz2⟩ := info_parts Try.infoU8
  obtain ⟨w1, hr, h1, h2⟩ := run_make_full (P := Try.prog) w 0 36 5 i0 _ 1 Try.underlying36 hi hz0 hz1 .i64 .i64 n (by rw [hz2]; omega) (by unfold maxLen; omega) (Nat.zero_le _)
  refine wpList_step fun K hK => ?_
  rw [if_pos hgd]
  unfold Oper.wp execOp
  simp only [ho, BigFrame.eval_const, Sem.run_bind, hr, Result.andThen_ok, Sem.run_pure]
  refine hK _ _ (h w1 ?_ (Kp.of_grown h2))
  rw [show (Value.int .u8 0).cells = #[.int .u8 0] from rfl, Nat.mul_one, toList_madeCells_one] at h1
  have e : bv (List.replicate n 0) = List.replicate n (.int .u8 0) := by simp [bv]
  rw [e]
  exact h1

/-- A list of noughts is written. -/
theorem w_list0 (q : Nat) (u : Value) (bs : List UInt8) (k n : Nat) (w w1 : World) (hw : Wr w q u bs) (h1 : Ow w1 5 1 (.slice (some ⟨w.heap.size, 0, none⟩) n n) n (bv (List.replicate n 0))) (k1 : Kp [] w w1) (hk : 1 ≤ k ∧ k ≤ 4) (hn : n < 256 ^ k) (hn2 : n ≤ 1073741824) (hb : bs.length ≤ 1073741824) :
    Calls Try.prog 33 #[.pointer (some ⟨q, 0, none⟩), .int .i64 k, .slice (some ⟨w.heap.size, 0, none⟩) n n] w1 fun e w' => e = .returned (.int .i64 0) ∧ ∃ u' bs', bs'.length = bs.length + (k + n) ∧ Wr w' q u' bs' ∧ WSt q u u' w w' := by
  have hl : (List.replicate n (0 : UInt8)).length = n := List.length_replicate
  have := w_list q u bs (.slice (some ⟨w.heap.size, 0, none⟩) n n) (List.replicate n 0) k w1 (hw.kp0 k1) (by rw [hl]; exact Rd.of_own h1) hk (by rw [hl]; exact hn) (by rw [hl]; omega) (fun g hg e => by
    simp [Value.ownBlock] at hg
    have := ow_lt hw.2 e
    omega)
  refine this.mono fun e w' ⟨he, u', hw', hs⟩ => ⟨he, u', _, ?_, hw', wst_after k1 hs⟩
  simp only [List.length_append, be_length, hl]; omega
theorem w_list3 (q : Nat) (u : Value) (bs : List UInt8) (k n : Nat) (w w1 : World) (hw : Wr w q u bs) (k1 : Kp [] w w1) (hk : 1 ≤ k ∧ k ≤ 4) (hn : 256 ^ k ≤ n) (hn2 : n ≤ 1073741824) :
    Calls Try.prog 33 #[.pointer (some ⟨q, 0, none⟩), .int .i64 k, .slice (some ⟨w.heap.size, 0, none⟩) n n] w1 fun e w' => e = .returned (.int .i64 3) ∧ w1 = w' :=
  w_list_long q u bs k hk _ n ⟨_, _, rfl⟩ w1 (hw.kp0 k1) hn (by omega)

theorem rr_zero (w : World) : Rr (w.alloc (.cells #[.slice none 0 0, .int .i64 0] 74)) w.heap.size (.slice none 0 0) 0 [] :=
  ⟨Blk.new _ _ _, Rd.nil _ _, Nat.le_refl _, by decide, by simp [Value.ownBlock], fun _ h => nomatch h⟩
theorem r_end0 (w : World) : Calls Try.prog 28 #[.pointer (some ⟨w.heap.size, 0, none⟩)] (w.alloc (.cells #[.slice none 0 0, .int .i64 0] 74)) fun e w' => e = .returned (.int .i64 0) ∧ Kp [] w w' := by
  refine (r_end _ _ _ _ _ (rr_zero w)).mono ?_
  rintro e w' ⟨rfl, n, rfl⟩
  exact ⟨rfl, ((Kp.refl [] w).alloc _).drewN n⟩
theorem reads_zero0 (w : World) : Calls Try.prog 34 #[.pointer (some ⟨w.heap.size, 0, none⟩), .int .i64 110] (w.alloc (.cells #[.slice none 0 0, .int .i64 0] 74)) fun e w' => e = .returned (.bool true) ∧ Kp [] w w' :=
  (reads_zero _ _ (rr_zero w)).mono fun _ _ ⟨h, k⟩ => ⟨h, ((Kp.refl [] w).alloc _).trans k (by simp)⟩

set_option maxRecDepth 100000 in
set_option maxHeartbeats 2000000 in
theorem nil_true (w : World) : Calls Try.prog 7 #[] w fun e w' => e = .returned (.bool true) ∧ Kp [] w w' := by
  go_enter Try.func7, Try.ntmps7
  go_wp2_with (first
    | (go_at_call 17; ((with_reducible refine (num_any _ _).mono ?_); rintro e w' ⟨rfl, rfl⟩))
    | (go_at_call 29; ((with_reducible refine (put8_nil _ _).mono ?_); rintro e w' ⟨rfl, rfl⟩))
    | (go_at_call 30; ((with_reducible refine (signed_nil _).mono ?_); rintro e w' ⟨rfl, rfl⟩))
    | (go_at_call 31; ((with_reducible refine (hash_nil _ _).mono ?_); rintro e w1 ⟨rfl, k1⟩))
    | (go_at_call 32; ((with_reducible refine (raw_nil _ _).mono ?_); rintro e w' ⟨rfl, rfl⟩))
    | (go_at_call 33; ((with_reducible refine (list_nil _ _ _).mono ?_); rintro e w' ⟨rfl, rfl⟩))
    | (go_at_call 19; ((with_reducible refine (len_nil _).mono ?_); rintro e w' ⟨rfl, rfl⟩))
    | (go_at_call 15; ((with_reducible refine (bytes_nil _).mono ?_); rintro e w' ⟨rfl, rfl⟩)))
  refine (new_writer _).mono ?_
  rintro e w2 ⟨rfl, W2, k2⟩
  have S2 := ((Held.start w).kp (k1.alloc _)).wnew W2 k2
  generalize (w1.alloc (Obj.cells #[Value.int IntKind.u8 1] 5)).heap.size = q at *
  clear k1 k2 W2
  go_wp2_with (first
    | (go_at_call 17; ((with_reducible refine (num_any _ _).mono ?_); rintro e w' ⟨rfl, rfl⟩))
    | (go_at_call 28; ((with_reducible refine (end_nil _).mono ?_); rintro e w' ⟨rfl, rfl⟩))
    | (go_at_call 28; ((with_reducible refine (r_end0 w2).mono ?_); rintro e w3 ⟨rfl, k3⟩); have S3 := S2.kp k3)
    | (at_make; refine wpList_noughts (by kernel_rfl) 255 (by decide) rfl ?_; intro w4 o4 k4; have O4 := Lib.hid o4; clear o4))
  refine (w_list0 q _ [] 1 255 w3 w4 (S3.at_ (l1 := [])) O4.out k4 (by decide) (by decide) (by decide) (by decide)).mono ?_
  rintro e w5 ⟨rfl, u5, b5, hl5, W5, s5⟩
  have S5 := S3.wturn (l1 := []) W5 s5
  have Hl5 := Lib.hid (show b5.length = 256 from hl5)
  clear S2 S3 k3 k4 O4 hl5 W5 s5
  go_wp2_with (first
    | (go_at_call 17; ((with_reducible refine (num_any _ _).mono ?_); rintro e w' ⟨rfl, rfl⟩))
    | (at_make; refine wpList_noughts (by kernel_rfl) 256 (by decide) rfl ?_; intro w6 o6 k6; have O6 := Lib.hid o6; clear o6))
  refine (w_list3 q _ b5 1 256 w5 w6 (S5.at_ (l1 := [])) k6 (by decide) (by decide) (by decide)).mono ?_
  rintro e w' ⟨rfl, rfl⟩
  have S6 := S5.kp k6
  clear S5 k6 O6
  go_wp2_with (first
    | (go_at_call 17; ((with_reducible refine (num_any _ _).mono ?_); rintro e w' ⟨rfl, rfl⟩))
    | (at_make; refine wpList_noughts (by kernel_rfl) 65535 (by decide) rfl ?_; intro w7 o7 k7; have O7 := Lib.hid o7; clear o7))
  refine (w_list0 q _ b5 2 65535 w6 w7 (S6.at_ (l1 := [])) O7.out k7 (by decide) (by decide) (by decide) (by rw [Hl5.out]; decide)).mono ?_
  rintro e w8 ⟨rfl, u8, b8, hl8, W8, s8⟩
  have S8 := S6.wturn (l1 := []) W8 s8
  have Hl8 := Lib.hid (show b8.length = 65793 by rw [hl8, Hl5.out])
  clear S6 k7 O7 hl8 W8 s8
  go_wp2_with (first
    | (go_at_call 17; ((with_reducible refine (num_any _ _).mono ?_); rintro e w' ⟨rfl, rfl⟩))
    | (at_make; refine wpList_noughts (by kernel_rfl) 65536 (by decide) rfl ?_; intro w9 o9 k9; have O9 := Lib.hid o9; clear o9))
  refine (w_list3 q _ b8 2 65536 w8 w9 (S8.at_ (l1 := [])) k9 (by decide) (by decide) (by decide)).mono ?_
  rintro e w' ⟨rfl, rfl⟩
  have S9 := S8.kp k9
  clear S8 k9 O9
  go_wp2_with (first
    | (go_at_call 17; ((with_reducible refine (num_any _ _).mono ?_); rintro e w' ⟨rfl, rfl⟩))
    | (at_make; refine wpList_noughts (by kernel_rfl) 65536 (by decide) rfl ?_; intro w10 o10 k10; have O10 := Lib.hid o10; clear o10))
  refine (w_list0 q _ b8 3 65536 w9 w10 (S9.at_ (l1 := [])) O10.out k10 (by decide) (by decide) (by decide) (by rw [Hl8.out]; decide)).mono ?_
  rintro e w11 ⟨rfl, u11, b11, hl11, W11, s11⟩
  have S11 := S9.wturn (l1 := []) W11 s11
  have hlen : b11.length = 131332 := by rw [hl11, Hl8.out]
  have hw := w_len q u11 b11 w11 (S11.at_ (l1 := []))
  rw [hlen] at hw
  have Hw := Lib.hid hw
  clear S9 k10 O10 hl11 W11 s11 hlen hw
  go_wp2_with (first
    | (go_at_call 17; ((with_reducible refine (num_any _ _).mono ?_); rintro e w' ⟨rfl, rfl⟩))
    | (go_at_call 19; ((with_reducible refine Hw.out.mono ?_); rintro e w' ⟨rfl, rfl⟩))
    | (go_at_call 34; ((with_reducible refine (reads_nil _).mono ?_); rintro e w12 ⟨rfl, k12⟩))
    | (go_at_call 34; ((with_reducible refine (reads_zero0 w12).mono ?_); rintro e w13 ⟨rfl, k13⟩))
    | (go_at_call 9; ((with_reducible refine (known_true _).mono ?_); rintro e w14 ⟨rfl, k14⟩)))
  go_ret
  exact ⟨rfl, ((S11.k.trans k12 (by simp)).trans k13 (by simp)).trans k14 (by simp)⟩
end Go.Proofs.Ytdcmncmpoinlaaa
