/- Walks of package wire: a reader is made, its end; the law's 'known'. -/
import Derived.Test.YtdcmncmpoinlaaaWireS
namespace Go.Proofs.Ytdcmncmpoinlaaa
open Go.RowKit

set_option maxHeartbeats 400000 in
theorem new_reader (x : Value) (bs : List UInt8) (w : World) (hx : Rd w 1 x bs.length (bv bs)) (hn : bs.length ≤ 140737488355328) :
    Calls Try.prog 14 #[x] w fun e w' => ∃ p v, e = .returned (.pointer (some ⟨p, 0, none⟩)) ∧ w.heap.size ≤ p ∧ Rr w' p v 0 bs ∧ (∀ g, v.ownBlock = some g → w.heap.size ≤ g) ∧ Kp [] w w' := by
  go_enter Try.func14, Try.ntmps14
  go_wp2_with (go_at_call 43; refine (clone_any x bs bs.length w hx hn).mono ?_; rintro e w1 ⟨v1, rfl, h1, h2, h3⟩; obtain ⟨A1, c1, rfl, _, _⟩ := ow_form h1)
  go_ret
  have hb : Blk (w1.alloc (.cells #[.slice A1 bs.length c1, .int .i64 0] 74)) w1.heap.size 74 #[.slice A1 bs.length c1, .int .i64 ((0 : Nat) : Int)] := Blk.new _ _ _
  have ho := h1.alloc (.cells #[.slice A1 bs.length c1, .int .i64 0] 74)
  refine ⟨_, _, rfl, h2.size, ⟨hb, Rd.of_own ho, Nat.zero_le _, hn, ow_blk_ne ho hb (by decide), fun g hg => ow_lt ho hg⟩, h3, h2.alloc _⟩

set_option maxHeartbeats 400000 in
theorem r_end (p : Nat) (v : Value) (a : Nat) (bs : List UInt8) (w : World) (h : Rr w p v a bs) :
    Calls Try.prog 28 #[.pointer (some ⟨p, 0, none⟩)] w fun e w' => e = .returned (.int .i64 (if a < bs.length then 111 else 0)) ∧ ∃ n, w' = w.drewN n := by
  by_cases hlt : a < bs.length
  · rw [if_pos hlt]
    go_enter Try.func28, Try.ntmps28
    go_wp2_with (go_at_call 25; refine (r_left p _ a bs w h).mono ?_; rintro e w' ⟨rfl, nq, rfl⟩)
    go_ret
    exact ⟨rfl, nq, rfl⟩
  · rw [if_neg hlt]
    go_enter Try.func28, Try.ntmps28
    go_wp2_with (go_at_call 25; refine (r_left p _ a bs w h).mono ?_; rintro e w' ⟨rfl, nq, rfl⟩)
    go_ret
    exact ⟨rfl, nq, rfl⟩

theorem Wr.kp {w w' : World} {S : List Nat} {q : Nat} {u : Value} {bs : List UInt8} (h : Wr w q u bs) (hk : Kp S w w') (hq : q ∉ S) (hu : ∀ g, u.ownBlock = some g → g ∉ S) : Wr w' q u bs := ⟨h.1.kp hk hq, ow_kp h.2 hk hu⟩
/-- A writer and a reader beside each other, both made since w0. -/
structure WR (w0 w : World) (q : Nat) (u : Value) (bs : List UInt8) (p : Nat) (v : Value) (a : Nat) (rs : List UInt8) : Prop where
  wr : Wr w q u bs
  rr : Rr w p v a rs
  ne : ∀ g, v.ownBlock = some g → u.ownBlock ≠ some g
  nq : v.ownBlock ≠ some q
  np : u.ownBlock ≠ some p
  pq : p ≠ q
  k : Kp [] w0 w
  qb : w0.heap.size ≤ q
  pb : w0.heap.size ≤ p
  ub : ∀ g, u.ownBlock = some g → w0.heap.size ≤ g
theorem WR.wstep {w0 w w' : World} {q p a : Nat} {u u' v : Value} {bs bs' rs : List UInt8} (h : WR w0 w q u bs p v a rs) (hw : Wr w' q u' bs') (hs : WSt q u u' w w') : WR w0 w' q u' bs' p v a rs := by
  refine ⟨hw, h.rr.kp hs.1 ?_ ?_, ?_, h.nq, ?_, h.pq, h.k.trans hs.1 ?_, h.qb, h.pb, ?_⟩
  · intro hm
    rcases List.mem_cons.1 hm with hm | hm
    · exact h.pq hm
    · exact h.np (by simpa using hm)
  · intro g hg hm
    rcases List.mem_cons.1 hm with hm | hm
    · subst hm; exact h.nq hg
    · exact h.ne g hg (by simpa using hm)
  · intro g hg
    rcases hs.2 with e | ⟨k, e, hk⟩
    · rw [e]; exact h.ne g hg
    · rw [e]; have := h.rr.vlt g hg; simp; omega
  · rcases hs.2 with e | ⟨k, e, hk⟩
    · rw [e]; exact h.np
    · rw [e]; have := h.rr.blk.lt; simp; omega
  · intro g hm
    rcases List.mem_cons.1 hm with hm | hm
    · subst hm; exact .inr h.qb
    · exact .inr (h.ub g (by simpa using hm))
  · intro g hg
    rcases hs.2 with e | ⟨k, e, hk⟩
    · exact h.ub g (by rw [← e]; exact hg)
    · rw [e] at hg; cases hg; have := h.k.size; omega
theorem WR.rstep {w0 w w' : World} {q p a a' : Nat} {u v : Value} {bs rs : List UInt8} (h : WR w0 w q u bs p v a rs) (hr : Rr w' p v a' rs) (hk : Kp [p] w w') : WR w0 w' q u bs p v a' rs :=
  ⟨h.wr.kp hk (by simpa using Ne.symm h.pq) (fun g hg hm => by simp at hm; subst hm; exact h.np hg), hr, h.ne, h.nq, h.np, h.pq, h.k.trans hk (fun g hg => by simp at hg; subst hg; exact .inr h.pb), h.qb, h.pb, h.ub⟩
theorem WR.kp {w0 w w' : World} {q p a : Nat} {u v : Value} {bs rs : List UInt8} (h : WR w0 w q u bs p v a rs) (hk : Kp [] w w') : WR w0 w' q u bs p v a rs :=
  ⟨h.wr.kp hk (by simp) (fun _ _ => by simp), h.rr.kp' hk, h.ne, h.nq, h.np, h.pq, h.k.trans hk (by simp), h.qb, h.pb, h.ub⟩
theorem WR.alloc {w0 w : World} {q p a : Nat} {u v : Value} {bs rs : List UInt8} (h : WR w0 w q u bs p v a rs) (o : Obj) : WR w0 (w.alloc o) q u bs p v a rs := h.kp ((Kp.refl [] w).alloc o)
theorem Kp.drew' {w : World} (n : Nat) : Kp [] w (w.drewN n) := (Kp.refl [] w).drewN n
/-- A short row, written out. -/
theorem rd_lit (w : World) (e : TypeId) (cs : Array Value) (l : List UInt8) (h : cs.toList = bv l) (hn : l.length ≤ 4096) : Rd (w.alloc (.cells cs e)) 1 (.slice (some ⟨w.heap.size, 0, none⟩) l.length l.length) l.length (bv l) := by
  have := ow_new w e 1 l.length cs (by rw [← Array.length_toList, h, bv_length]; simp) (by unfold maxLen; omega)
  rw [h] at this
  exact Rd.of_own this

set_option maxRecDepth 100000 in
set_option maxHeartbeats 1000000 in
theorem known_true (w : World) : Calls Try.prog 9 #[] w fun e w' => e = .returned (.bool true) ∧ Kp [] w w' := by
  go_enter Try.func9, Try.ntmps9
  go_wp2_with (go_at_call 8; refine (new_writer w).mono ?_; rintro e w1 ⟨rfl, hw1, k1⟩)
  refine (new_reader _ [1, 2, 3] _ (rd_lit w1 5 _ [1, 2, 3] rfl (by decide)) (by decide)).mono ?_
  rintro e w2 ⟨p, v, rfl, hp, hr, hv, k2⟩
  have S2 : WR w w2 w.heap.size (.slice none 0 0) [] p v 0 [1, 2, 3] := by
    have hW := hw1.1.lt
    simp at hp
    refine ⟨(Wr.kp (w := w1.alloc _) ⟨hw1.1.alloc _, hw1.2.alloc _⟩ k2 (by simp) (fun _ _ => by simp)), hr, by simp [Value.ownBlock], fun e => ?_, by simp [Value.ownBlock], by omega, (k1.alloc _).trans k2 (by simp), Nat.le_refl _, by omega, by simp [Value.ownBlock]⟩
    have := hv _ e
    simp at this
    omega
  clear hw1 k1 hp hr hv k2
  go_wp2_with fail
  refine (put_u16 _ _ _ 258 (by decide) _ S2.wr (by decide)).mono ?_
  rintro e w3 ⟨rfl, v3, hw3, hs3⟩
  have S3 := S2.wstep hw3 hs3
  clear S2 hw3 hs3
  go_wp2_with (go_at_call 17; go_in)
  refine (w_signed _ _ _ (-1) _ S3.wr (by decide)).mono ?_
  rintro e w4 ⟨rfl, v4, hw4, hs4⟩
  have S4 := S3.wstep hw4 hs4
  clear S3 hw4 hs4
  go_wp2_with (go_at_call 17; go_in)
  have S4' := S4.alloc (.cells #[.int .u8 97, .int .u8 98] 5)
  refine (w_list _ _ _ _ [97, 98] 1 _ S4'.wr (rd_lit w4 5 _ [97, 98] rfl (by decide)) (by decide) (by decide) (by decide) ?_).mono ?_
  · intro g hg e
    simp [Value.ownBlock] at hg
    have := ow_lt S4.wr.2 e
    omega
  rintro e w5 ⟨rfl, v5, hw5, hs5⟩
  have S5 := S4'.wstep hw5 hs5
  clear S4 S4' hw5 hs5
  go_wp2_with (go_at_call 17; go_in)
  refine (w_list_arg _ _ 0 0 _ ⟨none, 0, rfl⟩ (.inl (by decide))).mono ?_
  rintro e w' ⟨rfl, rfl⟩
  go_wp2_with (go_at_call 17; go_in)
  have S5' := S5.alloc (.cells #[.int .u8 7] 5)
  refine (w_raw _ _ _ _ [7] _ S5'.wr (rd_lit w5 5 _ [7] rfl (by decide)) (by decide)).mono ?_
  rintro e w6 ⟨rfl, v6, hw6, hs6⟩
  have S6 := S5'.wstep hw6 hs6
  clear S5 S5' hw6 hs6
  go_wp2_with (go_at_call 17; go_in)
  refine (take_u16 _ _ _ _ _ S6.rr (by decide)).mono ?_
  rintro e w7 ⟨rfl, k7, r7⟩
  have S7 := S6.rstep r7 k7
  clear S6 k7 r7
  go_wp2_with (go_at_call 17; go_in)
  refine (take_u16_end _ _ _ _ _ S7.rr (by decide)).mono ?_
  rintro e w8 ⟨rfl, k8⟩
  have S8 := S7.kp k8
  clear S7 k8
  go_wp2_with (first
    | (go_at_call 17; go_in)
    | (go_at_call 24; refine (r_place _ _ _ _ _ S8.rr).mono ?_; rintro e w' ⟨rfl, rfl⟩))
  refine (r_left _ _ _ _ _ S8.rr).mono ?_
  rintro e w9 ⟨rfl, n9, hw9⟩
  have S9 := S8.kp (show Kp [] w8 w9 from by rw [hw9]; exact Kp.drew' n9)
  clear hw9
  clear S8
  go_wp2_with fail
  refine (r_end _ _ _ _ _ S9.rr).mono ?_
  rintro e w10 ⟨rfl, n10, hw10⟩
  have S10 := S9.kp (show Kp [] w9 w10 from by rw [hw10]; exact Kp.drew' n10)
  clear hw10
  clear S9
  go_wp2_with (go_at_call 17; go_in)
  refine (w_bytes _ _ _ _ S10.wr (by decide)).mono ?_
  rintro e w11 ⟨v11, rfl, o11, k11, f11⟩
  have S11 := S10.kp k11
  clear S10
  go_wp2_with fail
  have S12 := S11.alloc (.cells #[.int .u8 1, .int .u8 2, .int .u8 255, .int .u8 255, .int .u8 255, .int .u8 255, .int .u8 255, .int .u8 255, .int .u8 255, .int .u8 255, .int .u8 2, .int .u8 97, .int .u8 98, .int .u8 7] 5)
  refine (same_any _ _ _ [1, 2, 255, 255, 255, 255, 255, 255, 255, 255, 2, 97, 98, 7] _ _ _ (Rd.of_own (o11.alloc _)) (rd_lit w11 5 _ [1, 2, 255, 255, 255, 255, 255, 255, 255, 255, 2, 97, 98, 7] rfl (by decide))).mono ?_
  rintro e w' ⟨rfl, rfl⟩
  go_wp2_with (go_at_call 19; refine (w_len _ _ _ _ S12.wr).mono ?_; rintro e w' ⟨rfl, rfl⟩)
  go_ret
  exact ⟨rfl, S12.k⟩
end Go.Proofs.Ytdcmncmpoinlaaa
