/- WireReads: 'asks': the two readers side by side; numbers. -/
import Derived.Test.YtdcmncmpoinlaaaWireBI
namespace Go.Proofs.Ytdcmncmpoinlaaa
open Go.RowKit

/-- The program's reader and the reference's, at places a and b of the same bytes. -/
structure RD (w : World) (p : Nat) (v : Value) (a : Nat) (d : Nat) (x : Value) (b : Nat) (bs : List UInt8) : Prop where
  rr : Rr w p v a bs
  dr : Dr w d x b bs
  pd : p ≠ d
  vd : v.ownBlock ≠ some d
  xp : bs ≠ [] → x.ownBlock ≠ some p
theorem RD.stepR {w w' : World} {p a a' d b : Nat} {v x : Value} {bs : List UInt8} (h : RD w p v a d x b bs) (hk : Kp [p] w w') (hr : Rr w' p v a' bs) : RD w' p v a' d x b bs :=
  ⟨hr, h.dr.kp hk (by simpa using Ne.symm h.pd) (fun g hg hne hm => by simp at hm; subst hm; exact h.xp hne hg), h.pd, h.vd, h.xp⟩
theorem RD.stepD {w w' : World} {p a b b' d : Nat} {v x : Value} {bs : List UInt8} (h : RD w p v a d x b bs) (hk : Kp [d] w w') (hr : Dr w' d x b' bs) : RD w' p v a d x b' bs :=
  ⟨h.rr.kp hk (by simpa using h.pd) (fun g hg hm => by simp at hm; subst hm; exact h.vd hg), hr, h.pd, h.vd, h.xp⟩
theorem RD.kp0 {w w' : World} {p a b d : Nat} {v x : Value} {bs : List UInt8} (h : RD w p v a d x b bs) (hk : Kp [] w w') : RD w' p v a d x b bs :=
  ⟨h.rr.kp' hk, h.dr.kp0 hk, h.pd, h.vd, h.xp⟩
theorem RD.far {w w' w'' : World} {p a b a' b' d : Nat} {v x : Value} {bs : List UInt8} {S : List Nat} (h0 : RD w p v a d x b bs) (h : RD w' p v a' d x b' bs) (hk : Kp S w' w'') (hS : ∀ g, g ∈ S → w.heap.size ≤ g) : RD w'' p v a' d x b' bs := by
  have h1 := h0.rr.blk.lt
  have h2 := h0.dr.blk.lt
  refine ⟨h.rr.kp hk (fun hm => ?_) (fun g hg hm => ?_), h.dr.kp hk (fun hm => ?_) (fun g hg hne hm => ?_), h.pd, h.vd, h.xp⟩
  · have := hS _ hm; omega
  · have := hS _ hm; have := h0.rr.vlt g hg; omega
  · have := hS _ hm; omega
  · have := hS _ hm
    have := rd_lt h0.dr.rd hg (fun e => hne (by cases bs with | nil => rfl | cons b bs => cases e))
    omega

/-- An Ask, as data. -/
structure AskD where
  kind : Int
  n : Int
  width : Int
  hk : -9223372036854775808 ≤ kind ∧ kind ≤ 9223372036854775807
  hn : -9223372036854775808 ≤ n ∧ n ≤ 9223372036854775807
  hw : -9223372036854775808 ≤ width ∧ width ≤ 9223372036854775807
def AskD.cells (q : AskD) : Array Value := #[.int .i64 q.kind, .int .i64 q.n, .int .i64 q.width]

/-- What 'asks' leaves. -/
def AskPost (p : Nat) (v : Value) (a : Nat) (d : Nat) (x : Value) (bs : List UInt8) (w : World) (e : Ending) (w' : World) : Prop :=
  e = .returned (.bool true) ∧ Kp [p, d] w w' ∧ RD w' p v a d x a bs
/-- The place behind so many bytes, if there are as many. -/
def stepAt (bs : List UInt8) (a k : Nat) : Nat := if a + k ≤ bs.length then a + k else a
theorem askpost {w w1 w2 w' : World} {p a a' d : Nat} {v x : Value} {bs : List UInt8} (h0 : RD w p v a d x a bs) (h1 : Kp [] w w1) (k1 : Kp [p] w1 w2) (k2 : Kp [d] w2 w') (h : RD w' p v a' d x a' bs) : AskPost p v a' d x bs w (.returned (.bool true)) w' :=
  ⟨rfl, ((h1.more (T := [p, d]) (by simp)).trans k1 (fun g hg => .inl (by simp at hg; simp [hg]))).trans k2 (fun g hg => .inl (by simp at hg; simp [hg])), h⟩

set_option maxRecDepth 100000 in
set_option maxHeartbeats 1000000 in
theorem asks_1 (p : Nat) (v : Value) (a : Nat) (d : Nat) (x : Value) (bs : List UInt8) (n wd : Int) (w : World) (h : RD w p v a d x a bs) :
    Calls Try.prog 23 #[.pointer (some ⟨p, 0, none⟩), .pointer (some ⟨d, 0, none⟩), .agg #[.int .i64 1, .int .i64 n, .int .i64 wd]] w (AskPost p v (stepAt bs a 1) d x bs w) := by
  have k0 : Kp [] w (w.alloc (.cells #[.int .i64 1, .int .i64 n, .int .i64 wd] 63)) := (Kp.refl [] w).alloc _
  have h0 := h.kp0 k0
  by_cases hk : a + 1 ≤ bs.length
  · rw [show stepAt bs a 1 = a + 1 from if_pos hk]
    have ht := take_u8 p v a bs _ h0.rr hk
    have hn := fun W hd => d_number d x a bs 1 (by decide) hk W hd
    have hb : num ((bs.drop a).take 1) < 256 := by
      have h1 := num_lt ((bs.drop a).take 1)
      rw [List.length_take, List.length_drop, Nat.min_eq_left (by omega)] at h1
      exact h1
    generalize num ((bs.drop a).take 1) = N at *
    have Ht := Lib.hid ht
    have Hn := Lib.hid hn
    clear ht hn
    go_enter Try.func23, Try.ntmps23
    go_wp2_with (first
      | (go_at_call 48; refine Ht.out.mono ?_; rintro e w1 ⟨rfl, k1, r1⟩; have h1 := h0.stepR k1 r1)
      | (go_at_call 49; refine (Hn.out _ h1.dr).mono ?_; rintro e w2 ⟨rfl, r2, k2⟩)
      | (go_at_call 17; refine (num_any _ _).mono ?_; rintro e w' ⟨rfl, rfl⟩))
    go_ret
    exact askpost h k0 k1 k2 (h1.stepD k2 r2)
  · rw [show stepAt bs a 1 = a from if_neg hk]
    have ht := take_u8_end p v a bs _ h0.rr (by omega)
    have hn := fun W hd => d_number_end d x a bs 1 (by have := h.rr.le; omega) W hd
    have Ht := Lib.hid ht
    have Hn := Lib.hid hn
    clear ht hn
    go_enter Try.func23, Try.ntmps23
    go_wp2_with (first
      | (go_at_call 48; refine Ht.out.mono ?_; rintro e w1 ⟨rfl, k1⟩; have h1 := h0.kp0 k1)
      | (go_at_call 49; refine (Hn.out _ h1.dr).mono ?_; rintro e w2 ⟨rfl, k2⟩)
      | (go_at_call 17; refine (num_any _ _).mono ?_; rintro e w' ⟨rfl, rfl⟩))
    go_ret
    exact askpost h k0 (k1.more (by simp)) (k2.more (by simp)) (h1.kp0 k2)

set_option maxRecDepth 100000 in
set_option maxHeartbeats 1000000 in
theorem asks_2 (p : Nat) (v : Value) (a : Nat) (d : Nat) (x : Value) (bs : List UInt8) (n wd : Int) (w : World) (h : RD w p v a d x a bs) :
    Calls Try.prog 23 #[.pointer (some ⟨p, 0, none⟩), .pointer (some ⟨d, 0, none⟩), .agg #[.int .i64 2, .int .i64 n, .int .i64 wd]] w (AskPost p v (stepAt bs a 2) d x bs w) := by
  have k0 : Kp [] w (w.alloc (.cells #[.int .i64 2, .int .i64 n, .int .i64 wd] 63)) := (Kp.refl [] w).alloc _
  have h0 := h.kp0 k0
  by_cases hk : a + 2 ≤ bs.length
  · rw [show stepAt bs a 2 = a + 2 from if_pos hk]
    have ht := take_u16 p v a bs _ h0.rr hk
    have hn := fun W hd => d_number d x a bs 2 (by decide) hk W hd
    have hb : num ((bs.drop a).take 2) < 65536 := by
      have h1 := num_lt ((bs.drop a).take 2)
      rw [List.length_take, List.length_drop, Nat.min_eq_left (by omega)] at h1
      exact h1
    generalize num ((bs.drop a).take 2) = N at *
    have Ht := Lib.hid ht
    have Hn := Lib.hid hn
    clear ht hn
    go_enter Try.func23, Try.ntmps23
    go_wp2_with (first
      | (go_at_call 35; refine Ht.out.mono ?_; rintro e w1 ⟨rfl, k1, r1⟩; have h1 := h0.stepR k1 r1)
      | (go_at_call 49; refine (Hn.out _ h1.dr).mono ?_; rintro e w2 ⟨rfl, r2, k2⟩)
      | (go_at_call 17; refine (num_any _ _).mono ?_; rintro e w' ⟨rfl, rfl⟩))
    go_ret
    exact askpost h k0 k1 k2 (h1.stepD k2 r2)
  · rw [show stepAt bs a 2 = a from if_neg hk]
    have ht := take_u16_end p v a bs _ h0.rr (by omega)
    have hn := fun W hd => d_number_end d x a bs 2 (by have := h.rr.le; omega) W hd
    have Ht := Lib.hid ht
    have Hn := Lib.hid hn
    clear ht hn
    go_enter Try.func23, Try.ntmps23
    go_wp2_with (first
      | (go_at_call 35; refine Ht.out.mono ?_; rintro e w1 ⟨rfl, k1⟩; have h1 := h0.kp0 k1)
      | (go_at_call 49; refine (Hn.out _ h1.dr).mono ?_; rintro e w2 ⟨rfl, k2⟩)
      | (go_at_call 17; refine (num_any _ _).mono ?_; rintro e w' ⟨rfl, rfl⟩))
    go_ret
    exact askpost h k0 (k1.more (by simp)) (k2.more (by simp)) (h1.kp0 k2)

set_option maxRecDepth 100000 in
set_option maxHeartbeats 1000000 in
theorem asks_3 (p : Nat) (v : Value) (a : Nat) (d : Nat) (x : Value) (bs : List UInt8) (n wd : Int) (w : World) (h : RD w p v a d x a bs) :
    Calls Try.prog 23 #[.pointer (some ⟨p, 0, none⟩), .pointer (some ⟨d, 0, none⟩), .agg #[.int .i64 3, .int .i64 n, .int .i64 wd]] w (AskPost p v (stepAt bs a 4) d x bs w) := by
  have k0 : Kp [] w (w.alloc (.cells #[.int .i64 3, .int .i64 n, .int .i64 wd] 63)) := (Kp.refl [] w).alloc _
  have h0 := h.kp0 k0
  by_cases hk : a + 4 ≤ bs.length
  · rw [show stepAt bs a 4 = a + 4 from if_pos hk]
    have ht := take_u32 p v a bs _ h0.rr hk
    have hn := fun W hd => d_number d x a bs 4 (by decide) hk W hd
    have hb : num ((bs.drop a).take 4) < 4294967296 := by
      have h1 := num_lt ((bs.drop a).take 4)
      rw [List.length_take, List.length_drop, Nat.min_eq_left (by omega)] at h1
      exact h1
    generalize num ((bs.drop a).take 4) = N at *
    have Ht := Lib.hid ht
    have Hn := Lib.hid hn
    clear ht hn
    go_enter Try.func23, Try.ntmps23
    go_wp2_with (first
      | (go_at_call 50; refine Ht.out.mono ?_; rintro e w1 ⟨rfl, k1, r1⟩; have h1 := h0.stepR k1 r1)
      | (go_at_call 49; refine (Hn.out _ h1.dr).mono ?_; rintro e w2 ⟨rfl, r2, k2⟩)
      | (go_at_call 17; refine (num_any _ _).mono ?_; rintro e w' ⟨rfl, rfl⟩))
    go_ret
    exact askpost h k0 k1 k2 (h1.stepD k2 r2)
  · rw [show stepAt bs a 4 = a from if_neg hk]
    have ht := take_u32_end p v a bs _ h0.rr (by omega)
    have hn := fun W hd => d_number_end d x a bs 4 (by have := h.rr.le; omega) W hd
    have Ht := Lib.hid ht
    have Hn := Lib.hid hn
    clear ht hn
    go_enter Try.func23, Try.ntmps23
    go_wp2_with (first
      | (go_at_call 50; refine Ht.out.mono ?_; rintro e w1 ⟨rfl, k1⟩; have h1 := h0.kp0 k1)
      | (go_at_call 49; refine (Hn.out _ h1.dr).mono ?_; rintro e w2 ⟨rfl, k2⟩)
      | (go_at_call 17; refine (num_any _ _).mono ?_; rintro e w' ⟨rfl, rfl⟩))
    go_ret
    exact askpost h k0 (k1.more (by simp)) (k2.more (by simp)) (h1.kp0 k2)

set_option maxRecDepth 100000 in
set_option maxHeartbeats 1000000 in
theorem asks_4 (p : Nat) (v : Value) (a : Nat) (d : Nat) (x : Value) (bs : List UInt8) (n wd : Int) (w : World) (h : RD w p v a d x a bs) :
    Calls Try.prog 23 #[.pointer (some ⟨p, 0, none⟩), .pointer (some ⟨d, 0, none⟩), .agg #[.int .i64 4, .int .i64 n, .int .i64 wd]] w (AskPost p v (stepAt bs a 8) d x bs w) := by
  have k0 : Kp [] w (w.alloc (.cells #[.int .i64 4, .int .i64 n, .int .i64 wd] 63)) := (Kp.refl [] w).alloc _
  have h0 := h.kp0 k0
  by_cases hk : a + 8 ≤ bs.length
  · rw [show stepAt bs a 8 = a + 8 from if_pos hk]
    have ht := take_u64 p v a bs _ h0.rr hk
    have hn := fun W hd => d_number d x a bs 8 (by decide) hk W hd
    have hb : num ((bs.drop a).take 8) < 18446744073709551616 := by
      have h1 := num_lt ((bs.drop a).take 8)
      rw [List.length_take, List.length_drop, Nat.min_eq_left (by omega)] at h1
      exact h1
    generalize num ((bs.drop a).take 8) = N at *
    have Ht := Lib.hid ht
    have Hn := Lib.hid hn
    clear ht hn
    go_enter Try.func23, Try.ntmps23
    go_wp2_with (first
      | (go_at_call 51; refine Ht.out.mono ?_; rintro e w1 ⟨rfl, k1, r1⟩; have h1 := h0.stepR k1 r1)
      | (go_at_call 49; refine (Hn.out _ h1.dr).mono ?_; rintro e w2 ⟨rfl, r2, k2⟩)
      | (go_at_call 17; refine (num_any _ _).mono ?_; rintro e w' ⟨rfl, rfl⟩))
    go_ret
    exact askpost h k0 k1 k2 (h1.stepD k2 r2)
  · rw [show stepAt bs a 8 = a from if_neg hk]
    have ht := take_u64_end p v a bs _ h0.rr (by omega)
    have hn := fun W hd => d_number_end d x a bs 8 (by have := h.rr.le; omega) W hd
    have Ht := Lib.hid ht
    have Hn := Lib.hid hn
    clear ht hn
    go_enter Try.func23, Try.ntmps23
    go_wp2_with (first
      | (go_at_call 51; refine Ht.out.mono ?_; rintro e w1 ⟨rfl, k1⟩; have h1 := h0.kp0 k1)
      | (go_at_call 49; refine (Hn.out _ h1.dr).mono ?_; rintro e w2 ⟨rfl, k2⟩)
      | (go_at_call 17; refine (num_any _ _).mono ?_; rintro e w' ⟨rfl, rfl⟩))
    go_ret
    exact askpost h k0 (k1.more (by simp)) (k2.more (by simp)) (h1.kp0 k2)
end Go.Proofs.Ytdcmncmpoinlaaa
