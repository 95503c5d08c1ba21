/- WireBack: 'back': what was written is read again: numbers. -/
import Derived.Test.YtdcmncmpoinlaaaWireBL
namespace Go.Proofs.Ytdcmncmpoinlaaa
open Go.RowKit

/-- What 'back' leaves. -/
def BackPost (p : Nat) (v : Value) (a : Nat) (bs : List UInt8) (w : World) (e : Ending) (w' : World) : Prop :=
  e = .returned (.bool true) ∧ Kp [p] w w' ∧ Rr w' p v a bs
theorem pre_take {bs l rest : List UInt8} {a k : Nat} (h : bs.drop a = l ++ rest) (hl : l.length = k) (hk : 0 < k) : (bs.drop a).take k = l ∧ a + k ≤ bs.length := by
  refine ⟨by rw [h, List.take_append_of_le_length (by omega), List.take_of_length_le (by omega)], ?_⟩
  have := congrArg List.length h
  rw [List.length_drop, List.length_append] at this
  omega

set_option maxRecDepth 100000 in
set_option maxHeartbeats 1000000 in
theorem back_1 (p : Nat) (v : Value) (a : Nat) (bs rest : List UInt8) (cs : Array Value) (q : PutD) (B : Value) (w : World) (hc : PutC cs q B) (hkd : q.kind = 1) (h : Rr w p v a bs) (hpre : bs.drop a = be 1 q.x ++ rest) :
    Calls Try.prog 27 #[.pointer (some ⟨p, 0, none⟩), .agg cs] w (BackPost p v (a + 1) bs w) := by
  have hc0 := hc.c0
  have hc1 := hc.c1
  rw [hkd] at hc0
  have hxx := hc.hx
  obtain ⟨h1, h2⟩ := pre_take hpre (be_length _ _) (by decide)
  have k0 : Kp [] w (w.alloc (.cells cs 52)) := (Kp.refl [] w).alloc _
  have b0 : Blk (w.alloc (.cells cs 52)) w.heap.size 52 cs := Blk.new _ _ _
  have ht := take_u8 p v a bs _ (h.kp' k0) h2
  rw [h1, num_be] at ht
  have hx2 : q.x % 256 ^ 1 = q.x % 256 := rfl
  rw [hx2] at ht
  clear h1 hx2 hpre hc hkd
  generalize q.x = x at *
  have Ht := Lib.hid ht
  have hpl := h.blk.lt
  have HC := Lib.hid hc1
  clear ht
  have _ := hxx
  go_enter Try.func27, Try.ntmps27
  go_wp2_with (first
    | (go_at_call 48; refine Ht.out.mono ?_; rintro e w1 ⟨rfl, k1, r1⟩; have c1 := ((b0.kp k1 (by simp; omega)).cell 1).trans HC.out)
    | (go_at_call 17; refine (num_any _ _).mono ?_; rintro e w' ⟨rfl, rfl⟩))
  go_ret
  exact ⟨rfl, (k0.more (by simp)).trans k1 (fun g hg => .inl hg), r1⟩

set_option maxRecDepth 100000 in
set_option maxHeartbeats 1000000 in
theorem back_2 (p : Nat) (v : Value) (a : Nat) (bs rest : List UInt8) (cs : Array Value) (q : PutD) (B : Value) (w : World) (hc : PutC cs q B) (hkd : q.kind = 2) (h : Rr w p v a bs) (hpre : bs.drop a = be 2 q.x ++ rest) :
    Calls Try.prog 27 #[.pointer (some ⟨p, 0, none⟩), .agg cs] w (BackPost p v (a + 2) bs w) := by
  have hc0 := hc.c0
  have hc1 := hc.c1
  rw [hkd] at hc0
  have hxx := hc.hx
  obtain ⟨h1, h2⟩ := pre_take hpre (be_length _ _) (by decide)
  have k0 : Kp [] w (w.alloc (.cells cs 52)) := (Kp.refl [] w).alloc _
  have b0 : Blk (w.alloc (.cells cs 52)) w.heap.size 52 cs := Blk.new _ _ _
  have ht := take_u16 p v a bs _ (h.kp' k0) h2
  rw [h1, num_be] at ht
  have hx2 : q.x % 256 ^ 2 = q.x % 65536 := rfl
  rw [hx2] at ht
  clear h1 hx2 hpre hc hkd
  generalize q.x = x at *
  have Ht := Lib.hid ht
  have hpl := h.blk.lt
  have HC := Lib.hid hc1
  clear ht
  have hwr : IntKind.u16.wrap (x : Int) = (x : Int) % 65536 := by rw [wrap_u16_nat]; omega
  go_enter Try.func27, Try.ntmps27
  go_wp2_with (first
    | (go_at_call 35; refine Ht.out.mono ?_; rintro e w1 ⟨rfl, k1, r1⟩; have c1 := ((b0.kp k1 (by simp; omega)).cell 1).trans HC.out)
    | (go_at_call 17; refine (num_any _ _).mono ?_; rintro e w' ⟨rfl, rfl⟩))
  go_ret
  exact ⟨rfl, (k0.more (by simp)).trans k1 (fun g hg => .inl hg), r1⟩

set_option maxRecDepth 100000 in
set_option maxHeartbeats 1000000 in
theorem back_3 (p : Nat) (v : Value) (a : Nat) (bs rest : List UInt8) (cs : Array Value) (q : PutD) (B : Value) (w : World) (hc : PutC cs q B) (hkd : q.kind = 3) (h : Rr w p v a bs) (hpre : bs.drop a = be 4 q.x ++ rest) :
    Calls Try.prog 27 #[.pointer (some ⟨p, 0, none⟩), .agg cs] w (BackPost p v (a + 4) bs w) := by
  have hc0 := hc.c0
  have hc1 := hc.c1
  rw [hkd] at hc0
  have hxx := hc.hx
  obtain ⟨h1, h2⟩ := pre_take hpre (be_length _ _) (by decide)
  have k0 : Kp [] w (w.alloc (.cells cs 52)) := (Kp.refl [] w).alloc _
  have b0 : Blk (w.alloc (.cells cs 52)) w.heap.size 52 cs := Blk.new _ _ _
  have ht := take_u32 p v a bs _ (h.kp' k0) h2
  rw [h1, num_be] at ht
  have hx2 : q.x % 256 ^ 4 = q.x % 4294967296 := rfl
  rw [hx2] at ht
  clear h1 hx2 hpre hc hkd
  generalize q.x = x at *
  have Ht := Lib.hid ht
  have hpl := h.blk.lt
  have HC := Lib.hid hc1
  clear ht
  have _ := hxx
  go_enter Try.func27, Try.ntmps27
  go_wp2_with (first
    | (go_at_call 50; refine Ht.out.mono ?_; rintro e w1 ⟨rfl, k1, r1⟩; have c1 := ((b0.kp k1 (by simp; omega)).cell 1).trans HC.out)
    | (go_at_call 17; refine (num_any _ _).mono ?_; rintro e w' ⟨rfl, rfl⟩))
  go_ret
  exact ⟨rfl, (k0.more (by simp)).trans k1 (fun g hg => .inl hg), r1⟩

set_option maxRecDepth 100000 in
set_option maxHeartbeats 1000000 in
theorem back_4 (p : Nat) (v : Value) (a : Nat) (bs rest : List UInt8) (cs : Array Value) (q : PutD) (B : Value) (w : World) (hc : PutC cs q B) (hkd : q.kind = 4) (h : Rr w p v a bs) (hpre : bs.drop a = be 8 q.x ++ rest) :
    Calls Try.prog 27 #[.pointer (some ⟨p, 0, none⟩), .agg cs] w (BackPost p v (a + 8) bs w) := by
  have hc0 := hc.c0
  have hc1 := hc.c1
  rw [hkd] at hc0
  have hxx := hc.hx
  obtain ⟨h1, h2⟩ := pre_take hpre (be_length _ _) (by decide)
  have k0 : Kp [] w (w.alloc (.cells cs 52)) := (Kp.refl [] w).alloc _
  have b0 : Blk (w.alloc (.cells cs 52)) w.heap.size 52 cs := Blk.new _ _ _
  have ht := take_u64 p v a bs _ (h.kp' k0) h2
  rw [h1, num_be] at ht
  have hx2 : q.x % 256 ^ 8 = q.x := Nat.mod_eq_of_lt hxx
  rw [hx2] at ht
  clear h1 hx2 hpre hc hkd
  generalize q.x = x at *
  have Ht := Lib.hid ht
  have hpl := h.blk.lt
  have HC := Lib.hid hc1
  clear ht
  have _ := hxx
  go_enter Try.func27, Try.ntmps27
  go_wp2_with (first
    | (go_at_call 51; refine Ht.out.mono ?_; rintro e w1 ⟨rfl, k1, r1⟩; have c1 := ((b0.kp k1 (by simp; omega)).cell 1).trans HC.out)
    | (go_at_call 17; refine (num_any _ _).mono ?_; rintro e w' ⟨rfl, rfl⟩))
  go_ret
  exact ⟨rfl, (k0.more (by simp)).trans k1 (fun g hg => .inl hg), r1⟩

set_option maxRecDepth 100000 in
set_option maxHeartbeats 1000000 in
theorem back_5 (p : Nat) (v : Value) (a : Nat) (bs rest : List UInt8) (cs : Array Value) (q : PutD) (B : Value) (w : World) (hc : PutC cs q B) (hkd : q.kind = 5) (h : Rr w p v a bs) (hpre : bs.drop a = be 8 q.x ++ rest) :
    Calls Try.prog 27 #[.pointer (some ⟨p, 0, none⟩), .agg cs] w (BackPost p v (a + 8) bs w) := by
  have hc0 := hc.c0
  have hc1 := hc.c1
  rw [hkd] at hc0
  have hxx := hc.hx
  obtain ⟨h1, h2⟩ := pre_take hpre (be_length _ _) (by decide)
  have k0 : Kp [] w (w.alloc (.cells cs 52)) := (Kp.refl [] w).alloc _
  have b0 : Blk (w.alloc (.cells cs 52)) w.heap.size 52 cs := Blk.new _ _ _
  have ht := r_signed p v a bs h2 _ (h.kp' k0)
  rw [h1, num_be] at ht
  have hx2 : q.x % 256 ^ 8 = q.x := Nat.mod_eq_of_lt hxx
  rw [hx2] at ht
  clear h1 hx2 hpre hc hkd
  generalize q.x = x at *
  have Ht := Lib.hid ht
  have hpl := h.blk.lt
  have HC := Lib.hid hc1
  clear ht
  have _ := hxx
  go_enter Try.func27, Try.ntmps27
  go_wp2_with (first
    | (go_at_call 52; refine Ht.out.mono ?_; rintro e w1 ⟨rfl, k1, r1⟩; have c1 := ((b0.kp k1 (by simp; omega)).cell 1).trans HC.out)
    | (go_at_call 17; refine (num_any _ _).mono ?_; rintro e w' ⟨rfl, rfl⟩))
  go_ret
  exact ⟨rfl, (k0.more (by simp)).trans k1 (fun g hg => .inl hg), r1⟩
end Go.Proofs.Ytdcmncmpoinlaaa
