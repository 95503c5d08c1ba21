/- WireReads: Raw, List. -/
import Derived.Test.YtdcmncmpoinlaaaWireBA
namespace Go.Proofs.Ytdcmncmpoinlaaa
open Go.RowKit

theorem eg_raw_in : ∀ args w, (callFunc 68 args).run Try.prog w = .ok (.enter 68 args) w := fun _ _ => by kernel_rfl
set_option maxRecDepth 100000 in
set_option maxHeartbeats 800000 in
theorem raw_in (g : Nat) (x0 x : Value) (k : Nat) (bs : List UInt8) (w : World) (hx : Rd w 1 x k (bv bs)) (hk : k ≤ 140737488355328) (hg : Blk w g 36 #[x0]) :
    Calls Try.prog 68 #[x, .pointer (some ⟨g, 0, none⟩)] w fun e w' => e = .returned (.int .i64 0) ∧ ∃ v, Ow w' 5 1 v k (bv bs) ∧ Blk w' g 36 #[v] ∧ Kp [g] w w' ∧ ∀ b, v.ownBlock = some b → w.heap.size ≤ b := by
  go_enter Try.func68, Try.ntmps68
  go_wp2_with fail
  refine (clone_any x bs k w hx hk).mono ?_
  rintro e w1 ⟨v1, rfl, o1, k1, f1⟩
  have hg1 := hg.kp k1 (by simp)
  have hc1 := hg1.cell 0
  have hz1 := hg1.frozen 0
  have hl1 := hg1.lt
  simp at hc1
  obtain ⟨A1, c1, rfl, _, _⟩ := ow_form o1
  have Hg1 := Lib.hid hg1
  clear hg1
  go_wp2
  go_ret
  refine ⟨rfl, _, ow_kp o1 ((Kp.refl [g] _).setCell (.inl (by simp)) _) (fun b hb hm => ?_), by simpa using Hg1.out.set_ 0 _, (k1.more (by simp)).setCell (.inl (by simp)) _, f1⟩
  have h1 := f1 b hb
  have h2 := hg.lt
  simp at hm
  omega

set_option maxRecDepth 100000 in
set_option maxHeartbeats 800000 in
theorem r_raw (p : Nat) (v : Value) (a : Nat) (bs : List UInt8) (k : Nat) (w : World) (h : Rr w p v a bs) (hk : a + k ≤ bs.length) :
    Calls Try.prog 56 #[.pointer (some ⟨p, 0, none⟩), .int .i64 k] w fun e w' => ∃ u, e = .returned (.tuple #[u, .int .i64 0]) ∧ Ow w' 5 1 u k (bv ((bs.drop a).take k)) ∧ Kp [p] w w' ∧ Rr w' p v (a + k) bs ∧ ∀ b, u.ownBlock = some b → w.heap.size ≤ b := by
  have hp := h.blk.lt
  have hlen := h.len
  have hnext : Calls Try.prog 40 #[.pointer (some ⟨p, 0, none⟩), .int .i64 k, .func (.func 68) #[] #[.pointer (some ⟨w.heap.size, 0, none⟩)]] (w.alloc (.cells #[.slice none 0 0] 36))
      fun e w' => e = .returned (.int .i64 0) ∧ ∃ u, w'.cell? ⟨w.heap.size, 0, none⟩ = some u ∧ Ow w' 5 1 u k (bv ((bs.drop a).take k)) ∧ Kp [p] w w' ∧ Rr w' p v (a + k) bs ∧ ∀ b, u.ownBlock = some b → w.heap.size ≤ b :=
    next_ok p v a bs k hk _ _ _ (h.alloc _) _ eg_raw_in (fun A c W hkp hr hrd => by
      have hb : Blk W w.heap.size 36 #[.slice none 0 0] := (Blk.new w _ _).kp hkp (by simp; omega)
      have k1 : Kp [p] w W := ((Kp.refl [p] w).alloc _).trans hkp (fun g hg => .inl hg)
      refine (raw_in w.heap.size _ _ k _ W hrd (by omega) hb).mono ?_
      rintro e w' ⟨rfl, u, hu, hb', hkk, hf⟩
      refine ⟨rfl, u, by simpa using hb'.cell 0, hu, k1.trans hkk (fun g hg => .inr (by simp at hg; omega)), hr.kp hkk (by simp; omega) (fun g hg hm => by simp at hm; subst hm; have := h.vlt _ hg; omega), fun b hb => ?_⟩
      have := hf b hb
      have := k1.size
      omega)
  have Hn := Lib.hid hnext
  clear hnext
  generalize (bs.drop a).take k = cs at *
  go_enter Try.func56, Try.ntmps56
  go_wp2_with (first
    | (go_at_call 40; refine Hn.out.mono ?_; rintro e w' ⟨rfl, u, hc, hu, hkp, hr, hf⟩; obtain ⟨A1, c1, rfl, _, _⟩ := ow_form hu))
  go_ret2
  exact ⟨_, rfl, hu, hkp, hr, hf⟩

set_option maxRecDepth 100000 in
set_option maxHeartbeats 800000 in
theorem r_raw_end (p : Nat) (v : Value) (a : Nat) (bs : List UInt8) (k : Int) (w : World) (h : Rr w p v a bs) (hk : (bs.length : Int) - a < k) :
    Calls Try.prog 56 #[.pointer (some ⟨p, 0, none⟩), .int .i64 k] w fun e w' => e = .returned (.tuple #[.slice none 0 0, .int .i64 110]) ∧ Kp [] w w' := by
  have hn := next_end p v a bs k hk (.func (.func 68) #[] #[.pointer (some ⟨w.heap.size, 0, none⟩)]) _ (h.alloc (.cells #[.slice none 0 0] 36))
  have Hn := Lib.hid hn
  have hk0 : ¬ k < 0 := by have := h.le; omega
  clear hn
  go_enter Try.func56, Try.ntmps56
  go_wp2_with (first
    | (go_at_call 40; refine Hn.out.mono ?_; rintro e w' ⟨rfl, nq, rfl⟩; have hc : ((w.alloc (.cells #[.slice none 0 0] 36)).drewN nq).cell? ⟨w.heap.size, 0, none⟩ = some (.slice none 0 0) := by simp))
  go_ret2
  exact ⟨rfl, ((Kp.refl [] w).alloc _).drewN _⟩

set_option maxHeartbeats 800000 in
theorem r_raw_arg (p : Nat) (k : Int) (w : World) (hk : k < 0) :
    Calls Try.prog 56 #[.pointer (some ⟨p, 0, none⟩), .int .i64 k] w fun e w' => e = .returned (.tuple #[.slice none 0 0, .int .i64 2]) ∧ w = w' := by
  go_enter Try.func56, Try.ntmps56
  go_wp2
  go_ret2
  exact ⟨rfl, rfl⟩

set_option maxHeartbeats 800000 in
theorem d_raw_arg (d : Nat) (k : Int) (w : World) (hk : k < 0) :
    Calls Try.prog 57 #[.pointer (some ⟨d, 0, none⟩), .int .i64 k] w fun e w' => e = .returned (.tuple #[.slice none 0 0, .int .i64 2]) ∧ w = w' := by
  go_enter Try.func57, Try.ntmps57
  go_wp2
  go_ret2
  exact ⟨rfl, rfl⟩
set_option maxHeartbeats 800000 in
theorem d_raw_end (d : Nat) (x : Value) (a : Nat) (bs : List UInt8) (k : Int) (w : World) (h : Dr w d x a bs) (hk : (bs.length : Int) - a < k) :
    Calls Try.prog 57 #[.pointer (some ⟨d, 0, none⟩), .int .i64 k] w fun e w' => e = .returned (.tuple #[.slice none 0 0, .int .i64 110]) ∧ Kp [] w w' := by
  have hk0 : ¬ k < 0 := by have := h.le; omega
  go_enter Try.func57, Try.ntmps57
  go_wp2_with (go_at_call 26; refine (d_left d x a bs w h).mono ?_; rintro e w' ⟨rfl, nq, rfl⟩)
  go_ret2
  exact ⟨rfl, Kp.drew' nq⟩
end Go.Proofs.Ytdcmncmpoinlaaa
