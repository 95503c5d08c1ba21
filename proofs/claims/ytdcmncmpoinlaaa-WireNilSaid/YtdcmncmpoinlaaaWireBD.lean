/- WireReads: List. -/
import Derived.Test.YtdcmncmpoinlaaaWireBC
namespace Go.Proofs.Ytdcmncmpoinlaaa
open Go.RowKit

theorem r_leftn (p : Nat) (v : Value) (a : Nat) (bs : List UInt8) (m : Nat) (hm : bs.length = a + m) (w : World) (h : Rr w p v a bs) :
    Calls Try.prog 25 #[.pointer (some ⟨p, 0, none⟩)] w fun e w' => e = .returned (.int .i64 m) ∧ ∃ n, w' = w.drewN n := by
  have := r_left p v a bs w h
  rwa [show (bs.length : Int) - a = m by omega] at this

set_option maxRecDepth 100000 in
set_option maxHeartbeats 1000000 in
theorem list_in (p gm gr go : Nat) (v x x0 : Value) (a m most : Nat) (bs cs : List UInt8) (w : World) (h : Rr w p v a bs) (hm : bs.length = a + m) (hmost : most ≤ 9223372036854775807) (hcs : cs.length ≤ 8)
    (hx : Rd w 1 x cs.length (bv cs)) (hgm : Blk w gm 3 #[.int .i64 most]) (hgr : Blk w gr 34 #[.pointer (some ⟨p, 0, none⟩)]) (hgo : Blk w go 36 #[x0]) (hne : p ≠ go) (hvo : v.ownBlock ≠ some go)
    (h1 : num cs ≤ most) (h2 : num cs ≤ m) :
    Calls Try.prog 69 #[x, .pointer (some ⟨gm, 0, none⟩), .pointer (some ⟨gr, 0, none⟩), .pointer (some ⟨go, 0, none⟩)] w fun e w' =>
      e = .returned (.int .i64 0) ∧ ∃ u, Ow w' 5 1 u (num cs) (bv ((bs.drop a).take (num cs))) ∧ Blk w' go 36 #[u] ∧ Kp [p, go] w w' ∧ Rr w' p v (a + num cs) bs ∧ ∀ b, u.ownBlock = some b → w.heap.size ≤ b := by
  have hnum := number_any x cs hcs w hx
  have hlen := h.len
  have hcm := hgm.cell 0
  have hcr := hgr.cell 0
  simp at hcm hcr
  have hraw := r_raw p v a bs (num cs)
  generalize num cs = N at *
  have Hraw := Lib.hid hraw
  have Hnum := Lib.hid hnum
  have hN : ¬ (most < N) := by omega
  have hN2 : ¬ (m < N) := by omega
  clear hraw hnum
  go_enter Try.func69, Try.ntmps69
  go_wp2_with (first
    | (go_at_call 42; refine Hnum.out.mono ?_; rintro e w' ⟨rfl, rfl⟩)
    | (go_at_call 25; refine (r_leftn p v a bs m hm w h).mono ?_; rintro e w' ⟨rfl, nq, rfl⟩))
  refine (Hraw.out (w.drewN nq) (h.drewN nq) (by omega)).mono ?_
  rintro e w2 ⟨u, rfl, o2, k2, r2, f2⟩
  have hgo2 : Blk w2 go 36 #[x0] := (hgo.drewN nq).kp k2 (by simpa using Ne.symm hne)
  have hc2 := hgo2.cell 0
  have hz2 := hgo2.frozen 0
  have hl2 := hgo2.lt
  simp at hc2
  obtain ⟨A2, c2, rfl, _, _⟩ := ow_form o2
  have Hgo2 := Lib.hid hgo2
  clear hgo2
  go_wp2
  go_ret
  have hgol := hgo.lt
  refine ⟨rfl, _, ow_kp o2 ((Kp.refl [go] _).setCell (.inl (by simp)) _) (fun b hb hm => ?_), by simpa using Hgo2.out.set_ 0 _, ?_, r2.set (Ne.symm hne) hvo 0 _, f2⟩
  · have := f2 b hb
    simp at hm this
    omega
  · exact ((((Kp.refl [p, go] w).drewN nq).trans k2 (fun g hg => .inl (by simp at hg; simp [hg]))).setCell (.inl (by simp)) _)

set_option maxRecDepth 100000 in
set_option maxHeartbeats 1000000 in
theorem list_in_long (gm gr go : Nat) (x : Value) (most : Nat) (cs : List UInt8) (w : World) (hmost : most ≤ 9223372036854775807) (hcs : cs.length ≤ 8)
    (hx : Rd w 1 x cs.length (bv cs)) (hgm : Blk w gm 3 #[.int .i64 most]) (h1 : most < num cs) :
    Calls Try.prog 69 #[x, .pointer (some ⟨gm, 0, none⟩), .pointer (some ⟨gr, 0, none⟩), .pointer (some ⟨go, 0, none⟩)] w fun e w' => e = .returned (.int .i64 3) ∧ w = w' := by
  have hnum := number_any x cs hcs w hx
  have hcm := hgm.cell 0
  simp at hcm
  generalize num cs = N at *
  have Hnum := Lib.hid hnum
  clear hnum
  go_enter Try.func69, Try.ntmps69
  go_wp2_with (first
    | (go_at_call 42; refine Hnum.out.mono ?_; rintro e w' ⟨rfl, rfl⟩))
  go_ret
  exact ⟨rfl, rfl⟩

set_option maxRecDepth 100000 in
set_option maxHeartbeats 1000000 in
theorem list_in_end (p gm gr go : Nat) (v x : Value) (a m most : Nat) (bs cs : List UInt8) (w : World) (h : Rr w p v a bs) (hm : bs.length = a + m) (hmost : most ≤ 9223372036854775807) (hcs : cs.length ≤ 8)
    (hx : Rd w 1 x cs.length (bv cs)) (hgm : Blk w gm 3 #[.int .i64 most]) (hgr : Blk w gr 34 #[.pointer (some ⟨p, 0, none⟩)])
    (h1 : num cs ≤ most) (h2 : m < num cs) :
    Calls Try.prog 69 #[x, .pointer (some ⟨gm, 0, none⟩), .pointer (some ⟨gr, 0, none⟩), .pointer (some ⟨go, 0, none⟩)] w fun e w' => e = .returned (.int .i64 110) ∧ ∃ n, w' = w.drewN n := by
  have hnum := number_any x cs hcs w hx
  have hlen := h.len
  have hcm := hgm.cell 0
  have hcr := hgr.cell 0
  simp at hcm hcr
  generalize num cs = N at *
  have Hnum := Lib.hid hnum
  have hN : ¬ (most < N) := by omega
  clear hnum
  go_enter Try.func69, Try.ntmps69
  go_wp2_with (first
    | (go_at_call 42; refine Hnum.out.mono ?_; rintro e w' ⟨rfl, rfl⟩)
    | (go_at_call 25; refine (r_leftn p v a bs m hm w h).mono ?_; rintro e w' ⟨rfl, nq, rfl⟩))
  go_ret
  exact ⟨rfl, nq, rfl⟩
end Go.Proofs.Ytdcmncmpoinlaaa
