/- Several texts in one: RecG, RecH, InvL, RecI, RecJ, RecN, RecO, RecP, RecQ, Keep, RecR, Make, RecS, Post. -/
import Derived.IntWalk
import Derived.Test.YtnchjfhmalbjoaaRows
import Derived.ProofKit
import Derived.OpenShut
import Derived.Test.YtnchjfhmalbjoaaP2
/- record.read. -/
namespace Go.Proofs.Ytnchjfhmalbjoaa
open Go.RowKit
/-- What a reading of a frame leaves. -/
def ReadPost (b : List UInt8) (w : World) (e : Ending) (w' : World) : Prop :=
  ∃ u, e = .returned (.tuple #[.agg #[.int .u8 (rK b : Int), u, .int .i64 (rS b : Int)], .int .i64 (rE b : Int)]) ∧ Ow w' 5 1 u (rB b).length (bv (rB b)) ∧ Kp [] w w' ∧ ∀ g, u.ownBlock = some g → w.heap.size ≤ g
theorem read_no {b : List UInt8} {k : Nat} {w w' : World} (hk : rE b = k) (h0 : k ≠ 0) (h : Kp [] w w') : ReadPost b w (.returned (.tuple #[.agg #[.int .u8 0, .slice none 0 0, .int .i64 0], .int .i64 (k : Int)])) w' := by
  obtain ⟨h1, h2, h3⟩ := rKBS_no hk h0
  exact ⟨.slice none 0 0, by rw [h1, h3, hk]; rfl, by rw [h2]; exact World.ownsRow_nil _ _ _ _, h, by simp [Value.ownBlock]⟩
theorem Try.infoFramed : (Try.prog.info? 71).map (·.size) = some 3 := by kernel_rfl
abbrev z3 : Array Value := #[.int .u8 0, .slice none 0 0, .int .i64 0]
/-- The two boxes, and a reader. -/
structure RdS (w w' : World) (p : Nat) (v : Value) (a : Nat) (bs : List UInt8) : Prop where
  b0 : Blk w' w.heap.size 71 z3
  b1 : Blk w' (w.heap.size + 1) 71 z3
  rr : Rr w' p v a bs
  pb : w.heap.size + 1 < p
  k : Kp [] w w'
theorem RdS.start {w w' : World} {p : Nat} {v : Value} {bs : List UInt8} (hp : ((w.alloc (.cells z3 71)).alloc (.cells z3 71)).heap.size ≤ p) (hr : Rr w' p v 0 bs) (k : Kp [] ((w.alloc (.cells z3 71)).alloc (.cells z3 71)) w') : RdS w w' p v 0 bs := by
  have h0 := (Blk.new w 71 z3).alloc (.cells z3 71)
  have h1 := Blk.new (w.alloc (.cells z3 71)) 71 z3
  rw [World.size_alloc] at h1
  simp at hp
  exact ⟨h0.kp k (by simp), h1.kp k (by simp), hr, by omega, (((Kp.refl [] w).alloc _).alloc _).trans k (by simp)⟩
theorem RdS.step {w w' w2 : World} {p : Nat} {v : Value} {a a2 : Nat} {bs : List UInt8} (h : RdS w w' p v a bs) (hk : Kp [p] w' w2) (hr : Rr w2 p v a2 bs) : RdS w w2 p v a2 bs :=
  ⟨h.b0.kp hk (by have := h.pb; simp; omega), h.b1.kp hk (by have := h.pb; simp; omega), hr, h.pb, h.k.trans hk (fun g hg => by have := h.pb; simp at hg; right; omega)⟩
theorem RdS.kp {w w' w2 : World} {p : Nat} {v : Value} {a : Nat} {bs : List UInt8} (h : RdS w w' p v a bs) (hk : Kp [] w' w2) : RdS w w2 p v a bs :=
  ⟨h.b0.kp hk (by simp), h.b1.kp hk (by simp), h.rr.kp' hk, h.pb, h.k.trans hk (by simp)⟩

set_option maxRecDepth 100000 in
set_option maxHeartbeats 1000000 in
theorem read_1 (A : Option Addr) (c : Nat) (b : List UInt8) (w : World) (hx : Rd w 1 (.slice A b.length c) b.length (bv b)) (hn : b.length + 64 ≤ 140737488355328) (h1 : b.length < 1) :
    Calls Try.prog 37 #[.slice A b.length c] w (ReadPost b w) := by
  have hnc : b.length ≤ c := by obtain ⟨_, _, _, hv, h1, _⟩ := hx; cases hv; exact h1
  have hE := rE_1 h1
  obtain ⟨A1, c1, run1, rd1, _⟩ := cut_hi A b.length c b.length (b.length : Int) rfl (by omega) hnc
  have k0 : Kp [] w ((w.alloc (.cells z3 71)).alloc (.cells z3 71)) := ((Kp.refl [] w).alloc _).alloc _
  have r1 := rd1 _ b (rd_old hx k0)
  rw [List.drop_zero] at r1
  have hl1 : (b.take b.length).length = b.length := by rw [List.length_take]; omega
  have HL : Hid ((b.take b.length).length ≤ 140737488355328) := Lib.hid (by rw [hl1]; omega)
  have r1' : Rd ((w.alloc (.cells z3 71)).alloc (.cells z3 71)) 1 (.slice A1 b.length c1) (b.take b.length).length (bv (b.take b.length)) := by rw [hl1]; exact r1
  have R1 := Lib.hid r1'
  have Hl1 := Lib.hid hl1
  have HE := Lib.hid hE
  clear rd1 r1 r1' k0 hl1 hE
  go_enter Try.func37, Try.ntmps37
  go_wp2_with (first
    | (go_at_call 46; ((with_reducible refine (new_reader _ (b.take b.length) _ R1.out HL.out).mono ?_); rintro e w1 ⟨p, v, rfl, hp, hr, hv, k1⟩; have S1 := Lib.hid (RdS.start hp hr k1); clear hp hr hv k1))
    | (go_at_call 47; ((with_reducible refine (take_u8_end _ _ _ _ _ S1.out.rr (by rw [Hl1.out]; omega)).mono ?_); rintro e w2 ⟨rfl, k2⟩; have S2 := Lib.hid (S1.out.kp k2); clear k2))
    | (refine wpList_store_agg rfl 71 (.tmp 2) (.tmp 24) rfl w.heap.size 0 rfl z3 rfl 71 z3 S2.out.b0 (by rw [Try.infoFramed]; rfl) (by decide) (by decide) ?_; intro w9 c9 k9; have C9 := Lib.hid (show Blk w9 w.heap.size 71 z3 from c9); have K9 := Lib.hid (S2.out.k.trans k9 (by simp)); clear c9 k9))
  exact bodyPost_ret (v := .tuple #[.agg z3, .int .i64 (170 : Nat)]) (results_cell_tmp (u := 3) (by rfl) rfl C9.out Try.underlying71 rfl (by rw [Try.infoFramed]; rfl)) rfl (read_no HE.out (by decide) K9.out)

set_option maxRecDepth 100000 in
set_option maxHeartbeats 1000000 in
theorem read_2a (A : Option Addr) (c : Nat) (b : List UInt8) (w : World) (hx : Rd w 1 (.slice A b.length c) b.length (bv b)) (hn : b.length + 64 ≤ 140737488355328) (h1 : ¬ b.length < 1) (h5 : 5 < b.length) (h2 : num (b.take 1) = 0) :
    Calls Try.prog 37 #[.slice A b.length c] w (ReadPost b w) := by
  have hnc : b.length ≤ c := by obtain ⟨_, _, _, hv, h1, _⟩ := hx; cases hv; exact h1
  have hE := rE_2 h1 h2
  obtain ⟨A1, c1, run1, rd1, _⟩ := cut_hi A b.length c 5 (5 : Int) rfl (by omega) hnc
  have k0 : Kp [] w ((w.alloc (.cells z3 71)).alloc (.cells z3 71)) := ((Kp.refl [] w).alloc _).alloc _
  have r1 := rd1 _ b (rd_old hx k0)
  rw [List.drop_zero] at r1
  have hl1 : (b.take 5).length = 5 := by rw [List.length_take]; omega
  have HL : Hid ((b.take 5).length ≤ 140737488355328) := Lib.hid (by rw [hl1]; omega)
  have r1' : Rd ((w.alloc (.cells z3 71)).alloc (.cells z3 71)) 1 (.slice A1 5 c1) (b.take 5).length (bv (b.take 5)) := by rw [hl1]; exact r1
  have R1 := Lib.hid r1'
  have Hl1 := Lib.hid hl1
  have HE := Lib.hid hE
  have HT1 : Hid (∀ W p v, Rr W p v 0 (b.take 5) → Calls Try.prog 47 #[.pointer (some ⟨p, 0, none⟩)] W fun e w' => e = .returned (.tuple #[.int .u8 (num (b.take 1)), .int .i64 0]) ∧ Kp [p] W w' ∧ Rr w' p v 1 (b.take 5)) := Lib.hid (fun W p v h => by
    have := take_u8 p v 0 _ W h (by rw [hl1]; omega)
    rwa [List.drop_zero, List.take_take, Nat.min_eq_left (by omega), Nat.zero_add] at this)
  rw [h2] at HT1
  clear h2
  clear rd1 r1 r1' k0 hl1 hE
  go_enter Try.func37, Try.ntmps37
  go_wp2_with (first
    | (go_at_call 46; ((with_reducible refine (new_reader _ (b.take 5) _ R1.out HL.out).mono ?_); rintro e w1 ⟨p, v, rfl, hp, hr, hv, k1⟩; have S1 := Lib.hid (RdS.start hp hr k1); clear hp hr hv k1))
    | (go_at_call 47; ((with_reducible refine (HT1.out _ _ _ S1.out.rr).mono ?_); rintro e w2 ⟨rfl, k2, r2⟩; have S2 := Lib.hid (S1.out.step k2 r2); clear k2 r2))
    | (refine wpList_store_agg rfl 71 (.tmp 2) (.tmp 28) rfl w.heap.size 0 rfl z3 rfl 71 z3 S2.out.b0 (by rw [Try.infoFramed]; rfl) (by decide) (by decide) ?_; intro w9 c9 k9; have C9 := Lib.hid (show Blk w9 w.heap.size 71 z3 from c9); have K9 := Lib.hid (S2.out.k.trans k9 (by simp)); clear c9 k9))
  exact bodyPost_ret (v := .tuple #[.agg z3, .int .i64 (171 : Nat)]) (results_cell_tmp (u := 3) (by rfl) rfl C9.out Try.underlying71 rfl (by rw [Try.infoFramed]; rfl)) rfl (read_no HE.out (by decide) K9.out)

set_option maxRecDepth 100000 in
set_option maxHeartbeats 1000000 in
theorem read_2b (A : Option Addr) (c : Nat) (b : List UInt8) (w : World) (hx : Rd w 1 (.slice A b.length c) b.length (bv b)) (hn : b.length + 64 ≤ 140737488355328) (h1 : ¬ b.length < 1) (h5 : b.length ≤ 5) (h2 : num (b.take 1) = 0) :
    Calls Try.prog 37 #[.slice A b.length c] w (ReadPost b w) := by
  have hnc : b.length ≤ c := by obtain ⟨_, _, _, hv, h1, _⟩ := hx; cases hv; exact h1
  have hE := rE_2 h1 h2
  obtain ⟨A1, c1, run1, rd1, _⟩ := cut_hi A b.length c b.length (b.length : Int) rfl (by omega) hnc
  have k0 : Kp [] w ((w.alloc (.cells z3 71)).alloc (.cells z3 71)) := ((Kp.refl [] w).alloc _).alloc _
  have r1 := rd1 _ b (rd_old hx k0)
  rw [List.drop_zero] at r1
  have hl1 : (b.take b.length).length = b.length := by rw [List.length_take]; omega
  have HL : Hid ((b.take b.length).length ≤ 140737488355328) := Lib.hid (by rw [hl1]; omega)
  have r1' : Rd ((w.alloc (.cells z3 71)).alloc (.cells z3 71)) 1 (.slice A1 b.length c1) (b.take b.length).length (bv (b.take b.length)) := by rw [hl1]; exact r1
  have R1 := Lib.hid r1'
  have Hl1 := Lib.hid hl1
  have HE := Lib.hid hE
  have HT1 : Hid (∀ W p v, Rr W p v 0 (b.take b.length) → Calls Try.prog 47 #[.pointer (some ⟨p, 0, none⟩)] W fun e w' => e = .returned (.tuple #[.int .u8 (num (b.take 1)), .int .i64 0]) ∧ Kp [p] W w' ∧ Rr w' p v 1 (b.take b.length)) := Lib.hid (fun W p v h => by
    have := take_u8 p v 0 _ W h (by rw [hl1]; omega)
    rwa [List.drop_zero, List.take_take, Nat.min_eq_left (by omega), Nat.zero_add] at this)
  rw [h2] at HT1
  clear h2
  clear rd1 r1 r1' k0 hl1 hE
  go_enter Try.func37, Try.ntmps37
  go_wp2_with (first
    | (go_at_call 46; ((with_reducible refine (new_reader _ (b.take b.length) _ R1.out HL.out).mono ?_); rintro e w1 ⟨p, v, rfl, hp, hr, hv, k1⟩; have S1 := Lib.hid (RdS.start hp hr k1); clear hp hr hv k1))
    | (go_at_call 47; ((with_reducible refine (HT1.out _ _ _ S1.out.rr).mono ?_); rintro e w2 ⟨rfl, k2, r2⟩; have S2 := Lib.hid (S1.out.step k2 r2); clear k2 r2))
    | (refine wpList_store_agg rfl 71 (.tmp 2) (.tmp 28) rfl w.heap.size 0 rfl z3 rfl 71 z3 S2.out.b0 (by rw [Try.infoFramed]; rfl) (by decide) (by decide) ?_; intro w9 c9 k9; have C9 := Lib.hid (show Blk w9 w.heap.size 71 z3 from c9); have K9 := Lib.hid (S2.out.k.trans k9 (by simp)); clear c9 k9))
  exact bodyPost_ret (v := .tuple #[.agg z3, .int .i64 (171 : Nat)]) (results_cell_tmp (u := 3) (by rfl) rfl C9.out Try.underlying71 rfl (by rw [Try.infoFramed]; rfl)) rfl (read_no HE.out (by decide) K9.out)

set_option maxRecDepth 100000 in
set_option maxHeartbeats 1000000 in
theorem read_3 (A : Option Addr) (c : Nat) (b : List UInt8) (w : World) (hx : Rd w 1 (.slice A b.length c) b.length (bv b)) (hn : b.length + 64 ≤ 140737488355328) (h1 : ¬ b.length < 1) (h2 : ¬ num (b.take 1) = 0) (h3 : b.length < 5) :
    Calls Try.prog 37 #[.slice A b.length c] w (ReadPost b w) := by
  have hnc : b.length ≤ c := by obtain ⟨_, _, _, hv, h1, _⟩ := hx; cases hv; exact h1
  have hE := rE_3 h1 h2 h3
  obtain ⟨A1, c1, run1, rd1, _⟩ := cut_hi A b.length c b.length (b.length : Int) rfl (by omega) hnc
  have k0 : Kp [] w ((w.alloc (.cells z3 71)).alloc (.cells z3 71)) := ((Kp.refl [] w).alloc _).alloc _
  have r1 := rd1 _ b (rd_old hx k0)
  rw [List.drop_zero] at r1
  have hl1 : (b.take b.length).length = b.length := by rw [List.length_take]; omega
  have HL : Hid ((b.take b.length).length ≤ 140737488355328) := Lib.hid (by rw [hl1]; omega)
  have r1' : Rd ((w.alloc (.cells z3 71)).alloc (.cells z3 71)) 1 (.slice A1 b.length c1) (b.take b.length).length (bv (b.take b.length)) := by rw [hl1]; exact r1
  have R1 := Lib.hid r1'
  have Hl1 := Lib.hid hl1
  have HE := Lib.hid hE
  have HT1 : Hid (∀ W p v, Rr W p v 0 (b.take b.length) → Calls Try.prog 47 #[.pointer (some ⟨p, 0, none⟩)] W fun e w' => e = .returned (.tuple #[.int .u8 (num (b.take 1)), .int .i64 0]) ∧ Kp [p] W w' ∧ Rr w' p v 1 (b.take b.length)) := Lib.hid (fun W p v h => by
    have := take_u8 p v 0 _ W h (by rw [hl1]; omega)
    rwa [List.drop_zero, List.take_take, Nat.min_eq_left (by omega), Nat.zero_add] at this)
  have hkl := rK0_lt b
  generalize num (b.take 1) = kd at *
  clear rd1 r1 r1' k0 hl1 hE
  go_enter Try.func37, Try.ntmps37
  go_wp2_with (first
    | (go_at_call 46; ((with_reducible refine (new_reader _ (b.take b.length) _ R1.out HL.out).mono ?_); rintro e w1 ⟨p, v, rfl, hp, hr, hv, k1⟩; have S1 := Lib.hid (RdS.start hp hr k1); clear hp hr hv k1))
    | (go_at_call 47; ((with_reducible refine (HT1.out _ _ _ S1.out.rr).mono ?_); rintro e w2 ⟨rfl, k2, r2⟩; have S2 := Lib.hid (S1.out.step k2 r2); clear k2 r2))
    | (go_at_call 48; ((with_reducible refine (take_u32_end _ _ _ _ _ S2.out.rr (by rw [Hl1.out]; omega)).mono ?_); rintro e w3 ⟨rfl, k3⟩; have S3 := Lib.hid (S2.out.kp k3); clear k3))
    | (refine wpList_store_agg rfl 71 (.tmp 2) (.tmp 37) rfl w.heap.size 0 rfl z3 rfl 71 z3 S3.out.b0 (by rw [Try.infoFramed]; rfl) (by decide) (by decide) ?_; intro w9 c9 k9; have C9 := Lib.hid (show Blk w9 w.heap.size 71 z3 from c9); have K9 := Lib.hid (S3.out.k.trans k9 (by simp)); clear c9 k9))
  exact bodyPost_ret (v := .tuple #[.agg z3, .int .i64 (170 : Nat)]) (results_cell_tmp (u := 3) (by rfl) rfl C9.out Try.underlying71 rfl (by rw [Try.infoFramed]; rfl)) rfl (read_no HE.out (by decide) K9.out)

set_option maxRecDepth 100000 in
set_option maxHeartbeats 1000000 in
theorem read_4a (A : Option Addr) (c : Nat) (b : List UInt8) (w : World) (hx : Rd w 1 (.slice A b.length c) b.length (bv b)) (hn : b.length + 64 ≤ 140737488355328) (h2 : ¬ num (b.take 1) = 0) (h5 : 5 < b.length) (h4 : 8388608 < rn b) :
    Calls Try.prog 37 #[.slice A b.length c] w (ReadPost b w) := by
  have hnc : b.length ≤ c := by obtain ⟨_, _, _, hv, h1, _⟩ := hx; cases hv; exact h1
  have hE := rE_4 h2 (by omega) h4
  obtain ⟨A1, c1, run1, rd1, _⟩ := cut_hi A b.length c 5 (5 : Int) rfl (by omega) hnc
  have k0 : Kp [] w ((w.alloc (.cells z3 71)).alloc (.cells z3 71)) := ((Kp.refl [] w).alloc _).alloc _
  have r1 := rd1 _ b (rd_old hx k0)
  rw [List.drop_zero] at r1
  have hl1 : (b.take 5).length = 5 := by rw [List.length_take]; omega
  have HL : Hid ((b.take 5).length ≤ 140737488355328) := Lib.hid (by rw [hl1]; omega)
  have r1' : Rd ((w.alloc (.cells z3 71)).alloc (.cells z3 71)) 1 (.slice A1 5 c1) (b.take 5).length (bv (b.take 5)) := by rw [hl1]; exact r1
  have R1 := Lib.hid r1'
  have Hl1 := Lib.hid hl1
  have HE := Lib.hid hE
  have HT1 : Hid (∀ W p v, Rr W p v 0 (b.take 5) → Calls Try.prog 47 #[.pointer (some ⟨p, 0, none⟩)] W fun e w' => e = .returned (.tuple #[.int .u8 (num (b.take 1)), .int .i64 0]) ∧ Kp [p] W w' ∧ Rr w' p v 1 (b.take 5)) := Lib.hid (fun W p v h => by
    have := take_u8 p v 0 _ W h (by rw [hl1]; omega)
    rwa [List.drop_zero, List.take_take, Nat.min_eq_left (by omega), Nat.zero_add] at this)
  have HT2 : Hid (∀ W p v, Rr W p v 1 (b.take 5) → Calls Try.prog 48 #[.pointer (some ⟨p, 0, none⟩)] W fun e w' => e = .returned (.tuple #[.int .u32 (rn b), .int .i64 0]) ∧ Kp [p] W w' ∧ Rr w' p v 5 (b.take 5)) := Lib.hid (fun W p v h => by
    have := take_u32 p v 1 _ W h (by rw [hl1]; omega)
    rwa [List.drop_take, List.take_take, Nat.min_eq_left (by omega)] at this)
  have hkl := rK0_lt b
  generalize num (b.take 1) = kd at *
  have hrl := rn_lt b
  generalize rn b = n at *
  clear rd1 r1 r1' k0 hl1 hE
  go_enter Try.func37, Try.ntmps37
  go_wp2_with (first
    | (go_at_call 46; ((with_reducible refine (new_reader _ (b.take 5) _ R1.out HL.out).mono ?_); rintro e w1 ⟨p, v, rfl, hp, hr, hv, k1⟩; have S1 := Lib.hid (RdS.start hp hr k1); clear hp hr hv k1))
    | (go_at_call 47; ((with_reducible refine (HT1.out _ _ _ S1.out.rr).mono ?_); rintro e w2 ⟨rfl, k2, r2⟩; have S2 := Lib.hid (S1.out.step k2 r2); clear k2 r2))
    | (go_at_call 48; ((with_reducible refine (HT2.out _ _ _ S2.out.rr).mono ?_); rintro e w3 ⟨rfl, k3, r3⟩; have S3 := Lib.hid (S2.out.step k3 r3); clear k3 r3))
    | (refine wpList_store_agg rfl 71 (.tmp 2) (.tmp 41) rfl w.heap.size 0 rfl z3 rfl 71 z3 S3.out.b0 (by rw [Try.infoFramed]; rfl) (by decide) (by decide) ?_; intro w9 c9 k9; have C9 := Lib.hid (show Blk w9 w.heap.size 71 z3 from c9); have K9 := Lib.hid (S3.out.k.trans k9 (by simp)); clear c9 k9))
  exact bodyPost_ret (v := .tuple #[.agg z3, .int .i64 (3 : Nat)]) (results_cell_tmp (u := 3) (by rfl) rfl C9.out Try.underlying71 rfl (by rw [Try.infoFramed]; rfl)) rfl (read_no HE.out (by decide) K9.out)

set_option maxRecDepth 100000 in
set_option maxHeartbeats 1000000 in
theorem read_5a (A : Option Addr) (c : Nat) (b : List UInt8) (w : World) (hx : Rd w 1 (.slice A b.length c) b.length (bv b)) (hn : b.length + 64 ≤ 140737488355328) (h2 : ¬ num (b.take 1) = 0) (h5 : 5 < b.length) (h4 : ¬ 8388608 < rn b) (h6 : b.length < rn b + 9) :
    Calls Try.prog 37 #[.slice A b.length c] w (ReadPost b w) := by
  have hnc : b.length ≤ c := by obtain ⟨_, _, _, hv, h1, _⟩ := hx; cases hv; exact h1
  have hE := rE_5 h2 (by omega) h4 h6
  obtain ⟨A1, c1, run1, rd1, _⟩ := cut_hi A b.length c 5 (5 : Int) rfl (by omega) hnc
  have k0 : Kp [] w ((w.alloc (.cells z3 71)).alloc (.cells z3 71)) := ((Kp.refl [] w).alloc _).alloc _
  have r1 := rd1 _ b (rd_old hx k0)
  rw [List.drop_zero] at r1
  have hl1 : (b.take 5).length = 5 := by rw [List.length_take]; omega
  have HL : Hid ((b.take 5).length ≤ 140737488355328) := Lib.hid (by rw [hl1]; omega)
  have r1' : Rd ((w.alloc (.cells z3 71)).alloc (.cells z3 71)) 1 (.slice A1 5 c1) (b.take 5).length (bv (b.take 5)) := by rw [hl1]; exact r1
  have R1 := Lib.hid r1'
  have Hl1 := Lib.hid hl1
  have HE := Lib.hid hE
  have HT1 : Hid (∀ W p v, Rr W p v 0 (b.take 5) → Calls Try.prog 47 #[.pointer (some ⟨p, 0, none⟩)] W fun e w' => e = .returned (.tuple #[.int .u8 (num (b.take 1)), .int .i64 0]) ∧ Kp [p] W w' ∧ Rr w' p v 1 (b.take 5)) := Lib.hid (fun W p v h => by
    have := take_u8 p v 0 _ W h (by rw [hl1]; omega)
    rwa [List.drop_zero, List.take_take, Nat.min_eq_left (by omega), Nat.zero_add] at this)
  have HT2 : Hid (∀ W p v, Rr W p v 1 (b.take 5) → Calls Try.prog 48 #[.pointer (some ⟨p, 0, none⟩)] W fun e w' => e = .returned (.tuple #[.int .u32 (rn b), .int .i64 0]) ∧ Kp [p] W w' ∧ Rr w' p v 5 (b.take 5)) := Lib.hid (fun W p v h => by
    have := take_u32 p v 1 _ W h (by rw [hl1]; omega)
    rwa [List.drop_take, List.take_take, Nat.min_eq_left (by omega)] at this)
  have hkl := rK0_lt b
  generalize num (b.take 1) = kd at *
  have hrl := rn_lt b
  generalize rn b = n at *
  clear rd1 r1 r1' k0 hl1 hE
  go_enter Try.func37, Try.ntmps37
  go_wp2_with (first
    | (go_at_call 46; ((with_reducible refine (new_reader _ (b.take 5) _ R1.out HL.out).mono ?_); rintro e w1 ⟨p, v, rfl, hp, hr, hv, k1⟩; have S1 := Lib.hid (RdS.start hp hr k1); clear hp hr hv k1))
    | (go_at_call 47; ((with_reducible refine (HT1.out _ _ _ S1.out.rr).mono ?_); rintro e w2 ⟨rfl, k2, r2⟩; have S2 := Lib.hid (S1.out.step k2 r2); clear k2 r2))
    | (go_at_call 48; ((with_reducible refine (HT2.out _ _ _ S2.out.rr).mono ?_); rintro e w3 ⟨rfl, k3, r3⟩; have S3 := Lib.hid (S2.out.step k3 r3); clear k3 r3))
    | (refine wpList_store_agg rfl 71 (.tmp 2) (.tmp 51) rfl w.heap.size 0 rfl z3 rfl 71 z3 S3.out.b0 (by rw [Try.infoFramed]; rfl) (by decide) (by decide) ?_; intro w9 c9 k9; have C9 := Lib.hid (show Blk w9 w.heap.size 71 z3 from c9); have K9 := Lib.hid (S3.out.k.trans k9 (by simp)); clear c9 k9))
  exact bodyPost_ret (v := .tuple #[.agg z3, .int .i64 (170 : Nat)]) (results_cell_tmp (u := 3) (by rfl) rfl C9.out Try.underlying71 rfl (by rw [Try.infoFramed]; rfl)) rfl (read_no HE.out (by decide) K9.out)

set_option maxRecDepth 100000 in
set_option maxHeartbeats 1000000 in
theorem read_4b (A : Option Addr) (c : Nat) (b : List UInt8) (w : World) (hx : Rd w 1 (.slice A b.length c) b.length (bv b)) (hn : b.length + 64 ≤ 140737488355328) (h2 : ¬ num (b.take 1) = 0) (h5 : b.length ≤ 5) (h7 : 5 ≤ b.length) (h4 : 8388608 < rn b) :
    Calls Try.prog 37 #[.slice A b.length c] w (ReadPost b w) := by
  have hnc : b.length ≤ c := by obtain ⟨_, _, _, hv, h1, _⟩ := hx; cases hv; exact h1
  have hE := rE_4 h2 (by omega) h4
  obtain ⟨A1, c1, run1, rd1, _⟩ := cut_hi A b.length c b.length (b.length : Int) rfl (by omega) hnc
  have k0 : Kp [] w ((w.alloc (.cells z3 71)).alloc (.cells z3 71)) := ((Kp.refl [] w).alloc _).alloc _
  have r1 := rd1 _ b (rd_old hx k0)
  rw [List.drop_zero] at r1
  have hl1 : (b.take b.length).length = b.length := by rw [List.length_take]; omega
  have HL : Hid ((b.take b.length).length ≤ 140737488355328) := Lib.hid (by rw [hl1]; omega)
  have r1' : Rd ((w.alloc (.cells z3 71)).alloc (.cells z3 71)) 1 (.slice A1 b.length c1) (b.take b.length).length (bv (b.take b.length)) := by rw [hl1]; exact r1
  have R1 := Lib.hid r1'
  have Hl1 := Lib.hid hl1
  have HE := Lib.hid hE
  have HT1 : Hid (∀ W p v, Rr W p v 0 (b.take b.length) → Calls Try.prog 47 #[.pointer (some ⟨p, 0, none⟩)] W fun e w' => e = .returned (.tuple #[.int .u8 (num (b.take 1)), .int .i64 0]) ∧ Kp [p] W w' ∧ Rr w' p v 1 (b.take b.length)) := Lib.hid (fun W p v h => by
    have := take_u8 p v 0 _ W h (by rw [hl1]; omega)
    rwa [List.drop_zero, List.take_take, Nat.min_eq_left (by omega), Nat.zero_add] at this)
  have HT2 : Hid (∀ W p v, Rr W p v 1 (b.take b.length) → Calls Try.prog 48 #[.pointer (some ⟨p, 0, none⟩)] W fun e w' => e = .returned (.tuple #[.int .u32 (rn b), .int .i64 0]) ∧ Kp [p] W w' ∧ Rr w' p v 5 (b.take b.length)) := Lib.hid (fun W p v h => by
    have := take_u32 p v 1 _ W h (by rw [hl1]; omega)
    rwa [List.drop_take, List.take_take, Nat.min_eq_left (by omega)] at this)
  have hkl := rK0_lt b
  generalize num (b.take 1) = kd at *
  have hrl := rn_lt b
  generalize rn b = n at *
  clear rd1 r1 r1' k0 hl1 hE
  go_enter Try.func37, Try.ntmps37
  go_wp2_with (first
    | (go_at_call 46; ((with_reducible refine (new_reader _ (b.take b.length) _ R1.out HL.out).mono ?_); rintro e w1 ⟨p, v, rfl, hp, hr, hv, k1⟩; have S1 := Lib.hid (RdS.start hp hr k1); clear hp hr hv k1))
    | (go_at_call 47; ((with_reducible refine (HT1.out _ _ _ S1.out.rr).mono ?_); rintro e w2 ⟨rfl, k2, r2⟩; have S2 := Lib.hid (S1.out.step k2 r2); clear k2 r2))
    | (go_at_call 48; ((with_reducible refine (HT2.out _ _ _ S2.out.rr).mono ?_); rintro e w3 ⟨rfl, k3, r3⟩; have S3 := Lib.hid (S2.out.step k3 r3); clear k3 r3))
    | (refine wpList_store_agg rfl 71 (.tmp 2) (.tmp 41) rfl w.heap.size 0 rfl z3 rfl 71 z3 S3.out.b0 (by rw [Try.infoFramed]; rfl) (by decide) (by decide) ?_; intro w9 c9 k9; have C9 := Lib.hid (show Blk w9 w.heap.size 71 z3 from c9); have K9 := Lib.hid (S3.out.k.trans k9 (by simp)); clear c9 k9))
  exact bodyPost_ret (v := .tuple #[.agg z3, .int .i64 (3 : Nat)]) (results_cell_tmp (u := 3) (by rfl) rfl C9.out Try.underlying71 rfl (by rw [Try.infoFramed]; rfl)) rfl (read_no HE.out (by decide) K9.out)

set_option maxRecDepth 100000 in
set_option maxHeartbeats 1000000 in
theorem read_5b (A : Option Addr) (c : Nat) (b : List UInt8) (w : World) (hx : Rd w 1 (.slice A b.length c) b.length (bv b)) (hn : b.length + 64 ≤ 140737488355328) (h2 : ¬ num (b.take 1) = 0) (h5 : b.length ≤ 5) (h7 : 5 ≤ b.length) (h4 : ¬ 8388608 < rn b) (h6 : b.length < rn b + 9) :
    Calls Try.prog 37 #[.slice A b.length c] w (ReadPost b w) := by
  have hnc : b.length ≤ c := by obtain ⟨_, _, _, hv, h1, _⟩ := hx; cases hv; exact h1
  have hE := rE_5 h2 (by omega) h4 h6
  obtain ⟨A1, c1, run1, rd1, _⟩ := cut_hi A b.length c b.length (b.length : Int) rfl (by omega) hnc
  have k0 : Kp [] w ((w.alloc (.cells z3 71)).alloc (.cells z3 71)) := ((Kp.refl [] w).alloc _).alloc _
  have r1 := rd1 _ b (rd_old hx k0)
  rw [List.drop_zero] at r1
  have hl1 : (b.take b.length).length = b.length := by rw [List.length_take]; omega
  have HL : Hid ((b.take b.length).length ≤ 140737488355328) := Lib.hid (by rw [hl1]; omega)
  have r1' : Rd ((w.alloc (.cells z3 71)).alloc (.cells z3 71)) 1 (.slice A1 b.length c1) (b.take b.length).length (bv (b.take b.length)) := by rw [hl1]; exact r1
  have R1 := Lib.hid r1'
  have Hl1 := Lib.hid hl1
  have HE := Lib.hid hE
  have HT1 : Hid (∀ W p v, Rr W p v 0 (b.take b.length) → Calls Try.prog 47 #[.pointer (some ⟨p, 0, none⟩)] W fun e w' => e = .returned (.tuple #[.int .u8 (num (b.take 1)), .int .i64 0]) ∧ Kp [p] W w' ∧ Rr w' p v 1 (b.take b.length)) := Lib.hid (fun W p v h => by
    have := take_u8 p v 0 _ W h (by rw [hl1]; omega)
    rwa [List.drop_zero, List.take_take, Nat.min_eq_left (by omega), Nat.zero_add] at this)
  have HT2 : Hid (∀ W p v, Rr W p v 1 (b.take b.length) → Calls Try.prog 48 #[.pointer (some ⟨p, 0, none⟩)] W fun e w' => e = .returned (.tuple #[.int .u32 (rn b), .int .i64 0]) ∧ Kp [p] W w' ∧ Rr w' p v 5 (b.take b.length)) := Lib.hid (fun W p v h => by
    have := take_u32 p v 1 _ W h (by rw [hl1]; omega)
    rwa [List.drop_take, List.take_take, Nat.min_eq_left (by omega)] at this)
  have hkl := rK0_lt b
  generalize num (b.take 1) = kd at *
  have hrl := rn_lt b
  generalize rn b = n at *
  clear rd1 r1 r1' k0 hl1 hE
  go_enter Try.func37, Try.ntmps37
  go_wp2_with (first
    | (go_at_call 46; ((with_reducible refine (new_reader _ (b.take b.length) _ R1.out HL.out).mono ?_); rintro e w1 ⟨p, v, rfl, hp, hr, hv, k1⟩; have S1 := Lib.hid (RdS.start hp hr k1); clear hp hr hv k1))
    | (go_at_call 47; ((with_reducible refine (HT1.out _ _ _ S1.out.rr).mono ?_); rintro e w2 ⟨rfl, k2, r2⟩; have S2 := Lib.hid (S1.out.step k2 r2); clear k2 r2))
    | (go_at_call 48; ((with_reducible refine (HT2.out _ _ _ S2.out.rr).mono ?_); rintro e w3 ⟨rfl, k3, r3⟩; have S3 := Lib.hid (S2.out.step k3 r3); clear k3 r3))
    | (refine wpList_store_agg rfl 71 (.tmp 2) (.tmp 51) rfl w.heap.size 0 rfl z3 rfl 71 z3 S3.out.b0 (by rw [Try.infoFramed]; rfl) (by decide) (by decide) ?_; intro w9 c9 k9; have C9 := Lib.hid (show Blk w9 w.heap.size 71 z3 from c9); have K9 := Lib.hid (S3.out.k.trans k9 (by simp)); clear c9 k9))
  exact bodyPost_ret (v := .tuple #[.agg z3, .int .i64 (170 : Nat)]) (results_cell_tmp (u := 3) (by rfl) rfl C9.out Try.underlying71 rfl (by rw [Try.infoFramed]; rfl)) rfl (read_no HE.out (by decide) K9.out)

end Go.Proofs.Ytnchjfhmalbjoaa
/- record.read, where the frame is there whole. -/
namespace Go.Proofs.Ytnchjfhmalbjoaa
open Go.RowKit

set_option maxRecDepth 100000 in
set_option maxHeartbeats 1000000 in
theorem read_6 (A : Option Addr) (c : Nat) (b : List UInt8) (w : World) (hx : Rd w 1 (.slice A b.length c) b.length (bv b)) (hn : b.length + 64 ≤ 140737488355328) (h2 : ¬ num (b.take 1) = 0) (h4 : ¬ 8388608 < rn b) (h5 : ¬ b.length < rn b + 9) (h6 : ((b.drop (rn b + 5)).take 4 == le4 (crc (b.take (rn b + 5)))) = false) :
    Calls Try.prog 37 #[.slice A b.length c] w (ReadPost b w) := by
  have hnc : b.length ≤ c := by obtain ⟨_, _, _, hv, h1, _⟩ := hx; cases hv; exact h1
  have hE := rE_6 h2 h4 h5 h6
  obtain ⟨A1, c1, run1, rd1, _⟩ := cut_hi A b.length c 5 (5 : Int) rfl (by omega) hnc
  obtain ⟨A2, c2, run2, rd2, _⟩ := cut_lh A b.length c (rn b + 5) 4 (5 + (rn b : Int)) (5 + (rn b : Int) + 4) (by omega) (by omega) (by omega) hnc
  obtain ⟨A3, c3, run3, rd3, _⟩ := cut_hi A b.length c (rn b + 5) (5 + (rn b : Int)) (by omega) (by omega) hnc
  obtain ⟨A4, c4, run4, rd4, _⟩ := cut_lh A b.length c 5 (rn b) 5 (5 + (rn b : Int)) (by omega) (by omega) (by omega) hnc
  have k0 : Kp [] w ((w.alloc (.cells z3 71)).alloc (.cells z3 71)) := ((Kp.refl [] w).alloc _).alloc _
  have r1 := rd1 _ b (rd_old hx k0)
  rw [List.drop_zero] at r1
  have hl1 : (b.take 5).length = 5 := by rw [List.length_take]; omega
  have HL : Hid ((b.take 5).length ≤ 140737488355328) := Lib.hid (by rw [hl1]; omega)
  have r1' : Rd ((w.alloc (.cells z3 71)).alloc (.cells z3 71)) 1 (.slice A1 5 c1) (b.take 5).length (bv (b.take 5)) := by rw [hl1]; exact r1
  have R1 := Lib.hid r1'
  have Hl1 := Lib.hid hl1
  have HE := Lib.hid hE
  have R2 : Hid (∀ W, Kp [] w W → Rd W 1 (.slice A2 4 c2) ((b.drop (rn b + 5)).take 4).length (bv ((b.drop (rn b + 5)).take 4))) := Lib.hid (fun W k => by rw [List.length_take, List.length_drop, Nat.min_eq_left (by omega)]; exact rd2 W b (rd_old hx k))
  have R3 : Hid (∀ W, Kp [] w W → Rd W 1 (.slice A3 (rn b + 5) c3) (rn b + 5) (bv (b.take (rn b + 5)))) := Lib.hid (fun W k => by have := rd3 W b (rd_old hx k); rwa [List.drop_zero] at this)
  have R4 : Hid (∀ W, Kp [] w W → Rd W 1 (.slice A4 (rn b) c4) (rn b) (bv ((b.drop 5).take (rn b)))) := Lib.hid (fun W k => rd4 W b (rd_old hx k))
  have HT1 : Hid (∀ W p v, Rr W p v 0 (b.take 5) → Calls Try.prog 47 #[.pointer (some ⟨p, 0, none⟩)] W fun e w' => e = .returned (.tuple #[.int .u8 (num (b.take 1)), .int .i64 0]) ∧ Kp [p] W w' ∧ Rr w' p v 1 (b.take 5)) := Lib.hid (fun W p v h => by
    have := take_u8 p v 0 _ W h (by rw [hl1]; omega)
    rwa [List.drop_zero, List.take_take, Nat.min_eq_left (by omega), Nat.zero_add] at this)
  have HT2 : Hid (∀ W p v, Rr W p v 1 (b.take 5) → Calls Try.prog 48 #[.pointer (some ⟨p, 0, none⟩)] W fun e w' => e = .returned (.tuple #[.int .u32 (rn b), .int .i64 0]) ∧ Kp [p] W w' ∧ Rr w' p v 5 (b.take 5)) := Lib.hid (fun W p v h => by
    have := take_u32 p v 1 _ W h (by rw [hl1]; omega)
    rwa [List.drop_take, List.take_take, Nat.min_eq_left (by omega)] at this)
  have hkl := rK0_lt b
  generalize num (b.take 1) = kd at *
  have hrl := rn_lt b
  generalize hsum : le4 (crc (b.take (rn b + 5))) = sm at *
  generalize hgot : (b.drop (rn b + 5)).take 4 = got at *
  have HEn : Hid (∀ W v, Rd W 1 v (rn b + 5) (bv (b.take (rn b + 5))) → Calls Try.prog 35 #[v] W (NewRow sm W)) := Lib.hid (fun W v h => by rw [← hsum]; exact ends_any v (b.take (rn b + 5)) _ W h)
  have H6 := Lib.hid h6
  clear rd1 rd2 rd3 rd4 r1 r1' k0 hl1 hE hsum hgot h6
  generalize rn b = n at *
  have hw9 : IntKind.i64.wrap (5 + (n : Int) + 4) = 5 + (n : Int) + 4 := IntWalk.i64_in _ (by omega)
  have hb1 : (0 : Int) ≤ 5 + (n : Int) := by omega
  have hb2 : 5 + (n : Int) + 4 ≤ (b.length : Int) := by omega
  go_enter Try.func37, Try.ntmps37
  go_wp2_with (first
    | (go_at_call 46; ((with_reducible refine (new_reader _ (b.take 5) _ R1.out HL.out).mono ?_); rintro e w1 ⟨p, v, rfl, hp, hr, hv, k1⟩; have S1 := Lib.hid (RdS.start hp hr k1); clear hp hr hv k1))
    | (go_at_call 47; ((with_reducible refine (HT1.out _ _ _ S1.out.rr).mono ?_); rintro e w2 ⟨rfl, k2, r2⟩; have S2 := Lib.hid (S1.out.step k2 r2); clear k2 r2))
    | (go_at_call 48; ((with_reducible refine (HT2.out _ _ _ S2.out.rr).mono ?_); rintro e w3 ⟨rfl, k3, r3⟩; have S3 := Lib.hid (S2.out.step k3 r3); clear k3 r3)))
  have S3d : Hid (RdS w w3.drew p v 5 (b.take 5)) := Lib.hid (S3.out.kp ((Kp.refl [] w3).drew))
  refine wp_region_lexf [8, 9] [] (fun _ : World => True) (by kernel_rfl) (by kernel_rfl) trivial (fun σ hne f hf hsur => ?_); have Hsur := Lib.hid hsur; clear hsur
  go_wp2_with (first
    | (go_at_call 35; ((with_reducible refine (HEn.out _ _ (R3.out _ S3d.out.k)).mono ?_); rintro e w4 ⟨v4, rfl, o4, k4, f4⟩; have O4 := Lib.hid o4; have S4 := Lib.hid (S3d.out.kp k4); clear o4 k4 f4))
    | (go_at_call 49; ((with_reducible refine (equal_any _ _ got sm _ (R2.out _ S4.out.k) (Rd.of_own O4.out)).mono ?_); rintro e w5 ⟨rfl, k5⟩; have S5 := Lib.hid (S4.out.kp k5); rw [H6.out]; clear k5))
    | (refine lex_qq Hsur.out rfl rfl rfl ?_; intro K hK; go_big_quiet_op; go_big_quiet_on) | (refine lex_skipk rfl ?_; intro K hK; go_simp; refine hK _ _ ?_; clear hK K) | (refine lex_e rfl rfl ?_; intro K hK; go_step) | (refine lex_nil ?_)
    | ((with_reducible apply And.intro); · (intro hl; first | (exact ls_absurd hl rfl) | trivial))
    | (refine wpList_store_agg rfl 71 (.tmp 2) (.tmp 64) rfl w.heap.size 0 rfl z3 rfl 71 z3 S5.out.b0 (by rw [Try.infoFramed]; rfl) (by decide) (by decide) ?_; intro w9 c9 k9; have C9 := Lib.hid (show Blk w9 w.heap.size 71 z3 from c9); have K9 := Lib.hid (S5.out.k.trans k9 (by simp)); clear c9 k9))
  exact bodyPost_ret (v := .tuple #[.agg z3, .int .i64 (172 : Nat)]) (results_cell_tmp (u := 3) (by rfl) rfl C9.out Try.underlying71 rfl (by rw [Try.infoFramed]; rfl)) rfl (read_no HE.out (by decide) K9.out)

set_option maxRecDepth 100000 in
set_option maxHeartbeats 1000000 in
theorem read_0 (A : Option Addr) (c : Nat) (b : List UInt8) (w : World) (hx : Rd w 1 (.slice A b.length c) b.length (bv b)) (hn : b.length + 64 ≤ 140737488355328) (h2 : ¬ num (b.take 1) = 0) (h4 : ¬ 8388608 < rn b) (h5 : ¬ b.length < rn b + 9) (h6 : ((b.drop (rn b + 5)).take 4 == le4 (crc (b.take (rn b + 5)))) = true) :
    Calls Try.prog 37 #[.slice A b.length c] w (ReadPost b w) := by
  have hnc : b.length ≤ c := by obtain ⟨_, _, _, hv, h1, _⟩ := hx; cases hv; exact h1
  have hE := rE_0 h2 h4 h5 h6
  have HY := Lib.hid (rKBS_yes hE)
  obtain ⟨A1, c1, run1, rd1, _⟩ := cut_hi A b.length c 5 (5 : Int) rfl (by omega) hnc
  obtain ⟨A2, c2, run2, rd2, _⟩ := cut_lh A b.length c (rn b + 5) 4 (5 + (rn b : Int)) (5 + (rn b : Int) + 4) (by omega) (by omega) (by omega) hnc
  obtain ⟨A3, c3, run3, rd3, _⟩ := cut_hi A b.length c (rn b + 5) (5 + (rn b : Int)) (by omega) (by omega) hnc
  obtain ⟨A4, c4, run4, rd4, _⟩ := cut_lh A b.length c 5 (rn b) 5 (5 + (rn b : Int)) (by omega) (by omega) (by omega) hnc
  have k0 : Kp [] w ((w.alloc (.cells z3 71)).alloc (.cells z3 71)) := ((Kp.refl [] w).alloc _).alloc _
  have r1 := rd1 _ b (rd_old hx k0)
  rw [List.drop_zero] at r1
  have hl1 : (b.take 5).length = 5 := by rw [List.length_take]; omega
  have HL : Hid ((b.take 5).length ≤ 140737488355328) := Lib.hid (by rw [hl1]; omega)
  have r1' : Rd ((w.alloc (.cells z3 71)).alloc (.cells z3 71)) 1 (.slice A1 5 c1) (b.take 5).length (bv (b.take 5)) := by rw [hl1]; exact r1
  have R1 := Lib.hid r1'
  have Hl1 := Lib.hid hl1
  have HE := Lib.hid hE
  have R2 : Hid (∀ W, Kp [] w W → Rd W 1 (.slice A2 4 c2) ((b.drop (rn b + 5)).take 4).length (bv ((b.drop (rn b + 5)).take 4))) := Lib.hid (fun W k => by rw [List.length_take, List.length_drop, Nat.min_eq_left (by omega)]; exact rd2 W b (rd_old hx k))
  have R3 : Hid (∀ W, Kp [] w W → Rd W 1 (.slice A3 (rn b + 5) c3) (rn b + 5) (bv (b.take (rn b + 5)))) := Lib.hid (fun W k => by have := rd3 W b (rd_old hx k); rwa [List.drop_zero] at this)
  have R4 : Hid (∀ W, Kp [] w W → Rd W 1 (.slice A4 (rn b) c4) (rn b) (bv ((b.drop 5).take (rn b)))) := Lib.hid (fun W k => rd4 W b (rd_old hx k))
  have HT1 : Hid (∀ W p v, Rr W p v 0 (b.take 5) → Calls Try.prog 47 #[.pointer (some ⟨p, 0, none⟩)] W fun e w' => e = .returned (.tuple #[.int .u8 (num (b.take 1)), .int .i64 0]) ∧ Kp [p] W w' ∧ Rr w' p v 1 (b.take 5)) := Lib.hid (fun W p v h => by
    have := take_u8 p v 0 _ W h (by rw [hl1]; omega)
    rwa [List.drop_zero, List.take_take, Nat.min_eq_left (by omega), Nat.zero_add] at this)
  have HT2 : Hid (∀ W p v, Rr W p v 1 (b.take 5) → Calls Try.prog 48 #[.pointer (some ⟨p, 0, none⟩)] W fun e w' => e = .returned (.tuple #[.int .u32 (rn b), .int .i64 0]) ∧ Kp [p] W w' ∧ Rr w' p v 5 (b.take 5)) := Lib.hid (fun W p v h => by
    have := take_u32 p v 1 _ W h (by rw [hl1]; omega)
    rwa [List.drop_take, List.take_take, Nat.min_eq_left (by omega)] at this)
  have hkl := rK0_lt b
  generalize num (b.take 1) = kd at *
  have hrl := rn_lt b
  generalize hsum : le4 (crc (b.take (rn b + 5))) = sm at *
  generalize hgot : (b.drop (rn b + 5)).take 4 = got at *
  have HEn : Hid (∀ W v, Rd W 1 v (rn b + 5) (bv (b.take (rn b + 5))) → Calls Try.prog 35 #[v] W (NewRow sm W)) := Lib.hid (fun W v h => by rw [← hsum]; exact ends_any v (b.take (rn b + 5)) _ W h)
  have H6 := Lib.hid h6
  clear rd1 rd2 rd3 rd4 r1 r1' k0 hl1 hE hsum hgot h6
  generalize rn b = n at *
  have hw9 : IntKind.i64.wrap (5 + (n : Int) + 4) = 5 + (n : Int) + 4 := IntWalk.i64_in _ (by omega)
  have hb1 : (0 : Int) ≤ 5 + (n : Int) := by omega
  have hb2 : 5 + (n : Int) + 4 ≤ (b.length : Int) := by omega
  go_enter Try.func37, Try.ntmps37
  go_wp2_with (first
    | (go_at_call 46; ((with_reducible refine (new_reader _ (b.take 5) _ R1.out HL.out).mono ?_); rintro e w1 ⟨p, v, rfl, hp, hr, hv, k1⟩; have S1 := Lib.hid (RdS.start hp hr k1); clear hp hr hv k1))
    | (go_at_call 47; ((with_reducible refine (HT1.out _ _ _ S1.out.rr).mono ?_); rintro e w2 ⟨rfl, k2, r2⟩; have S2 := Lib.hid (S1.out.step k2 r2); clear k2 r2))
    | (go_at_call 48; ((with_reducible refine (HT2.out _ _ _ S2.out.rr).mono ?_); rintro e w3 ⟨rfl, k3, r3⟩; have S3 := Lib.hid (S2.out.step k3 r3); clear k3 r3)))
  have S3d : Hid (RdS w w3.drew p v 5 (b.take 5)) := Lib.hid (S3.out.kp ((Kp.refl [] w3).drew))
  refine wp_region_lexf [8, 9] [] (fun _ : World => True) (by kernel_rfl) (by kernel_rfl) trivial (fun σ hne f hf hsur => ?_); have Hsur := Lib.hid hsur; clear hsur
  go_wp2_with (first
    | (go_at_call 35; ((with_reducible refine (HEn.out _ _ (R3.out _ S3d.out.k)).mono ?_); rintro e w4 ⟨v4, rfl, o4, k4, f4⟩; have O4 := Lib.hid o4; have S4 := Lib.hid (S3d.out.kp k4); clear o4 k4 f4))
    | (go_at_call 49; ((with_reducible refine (equal_any _ _ got sm _ (R2.out _ S4.out.k) (Rd.of_own O4.out)).mono ?_); rintro e w5 ⟨rfl, k5⟩; have S5 := Lib.hid (S4.out.kp k5); rw [H6.out]; clear k5))
    | (refine lex_qq Hsur.out rfl rfl rfl ?_; intro K hK; go_big_quiet_op; go_big_quiet_on) | (refine lex_skipk rfl ?_; intro K hK; go_simp; refine hK _ _ ?_; clear hK K) | (refine lex_e rfl rfl ?_; intro K hK; go_step) | (refine lex_nil ?_)
    | ((with_reducible apply And.intro); · (intro hl; first | (exact ls_absurd hl rfl) | trivial))
    | (go_at_call 38; ((with_reducible refine (clone_any _ _ n _ (R4.out _ S5.out.k) (by omega)).mono ?_); rintro e w6 ⟨v6, rfl, o6, k6, f6⟩; have F6 : Hid (∀ g, v6.ownBlock = some g → w.heap.size + 1 < g) := Lib.hid (fun g hg => by have h1 := f6 g hg; have h2 := S5.out.b1.lt; omega); have S6 := Lib.hid (S5.out.kp k6); obtain ⟨A6, c6, rfl, _, _⟩ := ow_form o6; have O6 := Lib.hid o6; obtain ⟨d0, d1, d2, e0, e1, e2, e3⟩ := S6.out.b1.c3; obtain ⟨d4, d5, d6, e4, e5, e6, e7⟩ := S6.out.b0.c3; clear o6 k6 f6))
    )
  have KK := ((((((Kp.refl [w.heap.size, w.heap.size + 1] w6).setCell (p := ⟨w.heap.size + 1, 0, none⟩) (.inl (by simp)) (.int .u8 kd)).setCell (p := ⟨w.heap.size + 1, 1, none⟩) (.inl (by simp)) (.slice A6 n c6)).setCell (p := ⟨w.heap.size + 1, 2, none⟩) (.inl (by simp)) (.int .i64 (5 + (n : Int) + 4))).setCell (p := ⟨w.heap.size, 0, none⟩) (.inl (by simp)) (.int .u8 kd)).setCell (p := ⟨w.heap.size, 1, none⟩) (.inl (by simp)) (.slice A6 n c6)).setCell (p := ⟨w.heap.size, 2, none⟩) (.inl (by simp)) (.int .i64 (5 + (n : Int) + 4))
  have BB := ((((((S6.out.b0.far (p := ⟨w.heap.size + 1, 0, none⟩) (by simp) (.int .u8 kd)).far (p := ⟨w.heap.size + 1, 1, none⟩) (by simp) (.slice A6 n c6)).far (p := ⟨w.heap.size + 1, 2, none⟩) (by simp) (.int .i64 (5 + (n : Int) + 4))).set_ 0 (.int .u8 kd)).set_ 1 (.slice A6 n c6)).set_ 2 (.int .i64 (5 + (n : Int) + 4)))
  have hv : (5 : Int) + (n : Int) + 4 = ((n + 9 : Nat) : Int) := by omega
  rw [hv] at BB KK ⊢
  refine bodyPost_ret (v := .tuple #[.agg #[.int .u8 kd, .slice A6 n c6, .int .i64 ((n + 9 : Nat) : Int)], .int .i64 ((0 : Nat) : Int)]) (results_cell_tmp (u := 3) (by rfl) rfl BB Try.underlying71 rfl (by rw [Try.infoFramed]; rfl)) rfl ?_
  obtain ⟨y1, y2, y3⟩ := HY.out
  refine ⟨_, by rw [y1, y3, HE.out], ?_, S6.out.k.trans KK (fun g hg => by simp at hg; right; omega), fun g hg => Nat.le_of_lt (by have := F6.out g hg; omega)⟩
  rw [y2, show ((b.drop 5).take n).length = n from by rw [List.length_take, List.length_drop]; omega]
  exact ow_kp O6.out KK (fun g hg hm => by have := F6.out g hg; simp at hm; omega)

/-- record.read. -/
theorem read_any (A : Option Addr) (c : Nat) (b : List UInt8) (w : World) (hx : Rd w 1 (.slice A b.length c) b.length (bv b)) (hn : b.length + 64 ≤ 140737488355328) :
    Calls Try.prog 37 #[.slice A b.length c] w (ReadPost b w) := by
  by_cases h1 : b.length < 1
  · exact read_1 A c b w hx hn h1
  by_cases h2 : num (b.take 1) = 0
  · by_cases h5 : 5 < b.length
    · exact read_2a A c b w hx hn h1 h5 h2
    · exact read_2b A c b w hx hn h1 (by omega) h2
  by_cases h3 : b.length < 5
  · exact read_3 A c b w hx hn h1 h2 h3
  by_cases h4 : 8388608 < rn b
  · by_cases h5 : 5 < b.length
    · exact read_4a A c b w hx hn h2 h5 h4
    · exact read_4b A c b w hx hn h2 (by omega) (by omega) h4
  by_cases h6 : b.length < rn b + 9
  · by_cases h5 : 5 < b.length
    · exact read_5a A c b w hx hn h2 h5 h4 h6
    · exact read_5b A c b w hx hn h2 (by omega) (by omega) h4 h6
  cases h7 : ((b.drop (rn b + 5)).take 4 == le4 (crc (b.take (rn b + 5)))) with
  | false => exact read_6 A c b w hx hn h2 h4 h6 h7
  | true => exact read_0 A c b w hx hn h2 h4 h6 h7

end Go.Proofs.Ytnchjfhmalbjoaa
/- XInv's rule where one operation comes last, whatever the order (it waits for each of the others), and may do anything. -/
namespace Go.Proofs.Ytnchjfhmalbjoaa

section
variable {P : Program} {Q : Exit → Act → World → Prop}

theorem inv_anyL {PV : Nat → Value → World → Prop} {W0 : World} {a0 : Act} {l : List Oper} {L : Oper} (hst : ∀ i v W W', PV i v W → Kp [] W W' → PV i v W') (hap : apartB l = true) (hea : earlierB (l ++ [L]) 0 = true)
    (hlast : (List.range l.length).all (fun j => waitsB .any L j) = true)
    (hs : InvSteps P Q PV W0 (fun vs => putAll vs l 0 a0) l 0)
    (hend : ∀ vs W, Kp [] W0 W → (∀ i, i < l.length → PV i (vs i) W) → L.wp P (putAll vs l 0 a0) W (fun a' w' => Q .normal a' w') (Qn Q)) :
    ∀ (fuel : Nat) (listed : Array Bool) (vs : Nat → Value) (W : World), listed.size = l.length + 1 → (listed.toList.filter (fun b => !b)).length = fuel → listed.getD l.length false = false → Kp [] W0 W → (∀ i, i < l.length → listed.getD i false = true → PV i (vs i) W) →
      wpAny P .any (l ++ [L]).toArray Q fuel listed (putAll vs l 0 a0) W := by
  have all_of : ∀ (listed : Array Bool), listed.size = l.length + 1 → Region.ready .any (l ++ [L]).toArray listed = [] → ∀ i, i < l.length + 1 → listed.getD i false = true := by
    intro listed hsz hr i
    induction i using Nat.strongRecOn with
    | _ i ih =>
      intro hi
      cases hl : listed.getD i false with
      | true => rfl
      | false =>
        exfalso
        have hlt : i < listed.size := by omega
        have hi2 : i < (l ++ [L]).length := by simp; omega
        have hmem : i ∈ Region.ready .any (l ++ [L]).toArray listed := mem_ready.2 ⟨by simp [hlt] at hl ⊢; exact hl, (l ++ [L])[i], by simp, fun e he _ => by
          have := (earlierB_spec (l ++ [L]) 0 i (l ++ [L])[i] hea (List.getElem?_eq_getElem hi2)).1 e he
          exact ih e.on (by omega) (by omega)⟩
        rw [hr] at hmem; cases hmem
  have hno : ∀ (listed : Array Bool), listed.size = l.length + 1 → listed.getD l.length false = false → Region.ready .any (l ++ [L]).toArray listed = [] → False := by
    intro listed hsz hl hr
    have := all_of listed hsz hr l.length (by omega)
    rw [hl] at this; cases this
  intro fuel
  induction fuel with
  | zero =>
    intro listed vs W hsz hf hl hk hp
    exfalso
    have hlt : l.length < listed.size := by omega
    have : listed[l.length] ∈ listed.toList.filter (fun b => !b) := by
      rw [List.mem_filter]
      simp [hlt] at hl
      refine ⟨by simp, by simp [hl]⟩
    rw [List.eq_nil_of_length_eq_zero hf] at this
    cases this
  | succ fuel ih =>
    intro listed vs W hsz hf hl hk hp
    refine ⟨fun hr => (hno listed hsz hl hr).elim, fun i hi => ?_⟩
    obtain ⟨h0, o, ho, hall⟩ := mem_ready.1 hi
    have hol : (l ++ [L])[i]? = some o := by simpa using ho
    have hlt : i < listed.size := by
      have := (List.getElem?_eq_some_iff.1 hol).1
      simp at this
      omega
    have hgd := (earlierB_spec (l ++ [L]) 0 i o hea hol).2
    simp [hlt] at h0
    have hcount : ((listed.setIfInBounds i true).toList.filter (fun b => !b)).length = fuel := by
      have h1 : listed.toList = listed.toList.take i ++ false :: listed.toList.drop (i + 1) := by
        rw [← h0]
        have := List.take_append_drop i listed.toList
        rw [List.drop_eq_getElem_cons (by simpa using hlt)] at this
        simpa using this.symm
      have h2 : (listed.setIfInBounds i true).toList = listed.toList.take i ++ true :: listed.toList.drop (i + 1) := by
        rw [Array.toList_setIfInBounds]
        conv => lhs; rw [h1]
        rw [List.set_append_right _ _ (by simp; omega)]
        simp [Nat.min_eq_left (Nat.le_of_lt hlt)]
      rw [h1] at hf
      rw [h2]
      simp only [List.filter_append, List.filter_cons, List.length_append] at hf ⊢
      simp at hf ⊢
      omega
    refine wpOp_n ?_
    unfold wpOp
    simp only [ho]
    rw [if_pos (by simp [Region.wanted, hgd])]
    refine .inl ?_
    by_cases hil : i < l.length
    · have hol' : l[i]? = some o := by rw [List.getElem?_append_left hil] at hol; exact hol
      have hstep := hs.at_ hol'
      rw [Nat.zero_add] at hstep
      refine hstep vs _ W rfl hk (fun j hj => by
        obtain ⟨e, he, hb, rfl⟩ := waitsB_spec hj
        have := (earlierB_spec (l ++ [L]) 0 i o hea hol).1 e he
        exact hp e.on (by omega) (hall e he hb)) _ fun v W' hk' hv => ?_
      rw [putAll_upd vs i v l 0 a0 o hap (Nat.zero_le _) (by simpa using hol')]
      refine ih _ _ W' (by simpa using hsz) hcount (by rw [getD_set_ne false (show i ≠ l.length by omega)]; exact hl) (hk.trans hk' (by simp)) (fun j hjl hj => ?_)
      by_cases e : i = j
      · subst e; simpa [upd] using hv
      · rw [getD_set_ne false e] at hj
        simp only [upd, show j ≠ i from fun h => e h.symm, if_false]
        exact hst j _ W W' (hp j hjl hj) hk'
    · have hie : i = l.length := by omega
      subst hie
      obtain rfl : L = o := by simpa using hol
      have hrest : ∀ j, j < l.length → listed.getD j false = true := fun j hj => by
        obtain ⟨e, he, hb, rfl⟩ := waitsB_spec (List.all_eq_true.1 hlast j (List.mem_range.2 hj))
        exact hall e he hb
      have hz : fuel = 0 := by
        rw [← hcount, List.length_eq_zero_iff, List.filter_eq_nil_iff]
        intro b hb
        obtain ⟨k, hk1, rfl⟩ := List.getElem_of_mem hb
        simp at hk1
        simp only [Array.getElem_toList]
        by_cases hkl : k = l.length
        · subst hkl; simp
        · have h3 := hrest k (by omega)
          rw [Array.getElem_setIfInBounds_ne (by omega) (by omega)]
          simp [show k < listed.size by omega] at h3
          simp [h3]
      subst hz
      refine Oper.wp_mono (fun a' w' h => ?_) (hend vs W hk (fun j hj => hp j hj (hrest j hj)))
      refine ⟨?_, h⟩
      refine List.eq_nil_iff_forall_not_mem.2 fun k hk => ?_
      have h1 := (mem_ready.1 hk).1
      obtain ⟨_, o', ho', _⟩ := mem_ready.1 hk
      have hkl : k < l.length + 1 := by have := (Array.getElem?_eq_some_iff.1 ho').1; simpa using this
      by_cases hke : k = l.length
      · subst hke; simp [hlt] at h1
      · rw [getD_set_ne true (fun h => hke h.symm)] at h1
        have h3 := hrest k (by omega)
        simp [show k < listed.size by omega] at h3 h1
        rw [h3] at h1; cases h1
def lastOp (o : Oper) : List Oper → Oper
  | [] => o
  | x :: l => lastOp x l
theorem lastOp_get (o : Oper) (l : List Oper) : (o :: l).getLast? = some (lastOp o l) := by
  induction l generalizing o with
  | nil => rfl
  | cons x l ih => rw [List.getLast?_cons_cons]; exact ih x
def LastWp (P : Program) (Q : Exit → Act → World → Prop) (l : List Oper) (a : Act) (w : World) (K : Act → World → Prop) : Prop :=
  match l with
  | [] => True
  | o :: l' => (lastOp o l').wp P a w K (Qn Q)
/-- All properties hold. -/
def AllPV (PV : Nat → Value → World → Prop) (n : Nat) (vs : Nat → Value) (W : World) : Prop := ∀ i, i < n → PV i (vs i) W
/-- The region's rule. -/
theorem wp_region_invL {id : Nat} {a : Act} {w : World} {l : List Oper} (PV : Nat → Value → World → Prop) (hm : P.follows .mixedOrders = true) (n : Nat) (hn : l.dropLast.length = n) (hap : apartB l.dropLast = true) (hea : earlierB l 0 = true)
    (hlast : l.getLast?.any (fun L => (List.range l.dropLast.length).all (fun j => waitsB .any L j)) = true)
    (hst : ∀ i v W W', PV i v W → Kp [] W W' → PV i v W')
    (hs : InvSteps P Q PV w.drew (fun vs => putAll vs l.dropLast 0 a) l.dropLast 0)
    (hend : ∀ vs A W, (fun vs => putAll vs l.dropLast 0 a) vs = A → Kp [] w.drew W → AllPV PV n vs W → LastWp P Q l A W (fun a' w' => Q .normal a' w')) : (Code.region id l.toArray true).wp P Q a w := by
  refine wp_region_any hm ?_
  subst hn
  obtain ⟨L, hL⟩ : ∃ L, l.getLast? = some L := by
    cases h : l.getLast? with
    | none => rw [h] at hlast; cases hlast
    | some L => exact ⟨L, rfl⟩
  have hend' : ∀ vs W, Kp [] w.drew W → (∀ i, i < l.dropLast.length → PV i (vs i) W) → L.wp P (putAll vs l.dropLast 0 a) W (fun a' w' => Q .normal a' w') (Qn Q) := fun vs W h1 h2 => by
    have h3 := hend vs _ W rfl h1 h2
    cases hl : l with
    | nil => rw [hl] at hL; cases hL
    | cons o l' =>
      rw [hl] at hL h3
      rw [lastOp_get] at hL
      injection hL with hL
      rw [← hL]
      exact h3
  clear hend
  rw [hL] at hlast
  have hlast' : (List.range l.dropLast.length).all (fun j => waitsB .any L j) = true := by simpa using hlast
  clear hlast
  have he : l = l.dropLast ++ [L] := by
    obtain ⟨ys, rfl⟩ := List.getLast?_eq_some_iff.1 hL
    simp
  generalize l.dropLast = l0 at *
  subst he
  have h := inv_anyL (P := P) (Q := Q) hst hap hea hlast' hs hend' (l0.length + 1) (Array.replicate (l0.length + 1) false) (at0 a l0) w.drew (by simp) (by simp) (by simp) (Kp.refl _ _) (fun i hi0 hi => by
    rw [Array.getD_eq_getD_getElem?, Array.getElem?_replicate, if_pos (by omega)] at hi
    cases hi)
  rw [putAll_at a l0 0 (at0 a l0) (fun j o ho => by simp [at0, ho])] at h
  simpa using h
end
end Go.Proofs.Ytnchjfhmalbjoaa
/- The reference's Read. -/
namespace Go.Proofs.Ytnchjfhmalbjoaa
open Go.RowKit
theorem num_one (b : List UInt8) (h : 0 < b.length) : num (b.take 1) = b[0].toNat := by
  cases b with
  | nil => simp at h
  | cons x l => simp [num]
theorem rn_four (b : List UInt8) (h : 5 ≤ b.length) : rn b = b[1].toNat * 16777216 + b[2].toNat * 65536 + b[3].toNat * 256 + b[4].toNat := by
  match b, h with
  | x0 :: x1 :: x2 :: x3 :: x4 :: l, _ => simp [rn, num]; omega
/-- What a reading leaves: three results. -/
def Read3 (b : List UInt8) (w : World) (e : Ending) (w' : World) : Prop :=
  ∃ u, e = .returned (.tuple #[.agg #[.int .u8 (rK b : Int), u], .int .i64 (rS b : Int), .int .i64 (rE b : Int)]) ∧ Ow w' 5 1 u (rB b).length (bv (rB b)) ∧ Kp [] w w' ∧ ∀ g, u.ownBlock = some g → w.heap.size ≤ g
theorem read3_no {b : List UInt8} {k : Nat} {w w' : World} (hk : rE b = k) (h0 : k ≠ 0) (h : Kp [] w w') : Read3 b w (.returned (.tuple #[.agg #[.int .u8 0, .slice none 0 0], .int .i64 0, .int .i64 (k : Int)])) w' := by
  obtain ⟨h1, h2, h3⟩ := rKBS_no hk h0
  exact ⟨.slice none 0 0, by rw [h1, h3, hk]; rfl, by rw [h2]; exact World.ownsRow_nil _ _ _ _, h, by simp [Value.ownBlock]⟩
theorem results_cell_tmp2 {P : Program} {fn : Func} {w : World} {tmps : Array Value} {a t u u2 g : Nat} {t' : TypeId} {cs : Array Value} {d : TypeDesc} (h : fn.results = #[.cell a t, .tmp u, .tmp u2]) (ha : tmps.getD a undef = .pointer (some ⟨g, 0, none⟩)) (hb : Blk w g t' cs)
    (hu : P.underlying t = some d) (hd : aggB d = true) (hi : (P.info? t).map (·.size) = some cs.size) : (results fn tmps).run P w = .ok (.tuple #[.agg cs, tmps.getD u undef, tmps.getD u2 undef]) w := by
  have hl : (loadCells ⟨g, 0, none⟩ cs.size).run P w = .ok cs w := by
    have := run_loadCells_list (P := P) w ⟨g, 0, none⟩ cs.toList hb.agg
    simpa using this
  cases hq : P.info? t with
  | none => simp [hq] at hi
  | some i =>
    have hs : i.size = cs.size := by simpa [hq] using hi
    simp only [Array.getD_eq_getD_getElem?] at ha
    simp [results, h, ha, loadVar, asAddr, Sem.run_bind, run_isAgg hu hd, sizeOf, typeInfo, hq, hs, hl]
/-- An append onto an own row, as one operation. -/
theorem op_app {P : Program} {o : Oper} {a : Act} {w : World} {K : Act → World → Prop} {Q : Exit → Act → World → Prop} (s x : Operand) (t : TypeId)
    (ho : o.op = .call { callee := .builtin .append, args := #[s, x], argTypes := #[t, t] })
    (e : TypeId) (i : TypeInfo) (z : Value) (size bytes : Nat) (ht : P.underlying t = some (.slice e)) (hi : P.info? e = some i) (hz : i.zero = some z)
    (hsize : i.size = size) (hby : i.bytes = bytes) (hzs : z.cells.size = size) (hsz : 0 < size)
    (v : Value) (n : Nat) (xs : List Value) (hs : a.eval s = v) (hown : Ow w e size v n xs)
    (y : Value) (m : Nat) (news : List Value) (hx : a.eval x = y) (hr : Rd w size y m news) (h1 : ∀ u ∈ news, u.oneCell' = true)
    (h63 : n + m ≤ maxLen) (hbytes : (n + m) * bytes ≤ 140737488355328)
    (h : ∀ v' w', Ow w' e size v' (n + m) (xs ++ news) → w.grownBy w' v.ownBlock → (v'.ownBlock = v.ownBlock ∨ v'.ownBlock = some w.heap.size) → K (a.put o.dst v') w') : o.wp P a w K Q := by
  obtain ⟨v', w', hrun, h2, h3, h4⟩ := run_app (P := P) w t o.type e i z size bytes ht hi hz hsize hby hzs hsz v n xs hown y m news hr h1 h63 hbytes
  unfold Oper.wp execOp
  simp only [ho, resolve, invoke, builtin, Sem.run_bind, Sem.run_pure, Result.andThen_ok, List.map_toArray, List.map_cons, List.map_nil, hs, hx, hrun]
  exact h v' w' h2 h3 h4
abbrev z2 : Array Value := #[.int .u8 0, .slice none 0 0]
set_option maxRecDepth 100000 in
set_option maxHeartbeats 1000000 in
theorem rread_1 (A : Option Addr) (c : Nat) (b : List UInt8) (w : World) (h1 : b.length < 1) :
    Calls Try.prog 25 #[.slice A b.length c] w (Read3 b w) := by
  have HE := Lib.hid (rE_1 h1)
  have hl : (b.length : Int) = 0 := by omega
  go_enter Try.func25, Try.ntmps25
  go_wp2
  exact bodyPost_ret (v := .tuple #[.agg z2, .int .i64 0, .int .i64 (170 : Nat)]) (results_cell_tmp2 (u := 3) (u2 := 4) (by rfl) rfl ((Blk.new w 25 z2).alloc (.cells z2 25)) Try.underlying25 rfl (by rw [Try.infoRec]; rfl)) rfl (read3_no HE.out (by decide) (((Kp.refl [] w).alloc _).alloc _))
set_option maxRecDepth 100000 in
set_option maxHeartbeats 1000000 in
theorem rread_2 (ad : Addr) (c : Nat) (b : List UInt8) (w : World) (hx : Rd w 1 (.slice (some ad) b.length c) b.length (bv b)) (h1 : 0 < b.length) (h2 : num (b.take 1) = 0) :
    Calls Try.prog 25 #[.slice (some ad) b.length c] w (Read3 b w) := by
  have HE := Lib.hid (rE_2 (by omega) h2)
  rw [num_one b h1] at h2
  have k0 : Kp [] w ((w.alloc (.cells z2 25)).alloc (.cells z2 25)) := ((Kp.refl [] w).alloc _).alloc _
  obtain ⟨A', c', hv, hn1, hn2, hA, hcell⟩ := rd_get2 (rd_old hx k0)
  cases hv
  have hc0 : ((w.alloc (.cells z2 25)).alloc (.cells z2 25)).cell? ad = some (.int .u8 (b[0].toNat : Int)) := hcell ad rfl 0 h1
  rw [h2] at hc0
  clear hcell k0 h2
  unfold maxLen at hn2
  go_enter Try.func25, Try.ntmps25
  go_wp2
  exact bodyPost_ret (v := .tuple #[.agg z2, .int .i64 0, .int .i64 (171 : Nat)]) (results_cell_tmp2 (u := 3) (u2 := 4) (by rfl) rfl ((Blk.new w 25 z2).alloc (.cells z2 25)) Try.underlying25 rfl (by rw [Try.infoRec]; rfl)) rfl (read3_no HE.out (by decide) (((Kp.refl [] w).alloc _).alloc _))
set_option maxRecDepth 100000 in
set_option maxHeartbeats 1000000 in
theorem rread_3 (ad : Addr) (c : Nat) (b : List UInt8) (w : World) (hx : Rd w 1 (.slice (some ad) b.length c) b.length (bv b)) (h1 : 0 < b.length) (h2 : ¬ num (b.take 1) = 0) (h3 : b.length < 5) :
    Calls Try.prog 25 #[.slice (some ad) b.length c] w (Read3 b w) := by
  have HE := Lib.hid (rE_3 (by omega) h2 h3)
  rw [num_one b h1] at h2
  have k0 : Kp [] w ((w.alloc (.cells z2 25)).alloc (.cells z2 25)) := ((Kp.refl [] w).alloc _).alloc _
  obtain ⟨A', c', hv, hn1, hn2, hA, hcell⟩ := rd_get2 (rd_old hx k0)
  cases hv
  have hc0 : ((w.alloc (.cells z2 25)).alloc (.cells z2 25)).cell? ad = some (.int .u8 (b[0].toNat : Int)) := hcell ad rfl 0 h1
  generalize b[0].toNat = q at *
  clear hcell k0
  unfold maxLen at hn2
  go_enter Try.func25, Try.ntmps25
  go_wp2
  exact bodyPost_ret (v := .tuple #[.agg z2, .int .i64 0, .int .i64 (170 : Nat)]) (results_cell_tmp2 (u := 3) (u2 := 4) (by rfl) rfl ((Blk.new w 25 z2).alloc (.cells z2 25)) Try.underlying25 rfl (by rw [Try.infoRec]; rfl)) rfl (read3_no HE.out (by decide) (((Kp.refl [] w).alloc _).alloc _))
set_option maxRecDepth 100000 in
set_option maxHeartbeats 1000000 in
theorem rread_4 (ad : Addr) (c : Nat) (b : List UInt8) (w : World) (hx : Rd w 1 (.slice (some ad) b.length c) b.length (bv b)) (h2 : ¬ num (b.take 1) = 0) (h3 : ¬ b.length < 5) (h4 : 8388608 < rn b) :
    Calls Try.prog 25 #[.slice (some ad) b.length c] w (Read3 b w) := by
  have HE := Lib.hid (rE_4 h2 h3 h4)
  rw [num_one b (by omega)] at h2
  have h5 : 5 ≤ b.length := by omega
  have i1 : 1 < b.length := by omega
  have i2 : 2 < b.length := by omega
  have i3 : 3 < b.length := by omega
  have i4 : 4 < b.length := by omega
  have j1 : (1 : Int) < (b.length : Int) := by omega
  have j2 : (2 : Int) < (b.length : Int) := by omega
  have j3 : (3 : Int) < (b.length : Int) := by omega
  have j4 : (4 : Int) < (b.length : Int) := by omega
  have k0 : Kp [] w ((w.alloc (.cells z2 25)).alloc (.cells z2 25)) := ((Kp.refl [] w).alloc _).alloc _
  obtain ⟨A', c', hv, hn1, hn2, hA, hcell⟩ := rd_get2 (rd_old hx k0)
  cases hv
  have hc0 : ((w.alloc (.cells z2 25)).alloc (.cells z2 25)).cell? ad = some (.int .u8 (b[0].toNat : Int)) := hcell ad rfl 0 (by omega)
  have hc1 := hcell ad rfl 1 (by omega)
  have hc2 := hcell ad rfl 2 (by omega)
  have hc3 := hcell ad rfl 3 (by omega)
  have hc4 := hcell ad rfl 4 (by omega)
  have hr4 := rn_four b h5
  have hd1 := hc1
  have hd2 := hc2
  have hd3 := hc3
  have hd4 := hc4
  simp only [Addr.add, Nat.reduceEqDiff, if_false] at hd1 hd2 hd3 hd4
  have hq1 := b[1].toNat_lt
  have hq2 := b[2].toNat_lt
  have hq3 := b[3].toNat_lt
  have hq4 := b[4].toNat_lt
  generalize b[0].toNat = q0 at *
  generalize b[1].toNat = q1 at *
  generalize b[2].toNat = q2 at *
  generalize b[3].toNat = q3 at *
  generalize b[4].toNat = q4 at *
  rw [hr4] at h4
  clear hcell k0 hr4
  unfold maxLen at hn2
  go_enter Try.func25, Try.ntmps25
  go_wp2
  go_quiet (fail)
  go_wp2
  exact bodyPost_ret (v := .tuple #[.agg z2, .int .i64 0, .int .i64 (3 : Nat)]) (results_cell_tmp2 (u := 3) (u2 := 4) (by rfl) rfl (((((Blk.new w 25 z2).alloc (.cells z2 25)).drewN _).set_ 0 (.int .u8 0)).set_ 1 (.slice none 0 0)) Try.underlying25 rfl (by rw [Try.infoRec]; rfl)) rfl (read3_no HE.out (by decide) ((((((Kp.refl [] w).alloc _).alloc _).drewN _).setCell (.inr (Nat.le_refl _)) _).setCell (.inr (Nat.le_refl _)) _))
set_option maxRecDepth 100000 in
set_option maxHeartbeats 8000000 in
theorem rread_5 (ad : Addr) (c : Nat) (b : List UInt8) (w : World) (hx : Rd w 1 (.slice (some ad) b.length c) b.length (bv b)) (h2 : ¬ num (b.take 1) = 0) (h3 : ¬ b.length < 5) (h4 : ¬ 8388608 < rn b) (h6 : b.length < rn b + 9) :
    Calls Try.prog 25 #[.slice (some ad) b.length c] w (Read3 b w) := by
  have HE := Lib.hid (rE_5 h2 h3 h4 h6)
  rw [num_one b (by omega)] at h2
  have h5 : 5 ≤ b.length := by omega
  have i1 : 1 < b.length := by omega
  have i2 : 2 < b.length := by omega
  have i3 : 3 < b.length := by omega
  have i4 : 4 < b.length := by omega
  have j1 : (1 : Int) < (b.length : Int) := by omega
  have j2 : (2 : Int) < (b.length : Int) := by omega
  have j3 : (3 : Int) < (b.length : Int) := by omega
  have j4 : (4 : Int) < (b.length : Int) := by omega
  have k0 : Kp [] w ((w.alloc (.cells z2 25)).alloc (.cells z2 25)) := ((Kp.refl [] w).alloc _).alloc _
  obtain ⟨A', c', hv, hn1, hn2, hA, hcell⟩ := rd_get2 (rd_old hx k0)
  cases hv
  have hc0 : ((w.alloc (.cells z2 25)).alloc (.cells z2 25)).cell? ad = some (.int .u8 (b[0].toNat : Int)) := hcell ad rfl 0 (by omega)
  have hc1 := hcell ad rfl 1 (by omega)
  have hc2 := hcell ad rfl 2 (by omega)
  have hc3 := hcell ad rfl 3 (by omega)
  have hc4 := hcell ad rfl 4 (by omega)
  have hr4 := rn_four b h5
  have hd1 := hc1
  have hd2 := hc2
  have hd3 := hc3
  have hd4 := hc4
  simp only [Addr.add, Nat.reduceEqDiff, if_false] at hd1 hd2 hd3 hd4
  have hq1 := b[1].toNat_lt
  have hq2 := b[2].toNat_lt
  have hq3 := b[3].toNat_lt
  have hq4 := b[4].toNat_lt
  generalize b[0].toNat = q0 at *
  generalize b[1].toNat = q1 at *
  generalize b[2].toNat = q2 at *
  generalize b[3].toNat = q3 at *
  generalize b[4].toNat = q4 at *
  generalize rn b = n at *
  have hN : (q1 : Int) * 16777216 + (q2 : Int) * 65536 + (q3 : Int) * 256 + (q4 : Int) = (n : Int) := by omega
  have HN := Lib.hid hN
  clear hcell k0 hr4 hN
  unfold maxLen at hn2
  go_enter Try.func25, Try.ntmps25
  go_wp2
  go_quiet (fail)
  rw [HN.out]
  go_wp2
  exact bodyPost_ret (v := .tuple #[.agg z2, .int .i64 0, .int .i64 (170 : Nat)]) (results_cell_tmp2 (u := 3) (u2 := 4) (by rfl) rfl (((((Blk.new w 25 z2).alloc (.cells z2 25)).drewN _).set_ 0 (.int .u8 0)).set_ 1 (.slice none 0 0)) Try.underlying25 rfl (by rw [Try.infoRec]; rfl)) rfl (read3_no HE.out (by decide) ((((((Kp.refl [] w).alloc _).alloc _).drewN _).setCell (.inr (Nat.le_refl _)) _).setCell (.inr (Nat.le_refl _)) _))
end Go.Proofs.Ytnchjfhmalbjoaa
/- The reference's Read, where the frame is there whole. -/
namespace Go.Proofs.Ytnchjfhmalbjoaa
open Go.RowKit
theorem exec_conv {P : Program} {w : World} {ρ : Operand → Value} {o : Oper} {s t : TypeId} {x : Operand} {v u : Value} (ho : o.op = .convert s t x) (hx : ρ x = v) (h : (convert s t v).run P w = .ok u w) : (execOp ρ o).run P w = .ok (.value u) w := by
  unfold execOp
  simp only [ho, hx, Sem.run_bind, h, Result.andThen_ok, Sem.run_pure]
/-- The three boxes, and the body's row. -/
structure RS (w W : World) (q0 : Nat) (U : Value) (g7 : Nat) (body : List UInt8) : Prop where
  k : Kp [] w W
  b0 : Blk W w.heap.size 25 z2
  b1 : Blk W (w.heap.size + 1) 25 z2
  b7 : Blk W g7 25 #[.int .u8 (q0 : Int), U]
  u : Ow W 5 1 U body.length (bv body)
  gb : w.heap.size + 1 < g7
  ub : ∀ g, U.ownBlock = some g → w.heap.size + 1 < g
theorem RS.mk' {w W : World} {q0 : Nat} {U : Value} {g7 : Nat} {body : List UInt8} (k : Kp [] w W) (b0 : Blk W w.heap.size 25 z2) (b1 : Blk W (w.heap.size + 1) 25 z2) (b7 : Blk W g7 25 z2) (gb : w.heap.size + 1 < g7)
    (u : Ow W 5 1 U body.length (bv body)) (ub : ∀ g, U.ownBlock = some g → w.heap.size + 1 < g) : RS w ((W.setCell ⟨g7, 0, none⟩ (.int .u8 (q0 : Int))).setCell ⟨g7, 1, none⟩ U) q0 U g7 body := by
  have hk : Kp [g7] W ((W.setCell ⟨g7, 0, none⟩ (.int .u8 (q0 : Int))).setCell ⟨g7, 1, none⟩ U) := (((Kp.refl [g7] W).setCell (.inl (by simp)) _).setCell (.inl (by simp)) _)
  exact ⟨k.trans hk (fun g hg => by simp at hg; right; omega), b0.kp hk (by simp; omega), b1.kp hk (by simp; omega), (b7.set_ 0 _).set_ 1 _, ow_kp u hk (fun g hg hm => by simp at hm; subst hm; exact ow_blk_ne u b7 (by decide) hg), gb, ub⟩
theorem RS.kp {w W W' : World} {q0 : Nat} {U : Value} {g7 : Nat} {body : List UInt8} (h : RS w W q0 U g7 body) (hk : Kp [] W W') : RS w W' q0 U g7 body :=
  ⟨h.k.trans hk (by simp), h.b0.kp hk (by simp), h.b1.kp hk (by simp), h.b7.kp hk (by simp), ow_kp h.u hk (by simp), h.gb, h.ub⟩
set_option maxRecDepth 100000 in
set_option maxHeartbeats 8000000 in
theorem rread_6 (ad : Addr) (c : Nat) (b : List UInt8) (w : World) (hx : Rd w 1 (.slice (some ad) b.length c) b.length (bv b)) (hn : b.length + 64 ≤ 140737488355328) (h2 : ¬ num (b.take 1) = 0) (h3 : ¬ b.length < 5) (h4 : ¬ 8388608 < rn b) (h6 : ¬ b.length < rn b + 9) :
    Calls Try.prog 25 #[.slice (some ad) b.length c] w (Read3 b w) := by
  have HEa := Lib.hid (fun h7 => rE_6 h2 h4 h6 h7)
  have HEb := Lib.hid (fun h7 => (show rE b = 0 ∧ rK b = (b[0]'(by omega)).toNat ∧ rB b = (b.drop 5).take (rn b) ∧ rS b = rn b + 9 from ⟨rE_0 h2 h4 h6 h7, (rKBS_yes (rE_0 h2 h4 h6 h7)).1.trans (num_one b (by omega)), (rKBS_yes (rE_0 h2 h4 h6 h7)).2⟩))
  rw [num_one b (by omega)] at h2
  have h5 : 5 ≤ b.length := by omega
  have i1 : 1 < b.length := by omega
  have i2 : 2 < b.length := by omega
  have i3 : 3 < b.length := by omega
  have i4 : 4 < b.length := by omega
  have j1 : (1 : Int) < (b.length : Int) := by omega
  have j2 : (2 : Int) < (b.length : Int) := by omega
  have j3 : (3 : Int) < (b.length : Int) := by omega
  have j4 : (4 : Int) < (b.length : Int) := by omega
  have k0 : Kp [] w ((w.alloc (.cells z2 25)).alloc (.cells z2 25)) := ((Kp.refl [] w).alloc _).alloc _
  obtain ⟨A', c', hv, hn1, hn2, hA, hcell⟩ := rd_get2 (rd_old hx k0)
  cases hv
  have hc0 : ((w.alloc (.cells z2 25)).alloc (.cells z2 25)).cell? ad = some (.int .u8 (b[0].toNat : Int)) := hcell ad rfl 0 (by omega)
  have hc1 := hcell ad rfl 1 (by omega)
  have hc2 := hcell ad rfl 2 (by omega)
  have hc3 := hcell ad rfl 3 (by omega)
  have hc4 := hcell ad rfl 4 (by omega)
  have hr4 := rn_four b h5
  have hd1 := hc1
  have hd2 := hc2
  have hd3 := hc3
  have hd4 := hc4
  simp only [Addr.add, Nat.reduceEqDiff, if_false] at hd1 hd2 hd3 hd4
  have hq1 := b[1].toNat_lt
  have hq2 := b[2].toNat_lt
  have hq3 := b[3].toNat_lt
  have hq4 := b[4].toNat_lt
  generalize b[0].toNat = q0 at *
  generalize b[1].toNat = q1 at *
  generalize b[2].toNat = q2 at *
  generalize b[3].toNat = q3 at *
  generalize b[4].toNat = q4 at *
  obtain ⟨A4, c4, run4, rd4, _⟩ := cut_lh (some ad) b.length c 5 (rn b) 5 (5 + (rn b : Int)) (by omega) (by omega) (by omega) hn1
  obtain ⟨A3, c3, run3, rd3, _⟩ := cut_hi (some ad) b.length c (rn b + 5) (5 + (rn b : Int)) (by omega) (by omega) hn1
  obtain ⟨A2, c2, run2, rd2, _⟩ := cut_lh (some ad) b.length c (rn b + 5) 4 (5 + (rn b : Int)) (9 + (rn b : Int)) (by omega) (by omega) (by omega) hn1
  have R2 : Hid (∀ W, Kp [] w W → Rd W 1 (.slice A2 4 c2) 4 (bv ((b.drop (rn b + 5)).take 4))) := Lib.hid (fun W k => rd2 W b (rd_old hx k))
  have R3 : Hid (∀ W, Kp [] w W → Rd W 1 (.slice A3 (rn b + 5) c3) (rn b + 5) (bv (b.take (rn b + 5)))) := Lib.hid (fun W k => by have := rd3 W b (rd_old hx k); rwa [List.drop_zero] at this)
  have hbl : ((b.drop 5).take (rn b)).length = rn b := by rw [List.length_take, List.length_drop]; omega
  have R4 : Hid (∀ W, Kp [] w W → Rd W 1 (.slice A4 (rn b) c4) ((b.drop 5).take (rn b)).length (bv ((b.drop 5).take (rn b)))) := Lib.hid (fun W k => by rw [hbl]; exact rd4 W b (rd_old hx k))
  have Hbl := Lib.hid hbl
  generalize hsum : le4 (crc (b.take (rn b + 5))) = sm at *
  generalize hgot : (b.drop (rn b + 5)).take 4 = got at *
  have HEn : Hid (∀ W v, Rd W 1 v (rn b + 5) (bv (b.take (rn b + 5))) → Calls Try.prog 40 #[v] W (NewRow sm W)) := Lib.hid (fun W v h => by rw [← hsum]; exact rends_any v (b.take (rn b + 5)) _ W h)
  have HX := Lib.hid hx
  generalize hbody : (b.drop 5).take (rn b) = body at *
  clear rd2 rd3 rd4 hsum hgot hbl hbody hx
  generalize rn b = n at *
  have hN : (q1 : Int) * 16777216 + (q2 : Int) * 65536 + (q3 : Int) * 256 + (q4 : Int) = (n : Int) := by omega
  have HN := Lib.hid hN
  have R4b : Hid (∀ W, Kp [] w W → Rd W 1 (.slice A4 n c4) n (bv body)) := Lib.hid (fun W k => by have := R4.out W k; rwa [Hbl.out] at this)
  clear hcell k0 hr4 hN
  unfold maxLen at hn2
  go_enter Try.func25, Try.ntmps25
  go_wp2
  go_quiet (fail)
  rw [HN.out]
  have B0d : Hid (Blk (((w.alloc (.cells z2 25)).alloc (.cells z2 25)).drewN nq).drew w.heap.size 25 z2 ∧ Blk (((w.alloc (.cells z2 25)).alloc (.cells z2 25)).drewN nq).drew (w.heap.size + 1) 25 z2) := Lib.hid ⟨((((Blk.new w 25 z2).alloc (.cells z2 25)).drewN nq).drew), by have := Blk.new (w.alloc (.cells z2 25)) 25 z2; rw [World.size_alloc] at this; exact (this.drewN nq).drew⟩
  have Hc0 : Hid ((((w.alloc (.cells z2 25)).alloc (.cells z2 25)).drewN nq).cell? ad = some (.int .u8 (q0 : Int))) := Lib.hid (cell_kept hc0 ((Kp.refl [] _).drewN nq))
  have K0d : Hid (Kp [] w (((w.alloc (.cells z2 25)).alloc (.cells z2 25)).drewN nq).drew) := Lib.hid (((((Kp.refl [] w).alloc _).alloc _).drewN nq).drew)
  have B0d : Hid (Blk (((w.alloc (.cells z2 25)).alloc (.cells z2 25)).drewN nq).drew w.heap.size 25 z2 ∧ Blk (((w.alloc (.cells z2 25)).alloc (.cells z2 25)).drewN nq).drew (w.heap.size + 1) 25 z2) := Lib.hid ⟨((((Blk.new w 25 z2).alloc (.cells z2 25)).drewN nq).drew), by have := Blk.new (w.alloc (.cells z2 25)) 25 z2; rw [World.size_alloc] at this; exact (this.drewN nq).drew⟩
  clear hc0 hc1 hc2 hc3 hc4 hd1 hd2 hd3 hd4
  go_wp2
  refine wp_region_invL (fun i v W => match i with
      | 0 => v = .slice (some ad) b.length c | 1 => v = .pointer (some ad) | 2 => v = .int .u8 (q0 : Int) | 3 => v = .slice (some ad) b.length c | 4 => v = .int .i64 (n : Int) | 5 => v = .int .i64 (5 + (n : Int)) | 6 => v = .slice A4 n c4
      | 7 => Ow W 5 1 v body.length (bv body) ∧ ∀ g, v.ownBlock = some g → w.heap.size + 1 < g
      | 8 => ∃ u, v = .agg #[.int .u8 (q0 : Int), u] ∧ Ow W 5 1 u body.length (bv body) ∧ ∀ g, u.ownBlock = some g → w.heap.size + 1 < g
      | 9 => ∃ g, v = .pointer (some ⟨g, 0, none⟩) ∧ Blk W g 25 z2 ∧ w.heap.size + 1 < g | _ => True) (by kernel_rfl) 10 (by kernel_rfl) (by kernel_rfl) (by kernel_rfl) (by kernel_rfl) ?_ ?_ ?_
  · intro i v W W' h hk
    iterate 10 (rcases i with _ | i; first | exact h | exact ⟨ow_kp h.1 hk (by simp), h.2⟩ | (obtain ⟨u, h1, h2, h3⟩ := h; exact ⟨u, h1, ow_kp h2 hk (by simp), h3⟩) | (obtain ⟨u, h1, h2, h3⟩ := h; exact ⟨u, h1, h2.kp hk (by simp), h3⟩))
    trivial
  · refine ⟨?_, ?_, ?_, ?_, ?_, ?_, ?_, ?_, ?_, ?_, trivial⟩
    · intro vs A' W hA hW hd K hK
      have e0 : A'.tmps[0]?.getD undef = (.slice (some ad) b.length c : Value) := slot_is hA (by kernel_rfl) (Nat.le_of_ble_eq_true (by kernel_rfl)) (by kernel_rfl)
      go_step
      exact hK _ _ (Kp.refl _ _) rfl
    · intro vs A' W hA hW hd K hK
      have f0 : vs 0 = (.slice (some ad) b.length c : Value) := hd 0 (by kernel_rfl)
      have e52 : A'.tmps[52]?.getD undef = vs 0 := slot_is hA (by kernel_rfl) (Nat.le_of_ble_eq_true (by kernel_rfl)) (by kernel_rfl)
      rw [f0] at e52
      have h00 : 0 < b.length := by omega
      go_step
      exact hK _ _ (Kp.refl _ _) rfl
    · intro vs A' W hA hW hd K hK
      have f1 : vs 1 = (.pointer (some ad) : Value) := hd 1 (by kernel_rfl)
      have e53 : A'.tmps[53]?.getD undef = vs 1 := slot_is hA (by kernel_rfl) (Nat.le_of_ble_eq_true (by kernel_rfl)) (by kernel_rfl)
      rw [f1] at e53
      have hc : W.cell? ad = some (.int .u8 (q0 : Int)) := cell_kept Hc0.out (Kp.of_drew hW)
      go_step
      exact hK _ _ (Kp.refl _ _) rfl
    · intro vs A' W hA hW hd K hK
      have e0 : A'.tmps[0]?.getD undef = (.slice (some ad) b.length c : Value) := slot_is hA (by kernel_rfl) (Nat.le_of_ble_eq_true (by kernel_rfl)) (by kernel_rfl)
      go_step
      exact hK _ _ (Kp.refl _ _) rfl
    · intro vs A' W hA hW hd K hK
      have e6 : A'.tmps[6]?.getD undef = (.int .i64 (n : Int) : Value) := slot_is hA (by kernel_rfl) (Nat.le_of_ble_eq_true (by kernel_rfl)) (by kernel_rfl)
      go_step
      exact hK _ _ (Kp.refl _ _) rfl
    · intro vs A' W hA hW hd K hK
      have f4 : vs 4 = (.int .i64 (n : Int) : Value) := hd 4 (by kernel_rfl)
      have e56 : A'.tmps[56]?.getD undef = vs 4 := slot_is hA (by kernel_rfl) (Nat.le_of_ble_eq_true (by kernel_rfl)) (by kernel_rfl)
      rw [f4] at e56
      go_step
      exact hK _ _ (Kp.refl _ _) rfl
    · intro vs A' W hA hW hd K hK
      have f3 : vs 3 = (.slice (some ad) b.length c : Value) := hd 3 (by kernel_rfl)
      have e55 : A'.tmps[55]?.getD undef = vs 3 := slot_is hA (by kernel_rfl) (Nat.le_of_ble_eq_true (by kernel_rfl)) (by kernel_rfl)
      rw [f3] at e55
      have f5 : vs 5 = (.int .i64 (5 + (n : Int)) : Value) := hd 5 (by kernel_rfl)
      have e57 : A'.tmps[57]?.getD undef = vs 5 := slot_is hA (by kernel_rfl) (Nat.le_of_ble_eq_true (by kernel_rfl)) (by kernel_rfl)
      rw [f5] at e57
      go_step
      exact hK _ _ (Kp.refl _ _) rfl
    · intro vs A' W hA hW hd K hK
      have f6 : vs 6 = (.slice A4 n c4 : Value) := hd 6 (by kernel_rfl)
      have e58 : A'.tmps[58]?.getD undef = vs 6 := slot_is hA (by kernel_rfl) (Nat.le_of_ble_eq_true (by kernel_rfl)) (by kernel_rfl)
      rw [f6] at e58
      obtain ⟨i0, hi, hz0, hz1, hz2⟩ := info_parts Try.infoU8
      have hWs := hW.size
      simp at hWs
      refine op_app (.const (.slice none 0 0)) (.tmp 58) _ rfl 5 i0 _ 1 1 Try.underlying23 hi hz0 hz1 hz2 rfl (by decide) (.slice none 0 0) 0 [] rfl (World.ownsRow_nil _ _ _ _) (.slice A4 n c4) n (bv body) (by simpa [Act.eval] using e58) (R4b.out W (K0d.out.trans hW (by simp))) (bv_one _) (by unfold maxLen; omega) (by omega) ?_
      intro v' w' h1 h2 h3
      refine hK v' w' (Kp.of_grown h2) ⟨by rw [Hbl.out]; simpa using h1, fun g hg => ?_⟩
      rcases h3 with h3 | h3
      · rw [h3] at hg; simp [Value.ownBlock] at hg
      · rw [h3] at hg; injection hg with hg; omega
    · intro vs A' W hA hW hd K hK
      have f2 : vs 2 = (.int .u8 (q0 : Int) : Value) := hd 2 (by kernel_rfl)
      have e54 : A'.tmps[54]?.getD undef = vs 2 := slot_is hA (by kernel_rfl) (Nat.le_of_ble_eq_true (by kernel_rfl)) (by kernel_rfl)
      rw [f2] at e54
      have f7 := hd 7 (by kernel_rfl)
      have e59 : A'.tmps[59]?.getD undef = vs 7 := slot_is hA (by kernel_rfl) (Nat.le_of_ble_eq_true (by kernel_rfl)) (by kernel_rfl)
      obtain ⟨A7, c7, hv7, _, _⟩ := ow_form f7.1
      rw [hv7] at e59 f7
      go_step
      exact hK _ _ (Kp.refl _ _) ⟨_, rfl, f7⟩
    · intro vs A' W hA hW hd K hK
      have hWs := hW.size
      simp at hWs
      go_step
      exact hK _ _ ((Kp.refl _ _).alloc _) ⟨_, rfl, Blk.new _ _ _, by omega⟩
  · intro vs A' W hA hW hp
    simp only [LastWp, lastOp]
    have h8 := hp 8 (by decide)
    have h9 := hp 9 (by decide)
    clear hp
    simp only at h8 h9
    obtain ⟨u, h81, h82, h83⟩ := h8
    obtain ⟨g7, h91, h92, h93⟩ := h9
    obtain ⟨A7, c7, hv7, _, _⟩ := ow_form h82
    subst hv7
    have e60 : A'.tmps[60]?.getD undef = vs 8 := slot_is hA (by kernel_rfl) (Nat.le_of_ble_eq_true (by kernel_rfl)) (by kernel_rfl)
    have e7 : A'.tmps[7]?.getD undef = vs 9 := slot_is hA (by kernel_rfl) (Nat.le_of_ble_eq_true (by kernel_rfl)) (by kernel_rfl)
    rw [h81] at e60
    rw [h91] at e7
    have KW := K0d.out.trans hW (by simp)
    have hb0 := (B0d.out.1.kp hW (by simp))
    have hb1 := (B0d.out.2.kp hW (by simp))
    have S7 := Lib.hid (RS.mk' (q0 := q0) KW hb0 hb1 h92 h93 h82 h83)
    clear KW hb0 hb1 h82 h83 hW h81
    obtain ⟨d0, d1, x0, x1, x2⟩ := h92.c2
    go_step
    clear d0 d1 x0 x1 x2 h92 e60 e7
    generalize (W.setCell ⟨g7, 0, none⟩ (.int .u8 (q0 : Int))).setCell ⟨g7, 1, none⟩ (.slice A7 body.length c7) = W2 at *
    rw [← hA]
    dsimp only [List.dropLast, putAll, Act.put]
    simp only [List.setIfInBounds_toArray, List.set_cons_succ, List.set_cons_zero, h91]
    clear hA h91
    have S7d := Lib.hid (S7.out.kp ((Kp.refl [] W2).drew))
    go_wp2
    refine wp_region_lexf [4, 5] [] (fun V : World => Kp [] w V) (by kernel_rfl) (by kernel_rfl) S7d.out.k (fun σ hne f hf hsur => ?_); have Hsur := Lib.hid hsur; clear hsur
    go_wp2_with (first
      | (go_at_call 40; ((with_reducible refine (HEn.out _ _ (R3.out _ S7d.out.k)).mono ?_); rintro e w4 ⟨v4, rfl, o4, k4, f4⟩; obtain ⟨A8, c8, rfl, _, _⟩ := ow_form o4; have S8 := Lib.hid (S7d.out.kp k4); have hs4 := strB (Rd.of_own o4); obtain ⟨c01, c02, c03, c04, c05⟩ := S8.out.b0.c2; obtain ⟨c11, c12, c13, c14, c15⟩ := S8.out.b1.c2; obtain ⟨c71, c72, c73, c74, c75⟩ := S8.out.b7.c2; clear o4 k4 f4))
      | (refine lex_qk (.string ⟨got.toArray⟩) rfl rfl (fun V hV => exec_conv rfl rfl (strB (R2.out V hV))) ?_; intro K hK; go_simp; refine hK _ _ ?_; clear hK K)
      | (refine lex_qq Hsur.out rfl rfl rfl ?_; intro K hK; go_big_quiet_op; go_big_quiet_on) | (refine lex_skipk rfl ?_; intro K hK; go_simp; refine hK _ _ ?_; clear hK K) | (refine lex_e rfl rfl ?_; intro K hK; go_step) | (refine lex_nil ?_)
      | ((with_reducible apply And.intro); · (intro hl; first | (exact ls_absurd hl rfl) | exact S8.out.k)))
    · rename_i hsg
      have hsg' : (got == sm) = false := by simp at hsg ⊢; exact fun h => hsg h.symm
      have KK := (((Kp.refl [w.heap.size] w4).setCell (p := ⟨w.heap.size, 0, none⟩) (.inl (by simp)) (.int .u8 0)).setCell (p := ⟨w.heap.size, 1, none⟩) (.inl (by simp)) (.slice none 0 0))
      have BB := (S8.out.b0.set_ 0 (.int .u8 0)).set_ 1 (.slice none 0 0)
      refine bodyPost_ret (v := .tuple #[.agg #[.int .u8 0, .slice none 0 0], .int .i64 0, .int .i64 ((172 : Nat) : Int)]) (results_cell_tmp2 (u := 3) (u2 := 4) (by rfl) rfl BB Try.underlying25 rfl (by rw [Try.infoRec]; rfl)) rfl (read3_no (HEa.out hsg') (by decide) (S8.out.k.trans KK (fun g hg => by simp at hg; right; omega)))
    · rename_i hsg
      have hsg' : (got == sm) = true := by simp at hsg ⊢; exact hsg.symm
      obtain ⟨y0, y1, y2, y3⟩ := HEb.out hsg'
      have KK := (((Kp.refl [w.heap.size] w4).setCell (p := ⟨w.heap.size, 0, none⟩) (.inl (by simp)) (.int .u8 q0)).setCell (p := ⟨w.heap.size, 1, none⟩) (.inl (by simp)) (.slice A7 body.length c7))
      have BB := (S8.out.b0.set_ 0 (.int .u8 q0)).set_ 1 (.slice A7 body.length c7)
      refine bodyPost_ret (v := .tuple #[.agg #[.int .u8 q0, .slice A7 body.length c7], .int .i64 ((n : Int) + 9), .int .i64 ((0 : Nat) : Int)]) (results_cell_tmp2 (u := 3) (u2 := 4) (by rfl) rfl BB Try.underlying25 rfl (by rw [Try.infoRec]; rfl)) rfl ?_
      refine ⟨_, by rw [y1, y3, y0]; rfl, ?_, S8.out.k.trans KK (fun g hg => by simp at hg; right; omega), fun g hg => Nat.le_of_lt (by have := S8.out.ub g hg; omega)⟩
      rw [y2]
      exact ow_kp S8.out.u KK (fun g hg hm => by have := S8.out.ub g hg; simp at hm; omega)
/-- The reference's Read. -/
theorem rread_any (A : Option Addr) (c : Nat) (b : List UInt8) (w : World) (hx : Rd w 1 (.slice A b.length c) b.length (bv b)) (hn : b.length + 64 ≤ 140737488355328) :
    Calls Try.prog 25 #[.slice A b.length c] w (Read3 b w) := by
  by_cases h1 : b.length < 1
  · exact rread_1 A c b w h1
  obtain ⟨ad, rfl⟩ : ∃ ad, A = some ad := by
    cases A with
    | none =>
      obtain ⟨A', c', hv, _, _, hA, _⟩ := rd_get2 hx
      cases hv
      have := hA rfl
      omega
    | some ad => exact ⟨ad, rfl⟩
  by_cases h2 : num (b.take 1) = 0
  · exact rread_2 ad c b w hx (by omega) h2
  by_cases h3 : b.length < 5
  · exact rread_3 ad c b w hx (by omega) h2 h3
  by_cases h4 : 8388608 < rn b
  · exact rread_4 ad c b w hx h2 h3 h4
  by_cases h6 : b.length < rn b + 9
  · exact rread_5 ad c b w hx h2 h3 h4 h6
  exact rread_6 ad c b w hx hn h2 h3 h4 h6
end Go.Proofs.Ytnchjfhmalbjoaa
/- What scanning answers; a row of records in memory. -/
namespace Go.Proofs.Ytnchjfhmalbjoaa
open Go.RowKit

def recOf (b : List UInt8) : Rec := (UInt8.ofNat (rK b), rB b)
theorem recOf_kind (b : List UInt8) : (recOf b).1.toNat = rK b := by
  unfold recOf
  simp only [UInt8.toNat_ofNat']
  exact Nat.mod_eq_of_lt (rK_lt b)
structure Sc where
  recs : List Rec
  places : List Nat
  good : Nat
def goes (b : List UInt8) (s : Sc) : Prop := s.good < b.length ∧ rE (b.drop s.good) = 0
instance (b : List UInt8) (s : Sc) : Decidable (goes b s) := inferInstanceAs (Decidable (_ ∧ _))
def scStep (b : List UInt8) (s : Sc) : Sc := if goes b s then ⟨s.recs ++ [recOf (b.drop s.good)], s.places ++ [s.good], s.good + rS (b.drop s.good)⟩ else s
def scN (b : List UInt8) : Nat → Sc
  | 0 => ⟨[], [], 0⟩
  | k + 1 => scStep b (scN b k)
def sc (b : List UInt8) : Sc := scN b b.length
def why (b : List UInt8) : Nat := if (sc b).good < b.length then rE (b.drop (sc b).good) else 0
theorem scN_succ {b : List UInt8} {k : Nat} (h : goes b (scN b k)) : scN b (k + 1) = ⟨(scN b k).recs ++ [recOf (b.drop (scN b k).good)], (scN b k).places ++ [(scN b k).good], (scN b k).good + rS (b.drop (scN b k).good)⟩ := if_pos h
theorem scN_stop {b : List UInt8} {k : Nat} (h : ¬ goes b (scN b k)) : ∀ j, scN b (k + j) = scN b k
  | 0 => rfl
  | j + 1 => by
    show scStep b (scN b (k + j)) = _
    rw [scN_stop h j]
    exact if_neg h
theorem rS_of {b : List UInt8} (h : rE b = 0) : 9 ≤ rS b ∧ rS b ≤ b.length := by
  obtain ⟨h1, h2, h3, h4⟩ := rE_ok h
  rw [(rKBS_yes h).2.2]
  omega
theorem scN_good (b : List UInt8) (k : Nat) : (scN b k).good ≤ b.length := by
  induction k with
  | zero => exact Nat.zero_le _
  | succ k ih =>
    by_cases h : goes b (scN b k)
    · rw [scN_succ h]
      have := (rS_of h.2).2
      rw [List.length_drop] at this
      show (scN b k).good + rS (b.drop (scN b k).good) ≤ _
      omega
    · rw [show scN b (k + 1) = scN b k from scN_stop h 1]; exact ih
theorem scN_places (b : List UInt8) (k : Nat) : (scN b k).places.length = (scN b k).recs.length := by
  induction k with
  | zero => rfl
  | succ k ih =>
    by_cases h : goes b (scN b k)
    · rw [scN_succ h]; simp [ih]
    · rw [show scN b (k + 1) = scN b k from scN_stop h 1]; exact ih
/-- Where the loop stops after k rounds that went. -/
theorem sc_at {b : List UInt8} {k : Nat} (hk : k ≤ b.length) (h : ¬ goes b (scN b k)) : sc b = scN b k := by
  unfold sc
  rw [← scN_stop h (b.length - k)]
  congr 1
  omega
theorem sc_le (b : List UInt8) (k : Nat) : (scN b k).recs.length ≤ k := by
  induction k with
  | zero => exact Nat.le_refl _
  | succ k ih =>
    by_cases h : goes b (scN b k)
    · rw [scN_succ h]; simp; omega
    · rw [show scN b (k + 1) = scN b k from scN_stop h 1]; omega
theorem why_of {b : List UInt8} {k : Nat} (h : sc b = scN b k) (hl : (scN b k).good < b.length) : why b = rE (b.drop (scN b k).good) := by
  unfold why; rw [h, if_pos hl]
theorem why_end {b : List UInt8} {k : Nat} (h : sc b = scN b k) (hl : ¬ (scN b k).good < b.length) : why b = 0 := by
  unfold why; rw [h, if_neg hl]

/-- A row of records: its cells, with the bodies' slices. -/
def recCells : List Rec → List Value → List Value
  | r :: rs, B :: Bs => Value.int .u8 (r.1.toNat : Int) :: B :: recCells rs Bs
  | _, _ => []
def bodiesR : List Rec → List Value → List Res
  | r :: rs, B :: Bs => rowR 5 1 B r.2.length (bv r.2) :: bodiesR rs Bs
  | _, _ => []
theorem recCells_snoc : ∀ (rs : List Rec) (Bs : List Value) (r : Rec) (B : Value), rs.length = Bs.length → recCells (rs ++ [r]) (Bs ++ [B]) = recCells rs Bs ++ [Value.int .u8 (r.1.toNat : Int), B]
  | [], [], _, _, _ => rfl
  | _ :: rs, _ :: Bs, r, B, h => by simp only [List.cons_append, recCells, recCells_snoc rs Bs r B (by simpa using h)]
  | [], _ :: _, _, _, h => by simp at h
  | _ :: _, [], _, _, h => by simp at h
theorem bodiesR_snoc : ∀ (rs : List Rec) (Bs : List Value) (r : Rec) (B : Value), rs.length = Bs.length → bodiesR (rs ++ [r]) (Bs ++ [B]) = bodiesR rs Bs ++ [rowR 5 1 B r.2.length (bv r.2)]
  | [], [], _, _, _ => rfl
  | _ :: rs, _ :: Bs, r, B, h => by simp only [List.cons_append, bodiesR, bodiesR_snoc rs Bs r B (by simpa using h)]
  | [], _ :: _, _, _, h => by simp at h
  | _ :: _, [], _, _, h => by simp at h
def natCells (l : List Nat) : List Value := l.map fun (n : Nat) => Value.int .i64 (n : Int)
theorem natCells_snoc (l : List Nat) (n : Nat) : natCells (l ++ [n]) = natCells l ++ [Value.int .i64 (n : Int)] := by simp [natCells]
/-- What the call itself holds: the list of records, the list of places, the bodies. -/
def scR (v p : Value) (s : Sc) (Bs : List Value) : List Res :=
  rowR 25 2 v s.recs.length (recCells s.recs Bs) :: rowR 3 1 p s.places.length (natCells s.places) :: bodiesR s.recs Bs
theorem scR_snoc {v p u : Value} {rs : List Rec} {ps : List Nat} {gd gd' : Nat} {Bs : List Value} (rc : Rec) (h : rs.length = Bs.length) :
    scR v p ⟨rs ++ [rc], ps ++ [gd], gd'⟩ (Bs ++ [u]) = rowR 25 2 v (rs.length + 1) (recCells rs Bs ++ [Value.int .u8 (rc.1.toNat : Int), u]) :: rowR 3 1 p (ps.length + 1) (natCells ps ++ [Value.int .i64 (gd : Int)]) :: (bodiesR rs Bs ++ [rowR 5 1 u rc.2.length (bv rc.2)]) := by
  unfold scR
  simp only [recCells_snoc rs Bs rc u h, bodiesR_snoc rs Bs rc u h, natCells_snoc, List.length_append, List.length_singleton]
/-- What Scan leaves. -/
def ScanPost (b : List UInt8) (w : World) (e : Ending) (w' : World) : Prop :=
  ∃ v p Bs, e = .returned (.agg #[v, p, .int .i64 ((sc b).good : Int), .int .i64 (why b : Int)]) ∧ (sc b).recs.length = Bs.length ∧ Held w w' (scR v p (sc b) Bs)
theorem Try.infoScanned : (Try.prog.info? 40).map (·.size) = some 4 := by kernel_rfl
theorem Try.infoRec2 : (Try.prog.info? 25).map (fun i => (i.zero, i.size, i.bytes)) = some (some (.agg #[.int .u8 0, .slice none 0 0]), 2, 32) := by kernel_rfl
theorem Try.infoInt : (Try.prog.info? 3).map (fun i => (i.zero, i.size, i.bytes)) = some (some (.int .i64 0), 1, 8) := by kernel_rfl
abbrev z4 : Array Value := #[.slice none 0 0, .slice none 0 0, .int .i64 0, .int .i64 0]
end Go.Proofs.Ytnchjfhmalbjoaa
/- Scan. -/
namespace Go.Proofs.Ytnchjfhmalbjoaa
open Go.RowKit
theorem rd_two {w : World} {t : TypeId} {a b : Value} {g : Nat} (hg : g = w.heap.size) : Rd (w.alloc (.cells #[a, b] t)) 2 (.slice (some ⟨g, 0, none⟩) 1 1) 1 [a, b] := by
  subst hg
  exact Rd.of_own (ow_new w t 2 1 #[a, b] rfl (by decide))
theorem rd_one {w : World} {t : TypeId} {a : Value} {g : Nat} (hg : g = w.heap.size) : Rd (w.alloc (.cells #[a] t)) 1 (.slice (some ⟨g, 0, none⟩) 1 1) 1 [a] := by
  subst hg
  exact Rd.of_own (ow_new w t 1 1 #[a] rfl (by decide))
set_option maxRecDepth 100000 in
set_option maxHeartbeats 2000000 in
theorem scan_any (A : Option Addr) (c : Nat) (b : List UInt8) (w : World) (hx : Rd w 1 (.slice A b.length c) b.length (bv b)) (hn : b.length + 64 ≤ 140737488355328) (hs : 40 * b.length ≤ 140737488355328) :
    Calls Try.prog 19 #[.slice A b.length c] w (ScanPost b w) := by
  obtain ⟨i0, hi, hz0, hz1, hz2⟩ := info_parts Try.infoRec2
  obtain ⟨i1, hj, hy0, hy1, hy2⟩ := info_parts Try.infoInt
  have Hx := Lib.hid hx
  have hnc : b.length ≤ c := by obtain ⟨_, _, _, hv, h1, _⟩ := hx; cases hv; exact h1
  clear hx
  go_enter Try.func19, Try.ntmps19
  go_wp2
  have S0 : Held w w [] := Held.start w
  have S1 : Hid (Held w ((((w.alloc (.cells z4 40)).alloc (.cells #[] 25)).alloc (.cells #[] 3)).alloc (.cells #[.slice (some ⟨w.heap.size + 1, 0, none⟩) 0 0, .slice (some ⟨w.heap.size + 1 + 1, 0, none⟩) 0 0, .int .i64 0, .int .i64 0] 40)) (blkR (w.heap.size + 1 + 1 + 1) 40 #[.slice (some ⟨w.heap.size + 1, 0, none⟩) 0 0, .slice (some ⟨w.heap.size + 1 + 1, 0, none⟩) 0 0, .int .i64 ((scN b 0).good : Int), .int .i64 0] :: blkR w.heap.size 40 z4 :: scR (.slice (some ⟨w.heap.size + 1, 0, none⟩) 0 0) (.slice (some ⟨w.heap.size + 1 + 1, 0, none⟩) 0 0) (scN b 0) [])) := Lib.hid (by
    have a1 := S0.new (blkR w.heap.size 40 z4) ((Kp.refl [] w).alloc (.cells z4 40)) (Blk.new _ _ _) (fun b hb => by simp [blkR] at hb; omega)
    have o1 := ow_new (w.alloc (.cells z4 40)) 25 2 0 #[] rfl (by decide)
    have a2 := a1.rownew o1 ((Kp.refl [] _).alloc _) (fun g hg => by simp [Value.ownBlock] at hg; simp; omega)
    have o2 := ow_new ((w.alloc (.cells z4 40)).alloc (.cells #[] 25)) 3 1 0 #[] rfl (by decide)
    have a3 := a2.rownew o2 ((Kp.refl [] _).alloc _) (fun g hg => by simp [Value.ownBlock] at hg; simp; omega)
    have a4 := a3.new (blkR (w.heap.size + 1 + 1 + 1) 40 #[.slice (some ⟨w.heap.size + 1, 0, none⟩) 0 0, .slice (some ⟨w.heap.size + 1 + 1, 0, none⟩) 0 0, .int .i64 0, .int .i64 0]) ((Kp.refl [] _).alloc (.cells #[.slice (some ⟨w.heap.size + 1, 0, none⟩) 0 0, .slice (some ⟨w.heap.size + 1 + 1, 0, none⟩) 0 0, .int .i64 0, .int .i64 0] 40)) (by have := Blk.new (((w.alloc (.cells z4 40)).alloc (.cells #[] 25)).alloc (.cells #[] 3)) 40 #[.slice (some ⟨w.heap.size + 1, 0, none⟩) 0 0, .slice (some ⟨w.heap.size + 1 + 1, 0, none⟩) 0 0, .int .i64 0, .int .i64 0]; simpa [blkR] using this) (fun b hb => by simp [blkR] at hb; simp; omega)
    simp only [World.size_alloc] at a4
    refine a4.perm ?_
    refine List.Perm.cons _ ?_
    exact (List.perm_middle (l₁ := [_, _]) (l₂ := [])).trans (List.Perm.cons _ (List.Perm.swap _ _ _)))
  clear S0
  go_step3
  go_wp2
  go_step3
  go_wp2
  obtain ⟨g1, hg1⟩ : ∃ g1, (w.heap.size + 1 + 1 + 1) = g1 := ⟨_, rfl⟩
  have hne : ¬ g1 = w.heap.size := by omega
  have hne2 : ¬ w.heap.size = g1 := by omega
  rw [hg1] at S1 ⊢
  clear hg1
  go_loopg [] (b.length + 1) (fun gk wr => ∃ (k : Nat) (v p : Value) (Bs : List Value), k + gk = b.length + 1 ∧ k ≤ (scN b k).good ∧ (scN b k).recs.length = Bs.length ∧
    Held w wr (blkR g1 40 #[v, p, .int .i64 ((scN b k).good : Int), .int .i64 0] :: blkR w.heap.size 40 z4 :: scR v p (scN b k) Bs))
  case atStart => exact ⟨0, _, _, [], by omega, Nat.zero_le _, rfl, S1.out⟩
  case round =>
    clear S1
    obtain ⟨k, v, p, Bs, hkg, hkk, hBs, S⟩ := hrel
    have hgl := scN_good b k
    have hpl := scN_places b k
    have hrl := sc_le b k
    by_cases hlt : (scN b k).good < b.length
    · obtain ⟨A1, c1, run1, rd1, _⟩ := cut_lo A b.length c (scN b k).good (b.length - (scN b k).good) ((scN b k).good : Int) rfl (by omega)
      have hdl : (b.drop (scN b k).good).length = b.length - (scN b k).good := List.length_drop ..
      have HR : Hid (∀ W, Kp [] w W → Calls Try.prog 37 #[.slice A1 (b.length - (scN b k).good) c1] W (ReadPost (b.drop (scN b k).good) W)) := Lib.hid (fun W kk => by
        have h1 := rd1 W b (rd_old Hx.out kk)
        rw [List.take_of_length_le (by omega)] at h1
        have := read_any A1 c1 (b.drop (scN b k).good) W (by rw [hdl]; exact h1) (by rw [hdl]; omega)
        rwa [hdl] at this)
      have HP : Hid (ReadPost = ReadPost) := Lib.hid rfl
      unfold ReadPost at HR
      by_cases hE : rE (b.drop (scN b k).good) = 0
      · have hgo : goes b (scN b k) := ⟨hlt, hE⟩
        have Hs := Lib.hid (scN_succ hgo)
        have hsz := rS_of hE
        rw [hdl] at hsz
        have Hrec := Lib.hid (recOf_kind (b.drop (scN b k).good))
        have Hrb : Hid ((recOf (b.drop (scN b k).good)).2 = rB (b.drop (scN b k).good)) := Lib.hid rfl
        rw [hE] at HR
        have HB := Lib.hid hBs
        have HPL := Lib.hid hpl
        have hpl2 : (scN b k).places.length ≤ b.length := by omega
        have hrl2 : (scN b k).recs.length ≤ b.length := by omega
        clear hE hgo hdl rd1 hBs HP hpl
        generalize hs' : scN b k = s at *
        have Hk := Lib.hid hs'
        clear hs'
        obtain ⟨rs, ps, gd⟩ := s
        simp only at *
        generalize recOf (b.drop gd) = rc at *
        have hkl := rK_lt (b.drop gd)
        generalize rK (b.drop gd) = kd at *
        generalize rB (b.drop gd) = bd at *
        generalize rS (b.drop gd) = sz at *
        have S9 := Lib.hid S
        obtain ⟨c1', c2', c3', c4', c5', c6', c7', c8', c9'⟩ := (S.at_ (l1 := [])).c4
        obtain ⟨Av, cv, hv, _, _⟩ := ow_form (S.at_ (l1 := [_, _]))
        obtain ⟨Ap, cp, hp, _, _⟩ := ow_form (S.at_ (l1 := [_, _, _]))
        subst hv hp
        clear S
        have KW := Lib.hid S9.out.k
        go_wp2_with fail
        refine (HR.out _ KW.out).mono ?_
        rintro e w5 ⟨u, rfl, o5, k5, f5⟩
        obtain ⟨Au, cu, hu, _, _⟩ := ow_form o5
        subst hu
        have f5' : ∀ g, (Value.slice Au bd.length cu).ownBlock = some g → wr.heap.size ≤ g := f5
        have S5 := Lib.hid (S9.out.rownew o5 k5 f5')
        have S6 := Lib.hid ((S5.out.newBlk 71 #[.int .u8 (kd : Int), .slice Au bd.length cu, .int .i64 (sz : Int)]).alloc (.cells #[.int .u8 (kd : Int), .slice Au bd.length cu] 25))
        obtain ⟨d1, d2, d3, d4, d5, d6, d7, d8, d9⟩ := (S5.out.at_ (l1 := [_])).c4
        have x8 : ¬ g1 = w5.heap.size := by omega
        have x9 : ¬ w5.heap.size = g1 := by omega
        clear o5 k5 f5 f5'
        go_wp2_with (first
          | (at_builtin; (refine wpList_app _ rfl (.tmp 27) (.tmp 30) _ rfl 25 i0 _ 2 32 Try.underlying22 hi hz0 hz1 hz2 rfl (by decide) (.slice Av rs.length cv) rs.length (recCells rs Bs) rfl (S6.out.at_ (l1 := [_, _, _, _])) (.slice (some ⟨w5.heap.size + 1, 0, none⟩) 1 1) 1 [.int .u8 (kd : Int), .slice Au bd.length cu] rfl (rd_two (by simp)) (by simp [Value.oneCell']) (by unfold maxLen; omega) (by omega) ?_; intro v7 w7 o7 g7 h7; obtain ⟨A7, c7, hv7, _, _⟩ := ow_form o7; subst hv7; have S7 := Lib.hid (S6.out.grow (l1 := [_, _, _, _]) o7 g7 h7); obtain ⟨d1, d2, d3, d4, d5, d6, d7, d8, d9⟩ := (S7.out.at_ (l1 := [_, _])).c4; obtain ⟨x1, x2, x3, x4, x5, x6, x7⟩ := (S7.out.at_ (l1 := [])).c3; have S8 := Lib.hid ((S7.out.set (l1 := [_, _]) 0 (.slice A7 (rs.length + 1) c7)).alloc (.cells #[.int .i64 (gd : Int)] 3)); clear o7 g7 h7))
          | (at_builtin; go_loud (refine wpList_app _ rfl (.tmp 34) (.tmp 37) _ rfl 3 i1 _ 1 8 Try.underlying38 hj hy0 hy1 hy2 rfl (by decide) (.slice Ap ps.length cp) ps.length (natCells ps) rfl (S8.out.at_ (l1 := [_, _, _, _, _])) (.slice (some ⟨w7.heap.size, 0, none⟩) 1 1) 1 [.int .i64 (gd : Int)] rfl (rd_one (by simp)) (by simp [Value.oneCell']) (by unfold maxLen; omega) (by omega) ?_; intro v10 w10 o10 g10 h10; obtain ⟨A10, c10, hv10, _, _⟩ := ow_form o10; subst hv10; have S10 := Lib.hid (S8.out.grow (l1 := [_, _, _, _, _]) o10 g10 h10); obtain ⟨d1, d2, d3, d4, d5, d6, d7, d8, d9⟩ := (show Blk w10 g1 40 #[.slice A7 (rs.length + 1) c7, .slice Ap ps.length cp, .int .i64 (gd : Int), .int .i64 0] from S10.out.at_ (l1 := [_, _])).c4; obtain ⟨x1, x2, x3, x4, x5, x6, x7⟩ := (S10.out.at_ (l1 := [])).c3; clear o10 g10 h10)))
        go_roundg (gk - 1)
        case measure => omega
        case rel =>
          refine ⟨k + 1, .slice A7 (rs.length + 1) c7, .slice A10 (ps.length + 1) c10, Bs ++ [.slice Au bd.length cu], by omega, ?_, ?_, ?_⟩
          · rw [Hs.out]; show k + 1 ≤ gd + sz; omega
          · rw [Hs.out]; simp [HB.out]
          · rw [Hs.out, scR_snoc rc HB.out, Hrec.out, Hrb.out]
            have S11 := ((S10.out.set (l1 := [_, _]) 1 (.slice A10 (ps.length + 1) c10)).set (l1 := [_, _]) 2 (.int .i64 ((gd : Int) + (sz : Int)))).drop.perm (List.perm_append_singleton _ _).symm
            exact S11
      · have hgo : ¬ goes b (scN b k) := fun h => hE h.2
        have hsc := sc_at (show k ≤ b.length by omega) hgo
        have Hwhy := Lib.hid (why_of hsc hlt)
        have Hsc := Lib.hid hsc
        have HB := Lib.hid hBs
        have hee : ¬ ((rE (b.drop (scN b k).good) : Nat) : Int) = 0 := by omega
        clear hE hgo hdl rd1 hBs HP hpl hsc
        generalize rE (b.drop (scN b k).good) = ee at *
        generalize rK (b.drop (scN b k).good) = kd at *
        generalize rB (b.drop (scN b k).good) = bd at *
        generalize rS (b.drop (scN b k).good) = sz at *
        generalize scN b k = s at *
        obtain ⟨rs, ps, gd⟩ := s
        simp only at *
        have S9 := Lib.hid S
        obtain ⟨c1', c2', c3', c4', c5', c6', c7', c8', c9'⟩ := (S.at_ (l1 := [])).c4
        obtain ⟨Av, cv, hv, _, _⟩ := ow_form (S.at_ (l1 := [_, _]))
        obtain ⟨Ap, cp, hp, _, _⟩ := ow_form (S.at_ (l1 := [_, _, _]))
        subst hv hp
        clear S
        have KW := Lib.hid S9.out.k
        go_wp2_with fail
        refine (HR.out _ KW.out).mono ?_
        rintro e w5 ⟨u, rfl, o5, k5, f5⟩
        obtain ⟨Au, cu, hu, _, _⟩ := ow_form o5
        subst hu
        have S5 := Lib.hid (S9.out.kp k5)
        obtain ⟨d1, d2, d3, d4, d5, d6, d7, d8, d9⟩ := (S5.out.at_ (l1 := [])).c4
        obtain ⟨r1, r2, r3, r4, r5, r6, r7, r8, r9⟩ := (S5.out.at_ (l1 := [_])).c4
        have x8 : ¬ g1 = w5.heap.size := by omega
        have x9 : ¬ w5.heap.size = g1 := by omega
        clear o5 k5 f5
        go_wp2
        rw [Exit.noGoto_ret]
        have KK := ((((((Kp.refl [g1, w.heap.size] w5).setCell (p := ⟨g1, 3, none⟩) (.inl (by simp)) (.int .i64 (ee : Int))).setCell (p := ⟨w.heap.size, 0, none⟩) (.inl (by simp)) (.slice Av rs.length cv)).setCell (p := ⟨w.heap.size, 1, none⟩) (.inl (by simp)) (.slice Ap ps.length cp)).setCell (p := ⟨w.heap.size, 2, none⟩) (.inl (by simp)) (.int .i64 (gd : Int))).setCell (p := ⟨w.heap.size, 3, none⟩) (.inl (by simp)) (.int .i64 (ee : Int))).alloc (.cells #[.int .u8 (kd : Int), .slice Au bd.length cu, .int .i64 (sz : Int)] 71)
        have BB := ((((((S5.out.at_ (l1 := [_]) : Blk w5 w.heap.size 40 z4).far (p := ⟨g1, 3, none⟩) hne2 (.int .i64 (ee : Int))).set_ 0 (.slice Av rs.length cv)).set_ 1 (.slice Ap ps.length cp)).set_ 2 (.int .i64 (gd : Int))).set_ 3 (.int .i64 (ee : Int))).alloc (.cells #[.int .u8 (kd : Int), .slice Au bd.length cu, .int .i64 (sz : Int)] 71)
        refine bodyPost_ret (v := .agg #[.slice Av rs.length cv, .slice Ap ps.length cp, .int .i64 (gd : Int), .int .i64 (ee : Int)]) (results_cell1 (by rfl) rfl BB Try.underlying40 rfl (by rw [Try.infoScanned]; rfl)) rfl ?_
        refine ⟨_, _, Bs, by rw [Hsc.out, Hwhy.out], by rw [Hsc.out]; exact HB.out, ?_⟩
        rw [Hsc.out]
        exact S5.out.rest (l1 := [_, _]) KK (fun g hg => by
          rcases List.mem_cons.1 hg with h | hg
          · exact ⟨_, List.mem_cons_self, by simp [blkR, h]⟩
          · exact ⟨_, List.mem_cons_of_mem _ List.mem_cons_self, by simpa [blkR] using hg⟩)
    · have hgo : ¬ goes b (scN b k) := fun h => hlt h.1
      have hsc := sc_at (show k ≤ b.length by omega) hgo
      have Hwhy := Lib.hid (why_end hsc hlt)
      have Hsc := Lib.hid hsc
      have HB := Lib.hid hBs
      clear hgo hBs hpl hsc
      generalize scN b k = s at *
      obtain ⟨rs, ps, gd⟩ := s
      simp only at *
      have S5 := Lib.hid S
      obtain ⟨d1, d2, d3, d4, d5, d6, d7, d8, d9⟩ := (S.at_ (l1 := [])).c4
      obtain ⟨r1, r2, r3, r4, r5, r6, r7, r8, r9⟩ := (S.at_ (l1 := [_])).c4
      obtain ⟨Av, cv, hv, _, _⟩ := ow_form (S.at_ (l1 := [_, _]))
      obtain ⟨Ap, cp, hp, _, _⟩ := ow_form (S.at_ (l1 := [_, _, _]))
      subst hv hp
      clear S
      go_wp2
      have KK := ((((Kp.refl [g1, w.heap.size] wr).setCell (p := ⟨w.heap.size, 0, none⟩) (.inl (by simp)) (.slice Av rs.length cv)).setCell (p := ⟨w.heap.size, 1, none⟩) (.inl (by simp)) (.slice Ap ps.length cp)).setCell (p := ⟨w.heap.size, 2, none⟩) (.inl (by simp)) (.int .i64 (gd : Int))).setCell (p := ⟨w.heap.size, 3, none⟩) (.inl (by simp)) (.int .i64 0)
      have BB := ((((S5.out.at_ (l1 := [_]) : Blk wr w.heap.size 40 z4).set_ 0 (.slice Av rs.length cv)).set_ 1 (.slice Ap ps.length cp)).set_ 2 (.int .i64 (gd : Int))).set_ 3 (.int .i64 0)
      refine bodyPost_ret (v := .agg #[.slice Av rs.length cv, .slice Ap ps.length cp, .int .i64 (gd : Int), .int .i64 0]) (results_cell1 (by rfl) rfl BB Try.underlying40 rfl (by rw [Try.infoScanned]; rfl)) rfl ?_
      refine ⟨_, _, Bs, by rw [Hsc.out, Hwhy.out]; rfl, by rw [Hsc.out]; exact HB.out, ?_⟩
      rw [Hsc.out]
      exact S5.out.rest (l1 := [_, _]) KK (fun g hg => by
        rcases List.mem_cons.1 hg with h | hg
        · exact ⟨_, List.mem_cons_self, by simp [blkR, h]⟩
        · exact ⟨_, List.mem_cons_of_mem _ List.mem_cons_self, by simpa [blkR] using hg⟩)
end Go.Proofs.Ytnchjfhmalbjoaa
/- The reference's Scan. -/
namespace Go.Proofs.Ytnchjfhmalbjoaa
open Go.RowKit
set_option maxRecDepth 100000 in
set_option maxHeartbeats 2000000 in
theorem rscan_any (A : Option Addr) (c : Nat) (b : List UInt8) (w : World) (hx : Rd w 1 (.slice A b.length c) b.length (bv b)) (hn : b.length + 64 ≤ 140737488355328) (hs : 40 * b.length ≤ 140737488355328) :
    Calls Try.prog 24 #[.slice A b.length c] w (ScanPost b w) := by
  obtain ⟨i0, hi, hz0, hz1, hz2⟩ := info_parts Try.infoRec2
  obtain ⟨i1, hj, hy0, hy1, hy2⟩ := info_parts Try.infoInt
  have Hx := Lib.hid hx
  have hnc : b.length ≤ c := by obtain ⟨_, _, _, hv, h1, _⟩ := hx; cases hv; exact h1
  clear hx
  go_enter Try.func24, Try.ntmps24
  go_wp2
  have S0 : Held w w [] := Held.start w
  have S1 : Hid (Held w ((w.alloc (.cells z4 40)).alloc (.cells z4 40)) (blkR (w.heap.size + 1) 40 #[.slice none 0 0, .slice none 0 0, .int .i64 ((scN b 0).good : Int), .int .i64 0] :: blkR w.heap.size 40 z4 :: scR (.slice none 0 0) (.slice none 0 0) (scN b 0) [])) := Lib.hid (by
    have a1 := S0.rownew (World.ownsRow_nil w 0 3 1) (Kp.refl [] w) (fun g hg => by simp [Value.ownBlock] at hg)
    have a2 := a1.rownew (World.ownsRow_nil w 0 25 2) (Kp.refl [] w) (fun g hg => by simp [Value.ownBlock] at hg)
    have a3 := a2.new (blkR w.heap.size 40 z4) ((Kp.refl [] w).alloc (.cells z4 40)) (Blk.new _ _ _) (fun b hb => by simp [blkR] at hb; omega)
    have a4 := a3.new (blkR (w.heap.size + 1) 40 z4) ((Kp.refl [] _).alloc (.cells z4 40)) (by have := Blk.new (w.alloc (.cells z4 40)) 40 z4; simpa [blkR] using this) (fun b hb => by simp [blkR] at hb; simp; omega)
    exact a4)
  clear S0
  obtain ⟨g1, hg1⟩ : ∃ g1, (w.heap.size + 1) = g1 := ⟨_, rfl⟩
  have hne : ¬ g1 = w.heap.size := by omega
  have hne2 : ¬ w.heap.size = g1 := by omega
  rw [hg1] at S1 ⊢
  clear hg1
  go_loopg [] (b.length + 1) (fun gk wr => ∃ (k : Nat) (v p : Value) (Bs : List Value), k + gk = b.length + 1 ∧ k ≤ (scN b k).good ∧ (scN b k).recs.length = Bs.length ∧
    Held w wr (blkR g1 40 #[v, p, .int .i64 ((scN b k).good : Int), .int .i64 0] :: blkR w.heap.size 40 z4 :: scR v p (scN b k) Bs))
  case atStart => exact ⟨0, _, _, [], by omega, Nat.zero_le _, rfl, S1.out⟩
  case round =>
    clear S1
    obtain ⟨k, v, p, Bs, hkg, hkk, hBs, S⟩ := hrel
    have hgl := scN_good b k
    have hpl := scN_places b k
    have hrl := sc_le b k
    by_cases hlt : (scN b k).good < b.length
    · obtain ⟨A1, c1, run1, rd1, _⟩ := cut_lo A b.length c (scN b k).good (b.length - (scN b k).good) ((scN b k).good : Int) rfl (by omega)
      have hdl : (b.drop (scN b k).good).length = b.length - (scN b k).good := List.length_drop ..
      have HR : Hid (∀ W, Kp [] w W → Calls Try.prog 25 #[.slice A1 (b.length - (scN b k).good) c1] W (Read3 (b.drop (scN b k).good) W)) := Lib.hid (fun W kk => by
        have h1 := rd1 W b (rd_old Hx.out kk)
        rw [List.take_of_length_le (by omega)] at h1
        have := rread_any A1 c1 (b.drop (scN b k).good) W (by rw [hdl]; exact h1) (by rw [hdl]; omega)
        rwa [hdl] at this)
      have HP : Hid (Read3 = Read3) := Lib.hid rfl
      unfold Read3 at HR
      by_cases hE : rE (b.drop (scN b k).good) = 0
      · have hgo : goes b (scN b k) := ⟨hlt, hE⟩
        have Hs := Lib.hid (scN_succ hgo)
        have hsz := rS_of hE
        rw [hdl] at hsz
        have Hrec := Lib.hid (recOf_kind (b.drop (scN b k).good))
        have Hrb : Hid ((recOf (b.drop (scN b k).good)).2 = rB (b.drop (scN b k).good)) := Lib.hid rfl
        rw [hE] at HR
        have HB := Lib.hid hBs
        have HPL := Lib.hid hpl
        have hpl2 : (scN b k).places.length ≤ b.length := by omega
        have hrl2 : (scN b k).recs.length ≤ b.length := by omega
        clear hE hgo hdl rd1 hBs HP hpl
        generalize hs' : scN b k = s at *
        have Hk := Lib.hid hs'
        clear hs'
        obtain ⟨rs, ps, gd⟩ := s
        simp only at *
        generalize recOf (b.drop gd) = rc at *
        have hkl := rK_lt (b.drop gd)
        generalize rK (b.drop gd) = kd at *
        generalize rB (b.drop gd) = bd at *
        generalize rS (b.drop gd) = sz at *
        have S9 := Lib.hid S
        obtain ⟨c1', c2', c3', c4', c5', c6', c7', c8', c9'⟩ := (S.at_ (l1 := [])).c4
        obtain ⟨Av, cv, hv, _, _⟩ := ow_form (S.at_ (l1 := [_, _]))
        obtain ⟨Ap, cp, hp, _, _⟩ := ow_form (S.at_ (l1 := [_, _, _]))
        subst hv hp
        clear S
        have KW := Lib.hid S9.out.k
        go_wp2_with fail
        refine (HR.out _ KW.out).mono ?_
        rintro e w5 ⟨u, rfl, o5, k5, f5⟩
        obtain ⟨Au, cu, hu, _, _⟩ := ow_form o5
        subst hu
        have f5' : ∀ g, (Value.slice Au bd.length cu).ownBlock = some g → wr.heap.size ≤ g := f5
        have S5 := Lib.hid (S9.out.rownew o5 k5 f5')
        have S6 := Lib.hid ((S5.out.newBlk 25 #[.int .u8 (kd : Int), .slice Au bd.length cu]).alloc (.cells #[.int .u8 (kd : Int), .slice Au bd.length cu] 25))
        obtain ⟨d1, d2, d3, d4, d5, d6, d7, d8, d9⟩ := (S5.out.at_ (l1 := [_])).c4
        have x8 : ¬ g1 = w5.heap.size := by omega
        have x9 : ¬ w5.heap.size = g1 := by omega
        clear o5 k5 f5 f5'
        go_wp2_with (first
          | (at_builtin; (refine wpList_app _ rfl (.tmp 27) (.tmp 29) _ rfl 25 i0 _ 2 32 Try.underlying22 hi hz0 hz1 hz2 rfl (by decide) (.slice Av rs.length cv) rs.length (recCells rs Bs) rfl (S6.out.at_ (l1 := [_, _, _, _])) (.slice (some ⟨w5.heap.size + 1, 0, none⟩) 1 1) 1 [.int .u8 (kd : Int), .slice Au bd.length cu] rfl (rd_two (by simp)) (by simp [Value.oneCell']) (by unfold maxLen; omega) (by omega) ?_; intro v7 w7 o7 g7 h7; obtain ⟨A7, c7, hv7, _, _⟩ := ow_form o7; subst hv7; have S7 := Lib.hid (S6.out.grow (l1 := [_, _, _, _]) o7 g7 h7); obtain ⟨d1, d2, d3, d4, d5, d6, d7, d8, d9⟩ := (S7.out.at_ (l1 := [_, _])).c4; obtain ⟨x1, x2, x3, x4, x5⟩ := (S7.out.at_ (l1 := [])).c2; have S8 := Lib.hid ((S7.out.set (l1 := [_, _]) 0 (.slice A7 (rs.length + 1) c7)).alloc (.cells #[.int .i64 (gd : Int)] 3)); clear o7 g7 h7))
          | (at_builtin; go_loud (refine wpList_app _ rfl (.tmp 33) (.tmp 36) _ rfl 3 i1 _ 1 8 Try.underlying38 hj hy0 hy1 hy2 rfl (by decide) (.slice Ap ps.length cp) ps.length (natCells ps) rfl (S8.out.at_ (l1 := [_, _, _, _, _])) (.slice (some ⟨w7.heap.size, 0, none⟩) 1 1) 1 [.int .i64 (gd : Int)] rfl (rd_one (by simp)) (by simp [Value.oneCell']) (by unfold maxLen; omega) (by omega) ?_; intro v10 w10 o10 g10 h10; obtain ⟨A10, c10, hv10, _, _⟩ := ow_form o10; subst hv10; have S10 := Lib.hid (S8.out.grow (l1 := [_, _, _, _, _]) o10 g10 h10); obtain ⟨d1, d2, d3, d4, d5, d6, d7, d8, d9⟩ := (show Blk w10 g1 40 #[.slice A7 (rs.length + 1) c7, .slice Ap ps.length cp, .int .i64 (gd : Int), .int .i64 0] from S10.out.at_ (l1 := [_, _])).c4; obtain ⟨x1, x2, x3, x4, x5⟩ := (S10.out.at_ (l1 := [])).c2; clear o10 g10 h10)))
        go_roundg (gk - 1)
        case measure => omega
        case rel =>
          refine ⟨k + 1, .slice A7 (rs.length + 1) c7, .slice A10 (ps.length + 1) c10, Bs ++ [.slice Au bd.length cu], by omega, ?_, ?_, ?_⟩
          · rw [Hs.out]; show k + 1 ≤ gd + sz; omega
          · rw [Hs.out]; simp [HB.out]
          · rw [Hs.out, scR_snoc rc HB.out, Hrec.out, Hrb.out]
            have S11 := ((S10.out.set (l1 := [_, _]) 1 (.slice A10 (ps.length + 1) c10)).set (l1 := [_, _]) 2 (.int .i64 ((gd : Int) + (sz : Int)))).drop.perm (List.perm_append_singleton _ _).symm
            exact S11
      · have hgo : ¬ goes b (scN b k) := fun h => hE h.2
        have hsc := sc_at (show k ≤ b.length by omega) hgo
        have Hwhy := Lib.hid (why_of hsc hlt)
        have Hsc := Lib.hid hsc
        have HB := Lib.hid hBs
        have hee : ¬ ((rE (b.drop (scN b k).good) : Nat) : Int) = 0 := by omega
        clear hE hgo hdl rd1 hBs HP hpl hsc
        generalize rE (b.drop (scN b k).good) = ee at *
        generalize rK (b.drop (scN b k).good) = kd at *
        generalize rB (b.drop (scN b k).good) = bd at *
        generalize rS (b.drop (scN b k).good) = sz at *
        generalize scN b k = s at *
        obtain ⟨rs, ps, gd⟩ := s
        simp only at *
        have S9 := Lib.hid S
        obtain ⟨c1', c2', c3', c4', c5', c6', c7', c8', c9'⟩ := (S.at_ (l1 := [])).c4
        obtain ⟨Av, cv, hv, _, _⟩ := ow_form (S.at_ (l1 := [_, _]))
        obtain ⟨Ap, cp, hp, _, _⟩ := ow_form (S.at_ (l1 := [_, _, _]))
        subst hv hp
        clear S
        have KW := Lib.hid S9.out.k
        go_wp2_with fail
        refine (HR.out _ KW.out).mono ?_
        rintro e w5 ⟨u, rfl, o5, k5, f5⟩
        obtain ⟨Au, cu, hu, _, _⟩ := ow_form o5
        subst hu
        have S5 := Lib.hid (S9.out.kp k5)
        obtain ⟨d1, d2, d3, d4, d5, d6, d7, d8, d9⟩ := (S5.out.at_ (l1 := [])).c4
        obtain ⟨r1, r2, r3, r4, r5, r6, r7, r8, r9⟩ := (S5.out.at_ (l1 := [_])).c4
        have x8 : ¬ g1 = w5.heap.size := by omega
        have x9 : ¬ w5.heap.size = g1 := by omega
        clear o5 k5 f5
        go_wp2
        have KK := ((((((Kp.refl [g1, w.heap.size] w5).setCell (p := ⟨g1, 3, none⟩) (.inl (by simp)) (.int .i64 (ee : Int))).setCell (p := ⟨w.heap.size, 0, none⟩) (.inl (by simp)) (.slice Av rs.length cv)).setCell (p := ⟨w.heap.size, 1, none⟩) (.inl (by simp)) (.slice Ap ps.length cp)).setCell (p := ⟨w.heap.size, 2, none⟩) (.inl (by simp)) (.int .i64 (gd : Int))).setCell (p := ⟨w.heap.size, 3, none⟩) (.inl (by simp)) (.int .i64 (ee : Int))).alloc (.cells #[.int .u8 (kd : Int), .slice Au bd.length cu] 25)
        have BB := ((((((S5.out.at_ (l1 := [_]) : Blk w5 w.heap.size 40 z4).far (p := ⟨g1, 3, none⟩) hne2 (.int .i64 (ee : Int))).set_ 0 (.slice Av rs.length cv)).set_ 1 (.slice Ap ps.length cp)).set_ 2 (.int .i64 (gd : Int))).set_ 3 (.int .i64 (ee : Int))).alloc (.cells #[.int .u8 (kd : Int), .slice Au bd.length cu] 25)
        refine bodyPost_ret (v := .agg #[.slice Av rs.length cv, .slice Ap ps.length cp, .int .i64 (gd : Int), .int .i64 (ee : Int)]) (results_cell1 (by rfl) rfl BB Try.underlying40 rfl (by rw [Try.infoScanned]; rfl)) rfl ?_
        refine ⟨_, _, Bs, by rw [Hsc.out, Hwhy.out], by rw [Hsc.out]; exact HB.out, ?_⟩
        rw [Hsc.out]
        exact S5.out.rest (l1 := [_, _]) KK (fun g hg => by
          rcases List.mem_cons.1 hg with h | hg
          · exact ⟨_, List.mem_cons_self, by simp [blkR, h]⟩
          · exact ⟨_, List.mem_cons_of_mem _ List.mem_cons_self, by simpa [blkR] using hg⟩)
    · have hgo : ¬ goes b (scN b k) := fun h => hlt h.1
      have hsc := sc_at (show k ≤ b.length by omega) hgo
      have Hwhy := Lib.hid (why_end hsc hlt)
      have Hsc := Lib.hid hsc
      have HB := Lib.hid hBs
      clear hgo hBs hpl hsc
      generalize scN b k = s at *
      obtain ⟨rs, ps, gd⟩ := s
      simp only at *
      have S5 := Lib.hid S
      obtain ⟨d1, d2, d3, d4, d5, d6, d7, d8, d9⟩ := (S.at_ (l1 := [])).c4
      obtain ⟨r1, r2, r3, r4, r5, r6, r7, r8, r9⟩ := (S.at_ (l1 := [_])).c4
      obtain ⟨Av, cv, hv, _, _⟩ := ow_form (S.at_ (l1 := [_, _]))
      obtain ⟨Ap, cp, hp, _, _⟩ := ow_form (S.at_ (l1 := [_, _, _]))
      subst hv hp
      clear S
      go_wp2
      have KK := ((((Kp.refl [g1, w.heap.size] wr).setCell (p := ⟨w.heap.size, 0, none⟩) (.inl (by simp)) (.slice Av rs.length cv)).setCell (p := ⟨w.heap.size, 1, none⟩) (.inl (by simp)) (.slice Ap ps.length cp)).setCell (p := ⟨w.heap.size, 2, none⟩) (.inl (by simp)) (.int .i64 (gd : Int))).setCell (p := ⟨w.heap.size, 3, none⟩) (.inl (by simp)) (.int .i64 0)
      have BB := ((((S5.out.at_ (l1 := [_]) : Blk wr w.heap.size 40 z4).set_ 0 (.slice Av rs.length cv)).set_ 1 (.slice Ap ps.length cp)).set_ 2 (.int .i64 (gd : Int))).set_ 3 (.int .i64 0)
      refine bodyPost_ret (v := .agg #[.slice Av rs.length cv, .slice Ap ps.length cp, .int .i64 (gd : Int), .int .i64 0]) (results_cell1 (by rfl) rfl BB Try.underlying40 rfl (by rw [Try.infoScanned]; rfl)) rfl ?_
      refine ⟨_, _, Bs, by rw [Hsc.out, Hwhy.out]; rfl, by rw [Hsc.out]; exact HB.out, ?_⟩
      rw [Hsc.out]
      exact S5.out.rest (l1 := [_, _]) KK (fun g hg => by
        rcases List.mem_cons.1 hg with h | hg
        · exact ⟨_, List.mem_cons_self, by simp [blkR, h]⟩
        · exact ⟨_, List.mem_cons_of_mem _ List.mem_cons_self, by simpa [blkR] using hg⟩)
end Go.Proofs.Ytnchjfhmalbjoaa
/- record.Read. -/
namespace Go.Proofs.Ytnchjfhmalbjoaa
open Go.RowKit
theorem new_drew {W : World} {t : TypeId} {cs : Array Value} {g : Nat} (i : Nat) (hg : g = W.heap.size) : ((W.alloc (.cells cs t)).drew).cell? ⟨g, i, none⟩ = cs[i]? := by
  subst hg
  exact (Blk.new W t cs).drew.cell i
set_option maxRecDepth 100000 in
set_option maxHeartbeats 1000000 in
theorem pread_any (A : Option Addr) (c : Nat) (b : List UInt8) (w : World) (hx : Rd w 1 (.slice A b.length c) b.length (bv b)) (hn : b.length + 64 ≤ 140737488355328) :
    Calls Try.prog 22 #[.slice A b.length c] w (Read3 b w) := by
  have HR := Lib.hid (read_any A c b _ (rd_old hx ((Kp.refl [] w).alloc (.cells z2 25))) hn)
  unfold ReadPost at HR
  have hkl := rK_lt b
  have HK : Hid (∀ e w', (∃ u, e = .returned (.tuple #[.agg #[.int .u8 (rK b : Int), u], .int .i64 (rS b : Int), .int .i64 (rE b : Int)]) ∧ Ow w' 5 1 u (rB b).length (bv (rB b)) ∧ Kp [] w w' ∧ ∀ g, u.ownBlock = some g → w.heap.size ≤ g) → Read3 b w e w') := Lib.hid (fun e w' h => h)
  generalize rK b = kd at *
  generalize rB b = bd at *
  generalize rS b = sz at *
  generalize rE b = ee at *
  go_enter Try.func22, Try.ntmps22
  go_wp2_with fail
  refine HR.out.mono ?_
  rintro e w5 ⟨u, rfl, o5, k5, f5⟩
  obtain ⟨Au, cu, hu, _, _⟩ := ow_form o5
  subst hu
  have B0 := Lib.hid ((Blk.new w 25 z2).kp k5 (by simp))
  have K0 := Lib.hid (((Kp.refl [] w).alloc (.cells z2 25)).trans k5 (by simp))
  have O5 := Lib.hid o5
  have F5 := Lib.hid f5
  have hlt : w.heap.size < w5.heap.size := B0.out.lt
  obtain ⟨c1, c2, c3, c4, c5⟩ := B0.out.c2
  have n1 : ¬ w.heap.size = w5.heap.size := by omega
  have n2 : ¬ w5.heap.size = w.heap.size := by omega
  clear o5 k5 f5
  go_wp2
  have hS9 : (fun W : World => W.cell? ⟨w5.heap.size, 0, none⟩ = some (.int .u8 (kd : Int)) ∧ W.cell? ⟨w5.heap.size, 1, none⟩ = some (.slice Au bd.length cu) ∧ W.cell? ⟨w5.heap.size, 2, none⟩ = some (.int .i64 (sz : Int))) (w5.alloc (.cells #[.int .u8 (kd : Int), .slice Au bd.length cu, .int .i64 (sz : Int)] 71)).drew := by
    have h := (Blk.new w5 71 #[.int .u8 (kd : Int), .slice Au bd.length cu, .int .i64 (sz : Int)])
    exact ⟨h.cell 0, h.cell 1, h.cell 2⟩
  refine wp_region_lexf [5] [] (fun W : World => W.cell? ⟨w5.heap.size, 0, none⟩ = some (.int .u8 (kd : Int)) ∧ W.cell? ⟨w5.heap.size, 1, none⟩ = some (.slice Au bd.length cu) ∧ W.cell? ⟨w5.heap.size, 2, none⟩ = some (.int .i64 (sz : Int))) (by kernel_rfl) (by kernel_rfl) hS9 (fun σ hne f hf hsur => ?_); have Hsur := Lib.hid hsur; clear hsur
  have hfa := fun y => (hf y).1
  have hfb := fun y => (hf y).2.1
  have hfc := fun y => (hf y).2.2
  clear hf
  go_wp2_with (first
    | (refine lex_qq Hsur.out rfl rfl rfl ?_; intro K hK; go_big_quiet_op; go_big_quiet_on) | (refine lex_skipk rfl ?_; intro K hK; go_simp; refine hK _ _ ?_; clear hK K) | (refine lex_e rfl rfl ?_; intro K hK; go_step) | (refine lex_nil ?_)
    | ((with_reducible apply And.intro); · (intro hl; first | (exact ls_absurd hl rfl) | (exact ⟨new_drew 0 (by simp), new_drew 1 (by simp), new_drew 2 (by simp)⟩))))
  have KK := ((((Kp.refl [w.heap.size] w5).setCell (p := ⟨w.heap.size, 0, none⟩) (.inl (by simp)) (.int .u8 kd)).setCell (p := ⟨w.heap.size, 1, none⟩) (.inl (by simp)) (.slice Au bd.length cu)).alloc (.cells #[.int .u8 (kd : Int), .slice Au bd.length cu, .int .i64 (sz : Int)] 71)).drew
  have BB := (((B0.out.set_ 0 (.int .u8 kd)).set_ 1 (.slice Au bd.length cu)).alloc (.cells #[.int .u8 (kd : Int), .slice Au bd.length cu, .int .i64 (sz : Int)] 71)).drew
  have hF : ∀ g, (Value.slice Au bd.length cu).ownBlock = some g → w.heap.size < g := fun g hg => by have := F5.out g hg; rw [World.size_alloc] at this; omega
  refine bodyPost_ret (v := .tuple #[.agg #[.int .u8 kd, .slice Au bd.length cu], .int .i64 (sz : Int), .int .i64 (ee : Int)]) (results_cell_tmp2 (u := 3) (u2 := 4) (by rfl) rfl BB Try.underlying25 rfl (by rw [Try.infoRec]; rfl)) rfl (HK.out _ _ ⟨_, rfl, ?_, K0.out.trans KK (fun g hg => by simp at hg; right; omega), fun g hg => Nat.le_of_lt (hF g hg)⟩)
  exact ow_kp O5.out KK (fun g hg hm => by have := hF g hg; simp at hm; omega)
end Go.Proofs.Ytnchjfhmalbjoaa
/- Appending onto a row of the call's own whose shorter slice is read afterwards. -/
namespace Go.Proofs.Ytnchjfhmalbjoaa
open Go.RowKit

theorem run_app_keep {P : Program} (w : World) (t ty e : TypeId) (i : TypeInfo) (z : Value) (size bytes : Nat) (ht : P.underlying t = some (.slice e)) (hi : P.info? e = some i) (hz : i.zero = some z)
    (hsize : i.size = size) (hby : i.bytes = bytes) (hzs : z.cells.size = size) (hsz : 0 < size)
    (v : Value) (n : Nat) (xs : List Value) (hown : Ow w e size v n xs)
    (x : Value) (m : Nat) (news : List Value) (hr : Rd w size x m news) (h1 : ∀ u ∈ news, u.oneCell' = true)
    (h63 : n + m ≤ maxLen) (hbytes : (n + m) * bytes ≤ 140737488355328) :
    ∃ v' w', (Builtin.append_ #[t, t] ty #[v, x]).run P w = .ok v' w' ∧ Ow w' e size v' (n + m) (xs ++ news) ∧ w.grownBy w' v.ownBlock ∧
      (v'.ownBlock = v.ownBlock ∨ v'.ownBlock = some w.heap.size) ∧ Ow w' e size v n xs := by
  obtain ⟨hl, A, c, rfl, hc1, hc2, hA, hcells⟩ := hr
  rcases A with _ | a
  · obtain ⟨rfl, rfl⟩ := hA rfl
    have hn : news = [] := List.eq_nil_of_length_eq_zero (by simpa using hl)
    subst hn
    exact ⟨v, w, run_append_none w t ty e i size ht hi v n xs hown 0, by simpa using hown, World.grownBy.refl w _, .inl rfl, hown⟩
  have hnews := hcells a rfl
  rcases hown.2 with ⟨rfl, rfl⟩ | ⟨g, cap, cur, rfl, hbg, hg, hnc, hcm, hcs, htake⟩
  · obtain ⟨v', w', hrun, h2, h3, h4⟩ := run_app (P := P) w t ty e i z size bytes ht hi hz hsize hby hzs hsz _ 0 xs hown (.slice (some a) m c) m news ⟨hl, _, _, rfl, hc1, hc2, hA, hcells⟩ h1 h63 hbytes
    exact ⟨v', w', hrun, h2, h3, h4, ⟨hown.1, .inl ⟨rfl, rfl⟩⟩⟩
  · subst hsize
    subst hby
    by_cases hroom : n + m ≤ cap
    · have hfit : n * i.size + news.length ≤ cur.size := by rw [hl, hcs, ← Nat.add_mul]; exact Nat.mul_le_mul_right _ hroom
      have hr := run_append_room (P := P) w t ty e i ht hi g n cap cur hg a m c news hl hnews h1 hroom hfit
      have hlen : (xs ++ news).length = (n + m) * i.size := by rw [List.length_append, hown.1, hl, Nat.add_mul]
      have hx : xs.length = n * i.size := hown.1
      have hs0 : ((cur.toList.take (n * i.size) ++ news ++ cur.toList.drop (n * i.size + news.length)).toArray).size = cap * i.size := by
        simp only [List.size_toArray, List.length_append, List.length_take, List.length_drop, Array.length_toList]
        omega
      refine ⟨_, _, hr, ⟨hlen, .inr ⟨g, cap, _, rfl, hbg, setRow_heap w g cur _ e _ hg, hroom, hcm, hs0, ?_⟩⟩, ⟨rfl, rfl, rfl, by simp, fun k _ hk => setRow_other w g k _ (fun e => hk (by simp [Value.ownBlock, e]))⟩, Or.inl rfl, ⟨hx, .inr ⟨g, cap, _, rfl, hbg, setRow_heap w g cur _ e _ hg, hnc, hcm, hs0, ?_⟩⟩⟩
      · rw [htake, ← hlen]
        exact List.take_left
      · rw [htake, ← hx, List.append_assoc]
        exact List.take_left
    · have holds : ∀ j u, xs[j]? = some u → w.cell? ((⟨g, 0, none⟩ : Addr).add j) = some u := hown.cells (g := g) rfl
      have hr := run_append_grow (P := P) w t ty e i z ht hi hz ⟨g, 0, none⟩ n cap xs hown.1 holds a m c news hl hnews (by simp only [maxLen] at h63; omega) (by simp only [maxLen] at h63; omega) (growslice_fits (by omega) hbytes)
      obtain ⟨v', w', hrun, h2, h3, h4⟩ := run_app (P := P) w t ty e i z i.size i.bytes ht hi hz rfl rfl hzs hsz _ n xs hown (.slice (some a) m c) m news ⟨hl, _, _, rfl, hc1, hc2, hA, hcells⟩ h1 h63 hbytes
      rw [hr] at hrun
      injection hrun with e1 e2
      refine ⟨v', w', by rw [hr, e1, e2], h2, h3, h4, ⟨hown.1, .inr ⟨g, cap, cur, rfl, hbg, ?_, hnc, hcm, hcs, htake⟩⟩⟩
      rw [← e2]
      exact (Below.heap_alloc w.drew _ g (Array.getElem?_eq_some_iff.1 hg).1).trans hg
/-- 'append(v, y...)' for bytes, v being read on. -/
theorem app_keep {ops : Array Oper} {rest : List Oper} {o : Oper} {a : Act} {w : World} {Q : Exit → Act → World → Prop} (hgd : o.guard = none) (s x : Operand)
    (ho : o.op = .call { callee := .builtin .append, args := #[s, x], argTypes := #[23, 23] })
    (v : Value) (xs : List UInt8) (hs : a.eval s = v) (hown : Ow w 5 1 v xs.length (bv xs))
    (y : Value) (ys : List UInt8) (hx : a.eval x = y) (hr : Rd w 1 y ys.length (bv ys)) (hb : xs.length + ys.length ≤ 140737488355328)
    (h : ∀ v' w', Ow w' 5 1 v' (xs ++ ys).length (bv (xs ++ ys)) → Kp v.ownBlock.toList w w' → Ow w' 5 1 v xs.length (bv xs) → (v'.ownBlock = v.ownBlock ∨ v'.ownBlock = some w.heap.size) → wpList Try.prog ops Q rest (a.put o.dst v') w') : wpList Try.prog ops Q (o :: rest) a w :=
  wpList_plain hgd fun K hK => by
    obtain ⟨i0, hi, hz0, hz1, hz2⟩ := info_parts Try.infoU8
    obtain ⟨v', w', hrun, h2, h3, h4, h5⟩ := run_app_keep (P := Try.prog) w 23 o.type 5 i0 _ 1 1 Try.underlying23 hi hz0 hz1 hz2 rfl (by decide) v xs.length (bv xs) hown y ys.length (bv ys) hr (bv_one _) (by unfold maxLen; omega) (by omega)
    rw [← bv_append, ← List.length_append] at h2
    unfold Oper.wp execOp
    simp only [ho, resolve, invoke, builtin, Sem.run_bind, Sem.run_pure, Result.andThen_ok, List.map_toArray, List.map_cons, List.map_nil, hs, hx, hrun]
    exact hK _ _ (h v' w' h2 (Kp.of_grown h3) h5 h4)
/-- A row of the list is grown by 'append'. -/
theorem Held.grown {w0 w w' : World} {l1 l2 : List Res} {e : TypeId} {s n n' : Nat} {v v' : Value} {xs xs' : List Value} (h : Held w0 w (l1 ++ rowR e s v n xs :: l2)) (ho : Ow w' e s v' n' xs') (hg : Kp v.ownBlock.toList w w') (hv : v'.ownBlock = v.ownBlock ∨ v'.ownBlock = some w.heap.size) :
    Held w0 w' (l1 ++ rowR e s v' n' xs' :: l2) :=
  h.turnAt (rowR e s v' n' xs') hg ho (fun b hb => by
    rcases hv with e | e
    · exact .inl (by simpa [rowR, e] using hb)
    · simp only [rowR, e, Option.toList_some, List.mem_singleton] at hb; exact .inr (by omega))
section
variable {ops : Array Oper} {rest : List Oper} {o : Oper} {a : Act} {w : World} {Q : Exit → Act → World → Prop}
/-- 'append(v, y...)' where v is a thing held. -/
theorem app_held (l1 : List Res) {w0 : World} {l2 : List Res} (hgd : o.guard = none) (s x : Operand)
    (ho : o.op = .call { callee := .builtin .append, args := #[s, x], argTypes := #[23, 23] })
    (v : Value) (xs : List UInt8) (hs : a.eval s = v) (S : Held w0 w (l1 ++ rowR 5 1 v xs.length (bv xs) :: l2))
    (y : Value) (ys : List UInt8) (hx : a.eval x = y) (hr : Rd w 1 y ys.length (bv ys)) (hb : xs.length + ys.length ≤ 140737488355328)
    (h : ∀ v' w', Held w0 w' (l1 ++ rowR 5 1 v' (xs ++ ys).length (bv (xs ++ ys)) :: l2) → wpList Try.prog ops Q rest (a.put o.dst v') w') : wpList Try.prog ops Q (o :: rest) a w :=
  app_bytes hgd s x ho v xs hs (S.at_) y ys hx hr w0 S.k (fun g hg => S.base (rowR 5 1 v xs.length (bv xs)) (by simp) g (by simp [rowR, hg])) hb (fun v' w' o' _ k' _ h' => h v' w' (S.grown o' k' h'))
/-- 'append(nil, y...)': a new thing. -/
theorem app_new {w0 : World} {L : List Res} (hgd : o.guard = none) (s x : Operand)
    (ho : o.op = .call { callee := .builtin .append, args := #[s, x], argTypes := #[23, 23] })
    (hs : a.eval s = .slice none 0 0) (S : Held w0 w L)
    (y : Value) (ys : List UInt8) (hx : a.eval x = y) (hr : Rd w 1 y ys.length (bv ys)) (hb : ys.length ≤ 140737488355328)
    (h : ∀ v' w', Held w0 w' (rowR 5 1 v' ys.length (bv ys) :: L) → wpList Try.prog ops Q rest (a.put o.dst v') w') : wpList Try.prog ops Q (o :: rest) a w :=
  app_bytes hgd s x ho (.slice none 0 0) [] hs (World.ownsRow_nil _ _ _ _) y ys hx hr w0 S.k (by simp [Value.ownBlock]) (by simpa using hb) (fun v' w' o' _ k' _ h' => h v' w' (S.rownew (by simpa using o') (by simpa [Value.ownBlock] using k') (fun g hg => by
    rcases h' with e | e
    · rw [e] at hg; simp [Value.ownBlock] at hg
    · rw [e] at hg; cases hg; exact Nat.le_refl _)))
end
end Go.Proofs.Ytnchjfhmalbjoaa
/- The law's 'known'. -/
namespace Go.Proofs.Ytnchjfhmalbjoaa
open Go.RowKit
abbrev l11 : List UInt8 := [7, 0, 0, 0, 2, 1, 2, 105, 96, 45, 27]
theorem k_err : rerr [(7, [1, 2])] = 0 := by kernel_rfl
theorem k_out : outOf [(7, [1, 2])] = l11 := by kernel_rfl
theorem k_r12 : rE (l11 ++ [9]) = 0 ∧ rK (l11 ++ [9]) = 7 ∧ rB (l11 ++ [9]) = [1, 2] ∧ rS (l11 ++ [9]) = 11 := ⟨by kernel_rfl, by kernel_rfl, by kernel_rfl, by kernel_rfl⟩
theorem k_r5 : rE [7, 0, 128, 0, 1] = 3 := by kernel_rfl
theorem k_s25 : (sc (l11 ++ l11 ++ [0, 0, 0])).recs.length = 2 ∧ (sc (l11 ++ l11 ++ [0, 0, 0])).good = 22 ∧ why (l11 ++ l11 ++ [0, 0, 0]) = 171 := ⟨by kernel_rfl, by kernel_rfl, by kernel_rfl⟩
theorem k_frames : (frames [(7, [1, 2])]).length = 11 := by kernel_rfl
theorem num07_any (n : Int) (w : World) : Calls Try.prog 12 #[.int .i64 n] w fun e w' => e = .returned (.int .i64 n) ∧ w = w' := by
  go_enter Try.func12, Try.ntmps12
  go_wp2
  go_ret
  exact ⟨rfl, rfl⟩
theorem size_five (w : World) : Calls Try.prog 14 #[.int .i64 5] w fun e w' => e = .returned (.int .i64 14) ∧ w = w' := size_any 5 (by decide) w
theorem pread_12 (v : Value) (w : World) (h : Rd w 1 v 12 (bv (l11 ++ [9]))) : Calls Try.prog 22 #[v] w fun e w' => ∃ A c, e = .returned (.tuple #[.agg #[.int .u8 7, .slice A 2 c], .int .i64 11, .int .i64 0]) ∧ Kp [] w w' := by
  obtain ⟨A, c, rfl⟩ := rd_form h
  refine (pread_any A c (l11 ++ [9]) w h (by decide)).mono ?_
  rintro e w' ⟨u, rfl, o, k, f⟩
  rw [k_r12.1, k_r12.2.1, k_r12.2.2.2]
  rw [k_r12.2.2.1] at o
  obtain ⟨A', c', rfl, _, _⟩ := ow_form o
  exact ⟨A', c', rfl, k⟩
theorem pread_5 (v : Value) (w : World) (h : Rd w 1 v 5 (bv [7, 0, 128, 0, 1])) : Calls Try.prog 22 #[v] w fun e w' => ∃ A c, e = .returned (.tuple #[.agg #[.int .u8 0, .slice A 0 c], .int .i64 0, .int .i64 3]) ∧ Kp [] w w' := by
  obtain ⟨A, c, rfl⟩ := rd_form h
  refine (pread_any A c [7, 0, 128, 0, 1] w h (by decide)).mono ?_
  rintro e w' ⟨u, rfl, o, k, f⟩
  obtain ⟨h1, h2, h3⟩ := rKBS_no k_r5 (by decide)
  rw [k_r5, h1, h3]
  rw [h2] at o
  obtain ⟨A', c', rfl, _, _⟩ := ow_form o
  exact ⟨A', c', rfl, k⟩
theorem scan_25 (v : Value) (w : World) (h : Rd w 1 v 25 (bv (l11 ++ l11 ++ [0, 0, 0]))) : Calls Try.prog 19 #[v] w fun e w' => ∃ A c Ap np cp, e = .returned (.agg #[.slice A 2 c, .slice Ap np cp, .int .i64 22, .int .i64 171]) ∧ Kp [] w w' := by
  obtain ⟨A, c, rfl⟩ := rd_form h
  refine (scan_any A c (l11 ++ l11 ++ [0, 0, 0]) w h (by decide) (by decide)).mono ?_
  rintro e w' ⟨v, p, Bs, rfl, hl, S⟩
  have o := S.at_ (l1 := [])
  obtain ⟨A', c', hv, _, _⟩ := ow_form o
  obtain ⟨Ap, cp, hp, _, _⟩ := ow_form (S.at_ (l1 := [_]))
  rw [k_s25.2.1, k_s25.2.2, hv, hp, k_s25.1]
  exact ⟨A', c', Ap, _, cp, rfl, S.k⟩
theorem put_known {w : World} {g g1 : Nat} (hg : g = w.heap.size) (hg1 : g1 = w.heap.size + 1) : Calls Try.prog 10 #[.slice (some ⟨g1, 0, none⟩) 1 1] ((w.alloc (.cells #[.int .u8 1, .int .u8 2] 5)).alloc (.cells #[.int .u8 7, .slice (some ⟨g, 0, none⟩) 2 2] 25)) fun e w' =>
    ∃ g c, e = .returned (.tuple #[.slice (some ⟨g, 0, none⟩) 11 c, .int .i64 0]) ∧ Ow w' 5 1 (.slice (some ⟨g, 0, none⟩) 11 c) 11 (bv l11) ∧ Kp [] w w' ∧ w.heap.size ≤ g := by
  subst hg hg1
  have r1 : Rd ((w.alloc (.cells #[.int .u8 1, .int .u8 2] 5)).alloc (.cells #[.int .u8 7, .slice (some ⟨w.heap.size, 0, none⟩) 2 2] 25)) 1 (.slice (some ⟨w.heap.size, 0, none⟩) 2 2) 2 (bv [1, 2]) := (rd_lit w 5 _ [1, 2] rfl (by decide)).alloc _
  have hb := Blk.new (w.alloc (.cells #[.int .u8 1, .int .u8 2] 5)) 25 #[.int .u8 7, .slice (some ⟨w.heap.size, 0, none⟩) 2 2]
  rw [World.size_alloc] at hb
  refine (put_any _ [(7, [1, 2])] _ ⟨⟨some ⟨w.heap.size + 1, 0, none⟩, 1, rfl, by decide, by decide, by simp, fun ad had i r hr => ?_⟩⟩ (by rw [k_frames]; decide)).mono ?_
  · cases had
    rcases i with _ | i
    · cases hr
      refine ⟨.slice (some ⟨w.heap.size, 0, none⟩) 2 2, fun j u hu => ?_, r1⟩
      rcases j with _ | _ | j
      · cases hu; exact hb.cell 0
      · cases hu; exact hb.cell 1
      · cases hu
    · cases hr
  · rintro e w' ⟨u, rfl, o, k, f⟩
    rw [k_err]
    rw [k_out] at o
    obtain ⟨g, c, rfl, _, _⟩ := ow_some o (by decide)
    refine ⟨g, c, rfl, o, (((Kp.refl [] w).alloc _).alloc _).trans k (by simp), ?_⟩
    have := f g rfl
    simp at this
    omega
set_option maxRecDepth 100000 in
set_option maxHeartbeats 2000000 in
theorem known07_true (w : World) : Calls Try.prog 18 #[] w fun e w' => e = .returned (.bool true) ∧ Kp [] w w' := by
  go_enter Try.func18, Try.ntmps18
  go_wp2_with fail
  refine (put_known rfl rfl).mono ?_
  rintro e w2 ⟨g, c, rfl, o2, k2, f2⟩
  have S2 := Lib.hid ((Held.start w).rownew o2 k2 (fun b hb => by cases hb; exact f2))
  have S3 := Lib.hid (S2.out.alloc (.cells #[.int .u8 9] 5))
  clear o2 k2 f2
  go_wp2_with (at_builtin; refine app_keep rfl (.tmp 18) (.tmp 19) rfl (.slice (some ⟨g, 0, none⟩) 11 c) l11 rfl (S3.out.at_ (l1 := [])) (.slice (some ⟨w2.heap.size, 0, none⟩) 1 1) [9] rfl (rd_lit w2 5 _ [9] rfl (by decide)) (by decide) ?_)
  intro v4 w4 o4 k4 p4 h4
  have S4 := Lib.hid (S3.out.rowset (l1 := []) p4 k4)
  have R4 := Lib.hid (Rd.of_own o4)
  clear o4 k4 p4 h4
  go_wp2_with fail
  refine (pread_12 _ _ R4.out).mono ?_
  rintro e w5 ⟨A5, c5, rfl, k5⟩
  have S5 := Lib.hid ((S4.out.kp k5).newBlk 25 #[.int .u8 7, .slice A5 2 c5])
  have S5b := Lib.hid (S5.out.alloc (.cells #[.int .u8 7, .int .u8 0, .int .u8 128, .int .u8 0, .int .u8 1] 5))
  have R5 := Lib.hid (rd_lit (w5.alloc (.cells #[.int .u8 7, .slice A5 2 c5] 25)) 5 #[.int .u8 7, .int .u8 0, .int .u8 128, .int .u8 0, .int .u8 1] [7, 0, 128, 0, 1] rfl (by decide))
  rw [World.size_alloc] at R5
  clear k5
  go_wp2_with fail
  refine (pread_5 _ _ R5.out).mono ?_
  rintro e w6 ⟨A6, c6, rfl, k6⟩
  have S6 := Lib.hid ((S5b.out.kp k6).alloc (.cells #[.int .u8 0, .slice A6 0 c6] 25))
  clear k6
  go_wp2_with (at_builtin; refine app_new rfl (.const (.slice none 0 0)) (.tmp 31) rfl rfl S6.out (.slice (some ⟨g, 0, none⟩) 11 c) l11 rfl (Rd.of_own (S6.out.at_ (l1 := [_]))) (by decide) ?_)
  intro v7 w7 S7'
  have S7 := Lib.hid S7'
  clear S7'
  go_wp2_with (at_builtin; refine app_held [] rfl (.tmp 32) (.tmp 33) rfl v7 l11 rfl S7.out (.slice (some ⟨g, 0, none⟩) 11 c) l11 rfl (Rd.of_own (S7.out.at_ (l1 := [_, _]))) (by decide) ?_)
  intro v8 w8 S8'
  have S8 := Lib.hid (S8'.alloc (.cells #[.int .u8 0, .int .u8 0, .int .u8 0] 5))
  clear S8'
  go_wp2_with (at_builtin; refine app_held [] rfl (.tmp 34) (.tmp 35) rfl v8 (l11 ++ l11) rfl S8.out (.slice (some ⟨w8.heap.size, 0, none⟩) 3 3) [0, 0, 0] rfl (rd_lit w8 5 _ [0, 0, 0] rfl (by decide)) (by decide) ?_)
  intro v9 w9 S9'
  have S9 := Lib.hid S9'
  clear S9'
  go_wp2_with fail
  refine (scan_25 _ _ (Rd.of_own (S9.out.at_ (l1 := [])))).mono ?_
  rintro e w10 ⟨A10, c10, Ap, np, cp, rfl, k10⟩
  have S10 := Lib.hid (S9.out.kp k10)
  clear k10
  obtain ⟨d1, d2, d3, d4, d5⟩ := (S10.out.at_ (l1 := [_])).c2
  have hcs := (S10.out.at_ (l1 := [_, _])).cells (g := g) rfl
  have e0 : w10.cell? ⟨g, 0, none⟩ = some (.int .u8 7) := hcs 0 _ rfl
  have e4 : w10.cell? ⟨g, 4, none⟩ = some (.int .u8 2) := hcs 4 _ rfl
  have hgl : g < w10.heap.size := ow_lt (S10.out.at_ (l1 := [_, _])) rfl
  have n1 : ¬ g = w10.heap.size := by omega
  have n2 : ¬ w10.heap.size = g := by omega
  have n3 : ¬ w5.heap.size = w10.heap.size := by omega
  have n4 : ¬ w10.heap.size = w5.heap.size := by omega
  clear hcs
  go_wp2_with (first
    | (go_at_call 12; refine (num07_any _ _).mono ?_; rintro e w' ⟨rfl, rfl⟩)
    | (go_at_call 14; refine (size_five _).mono ?_; rintro e w' ⟨rfl, rfl⟩))
  go_ret
  exact ⟨rfl, S10.out.k.alloc _⟩
end Go.Proofs.Ytnchjfhmalbjoaa
/- 'make([]byte, n)' of a constant. -/
namespace Go.Proofs.Ytnchjfhmalbjoaa
open Go.RowKit
theorem make_noughts {ops : Array Oper} {rest : List Oper} {o : Oper} {a : Act} {w : World} {Q : Exit → Act → World → Prop} (hgd : Region.wanted o (yielded ops a.tmps) = true) (n : Nat) (hn : n ≤ 1073741824)
    (ho : o.op = .makeSlice 23 (.const (.int .i64 (n : Int))) (.const (.int .i64 (n : Int))))
    (h : ∀ w1, Ow w1 5 1 (.slice (some ⟨w.heap.size, 0, none⟩) n n) n (bv (List.replicate n 0)) → Kp [] w w1 → wpList Try.prog ops Q rest (a.put o.dst (.slice (some ⟨w.heap.size, 0, none⟩) n n)) w1) : wpList Try.prog ops Q (o :: rest) a w := by
  obtain ⟨i0, hi, hz0, hz1, hz2⟩ := info_parts Try.infoU8
  obtain ⟨w1, hr, h1, h2⟩ := run_make_full (P := Try.prog) w 0 23 5 i0 _ 1 Try.underlying23 hi hz0 hz1 .i64 .i64 n (by rw [hz2]; omega) (by unfold maxLen; omega) (Nat.zero_le _)
  refine wpList_step fun K hK => ?_
  rw [if_pos hgd]
  unfold Oper.wp execOp
  simp only [ho, BigFrame.eval_const, Sem.run_bind, hr, Result.andThen_ok, Sem.run_pure]
  refine hK _ _ (h w1 ?_ (Kp.of_grown h2))
  rw [show (Value.int .u8 0).cells = #[.int .u8 0] from rfl, Nat.mul_one, toList_madeCells_one] at h1
  have e : bv (List.replicate n 0) = List.replicate n (.int .u8 0) := by simp [bv]
  rw [e]
  exact h1
/-- n noughts. -/
def zeros (n : Nat) : List UInt8 := List.replicate n 0
theorem zeros_length (n : Nat) : (zeros n).length = n := List.length_replicate ..
/-- The same, the noughts behind a letter. -/
theorem make_zero {ops : Array Oper} {rest : List Oper} {o : Oper} {a : Act} {w : World} {Q : Exit → Act → World → Prop} (hgd : Region.wanted o (yielded ops a.tmps) = true) (n : Nat) (hn : n ≤ 1073741824)
    (ho : o.op = .makeSlice 23 (.const (.int .i64 (n : Int))) (.const (.int .i64 (n : Int))))
    (h : ∀ w1 (z : List UInt8), Hid (z = zeros n) → Hid (z.length = n) → Ow w1 5 1 (.slice (some ⟨w.heap.size, 0, none⟩) n n) n (bv z) → Kp [] w w1 → wpList Try.prog ops Q rest (a.put o.dst (.slice (some ⟨w.heap.size, 0, none⟩) n n)) w1) : wpList Try.prog ops Q (o :: rest) a w :=
  make_noughts hgd n hn ho (fun w1 o1 k1 => h w1 _ (Lib.hid rfl) (Lib.hid (List.length_replicate ..)) o1 k1)
end Go.Proofs.Ytnchjfhmalbjoaa
/- RecordNames: the walk. -/
namespace Go.Proofs.Ytnchjfhmalbjoaa
open Go.RowKit
theorem recsIn_one {W : World} {g : Nat} {kd : UInt8} {x : Value} {body : List UInt8} (hb : Blk W g 25 #[.int .u8 (kd.toNat : Int), x]) (hx : Rd W 1 x body.length (bv body)) : RecsIn W (.slice (some ⟨g, 0, none⟩) 1 1) [(kd, body)] :=
  ⟨⟨some ⟨g, 0, none⟩, 1, rfl, Nat.le_refl _, by simp [maxLen], by simp, fun ad had i r hr => by
    cases had
    rcases i with _ | i
    · cases hr
      refine ⟨x, fun j u hu => ?_, hx⟩
      rcases j with _ | _ | j
      · cases hu; exact hb.cell 0
      · cases hu; exact hb.cell 1
      · cases hu
    · cases hr⟩⟩
theorem put_refused {W : World} {g : Nat} (kd : UInt8) (x : Value) (body : List UInt8) (er : Nat) (hb : Blk W g 25 #[.int .u8 (kd.toNat : Int), x]) (hx : Rd W 1 x body.length (bv body)) (he : bad (kd, body) = er) (h0 : er ≠ 0) (hl : body.length ≤ 1073741824) :
    Calls Try.prog 10 #[.slice (some ⟨g, 0, none⟩) 1 1] W fun e w' => ∃ A c, e = .returned (.tuple #[.slice A 0 c, .int .i64 (er : Int)]) ∧ Kp [] W w' := by
  have hr : rerr [(kd, body)] = er := by simp [rerr, he, h0]
  refine (put_any _ _ W (recsIn_one hb hx) (by simp [frames, frame_length]; omega)).mono ?_
  rintro e w' ⟨u, rfl, o, k, f⟩
  have ho : outOf [(kd, body)] = [] := by unfold outOf; rw [hr, if_neg h0]
  rw [ho] at o
  obtain ⟨A, c, rfl, _, _⟩ := ow_form o
  exact ⟨A, c, by rw [hr]; rfl, k⟩
theorem bad_long (kd : UInt8) (h : kd.toNat ≠ 0) (body : List UInt8) (hl : 8388608 < body.length) : bad (kd, body) = 3 := by unfold bad; rw [if_neg h, if_pos hl]
theorem bad_none (body : List UInt8) : bad (0, body) = 2 := rfl
theorem pread_no {n k : Nat} (b : List UInt8) (hb : b.length = n) (hk : rE b = k) (h0 : k ≠ 0) (hn : n ≤ 1000) (v : Value) (w : World) (h : Rd w 1 v n (bv b)) : Calls Try.prog 22 #[v] w fun e w' => ∃ A c, e = .returned (.tuple #[.agg #[.int .u8 0, .slice A 0 c], .int .i64 0, .int .i64 (k : Int)]) ∧ Kp [] w w' := by
  subst hb
  obtain ⟨A, c, rfl⟩ := rd_form h
  refine (pread_any A c b w h (by omega)).mono ?_
  rintro e w' ⟨u, rfl, o, k', f⟩
  obtain ⟨h1, h2, h3⟩ := rKBS_no hk h0
  rw [hk, h1, h3]
  rw [h2] at o
  obtain ⟨A', c', rfl, _, _⟩ := ow_form o
  exact ⟨A', c', rfl, k'⟩
theorem size_max (w : World) : Calls Try.prog 14 #[.int .i64 8388608] w fun e w' => e = .returned (.int .i64 8388617) ∧ w = w' := size_any 8388608 (by decide) w
theorem size_past (w : World) : Calls Try.prog 14 #[.int .i64 8388609] w fun e w' => e = .returned (.int .i64 0) ∧ w = w' := size_any 8388609 (by decide) w
theorem n_r1 : rE [1, 0, 128, 0, 0, 9] = 170 := by kernel_rfl
theorem n_r2 : rE [1, 0, 128, 0, 1, 9] = 3 := by kernel_rfl
set_option maxRecDepth 100000 in
set_option maxHeartbeats 2000000 in
theorem names_true (w : World) : Calls Try.prog 6 #[] w fun e w' => e = .returned (.bool true) ∧ Kp [] w w' := by
  go_enter Try.func6, Try.ntmps6
  go_wp2_with (at_make; refine make_zero (by kernel_rfl) 8388609 (by decide) rfl ?_)
  intro w1 z Hz Hzl o1 k1
  have K1 := Lib.hid k1
  have R1 := Lib.hid (Rd.of_own o1)
  have hz1 : 8388608 < z.length := by rw [Hzl.out]; decide
  have hz2 : z.length ≤ 1073741824 := by rw [Hzl.out]; decide
  clear o1 k1
  go_wp2_with fail
  refine (put_refused (g := w1.heap.size) 1 (.slice (some ⟨w.heap.size, 0, none⟩) 8388609 8388609) z 3 (Blk.new w1 _ _) (by rw [Hzl.out]; exact R1.out.alloc _) (bad_long 1 (by decide) z hz1) (by decide) hz2).mono ?_
  rintro e w2 ⟨A2, c2, rfl, k2⟩
  have K2 := Lib.hid ((K1.out.alloc _).trans k2 (by simp))
  clear k2
  go_wp2_with (at_make; refine make_zero (by kernel_rfl) 8388609 (by decide) rfl ?_)
  intro w3 z' Hz' Hzl' o3 k3
  have K3 := Lib.hid (K2.out.trans k3 (by simp))
  have R3 := Lib.hid (Rd.of_own o3)
  have hz3 : z'.length ≤ 1073741824 := by rw [Hzl'.out]; decide
  clear o3 k3
  go_wp2_with fail
  refine (put_refused (g := w3.heap.size) 0 (.slice (some ⟨w2.heap.size, 0, none⟩) 8388609 8388609) z' 2 (Blk.new w3 _ _) (by rw [Hzl'.out]; exact R3.out.alloc _) (bad_none z') (by decide) hz3).mono ?_
  rintro e w4 ⟨A4, c4, rfl, k4⟩
  have K4 := Lib.hid ((K3.out.alloc _).trans k4 (by simp))
  clear k4
  go_wp2_with fail
  refine (pread_no (n := 6) [1, 0, 128, 0, 0, 9] rfl n_r1 (by decide) (by decide) _ _ (rd_lit w4 5 _ [1, 0, 128, 0, 0, 9] rfl (by decide))).mono ?_
  rintro e w5 ⟨A5, c5, rfl, k5⟩
  have K5 := Lib.hid (((K4.out.alloc _).trans k5 (by simp)).alloc (.cells #[.int .u8 0, .slice A5 0 c5] 25))
  have R5 := Lib.hid (rd_lit (w5.alloc (.cells #[.int .u8 0, .slice A5 0 c5] 25)) 5 #[.int .u8 1, .int .u8 0, .int .u8 128, .int .u8 0, .int .u8 1, .int .u8 9] [1, 0, 128, 0, 1, 9] rfl (by decide))
  rw [World.size_alloc] at R5
  clear k5
  go_wp2_with fail
  refine (pread_no (n := 6) [1, 0, 128, 0, 1, 9] rfl n_r2 (by decide) (by decide) _ _ R5.out).mono ?_
  rintro e w6 ⟨A6, c6, rfl, k6⟩
  have K6 := Lib.hid (((K5.out.alloc _).trans k6 (by simp)).alloc (.cells #[.int .u8 0, .slice A6 0 c6] 25))
  clear k6
  go_wp2_with (first
    | (go_at_call 12; (with_reducible refine (num07_any _ _).mono ?_); rintro e w' ⟨rfl, rfl⟩)
    | (go_at_call 14; (with_reducible refine (size_max _).mono ?_); rintro e w' ⟨rfl, rfl⟩)
    | (go_at_call 14; (with_reducible refine (size_past _).mono ?_); rintro e w' ⟨rfl, rfl⟩)
    | (go_at_call 18; (with_reducible refine (known07_true _).mono ?_); rintro e w7 ⟨rfl, k7⟩))
  go_ret
  exact ⟨rfl, K6.out.trans k7 (by simp)⟩
end Go.Proofs.Ytnchjfhmalbjoaa
/- The row's last step, where a walk has left 'Below' of the world it began in. -/
namespace Go.Proofs.Ytnchjfhmalbjoaa
open Go.RowKit Go.WideShapes Go.ChangeShapes

theorem own_knob : ownKnob Try.prog.godebug = none := by kernel_rfl

section
variable {H : Type} {enc : TypeId × Value → H} {P : Program}
/-- 'post_of_same' for a world of which 'Below' alone is known (old cells and old marks are as they were). -/
theorem post_below {f : Func} {s : ChangeSpec} {apart fresh handsOn again : Bool} {W W' : World} {args : Array Value} {v : Value} {ds gs : List (DataW H)} {before pa pv : List MemPlace}
    (hW : DataW.Whole enc P f.params.toList s.vars apart W args.toList ds gs before)
    (hres : ∀ (b : Nat) (sp : Nat → Bool) (hd : Bool), DataW.TrodAll enc P W' b sp hd f.resultTypes.toList (v.resultList f.resultTypes.size) (s.fn H (ds ++ gs)).results [])
    (hargs : ∀ sp : Nat → Bool, (∀ p ∈ before, sp p.block = true) → DataW.TrodAll enc P W' 0 sp true f.params.toList args.toList (s.fn H (ds ++ gs)).args pa)
    (hvars : ∀ sp : Nat → Bool, (∀ p ∈ before, sp p.block = true) → DataW.TrodVars enc P W' sp s.vars (s.fn H (ds ++ gs)).vars pv)
    (hps : before = pa ++ pv) (hb : Below W.heap.size W W')
    (hok : ∀ (j : Nat) (t : TypeId) (r : Value), f.resultTypes[j]? = some t → (v.resultList f.resultTypes.size)[j]? = some r → Value.okWide P W' .any 0 t r) :
    s.post enc P f apart fresh handsOn again W args v W' := by
  have hlt : ∀ p ∈ before, p.block < W.heap.size := fun p hp => hW.lt p hp
  have hold : ∀ p ∈ before, (fun b => decide (b < W.heap.size)) p.block = true := fun p hp => by simpa using hlt p hp
  refine ⟨ds, gs, before, [], pa, pv, hW, hres _ _ _, hargs _ hold, hvars _ hold, World.keptBut_mono (fun p hp => ⟨hp, ?_⟩) (hb.frame (· ∈ before)), fun _ => ?_⟩
  · rw [hps, List.mem_append] at hp
    exact Or.inr hp
  · obtain ⟨_, _, _, _, _, hz, hn⟩ := hW
    refine ⟨hok, _, _, ([] ++ pa) ++ pv, ⟨[] ++ pa, pv, trodAll_append (hargs _ (fun _ _ => rfl)) (hres _ _ _), hvars _ (fun _ _ => rfl), rfl, ?_, ?_⟩, ?_⟩
    · intro b off hp
      have hin : MemPlace.cell b off ∈ before := by rw [hps]; simpa using hp
      rw [hb.frozen (hlt _ hin)]
      exact hz b off hin
    · intro ha
      have := hn ha
      rw [hps] at this
      simpa using this
    · intro p hp _
      rw [hps]
      simpa using hp
end
theorem Kp.below0 {w w' : World} (h : Kp [] w w') : Below w.heap.size w w' := h.below (Nat.le_refl _) (by simp)
theorem u64_wf {a : Int} (h : (Lit.int .u64 a).wf = true) : ∃ n : Nat, a = (n : Int) ∧ n < 18446744073709551616 := by
  have hx : 0 ≤ a ∧ a ≤ 18446744073709551615 := by simpa [Lit.wf, IntKind.min, IntKind.max, IntKind.signed, IntKind.bits] using h
  exact ⟨a.toNat, by omega, by omega⟩
theorem u32_wf {a : Int} (h : (Lit.int .u32 a).wf = true) : ∃ n : Nat, a = (n : Int) ∧ n < 4294967296 := by
  have hx : 0 ≤ a ∧ a ≤ 4294967295 := by simpa [Lit.wf, IntKind.min, IntKind.max, IntKind.signed, IntKind.bits] using h
  exact ⟨a.toNat, by omega, by omega⟩
end Go.Proofs.Ytnchjfhmalbjoaa
