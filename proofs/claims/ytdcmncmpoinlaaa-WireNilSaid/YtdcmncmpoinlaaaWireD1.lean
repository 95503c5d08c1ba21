/- WireNil: writers and readers that are not there. -/
import Derived.Test.YtdcmncmpoinlaaaWireBL
namespace Go.Proofs.Ytdcmncmpoinlaaa
open Go.RowKit

set_option maxHeartbeats 400000 in
theorem put8_nil (x : Int) (w : World) : Calls Try.prog 29 #[.pointer none, .int .u8 x] w fun e w' => e = .returned (.int .i64 1) ∧ w = w' := by
  go_enter Try.func29, Try.ntmps29
  go_wp2
  go_ret
  exact ⟨rfl, rfl⟩
set_option maxHeartbeats 400000 in
theorem put64_nil (x : Int) (w : World) : Calls Try.prog 10 #[.pointer none, .int .u64 x] w fun e w' => e = .returned (.int .i64 1) ∧ w = w' := by
  go_enter Try.func10, Try.ntmps10
  go_wp2
  go_ret
  exact ⟨rfl, rfl⟩
set_option maxHeartbeats 400000 in
theorem signed_nil (w : World) : Calls Try.prog 30 #[.pointer none, .int .i64 1] w fun e w' => e = .returned (.int .i64 1) ∧ w = w' := by
  go_enter Try.func30, Try.ntmps30
  go_wp2_with (go_at_call 10; refine (put64_nil _ _).mono ?_; rintro e w' ⟨rfl, rfl⟩)
  go_ret
  exact ⟨rfl, rfl⟩
set_option maxHeartbeats 400000 in
theorem raw_nil (x : Value) (w : World) : Calls Try.prog 32 #[.pointer none, x] w fun e w' => e = .returned (.int .i64 1) ∧ w = w' := by
  go_enter Try.func32, Try.ntmps32
  go_wp2
  go_ret
  exact ⟨rfl, rfl⟩
set_option maxRecDepth 100000 in
set_option maxHeartbeats 400000 in
theorem hash_nil (cs : Array Value) (w : World) : Calls Try.prog 31 #[.pointer none, .agg cs] w fun e w' => e = .returned (.int .i64 1) ∧ Kp [] w w' := by
  go_enter Try.func31, Try.ntmps31
  go_wp2_with (go_at_call 32; refine (raw_nil _ _).mono ?_; rintro e w' ⟨rfl, rfl⟩)
  go_ret
  exact ⟨rfl, (Kp.refl [] w).alloc _⟩
set_option maxHeartbeats 400000 in
theorem list_nil (k : Int) (x : Value) (w : World) : Calls Try.prog 33 #[.pointer none, .int .i64 k, x] w fun e w' => e = .returned (.int .i64 1) ∧ w = w' := by
  go_enter Try.func33, Try.ntmps33
  go_wp2
  go_ret
  exact ⟨rfl, rfl⟩
set_option maxHeartbeats 400000 in
theorem len_nil (w : World) : Calls Try.prog 19 #[.pointer none] w fun e w' => e = .returned (.int .i64 0) ∧ w = w' := by
  go_enter Try.func19, Try.ntmps19
  go_wp2
  go_ret
  exact ⟨rfl, rfl⟩
set_option maxHeartbeats 400000 in
theorem bytes_nil (w : World) : Calls Try.prog 15 #[.pointer none] w fun e w' => e = .returned (.slice none 0 0) ∧ w = w' := by
  go_enter Try.func15, Try.ntmps15
  go_wp2
  go_ret
  exact ⟨rfl, rfl⟩
/-! ### The reader -/
set_option maxHeartbeats 400000 in
theorem next_nil (k : Int) (f : Value) (w : World) : Calls Try.prog 40 #[.pointer none, .int .i64 k, f] w fun e w' => e = .returned (.int .i64 1) ∧ w = w' := by
  go_enter Try.func40, Try.ntmps40
  go_wp2
  go_ret
  exact ⟨rfl, rfl⟩
set_option maxHeartbeats 400000 in
theorem end_nil (w : World) : Calls Try.prog 28 #[.pointer none] w fun e w' => e = .returned (.int .i64 1) ∧ w = w' := by
  go_enter Try.func28, Try.ntmps28
  go_wp2
  go_ret
  exact ⟨rfl, rfl⟩
set_option maxHeartbeats 400000 in
theorem left_nil (w : World) : Calls Try.prog 25 #[.pointer none] w fun e w' => e = .returned (.int .i64 0) ∧ w = w' := by
  go_enter Try.func25, Try.ntmps25
  go_wp2
  go_ret
  exact ⟨rfl, rfl⟩
set_option maxHeartbeats 400000 in
theorem place_nil (w : World) : Calls Try.prog 24 #[.pointer none] w fun e w' => e = .returned (.int .i64 0) ∧ w = w' := by
  go_enter Try.func24, Try.ntmps24
  go_wp2
  go_ret
  exact ⟨rfl, rfl⟩
set_option maxRecDepth 100000 in
set_option maxHeartbeats 400000 in
theorem take8_nil (w : World) : Calls Try.prog 48 #[.pointer none] w fun e w' => e = .returned (.tuple #[.int .u8 0, .int .i64 1]) ∧ Kp [] w w' := by
  go_enter Try.func48, Try.ntmps48
  go_wp2_with (first
    | (go_at_call 61; refine (width_u8 _).mono ?_; rintro e w' ⟨rfl, rfl⟩)
    | (go_at_call 40; refine (next_nil _ _ _).mono ?_; rintro e w' ⟨rfl, rfl⟩))
  go_ret2
  exact ⟨rfl, (Kp.refl [] w).alloc _⟩
set_option maxRecDepth 100000 in
set_option maxHeartbeats 400000 in
theorem take64_nil (w : World) : Calls Try.prog 51 #[.pointer none] w fun e w' => e = .returned (.tuple #[.int .u64 0, .int .i64 1]) ∧ Kp [] w w' := by
  go_enter Try.func51, Try.ntmps51
  go_wp2_with (first
    | (go_at_call 37; refine (width_u64 _).mono ?_; rintro e w' ⟨rfl, rfl⟩)
    | (go_at_call 40; refine (next_nil _ _ _).mono ?_; rintro e w' ⟨rfl, rfl⟩))
  go_ret2
  exact ⟨rfl, (Kp.refl [] w).alloc _⟩
set_option maxHeartbeats 400000 in
theorem rsigned_nil (w : World) : Calls Try.prog 52 #[.pointer none] w fun e w' => e = .returned (.tuple #[.int .i64 0, .int .i64 1]) ∧ Kp [] w w' := by
  go_enter Try.func52, Try.ntmps52
  go_wp2_with (go_at_call 51; refine (take64_nil _).mono ?_; rintro e w' ⟨rfl, k1⟩)
  go_ret2
  exact ⟨rfl, k1⟩
set_option maxRecDepth 100000 in
set_option maxHeartbeats 800000 in
theorem rhash_nil (w : World) : Calls Try.prog 54 #[.pointer none] w fun e w' => e = .returned (.tuple #[.agg (hashA (List.replicate 32 0)), .int .i64 1]) ∧ Kp [] w w' := by
  have Hn := Lib.hid (next_nil 32 (.func (.func 67) #[] #[.pointer (some ⟨w.heap.size + 1, 0, none⟩)]) (hashW w))
  go_enter Try.func54, Try.ntmps54
  go_wp2_with fail
  refine Hn.out.mono ?_
  rintro e w1 ⟨rfl, rfl⟩
  obtain ⟨b1, b2⟩ := hashW_blks w
  have k1 := hashW_kp w
  generalize hashW w = w1 at *
  have Hc := Lib.hid b2.agg
  go_wp2_with (first
    | (refine wpList_load_agg rfl 50 (.tmp 4) rfl ⟨w.heap.size + 1, 0, none⟩ rfl (bv (List.replicate 32 0)) _ Hc.out Try.underlying50 rfl (by rw [Try.infoHash]; rfl) ?_)
    | (refine wpList_store_agg rfl 50 (.tmp 2) (.tmp 9) rfl w.heap.size 0 rfl (hashA (List.replicate 32 0)) rfl 50 _ b1 (by rw [Try.infoHash]; rfl) (by decide) (bv_one _) ?_; intro w2 c2 k2))
  have e2 := set_all (hashA (List.replicate 32 0)) (hashA (List.replicate 32 0)) rfl
  rw [e2] at c2
  exact bodyPost_ret (results_cell_tmp (by rfl) rfl c2 Try.underlying50 rfl (by rw [Try.infoHash]; rfl)) rfl ⟨rfl, k1.trans k2 (by simp)⟩
set_option maxRecDepth 100000 in
set_option maxHeartbeats 400000 in
theorem rraw_nil (k : Int) (w : World) : Calls Try.prog 56 #[.pointer none, .int .i64 k] w fun e w' => e = .returned (.tuple #[.slice none 0 0, .int .i64 1]) ∧ Kp [] w w' := by
  go_enter Try.func56, Try.ntmps56
  go_wp2_with (go_at_call 40; refine (next_nil _ _ _).mono ?_; rintro e w' ⟨rfl, rfl⟩)
  go_ret2
  exact ⟨rfl, (Kp.refl [] w).alloc _⟩
set_option maxRecDepth 100000 in
set_option maxHeartbeats 400000 in
theorem rlist_nil (k most : Int) (w : World) : Calls Try.prog 59 #[.pointer none, .int .i64 k, .int .i64 most] w fun e w' => e = .returned (.tuple #[.slice none 0 0, .int .i64 1]) ∧ Kp [] w w' := by
  go_enter Try.func59, Try.ntmps59
  go_wp2_with (go_at_call 40; refine (next_nil _ _ _).mono ?_; rintro e w' ⟨rfl, rfl⟩)
  go_ret2
  exact ⟨rfl, (((Kp.refl [] w).alloc _).alloc _).alloc _⟩

set_option maxRecDepth 100000 in
set_option maxHeartbeats 1000000 in
theorem reads_in (r : Option Addr) (er : Int) (I : World → Prop) (hI : ∀ W W', I W → Kp [] W W' → I W')
    (h1 : ∀ W, I W → Calls Try.prog 48 #[.pointer r] W fun e w' => e = .returned (.tuple #[.int .u8 0, .int .i64 er]) ∧ Kp [] W w')
    (h2 : ∀ W, I W → Calls Try.prog 51 #[.pointer r] W fun e w' => e = .returned (.tuple #[.int .u64 0, .int .i64 er]) ∧ Kp [] W w')
    (h3 : ∀ W, I W → Calls Try.prog 52 #[.pointer r] W fun e w' => e = .returned (.tuple #[.int .i64 0, .int .i64 er]) ∧ Kp [] W w')
    (h4 : ∀ W, I W → Calls Try.prog 54 #[.pointer r] W fun e w' => e = .returned (.tuple #[.agg (hashA (List.replicate 32 0)), .int .i64 er]) ∧ Kp [] W w')
    (h5 : ∀ W, I W → Calls Try.prog 56 #[.pointer r, .int .i64 1] W fun e w' => e = .returned (.tuple #[.slice none 0 0, .int .i64 er]) ∧ Kp [] W w')
    (h6 : ∀ W, I W → Calls Try.prog 59 #[.pointer r, .int .i64 1, .int .i64 9] W fun e w' => e = .returned (.tuple #[.slice none 0 0, .int .i64 er]) ∧ Kp [] W w')
    (h7 : ∀ W, I W → Calls Try.prog 24 #[.pointer r] W fun e w' => e = .returned (.int .i64 0) ∧ Kp [] W w')
    (h8 : ∀ W, I W → Calls Try.prog 25 #[.pointer r] W fun e w' => e = .returned (.int .i64 0) ∧ Kp [] W w')
    (w : World) (hw : I w) :
    Calls Try.prog 34 #[.pointer r, .int .i64 er] w fun e w' => e = .returned (.bool true) ∧ Kp [] w w' := by
  have Hi := Lib.hid hI
  have H1 := Lib.hid h1
  have H2 := Lib.hid h2
  have H3 := Lib.hid h3
  have H4 := Lib.hid h4
  have H5 := Lib.hid h5
  have H6 := Lib.hid h6
  have H7 := Lib.hid h7
  have H8 := Lib.hid h8
  clear hI h1 h2 h3 h4 h5 h6 h7 h8
  have h1c : ∀ u ∈ (hashA (List.replicate 32 0)).toList, u.oneCell' = true := bv_one _
  obtain ⟨ha, hha⟩ : ∃ ha, ha = hashA (List.replicate 32 0) := ⟨_, rfl⟩
  have Hz := Lib.hid (show ha.size = 32 by rw [hha]; rfl)
  rw [← hha] at H4 h1c
  clear hha
  go_enter Try.func34, Try.ntmps34
  go_wp2_with (first
    | (go_at_call 17; refine (num_any _ _).mono ?_; rintro e w' ⟨rfl, rfl⟩)
    | (go_at_call 48; refine (H1.out _ hw).mono ?_; rintro e w1 ⟨rfl, k1⟩; have i1 := Hi.out _ _ hw k1)
    | (go_at_call 51; refine (H2.out _ i1).mono ?_; rintro e w2 ⟨rfl, k2⟩; have i2 := Hi.out _ _ i1 k2)
    | (go_at_call 52; refine (H3.out _ i2).mono ?_; rintro e w3 ⟨rfl, k3⟩; have i3 := Hi.out _ _ i2 k3)
    | (go_at_call 54; refine (H4.out _ i3).mono ?_; rintro e w4 ⟨rfl, k4⟩; have i4 := Hi.out _ _ i3 k4)
    | (refine wpList_store_agg rfl 50 (.tmp 11) (.tmp 35) rfl w4.heap.size 0 rfl ha rfl 50 (hashA (List.replicate 32 0)) (Blk.new _ _ _) (by rw [Try.infoHash, Hz.out]) (by rw [Hz.out]; decide) h1c ?_; intro w5 c5 k5; have k5' := ((Kp.refl [] w4).alloc _).trans k5 (fun g hg => .inr (by simp at hg; omega)); have i5 := Hi.out _ _ i4 k5')
    | (go_at_call 56; refine (H5.out _ i5).mono ?_; rintro e w6 ⟨rfl, k6⟩; have i6 := Hi.out _ _ i5 k6)
    | (go_at_call 59; refine (H6.out _ i6).mono ?_; rintro e w7 ⟨rfl, k7⟩; have i7 := Hi.out _ _ i6 k7)
    | (go_at_call 24; refine (H7.out _ i7).mono ?_; rintro e w8 ⟨rfl, k8⟩; have i8 := Hi.out _ _ i7 k8)
    | (go_at_call 25; refine (H8.out _ i8).mono ?_; rintro e w9 ⟨rfl, k9⟩))
  go_ret
  exact ⟨rfl, (((((((((k1.trans k2 (by simp)).trans k3 (by simp)).trans k4 (by simp)).trans k5' (by simp)).trans k6 (by simp)).trans k7 (by simp)).trans k8 (by simp)).trans k9 (by simp)))⟩
theorem reads_nil (w : World) : Calls Try.prog 34 #[.pointer none, .int .i64 1] w fun e w' => e = .returned (.bool true) ∧ Kp [] w w' :=
  reads_in none 1 (fun _ => True) (fun _ _ h _ => h) (fun W _ => take8_nil W) (fun W _ => take64_nil W) (fun W _ => rsigned_nil W) (fun W _ => rhash_nil W) (fun W _ => rraw_nil 1 W) (fun W _ => rlist_nil 1 9 W)
    (fun W _ => (place_nil W).mono fun _ _ ⟨h, e⟩ => ⟨h, e ▸ Kp.refl _ _⟩) (fun W _ => (left_nil W).mono fun _ _ ⟨h, e⟩ => ⟨h, e ▸ Kp.refl _ _⟩) w trivial
theorem reads_zero (p : Nat) (w : World) (h : Rr w p (.slice none 0 0) 0 []) : Calls Try.prog 34 #[.pointer (some ⟨p, 0, none⟩), .int .i64 110] w fun e w' => e = .returned (.bool true) ∧ Kp [] w w' :=
  reads_in (some ⟨p, 0, none⟩) 110 (fun W => Rr W p (.slice none 0 0) 0 []) (fun _ _ h k => h.kp' k) (fun W h => take_u8_end p _ 0 [] W h (by decide)) (fun W h => take_u64_end p _ 0 [] W h (by decide)) (fun W h => r_signed_end p _ 0 [] (by decide) W h) (fun W h => r_hash_end p _ 0 [] (by decide) W h) (fun W h => r_raw_end p _ 0 [] 1 W h (by decide)) (fun W h => r_list_end p _ 0 1 9 [] (by decide) (by decide) (by decide) W h)
    (fun W h => (r_place p _ 0 [] W h).mono fun _ _ ⟨h, e⟩ => ⟨h, e ▸ Kp.refl _ _⟩) (fun W h => (r_leftn p _ 0 [] 0 rfl W h).mono fun _ _ ⟨h, n, e⟩ => ⟨h, e ▸ Kp.drew' n⟩) w h
end Go.Proofs.Ytdcmncmpoinlaaa
