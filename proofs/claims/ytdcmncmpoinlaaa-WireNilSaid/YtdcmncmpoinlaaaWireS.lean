/- Walks of package wire: what a reader reads. -/
import Derived.Test.YtdcmncmpoinlaaaWireR
namespace Go.Proofs.Ytdcmncmpoinlaaa
open Go.RowKit

theorem ofInt_u64 (a : Nat) (ha : a < 18446744073709551616) : (BitVec.ofInt 64 (a : Int)).toNat = a := by
  rw [BitVec.ofInt_natCast, BitVec.toNat_ofNat]; exact Nat.mod_eq_of_lt (by omega)
theorem u64_or_nat (a b : Nat) (ha : a < 18446744073709551616) (hb : b < 18446744073709551616) : bits .or .u64 (a : Int) (b : Int) = ((a ||| b : Nat) : Int) := by
  have hx : a ||| b < 2 ^ 64 := Nat.or_lt_two_pow (by omega) (by omega)
  show IntKind.u64.wrap ((BitVec.ofInt 64 (a : Int) ||| BitVec.ofInt 64 (b : Int)).toNat : Int) = _
  rw [BitVec.toNat_or, ofInt_u64 a ha, ofInt_u64 b hb, IntKind.wrap_u64]
  omega
theorem or_shift (n q : Nat) (hq : q < 256) (hn : n < 72057594037927936) : bits .or .u64 ((n : Int) * 256) (q : Int) = ((256 * n + q : Nat) : Int) := by
  have h1 : ((n : Int) * 256) = ((256 * n : Nat) : Int) := by omega
  rw [h1, u64_or_nat _ _ (by omega) (by omega)]
  have h2 : n <<< 8 + q = n <<< 8 ||| q := Nat.shiftLeft_add_eq_or_of_lt (by omega) n
  rw [Nat.shiftLeft_eq] at h2
  rw [show 256 * n = n * 2 ^ 8 from by omega, ← h2]

set_option maxHeartbeats 400000 in
theorem number_any (x : Value) (bs : List UInt8) (hb : bs.length ≤ 8) (w : World) (hx : Rd w 1 x bs.length (bv bs)) :
    Calls Try.prog 42 #[x] w fun e w' => e = .returned (.int .u64 (num bs)) ∧ w = w' := by
  obtain ⟨hl, A, c, rfl, hc1, hc2, hA, hcells⟩ := hx
  go_enter Try.func42, Try.ntmps42
  go_wp2
  go_loop [3, 8] (fun x t => ∃ i : Nat, i ≤ bs.length ∧ t = .int .i64 i ∧ x = .int .u64 (num (bs.take i))) (fun _ t => bs.length - (intOf t).toNat)
  case atStart => exact ⟨0, Nat.zero_le _, rfl, rfl⟩
  case round =>
    obtain ⟨i, hi, rfl, rfl⟩ := hrel
    by_cases hlt : i < bs.length
    · rcases A with _ | ad
      · have := (hA rfl).1; omega
      · obtain ⟨q, n, hq, hn, hcell, hnext, hnow⟩ : ∃ q n : Nat, q < 256 ∧ n < 72057594037927936 ∧ w.cell? (ad.add i) = some (.int .u8 (q : Int)) ∧ num (bs.take (i + 1)) = 256 * n + q ∧ num (bs.take i) = n := by
          refine ⟨bs[i].toNat, num (bs.take i), bs[i].toNat_lt, ?_, hcells ad rfl i _ (by rw [bv_get, List.getElem?_eq_getElem hlt]; rfl), num_take bs i hlt, rfl⟩
          have h1 := num_lt (bs.take i)
          rw [List.length_take, Nat.min_eq_left (by omega)] at h1
          have : 256 ^ i ≤ 256 ^ 7 := Nat.pow_le_pow_right (by omega) (by omega)
          omega
        rw [hnow]
        have Hnext := Lib.hid hnext
        clear hnext hnow hcells
        go_wp2
        go_round
        case rel => exact ⟨i + 1, by omega, by go_num, by rw [Hnext.out, or_shift n q hq hn]⟩
        case measure => simp [intOf]; omega
    · go_wp2
      go_ret
      rw [List.take_of_length_le (by omega)]
      exact ⟨rfl, rfl⟩

theorem eg_take_u8 : ∀ args w, (callFunc 64 args).run Try.prog w = .ok (.enter 64 args) w := fun _ _ => by kernel_rfl
set_option maxRecDepth 100000 in
set_option maxHeartbeats 800000 in
theorem take_u8_in (g : Nat) (x0 : Value) (A : Option Addr) (c : Nat) (bs : List UInt8) (hb : bs.length = 1) (w : World) (hx : Rd w 1 (.slice A 1 c) 1 (bv bs)) (hg : Blk w g 5 #[x0]) :
    Calls Try.prog 64 #[.slice A 1 c, .pointer (some ⟨g, 0, none⟩)] w fun e w' => e = .returned (.int .i64 0) ∧ (w.setCell ⟨g, 0, none⟩ (.int .u8 (num bs))) = w' := by
  have hc := hg.cell 0
  have hf := hg.frozen 0
  have hlt := hg.lt
  simp at hc
  have hnum := num_lt bs
  rw [hb] at hnum
  simp only [Nat.reducePow] at hnum
  have Hc := number_any (.slice A 1 c) bs (by omega) w (by rw [hb]; exact hx)
  have HC := Lib.hid Hc
  clear Hc
  generalize num bs = n at *
  go_enter Try.func64, Try.ntmps64
  go_wp2_with (go_at_call 42; refine HC.out.mono ?_; rintro e w' ⟨rfl, rfl⟩)
  go_ret
  exact ⟨rfl, rfl⟩

set_option maxRecDepth 100000 in
set_option maxHeartbeats 800000 in
theorem take_u8 (p : Nat) (v : Value) (a : Nat) (bs : List UInt8) (w : World) (h : Rr w p v a bs) (hk : a + 1 ≤ bs.length) :
    Calls Try.prog 48 #[.pointer (some ⟨p, 0, none⟩)] w fun e w' => e = .returned (.tuple #[.int .u8 (num ((bs.drop a).take 1)), .int .i64 0]) ∧ Kp [p] w w' ∧ Rr w' p v (a + 1) bs := by
  have hp := h.blk.lt
  have hnext : Calls Try.prog 40 #[.pointer (some ⟨p, 0, none⟩), .int .i64 1, .func (.func 64) #[] #[.pointer (some ⟨w.heap.size, 0, none⟩)]] (w.alloc (.cells #[.int .u8 0] 5))
      fun e w' => e = .returned (.int .i64 0) ∧ w'.cell? ⟨w.heap.size, 0, none⟩ = some (.int .u8 (num ((bs.drop a).take 1))) ∧ Kp [p] w w' ∧ Rr w' p v (a + 1) bs :=
    next_ok p v a bs 1 hk _ _ _ (h.alloc _) _ eg_take_u8 (fun A c W hkp hr hrd => by
      have hb : Blk W w.heap.size 5 #[.int .u8 0] := (Blk.new w _ _).kp hkp (by simp; omega)
      refine (take_u8_in w.heap.size _ A c _ (by rw [List.length_take, List.length_drop]; omega) W hrd hb).mono ?_
      rintro e w' ⟨rfl, rfl⟩
      refine ⟨rfl, by simpa using (hb.set_ 0 _).cell 0, ?_, hr.set (by omega) (fun hv => by have := h.vlt _ hv; omega) 0 _⟩
      have k1 : Kp [p] w W := ((Kp.refl [p] w).alloc _).trans hkp (fun g hg => .inl hg)
      exact k1.setCell (.inr (by simp)) _)
  have Hn := Lib.hid hnext
  clear hnext
  generalize num ((bs.drop a).take 1) = n at *
  go_enter Try.func48, Try.ntmps48
  go_wp2_with (first
    | (go_at_call 61; refine (width_u8 _).mono ?_; rintro e w' ⟨rfl, rfl⟩)
    | (go_at_call 40; refine Hn.out.mono ?_; rintro e w' ⟨rfl, hc, hkp, hr⟩))
  go_ret2
  exact ⟨rfl, hkp, hr⟩

set_option maxRecDepth 100000 in
set_option maxHeartbeats 800000 in
theorem take_u8_end (p : Nat) (v : Value) (a : Nat) (bs : List UInt8) (w : World) (h : Rr w p v a bs) (hk : bs.length < a + 1) :
    Calls Try.prog 48 #[.pointer (some ⟨p, 0, none⟩)] w fun e w' => e = .returned (.tuple #[.int .u8 0, .int .i64 110]) ∧ Kp [] w w' := by
  have hn := next_end p v a bs 1 (by omega) (.func (.func 64) #[] #[.pointer (some ⟨w.heap.size, 0, none⟩)]) _ (h.alloc (.cells #[.int .u8 0] 5))
  have Hn := Lib.hid hn
  clear hn
  go_enter Try.func48, Try.ntmps48
  go_wp2_with (first
    | (go_at_call 61; refine (width_u8 _).mono ?_; rintro e w' ⟨rfl, rfl⟩)
    | (go_at_call 40; refine Hn.out.mono ?_; rintro e w' ⟨rfl, nq, rfl⟩; have hc : ((w.alloc (.cells #[.int .u8 0] 5)).drewN nq).cell? ⟨w.heap.size, 0, none⟩ = some (.int .u8 0) := by simp))
  go_ret2
  exact ⟨rfl, ((Kp.refl [] w).alloc _).drewN _⟩

theorem eg_take_u16 : ∀ args w, (callFunc 62 args).run Try.prog w = .ok (.enter 62 args) w := fun _ _ => by kernel_rfl
set_option maxRecDepth 100000 in
set_option maxHeartbeats 800000 in
theorem take_u16_in (g : Nat) (x0 : Value) (A : Option Addr) (c : Nat) (bs : List UInt8) (hb : bs.length = 2) (w : World) (hx : Rd w 1 (.slice A 2 c) 2 (bv bs)) (hg : Blk w g 29 #[x0]) :
    Calls Try.prog 62 #[.slice A 2 c, .pointer (some ⟨g, 0, none⟩)] w fun e w' => e = .returned (.int .i64 0) ∧ (w.setCell ⟨g, 0, none⟩ (.int .u16 (num bs))) = w' := by
  have hc := hg.cell 0
  have hf := hg.frozen 0
  have hlt := hg.lt
  simp at hc
  have hnum := num_lt bs
  rw [hb] at hnum
  simp only [Nat.reducePow] at hnum
  have Hc := number_any (.slice A 2 c) bs (by omega) w (by rw [hb]; exact hx)
  have HC := Lib.hid Hc
  clear Hc
  generalize num bs = n at *
  go_enter Try.func62, Try.ntmps62
  go_wp2_with (go_at_call 42; refine HC.out.mono ?_; rintro e w' ⟨rfl, rfl⟩)
  go_ret
  exact ⟨rfl, rfl⟩

set_option maxRecDepth 100000 in
set_option maxHeartbeats 800000 in
theorem take_u16 (p : Nat) (v : Value) (a : Nat) (bs : List UInt8) (w : World) (h : Rr w p v a bs) (hk : a + 2 ≤ bs.length) :
    Calls Try.prog 35 #[.pointer (some ⟨p, 0, none⟩)] w fun e w' => e = .returned (.tuple #[.int .u16 (num ((bs.drop a).take 2)), .int .i64 0]) ∧ Kp [p] w w' ∧ Rr w' p v (a + 2) bs := by
  have hp := h.blk.lt
  have hnext : Calls Try.prog 40 #[.pointer (some ⟨p, 0, none⟩), .int .i64 2, .func (.func 62) #[] #[.pointer (some ⟨w.heap.size, 0, none⟩)]] (w.alloc (.cells #[.int .u16 0] 29))
      fun e w' => e = .returned (.int .i64 0) ∧ w'.cell? ⟨w.heap.size, 0, none⟩ = some (.int .u16 (num ((bs.drop a).take 2))) ∧ Kp [p] w w' ∧ Rr w' p v (a + 2) bs :=
    next_ok p v a bs 2 hk _ _ _ (h.alloc _) _ eg_take_u16 (fun A c W hkp hr hrd => by
      have hb : Blk W w.heap.size 29 #[.int .u16 0] := (Blk.new w _ _).kp hkp (by simp; omega)
      refine (take_u16_in w.heap.size _ A c _ (by rw [List.length_take, List.length_drop]; omega) W hrd hb).mono ?_
      rintro e w' ⟨rfl, rfl⟩
      refine ⟨rfl, by simpa using (hb.set_ 0 _).cell 0, ?_, hr.set (by omega) (fun hv => by have := h.vlt _ hv; omega) 0 _⟩
      have k1 : Kp [p] w W := ((Kp.refl [p] w).alloc _).trans hkp (fun g hg => .inl hg)
      exact k1.setCell (.inr (by simp)) _)
  have Hn := Lib.hid hnext
  clear hnext
  generalize num ((bs.drop a).take 2) = n at *
  go_enter Try.func35, Try.ntmps35
  go_wp2_with (first
    | (go_at_call 39; refine (width_u16 _).mono ?_; rintro e w' ⟨rfl, rfl⟩)
    | (go_at_call 40; refine Hn.out.mono ?_; rintro e w' ⟨rfl, hc, hkp, hr⟩))
  go_ret2
  exact ⟨rfl, hkp, hr⟩

set_option maxRecDepth 100000 in
set_option maxHeartbeats 800000 in
theorem take_u16_end (p : Nat) (v : Value) (a : Nat) (bs : List UInt8) (w : World) (h : Rr w p v a bs) (hk : bs.length < a + 2) :
    Calls Try.prog 35 #[.pointer (some ⟨p, 0, none⟩)] w fun e w' => e = .returned (.tuple #[.int .u16 0, .int .i64 110]) ∧ Kp [] w w' := by
  have hn := next_end p v a bs 2 (by omega) (.func (.func 62) #[] #[.pointer (some ⟨w.heap.size, 0, none⟩)]) _ (h.alloc (.cells #[.int .u16 0] 29))
  have Hn := Lib.hid hn
  clear hn
  go_enter Try.func35, Try.ntmps35
  go_wp2_with (first
    | (go_at_call 39; refine (width_u16 _).mono ?_; rintro e w' ⟨rfl, rfl⟩)
    | (go_at_call 40; refine Hn.out.mono ?_; rintro e w' ⟨rfl, nq, rfl⟩; have hc : ((w.alloc (.cells #[.int .u16 0] 29)).drewN nq).cell? ⟨w.heap.size, 0, none⟩ = some (.int .u16 0) := by simp))
  go_ret2
  exact ⟨rfl, ((Kp.refl [] w).alloc _).drewN _⟩

theorem eg_take_word : ∀ args w, (callFunc 41 args).run Try.prog w = .ok (.enter 41 args) w := fun _ _ => by kernel_rfl
set_option maxRecDepth 100000 in
set_option maxHeartbeats 800000 in
theorem take_word_in (g : Nat) (x0 : Value) (A : Option Addr) (c : Nat) (bs : List UInt8) (hb : bs.length = 2) (w : World) (hx : Rd w 1 (.slice A 2 c) 2 (bv bs)) (hg : Blk w g 30 #[x0]) :
    Calls Try.prog 41 #[.slice A 2 c, .pointer (some ⟨g, 0, none⟩)] w fun e w' => e = .returned (.int .i64 0) ∧ (w.setCell ⟨g, 0, none⟩ (.int .u16 (num bs))) = w' := by
  have hc := hg.cell 0
  have hf := hg.frozen 0
  have hlt := hg.lt
  simp at hc
  have hnum := num_lt bs
  rw [hb] at hnum
  simp only [Nat.reducePow] at hnum
  have Hc := number_any (.slice A 2 c) bs (by omega) w (by rw [hb]; exact hx)
  have HC := Lib.hid Hc
  clear Hc
  generalize num bs = n at *
  go_enter Try.func41, Try.ntmps41
  go_wp2_with (go_at_call 42; refine HC.out.mono ?_; rintro e w' ⟨rfl, rfl⟩)
  go_ret
  exact ⟨rfl, rfl⟩

set_option maxRecDepth 100000 in
set_option maxHeartbeats 800000 in
theorem take_word (p : Nat) (v : Value) (a : Nat) (bs : List UInt8) (w : World) (h : Rr w p v a bs) (hk : a + 2 ≤ bs.length) :
    Calls Try.prog 13 #[.pointer (some ⟨p, 0, none⟩)] w fun e w' => e = .returned (.tuple #[.int .u16 (num ((bs.drop a).take 2)), .int .i64 0]) ∧ Kp [p] w w' ∧ Rr w' p v (a + 2) bs := by
  have hp := h.blk.lt
  have hnext : Calls Try.prog 40 #[.pointer (some ⟨p, 0, none⟩), .int .i64 2, .func (.func 41) #[] #[.pointer (some ⟨w.heap.size, 0, none⟩)]] (w.alloc (.cells #[.int .u16 0] 30))
      fun e w' => e = .returned (.int .i64 0) ∧ w'.cell? ⟨w.heap.size, 0, none⟩ = some (.int .u16 (num ((bs.drop a).take 2))) ∧ Kp [p] w w' ∧ Rr w' p v (a + 2) bs :=
    next_ok p v a bs 2 hk _ _ _ (h.alloc _) _ eg_take_word (fun A c W hkp hr hrd => by
      have hb : Blk W w.heap.size 30 #[.int .u16 0] := (Blk.new w _ _).kp hkp (by simp; omega)
      refine (take_word_in w.heap.size _ A c _ (by rw [List.length_take, List.length_drop]; omega) W hrd hb).mono ?_
      rintro e w' ⟨rfl, rfl⟩
      refine ⟨rfl, by simpa using (hb.set_ 0 _).cell 0, ?_, hr.set (by omega) (fun hv => by have := h.vlt _ hv; omega) 0 _⟩
      have k1 : Kp [p] w W := ((Kp.refl [p] w).alloc _).trans hkp (fun g hg => .inl hg)
      exact k1.setCell (.inr (by simp)) _)
  have Hn := Lib.hid hnext
  clear hnext
  generalize num ((bs.drop a).take 2) = n at *
  go_enter Try.func13, Try.ntmps13
  go_wp2_with (first
    | (go_at_call 38; refine (width_word _).mono ?_; rintro e w' ⟨rfl, rfl⟩)
    | (go_at_call 40; refine Hn.out.mono ?_; rintro e w' ⟨rfl, hc, hkp, hr⟩))
  go_ret2
  exact ⟨rfl, hkp, hr⟩

set_option maxRecDepth 100000 in
set_option maxHeartbeats 800000 in
theorem take_word_end (p : Nat) (v : Value) (a : Nat) (bs : List UInt8) (w : World) (h : Rr w p v a bs) (hk : bs.length < a + 2) :
    Calls Try.prog 13 #[.pointer (some ⟨p, 0, none⟩)] w fun e w' => e = .returned (.tuple #[.int .u16 0, .int .i64 110]) ∧ Kp [] w w' := by
  have hn := next_end p v a bs 2 (by omega) (.func (.func 41) #[] #[.pointer (some ⟨w.heap.size, 0, none⟩)]) _ (h.alloc (.cells #[.int .u16 0] 30))
  have Hn := Lib.hid hn
  clear hn
  go_enter Try.func13, Try.ntmps13
  go_wp2_with (first
    | (go_at_call 38; refine (width_word _).mono ?_; rintro e w' ⟨rfl, rfl⟩)
    | (go_at_call 40; refine Hn.out.mono ?_; rintro e w' ⟨rfl, nq, rfl⟩; have hc : ((w.alloc (.cells #[.int .u16 0] 30)).drewN nq).cell? ⟨w.heap.size, 0, none⟩ = some (.int .u16 0) := by simp))
  go_ret2
  exact ⟨rfl, ((Kp.refl [] w).alloc _).drewN _⟩

theorem eg_take_u32 : ∀ args w, (callFunc 65 args).run Try.prog w = .ok (.enter 65 args) w := fun _ _ => by kernel_rfl
set_option maxRecDepth 100000 in
set_option maxHeartbeats 800000 in
theorem take_u32_in (g : Nat) (x0 : Value) (A : Option Addr) (c : Nat) (bs : List UInt8) (hb : bs.length = 4) (w : World) (hx : Rd w 1 (.slice A 4 c) 4 (bv bs)) (hg : Blk w g 84 #[x0]) :
    Calls Try.prog 65 #[.slice A 4 c, .pointer (some ⟨g, 0, none⟩)] w fun e w' => e = .returned (.int .i64 0) ∧ (w.setCell ⟨g, 0, none⟩ (.int .u32 (num bs))) = w' := by
  have hc := hg.cell 0
  have hf := hg.frozen 0
  have hlt := hg.lt
  simp at hc
  have hnum := num_lt bs
  rw [hb] at hnum
  simp only [Nat.reducePow] at hnum
  have Hc := number_any (.slice A 4 c) bs (by omega) w (by rw [hb]; exact hx)
  have HC := Lib.hid Hc
  clear Hc
  generalize num bs = n at *
  go_enter Try.func65, Try.ntmps65
  go_wp2_with (go_at_call 42; refine HC.out.mono ?_; rintro e w' ⟨rfl, rfl⟩)
  go_ret
  exact ⟨rfl, rfl⟩

set_option maxRecDepth 100000 in
set_option maxHeartbeats 800000 in
theorem take_u32 (p : Nat) (v : Value) (a : Nat) (bs : List UInt8) (w : World) (h : Rr w p v a bs) (hk : a + 4 ≤ bs.length) :
    Calls Try.prog 50 #[.pointer (some ⟨p, 0, none⟩)] w fun e w' => e = .returned (.tuple #[.int .u32 (num ((bs.drop a).take 4)), .int .i64 0]) ∧ Kp [p] w w' ∧ Rr w' p v (a + 4) bs := by
  have hp := h.blk.lt
  have hnext : Calls Try.prog 40 #[.pointer (some ⟨p, 0, none⟩), .int .i64 4, .func (.func 65) #[] #[.pointer (some ⟨w.heap.size, 0, none⟩)]] (w.alloc (.cells #[.int .u32 0] 84))
      fun e w' => e = .returned (.int .i64 0) ∧ w'.cell? ⟨w.heap.size, 0, none⟩ = some (.int .u32 (num ((bs.drop a).take 4))) ∧ Kp [p] w w' ∧ Rr w' p v (a + 4) bs :=
    next_ok p v a bs 4 hk _ _ _ (h.alloc _) _ eg_take_u32 (fun A c W hkp hr hrd => by
      have hb : Blk W w.heap.size 84 #[.int .u32 0] := (Blk.new w _ _).kp hkp (by simp; omega)
      refine (take_u32_in w.heap.size _ A c _ (by rw [List.length_take, List.length_drop]; omega) W hrd hb).mono ?_
      rintro e w' ⟨rfl, rfl⟩
      refine ⟨rfl, by simpa using (hb.set_ 0 _).cell 0, ?_, hr.set (by omega) (fun hv => by have := h.vlt _ hv; omega) 0 _⟩
      have k1 : Kp [p] w W := ((Kp.refl [p] w).alloc _).trans hkp (fun g hg => .inl hg)
      exact k1.setCell (.inr (by simp)) _)
  have Hn := Lib.hid hnext
  clear hnext
  generalize num ((bs.drop a).take 4) = n at *
  go_enter Try.func50, Try.ntmps50
  go_wp2_with (first
    | (go_at_call 63; refine (width_u32 _).mono ?_; rintro e w' ⟨rfl, rfl⟩)
    | (go_at_call 40; refine Hn.out.mono ?_; rintro e w' ⟨rfl, hc, hkp, hr⟩))
  go_ret2
  exact ⟨rfl, hkp, hr⟩

set_option maxRecDepth 100000 in
set_option maxHeartbeats 800000 in
theorem take_u32_end (p : Nat) (v : Value) (a : Nat) (bs : List UInt8) (w : World) (h : Rr w p v a bs) (hk : bs.length < a + 4) :
    Calls Try.prog 50 #[.pointer (some ⟨p, 0, none⟩)] w fun e w' => e = .returned (.tuple #[.int .u32 0, .int .i64 110]) ∧ Kp [] w w' := by
  have hn := next_end p v a bs 4 (by omega) (.func (.func 65) #[] #[.pointer (some ⟨w.heap.size, 0, none⟩)]) _ (h.alloc (.cells #[.int .u32 0] 84))
  have Hn := Lib.hid hn
  clear hn
  go_enter Try.func50, Try.ntmps50
  go_wp2_with (first
    | (go_at_call 63; refine (width_u32 _).mono ?_; rintro e w' ⟨rfl, rfl⟩)
    | (go_at_call 40; refine Hn.out.mono ?_; rintro e w' ⟨rfl, nq, rfl⟩; have hc : ((w.alloc (.cells #[.int .u32 0] 84)).drewN nq).cell? ⟨w.heap.size, 0, none⟩ = some (.int .u32 0) := by simp))
  go_ret2
  exact ⟨rfl, ((Kp.refl [] w).alloc _).drewN _⟩

theorem eg_take_u64 : ∀ args w, (callFunc 66 args).run Try.prog w = .ok (.enter 66 args) w := fun _ _ => by kernel_rfl
set_option maxRecDepth 100000 in
set_option maxHeartbeats 800000 in
theorem take_u64_in (g : Nat) (x0 : Value) (A : Option Addr) (c : Nat) (bs : List UInt8) (hb : bs.length = 8) (w : World) (hx : Rd w 1 (.slice A 8 c) 8 (bv bs)) (hg : Blk w g 22 #[x0]) :
    Calls Try.prog 66 #[.slice A 8 c, .pointer (some ⟨g, 0, none⟩)] w fun e w' => e = .returned (.int .i64 0) ∧ (w.setCell ⟨g, 0, none⟩ (.int .u64 (num bs))) = w' := by
  have hc := hg.cell 0
  have hf := hg.frozen 0
  have hlt := hg.lt
  simp at hc
  have hnum := num_lt bs
  rw [hb] at hnum
  simp only [Nat.reducePow] at hnum
  have Hc := number_any (.slice A 8 c) bs (by omega) w (by rw [hb]; exact hx)
  have HC := Lib.hid Hc
  clear Hc
  generalize num bs = n at *
  go_enter Try.func66, Try.ntmps66
  go_wp2_with (go_at_call 42; refine HC.out.mono ?_; rintro e w' ⟨rfl, rfl⟩)
  go_ret
  exact ⟨rfl, rfl⟩

set_option maxRecDepth 100000 in
set_option maxHeartbeats 800000 in
theorem take_u64 (p : Nat) (v : Value) (a : Nat) (bs : List UInt8) (w : World) (h : Rr w p v a bs) (hk : a + 8 ≤ bs.length) :
    Calls Try.prog 51 #[.pointer (some ⟨p, 0, none⟩)] w fun e w' => e = .returned (.tuple #[.int .u64 (num ((bs.drop a).take 8)), .int .i64 0]) ∧ Kp [p] w w' ∧ Rr w' p v (a + 8) bs := by
  have hp := h.blk.lt
  have hnext : Calls Try.prog 40 #[.pointer (some ⟨p, 0, none⟩), .int .i64 8, .func (.func 66) #[] #[.pointer (some ⟨w.heap.size, 0, none⟩)]] (w.alloc (.cells #[.int .u64 0] 22))
      fun e w' => e = .returned (.int .i64 0) ∧ w'.cell? ⟨w.heap.size, 0, none⟩ = some (.int .u64 (num ((bs.drop a).take 8))) ∧ Kp [p] w w' ∧ Rr w' p v (a + 8) bs :=
    next_ok p v a bs 8 hk _ _ _ (h.alloc _) _ eg_take_u64 (fun A c W hkp hr hrd => by
      have hb : Blk W w.heap.size 22 #[.int .u64 0] := (Blk.new w _ _).kp hkp (by simp; omega)
      refine (take_u64_in w.heap.size _ A c _ (by rw [List.length_take, List.length_drop]; omega) W hrd hb).mono ?_
      rintro e w' ⟨rfl, rfl⟩
      refine ⟨rfl, by simpa using (hb.set_ 0 _).cell 0, ?_, hr.set (by omega) (fun hv => by have := h.vlt _ hv; omega) 0 _⟩
      have k1 : Kp [p] w W := ((Kp.refl [p] w).alloc _).trans hkp (fun g hg => .inl hg)
      exact k1.setCell (.inr (by simp)) _)
  have Hn := Lib.hid hnext
  clear hnext
  generalize num ((bs.drop a).take 8) = n at *
  go_enter Try.func51, Try.ntmps51
  go_wp2_with (first
    | (go_at_call 37; refine (width_u64 _).mono ?_; rintro e w' ⟨rfl, rfl⟩)
    | (go_at_call 40; refine Hn.out.mono ?_; rintro e w' ⟨rfl, hc, hkp, hr⟩))
  go_ret2
  exact ⟨rfl, hkp, hr⟩

set_option maxRecDepth 100000 in
set_option maxHeartbeats 800000 in
theorem take_u64_end (p : Nat) (v : Value) (a : Nat) (bs : List UInt8) (w : World) (h : Rr w p v a bs) (hk : bs.length < a + 8) :
    Calls Try.prog 51 #[.pointer (some ⟨p, 0, none⟩)] w fun e w' => e = .returned (.tuple #[.int .u64 0, .int .i64 110]) ∧ Kp [] w w' := by
  have hn := next_end p v a bs 8 (by omega) (.func (.func 66) #[] #[.pointer (some ⟨w.heap.size, 0, none⟩)]) _ (h.alloc (.cells #[.int .u64 0] 22))
  have Hn := Lib.hid hn
  clear hn
  go_enter Try.func51, Try.ntmps51
  go_wp2_with (first
    | (go_at_call 37; refine (width_u64 _).mono ?_; rintro e w' ⟨rfl, rfl⟩)
    | (go_at_call 40; refine Hn.out.mono ?_; rintro e w' ⟨rfl, nq, rfl⟩; have hc : ((w.alloc (.cells #[.int .u64 0] 22)).drewN nq).cell? ⟨w.heap.size, 0, none⟩ = some (.int .u64 0) := by simp))
  go_ret2
  exact ⟨rfl, ((Kp.refl [] w).alloc _).drewN _⟩
end Go.Proofs.Ytdcmncmpoinlaaa
