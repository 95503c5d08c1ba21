/- WireReads: the reference's reader. -/
import Derived.Test.YtdcmncmpoinlaaaWireAB
namespace Go.Proofs.Ytdcmncmpoinlaaa
open Go.RowKit

/-- The reference's reader: its block d, the bytes' slice x, the place, the bytes. -/
structure Dr (w : World) (d : Nat) (x : Value) (a : Nat) (bs : List UInt8) : Prop where
  blk : Blk w d 60 #[x, .int .i64 a]
  rd : Rd w 1 x bs.length (bv bs)
  le : a ≤ bs.length
  len : bs.length ≤ 140737488355328
  ne : bs ≠ [] → x.ownBlock ≠ some d
theorem Dr.kp {w w' : World} {S : List Nat} {d a : Nat} {x : Value} {bs : List UInt8} (h : Dr w d x a bs) (hk : Kp S w w') (hd : d ∉ S) (hx : ∀ g, x.ownBlock = some g → bs ≠ [] → g ∉ S) : Dr w' d x a bs :=
  ⟨h.blk.kp hk hd, h.rd.kpl hk (fun g hg hne => hx g hg (bv_ne hne)), h.le, h.len, h.ne⟩
theorem Dr.kp0 {w w' : World} {d a : Nat} {x : Value} {bs : List UInt8} (h : Dr w d x a bs) (hk : Kp [] w w') : Dr w' d x a bs := h.kp hk (by simp) (fun _ _ _ => by simp)
theorem Dr.moved {w w' : World} {d a b : Nat} {x : Value} {bs : List UInt8} (h : Dr w d x a bs) (hk : Kp [d] w w') (hb : Blk w' d 60 #[x, .int .i64 b]) (hle : b ≤ bs.length) : Dr w' d x b bs :=
  ⟨hb, h.rd.kpl hk (fun g hg hne hm => by simp at hm; subst hm; exact h.ne (bv_ne hne) hg), hle, h.len, h.ne⟩
theorem Dr.set {w : World} {d a b : Nat} {x : Value} {bs : List UInt8} (h : Dr w d x a bs) (hle : b ≤ bs.length) : Dr (w.setCell ⟨d, 1, none⟩ (.int .i64 b)) d x b bs ∧ Kp [d] w (w.setCell ⟨d, 1, none⟩ (.int .i64 b)) := by
  have k : Kp [d] w (w.setCell ⟨d, 1, none⟩ (.int .i64 b)) := (Kp.refl [d] w).setCell (.inl (by simp)) _
  exact ⟨h.moved k (by simpa using h.blk.set_ 1 (.int .i64 b)) hle, k⟩

set_option maxHeartbeats 400000 in
theorem d_left (d : Nat) (x : Value) (a : Nat) (bs : List UInt8) (w : World) (h : Dr w d x a bs) :
    Calls Try.prog 26 #[.pointer (some ⟨d, 0, none⟩)] w fun e w' => e = .returned (.int .i64 ((bs.length : Int) - a)) ∧ ∃ n, w' = w.drewN n := by
  have hc0 := h.blk.cell 0
  have hc1 := h.blk.cell 1
  obtain ⟨A, c, rfl⟩ := rd_form h.rd
  simp at hc0 hc1
  have hle := h.le
  have hlen := h.len
  go_enter Try.func26, Try.ntmps26
  go_wp2
  go_quiet (fail)
  go_wp2
  go_ret
  exact ⟨rfl, _, rfl⟩

set_option maxHeartbeats 400000 in
theorem d_number_end (d : Nat) (x : Value) (a : Nat) (bs : List UInt8) (k : Int) (hk : (bs.length : Int) - a < k) (w : World) (h : Dr w d x a bs) :
    Calls Try.prog 49 #[.pointer (some ⟨d, 0, none⟩), .int .i64 k] w fun e w' => e = .returned (.tuple #[.int .u64 0, .int .i64 110]) ∧ Kp [] w w' := by
  go_enter Try.func49, Try.ntmps49
  go_wp2_with (go_at_call 26; refine (d_left d x a bs w h).mono ?_; rintro e w' ⟨rfl, nq, rfl⟩)
  go_ret2
  exact ⟨rfl, Kp.drew' nq⟩

set_option maxHeartbeats 800000 in
theorem d_number (d : Nat) (x : Value) (a : Nat) (bs : List UInt8) (k : Nat) (hk8 : k ≤ 8) (hk : a + k ≤ bs.length) (w : World) (h : Dr w d x a bs) :
    Calls Try.prog 49 #[.pointer (some ⟨d, 0, none⟩), .int .i64 k] w fun e w' => e = .returned (.tuple #[.int .u64 (num ((bs.drop a).take k)), .int .i64 0]) ∧ Dr w' d x (a + k) bs ∧ Kp [d] w w' := by
  have hc0 := h.blk.cell 0
  have hc1 := h.blk.cell 1
  obtain ⟨A, c, rfl⟩ := rd_form h.rd
  simp at hc0 hc1
  have hle := h.le
  have hlen := h.len
  have hkl : ¬ ((bs.length : Int) - a < k) := by omega
  have hf1 := h.blk.frozen 1
  have hdl := h.blk.lt
  obtain ⟨hrl, A', c', hv, hr1, hr2, hr3, hr4⟩ := h.rd
  cases hv
  have Hst := Lib.hid (fun q : Nat => (show Dr (w.drewN q) d _ a bs from ⟨h.blk, h.rd, h.le, h.len, h.ne⟩).set hk)
  have Hr := Lib.hid (And.intro hr3 hr4)
  clear hr1 hr2 hr3 hr4 hrl
  go_enter Try.func49, Try.ntmps49
  go_wp2_with (go_at_call 26; refine (d_left d _ a bs w h).mono ?_; rintro e w' ⟨rfl, nq, rfl⟩)
  go_loopw [6, 7] (fun n t wr => ∃ j : Nat, j ≤ k ∧ t = .int .i64 j ∧ n = .int .u64 (num ((bs.drop a).take j)) ∧ ∃ q, wr = w.drewN q) (fun _ t _ => k - (intOf t).toNat)
  case atStart => exact ⟨0, Nat.zero_le _, rfl, rfl, nq, rfl⟩
  case round =>
    obtain ⟨j, hj, rfl, rfl, qq, rfl⟩ := hrel
    by_cases hlt : j < k
    · obtain ⟨ad, rfl⟩ : ∃ ad, A = some ad := by
        cases A with
        | none => have := (Hr.out.1 rfl).1; omega
        | some ad => exact ⟨ad, rfl⟩
      have hdl2 : j < (bs.drop a).length := by rw [List.length_drop]; omega
      obtain ⟨q, n, hq, hn, hcell, hnext, hnow⟩ : ∃ q n : Nat, q < 256 ∧ n < 72057594037927936 ∧ w.cell? (ad.add (a + j)) = some (.int .u8 (q : Int)) ∧ num ((bs.drop a).take (j + 1)) = 256 * n + q ∧ num ((bs.drop a).take j) = n := by
        refine ⟨(bs.drop a)[j].toNat, num ((bs.drop a).take j), (bs.drop a)[j].toNat_lt, ?_, Hr.out.2 ad rfl (a + j) _ (by rw [bv_get, ← List.getElem?_drop, List.getElem?_eq_getElem hdl2]; rfl), num_take (bs.drop a) j hdl2, rfl⟩
        have h1 := num_lt ((bs.drop a).take j)
        rw [List.length_take, Nat.min_eq_left (by omega)] at h1
        have : 256 ^ j ≤ 256 ^ 7 := Nat.pow_le_pow_right (by omega) (by omega)
        omega
      rw [hnow]
      have Hnext := Lib.hid hnext
      clear hnext hnow
      have hidx : ((a : Int) + (j : Int)).toNat = a + j := by omega
      go_wp2
      go_quiet (fail)
      go_wp2
      go_roundw
      case rel => exact ⟨j + 1, by omega, by go_num, by rw [Hnext.out]; simp, _, rfl⟩
      case measure => simp [intOf]; omega
    · obtain rfl : j = k := by omega
      go_wp2
      go_ret2
      obtain ⟨g1, g2⟩ := Hst.out qq
      rw [Int.natCast_add] at g1 g2
      exact ⟨rfl, g1, ((Kp.refl [d] w).drewN qq).trans g2 (fun g hg => .inl hg)⟩

/-! ### Signed -/
set_option maxHeartbeats 400000 in
theorem d_signed (d : Nat) (x : Value) (a : Nat) (bs : List UInt8) (hk : a + 8 ≤ bs.length) (w : World) (h : Dr w d x a bs) :
    Calls Try.prog 53 #[.pointer (some ⟨d, 0, none⟩)] w fun e w' => e = .returned (.tuple #[.int .i64 (wrap64 (num ((bs.drop a).take 8))), .int .i64 0]) ∧ Dr w' d x (a + 8) bs ∧ Kp [d] w w' := by
  go_enter Try.func53, Try.ntmps53
  go_wp2_with (go_at_call 49; refine (d_number d x a bs 8 (by decide) hk w h).mono ?_; rintro e w' ⟨rfl, h1, k1⟩)
  go_ret2
  exact ⟨rfl, h1, k1⟩
set_option maxHeartbeats 400000 in
theorem d_signed_end (d : Nat) (x : Value) (a : Nat) (bs : List UInt8) (hk : bs.length < a + 8) (w : World) (h : Dr w d x a bs) :
    Calls Try.prog 53 #[.pointer (some ⟨d, 0, none⟩)] w fun e w' => e = .returned (.tuple #[.int .i64 0, .int .i64 110]) ∧ Kp [] w w' := by
  go_enter Try.func53, Try.ntmps53
  go_wp2_with (go_at_call 49; refine (d_number_end d x a bs 8 (by have := h.le; omega) w h).mono ?_; rintro e w' ⟨rfl, k1⟩)
  go_ret2
  exact ⟨rfl, k1⟩
set_option maxHeartbeats 400000 in
theorem r_signed (p : Nat) (v : Value) (a : Nat) (bs : List UInt8) (hk : a + 8 ≤ bs.length) (w : World) (h : Rr w p v a bs) :
    Calls Try.prog 52 #[.pointer (some ⟨p, 0, none⟩)] w fun e w' => e = .returned (.tuple #[.int .i64 (wrap64 (num ((bs.drop a).take 8))), .int .i64 0]) ∧ Kp [p] w w' ∧ Rr w' p v (a + 8) bs := by
  go_enter Try.func52, Try.ntmps52
  go_wp2_with (go_at_call 51; refine (take_u64 p v a bs w h hk).mono ?_; rintro e w' ⟨rfl, k1, h1⟩)
  go_ret2
  exact ⟨rfl, k1, h1⟩
set_option maxHeartbeats 400000 in
theorem r_signed_end (p : Nat) (v : Value) (a : Nat) (bs : List UInt8) (hk : bs.length < a + 8) (w : World) (h : Rr w p v a bs) :
    Calls Try.prog 52 #[.pointer (some ⟨p, 0, none⟩)] w fun e w' => e = .returned (.tuple #[.int .i64 0, .int .i64 110]) ∧ Kp [] w w' := by
  go_enter Try.func52, Try.ntmps52
  go_wp2_with (go_at_call 51; refine (take_u64_end p v a bs w h hk).mono ?_; rintro e w' ⟨rfl, k1⟩)
  go_ret2
  exact ⟨rfl, k1⟩
end Go.Proofs.Ytdcmncmpoinlaaa
