/- CrcCuts: the walk. -/
import Derived.Test.YtgldgkdnnimglaaCrcS
namespace Go.Proofs.Ytgldgkdnnimglaa
open Go.RowKit

theorem Txs.drewN {w : World} {v : Value} {L : List (List UInt8)} (h : Txs w v L) (n : Nat) : Txs (w.drewN n) v L := h.kp0 ((Kp.refl [] w).drewN n)
theorem txs3 {w : World} {u1 u2 u3 : Value} {b1 b2 b3 : List UInt8} {n1 n2 n3 g : Nat} (t : TypeId) (hg : g = w.heap.size) (h1 : Rd w 1 u1 n1 (bv b1)) (h2 : Rd w 1 u2 n2 (bv b2)) (h3 : Rd w 1 u3 n3 (bv b3)) :
    Txs (w.alloc (.cells #[u1, u2, u3] t)) (.slice (some ⟨g, 0, none⟩) 3 3) [b1, b2, b3] := by
  subst hg
  have hn1 : n1 = b1.length := by have := h1.1; rw [bv_length] at this; omega
  have hn2 : n2 = b2.length := by have := h2.1; rw [bv_length] at this; omega
  have hn3 : n3 = b3.length := by have := h3.1; rw [bv_length] at this; omega
  subst hn1 hn2 hn3
  refine ⟨[u1, u2, u3], Rd.of_own (ow_new w t 1 3 #[u1, u2, u3] rfl (by decide)), fun i hi => ?_⟩
  have : i = 0 ∨ i = 1 ∨ i = 2 := by simp at hi; omega
  rcases this with rfl | rfl | rfl
  · exact ⟨u1, rfl, h1.alloc _⟩
  · exact ⟨u2, rfl, h2.alloc _⟩
  · exact ⟨u3, rfl, h3.alloc _⟩
set_option maxRecDepth 100000 in
set_option maxHeartbeats 1000000 in
theorem cuts_no (w : World) (Ab : Option Addr) (cb : Nat) (b : List UInt8) (rb : Rd w 1 (.slice Ab b.length cb) b.length (bv b)) (hb : b.length ≤ 140737488351232) (a : Int)
    (Ap : Option Addr) (cp : Nat) (p : List UInt8) (rp : Rd w 1 (.slice Ap p.length cp) p.length (bv p)) (hp : p.length ≤ 140737488351232) (Aq : Option Addr) (cq : Nat) (q : List UInt8) (rq : Rd w 1 (.slice Aq q.length cq) q.length (bv q)) (hq : q.length ≤ 140737488351232)
    (hno : 100000 < [b, p, q].flatten.length ∨ b.length < p.length ∨ b.length < q.length) :
    Calls Try.prog 8 #[.slice Ab b.length cb, .agg #[.int .i64 a, .slice Ap p.length cp, .slice Aq q.length cq]] w fun e w' => e = .returned (.bool true) ∧ Kp [] w w' := by
  have k0 : Kp [] w (w.alloc (.cells #[.int .i64 a, .slice Ap p.length cp, .slice Aq q.length cq] 41)) := (Kp.refl [] w).alloc _
  have hl2 : ∀ i (h : i < [b, p, q].length), [b, p, q][i].length ≤ 140737488355328 := fun i hi => by
    have : i = 0 ∨ i = 1 ∨ i = 2 := by simp at hi; omega
    rcases this with rfl | rfl | rfl
    · show b.length ≤ _; omega
    · show p.length ≤ _; omega
    · show q.length ≤ _; omega
  have Rb := Lib.hid (fun W (k : Kp [] w W) => rd_old rb k)
  have Rp := Lib.hid (fun W (k : Kp [] w W) => rd_old rp k)
  have Rq := Lib.hid (fun W (k : Kp [] w W) => rd_old rq k)
  have c0 := (Blk.new w 41 #[.int .i64 a, .slice Ap p.length cp, .slice Aq q.length cq]).cell 0
  have c1 := (Blk.new w 41 #[.int .i64 a, .slice Ap p.length cp, .slice Aq q.length cq]).cell 1
  have c2 := (Blk.new w 41 #[.int .i64 a, .slice Ap p.length cp, .slice Aq q.length cq]).cell 2
  simp only [List.getElem?_toArray, List.getElem?_cons_zero, List.getElem?_cons_succ] at c0 c1 c2
  have K0 := Lib.hid k0
  by_cases hlong : 100000 < [b, p, q].flatten.length
  · have H := Lib.hid (fun V v h => long_yes v [b, p, q] V h (by simp) hl2 hlong)
    clear hno hl2 hlong k0 rb rp rq
    go_enter Try.func8, Try.ntmps8
    go_wp2
    go_quiet (fail)
    obtain ⟨w1, hw1⟩ : ∃ w1, w1 = (w.alloc (.cells #[.int .i64 a, .slice Ap p.length cp, .slice Aq q.length cq] 41)).drewN nq := ⟨_, rfl⟩
    rw [← hw1]
    have K1 : Hid (Kp [] w w1) := Lib.hid (by rw [hw1]; exact K0.out.drewN nq)
    clear hw1 c0 c1 c2
    go_wp2_with (first
      | (go_at_call 11; ((with_reducible refine (H.out _ _ (txs3 22 rfl (Rb.out _ K1.out) (Rp.out _ K1.out) (Rq.out _ K1.out))).mono ?_); rintro e w' ⟨rfl, rfl⟩))
      | (go_at_call 12; ((with_reducible refine (works_true _).mono ?_); rintro e w2 ⟨rfl, k2⟩)))
    go_ret
    exact ⟨rfl, (K1.out.alloc _).trans k2 (by simp)⟩
  · have H := Lib.hid (fun V v h => long_not v [b, p, q] V h (by simp) hl2 hlong)
    by_cases h1 : b.length < p.length
    · clear hno hl2 hlong k0 rb rp rq
      go_enter Try.func8, Try.ntmps8
      go_wp2
      go_quiet (fail)
      obtain ⟨w1, hw1⟩ : ∃ w1, w1 = (w.alloc (.cells #[.int .i64 a, .slice Ap p.length cp, .slice Aq q.length cq] 41)).drewN nq := ⟨_, rfl⟩
      rw [← hw1]
      have K1 : Hid (Kp [] w w1) := Lib.hid (by rw [hw1]; exact K0.out.drewN nq)
      clear hw1 c0 c1 c2
      go_wp2_with (first
        | (go_at_call 11; ((with_reducible refine (H.out _ _ (txs3 22 rfl (Rb.out _ K1.out) (Rp.out _ K1.out) (Rq.out _ K1.out))).mono ?_); rintro e w' ⟨rfl, rfl⟩))
        | (go_at_call 12; ((with_reducible refine (works_true _).mono ?_); rintro e w2 ⟨rfl, k2⟩)))
      go_ret
      exact ⟨rfl, (K1.out.alloc _).trans k2 (by simp)⟩
    · have h2 : b.length < q.length := by rcases hno with h | h | h <;> first | exact absurd h ‹_› | exact h
      clear hno hl2 hlong k0 rb rp rq
      go_enter Try.func8, Try.ntmps8
      go_wp2
      go_quiet (fail)
      obtain ⟨w1, hw1⟩ : ∃ w1, w1 = (w.alloc (.cells #[.int .i64 a, .slice Ap p.length cp, .slice Aq q.length cq] 41)).drewN nq := ⟨_, rfl⟩
      rw [← hw1]
      have K1 : Hid (Kp [] w w1) := Lib.hid (by rw [hw1]; exact K0.out.drewN nq)
      clear hw1 c0 c1 c2
      go_wp2_with (first
        | (go_at_call 11; ((with_reducible refine (H.out _ _ (txs3 22 rfl (Rb.out _ K1.out) (Rp.out _ K1.out) (Rq.out _ K1.out))).mono ?_); rintro e w' ⟨rfl, rfl⟩))
        | (go_at_call 12; ((with_reducible refine (works_true _).mono ?_); rintro e w2 ⟨rfl, k2⟩)))
      go_ret
      exact ⟨rfl, (K1.out.alloc _).trans k2 (by simp)⟩

/-! ### The cut -/
theorem patch_zero_at (s : Nat) (l : List UInt8) : patch s l 0 = s ^^^ thru 0 l := rfl
theorem patch_comm (s m n : Nat) (p q : List UInt8) : patch (patch s p m) q n = patch (patch s q n) p m := by
  unfold patch; rw [Nat.xor_assoc, Nat.xor_assoc, Nat.xor_comm (carry _ _)]
theorem patch_twice (s n : Nat) (p : List UInt8) : patch (patch s p n) p n = s := by
  unfold patch; rw [Nat.xor_assoc, Nat.xor_self, Nat.xor_zero]
theorem crc_more (a b : List UInt8) : more (crc a) b = crc (a ++ b) := (crc_append a b).symm
/-- The text with p at its beginning and the first i bytes of q at its end. -/
def cutX (b p q : List UInt8) (i : Nat) : List UInt8 := xpart (xpart b 0 p p.length) (b.length - q.length) q i
theorem cutX_length (b p q : List UInt8) (i : Nat) (hp : p.length ≤ b.length) (hq : q.length ≤ b.length) (hi : i ≤ q.length) : (cutX b p q i).length = b.length := by
  unfold cutX
  rw [xpart_length (by rw [xpart_length (by omega) (Nat.le_refl _)]; omega) hi, xpart_length (by omega) (Nat.le_refl _)]
theorem crc_cutX (b p q : List UInt8) (hp : p.length ≤ b.length) (hq : q.length ≤ b.length) : crc (cutX b p q q.length) = patch (patch (crc b) p (b.length - p.length)) q 0 := by
  unfold cutX
  have hl : (xpart b 0 p p.length).length = b.length := xpart_length (by omega) (Nat.le_refl _)
  rw [crc_xpart (by rw [hl]; omega), crc_xpart (by omega), hl, show b.length - (b.length - q.length) - q.length = 0 from by omega, Nat.sub_zero]
  rfl

/-- The sums of a text that is cut. -/
structure CutSums (b : List UInt8) (k m : Nat) : Prop where
  mor : more (crc (b.take k)) (b.drop k) = crc b
  joi : join (crc (b.take k)) (crc (b.drop k)) m = crc b
  par : join (crc (b.take k)) (crc b) m = crc (b.drop k)
theorem take_drop_crc (b : List UInt8) (k m : Nat) (hm : k + m = b.length) : CutSums b k m := by
  have hl : (b.drop k).length = m := by rw [List.length_drop]; omega
  refine ⟨?_, ?_, ?_⟩
  · rw [crc_more, List.take_append_drop]
  · rw [← hl, ← crc_join, List.take_append_drop]
  · have := crc_part (b.take k) (b.drop k)
    rw [List.take_append_drop, hl] at this
    exact this
/-- One byte xored in memory. -/
theorem xor_step {w : World} {e : TypeId} {g n c k i j : Nat} {b p : List UInt8} (o : Ow w e 1 (.slice (some ⟨g, 0, none⟩) n c) n (bv (xpart b k p i))) (hj : j = k + i) (hb : b.length = n) (h : k + i < b.length) (hi : i < p.length) :
    ∃ xx yy zz : Nat, xx < 256 ∧ yy < 256 ∧ w.cell? ⟨g, j, none⟩ = some (.int .u8 (xx : Int)) ∧ p[i].toNat = yy ∧ bits .xor .u8 (xx : Int) (yy : Int) = (zz : Int) ∧
      Ow (w.setCell ⟨g, j, none⟩ (.int .u8 (zz : Int))) e 1 (.slice (some ⟨g, 0, none⟩) n c) n (bv (xpart b k p (i + 1))) := by
  subst hj
  have hcell := o.cellAt (k + i) (by omega)
  rw [bv_get, xpart_get h (by omega), Option.map_some] at hcell
  have hst := (o.stored (g := g) (k + i) (.int .u8 ((b[k + i] ^^^ p[i]).toNat : Int))).1
  rw [bv_set, xpart_next h hi] at hst
  exact ⟨b[k + i].toNat, p[i].toNat, (b[k + i] ^^^ p[i]).toNat, b[k + i].toNat_lt, p[i].toNat_lt, hcell, rfl, u8_x _ _, hst⟩
theorem rd_at {w : World} {A : Option Addr} {n c i : Nat} {p : List UInt8} (h : Rd w 1 (.slice A n c) n (bv p)) (hi : i < p.length) : ∃ ad, A = some ad ∧ w.cell? (ad.add i) = some (.int .u8 (p[i].toNat : Int)) := by
  obtain ⟨_, _, hv, -, -, hA, hc⟩ := rd_get h
  cases hv
  cases A with
  | none =>
    have h1 := hA rfl
    have h2 := h.1
    rw [bv_length] at h2
    omega
  | some a => exact ⟨a, rfl, hc a rfl i hi⟩
end Go.Proofs.Ytgldgkdnnimglaa
