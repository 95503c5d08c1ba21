/- Walks of package wire: the reader. -/
import Derived.Test.YtdcmncmpoinlaaaWireD
namespace Go.Proofs.Ytdcmncmpoinlaaa
open Go.RowKit

/-- A reader: its block p, the bytes' slice v, the place, the bytes. -/
structure Rr (w : World) (p : Nat) (v : Value) (at_ : Nat) (bs : List UInt8) : Prop where
  blk : Blk w p 74 #[v, .int .i64 at_]
  rd : Rd w 1 v bs.length (bv bs)
  le : at_ ≤ bs.length
  len : bs.length ≤ 140737488355328
  ne : v.ownBlock ≠ some p
  vlt : ∀ g, v.ownBlock = some g → g < w.heap.size

theorem Rr.kp {w w' : World} {S : List Nat} {p : Nat} {v : Value} {at_ : Nat} {bs : List UInt8} (h : Rr w p v at_ bs) (hk : Kp S w w') (hp : p ∉ S) (hv : ∀ g, v.ownBlock = some g → g ∉ S) : Rr w' p v at_ bs :=
  ⟨h.blk.kp hk hp, h.rd.kp hk hv, h.le, h.len, h.ne, fun g hg => Nat.lt_of_lt_of_le (h.vlt g hg) hk.size⟩
theorem Rr.moved {w w' : World} {p : Nat} {v : Value} {a b : Nat} {bs : List UInt8} (h : Rr w p v a bs) (hk : Kp [p] w w') (hb : Blk w' p 74 #[v, .int .i64 b]) (hle : b ≤ bs.length) : Rr w' p v b bs :=
  ⟨hb, h.rd.kp hk (fun g hg hm => by simp at hm; subst hm; exact h.ne hg), hle, h.len, h.ne, fun g hg => Nat.lt_of_lt_of_le (h.vlt g hg) hk.size⟩

set_option maxHeartbeats 400000 in
theorem r_left (p : Nat) (v : Value) (a : Nat) (bs : List UInt8) (w : World) (h : Rr w p v a bs) :
    Calls Try.prog 25 #[.pointer (some ⟨p, 0, none⟩)] w fun e w' => e = .returned (.int .i64 ((bs.length : Int) - a)) ∧ ∃ n, w' = w.drewN n := by
  have hc0 := h.blk.cell 0
  have hc1 := h.blk.cell 1
  obtain ⟨A, c, rfl⟩ := rd_form h.rd
  simp at hc0 hc1
  have hle := h.le
  have hlen := h.len
  go_enter Try.func25, Try.ntmps25
  go_wp2
  go_quiet (fail)
  go_wp2
  go_ret
  exact ⟨rfl, _, rfl⟩

set_option maxHeartbeats 400000 in
theorem r_place (p : Nat) (v : Value) (a : Nat) (bs : List UInt8) (w : World) (h : Rr w p v a bs) :
    Calls Try.prog 24 #[.pointer (some ⟨p, 0, none⟩)] w fun e w' => e = .returned (.int .i64 a) ∧ w = w' := by
  have hc1 := h.blk.cell 1
  simp at hc1
  go_enter Try.func24, Try.ntmps24
  go_wp2
  go_ret
  exact ⟨rfl, rfl⟩

theorem setCell1 {w : World} {p : Nat} {v u x : Value} (h : Blk w p 74 #[v, u]) : Blk (w.setCell ⟨p, 1, none⟩ x) p 74 #[v, x] := by
  simpa using h.set_ 1 x

theorem Rr.alloc {w : World} {p : Nat} {v : Value} {at_ : Nat} {bs : List UInt8} (h : Rr w p v at_ bs) (o : Obj) : Rr (w.alloc o) p v at_ bs := h.kp ((Kp.refl [] w).alloc o) (by simp) (fun _ _ => by simp)
theorem Rr.kp' {w w' : World} {p : Nat} {v : Value} {at_ : Nat} {bs : List UInt8} (h : Rr w p v at_ bs) (hk : Kp [] w w') : Rr w' p v at_ bs := h.kp hk (by simp) (fun _ _ => by simp)
theorem Rr.set {w : World} {p g : Nat} {v : Value} {at_ : Nat} {bs : List UInt8} (h : Rr w p v at_ bs) (hg : g ≠ p) (hv : v.ownBlock ≠ some g) (i : Nat) (x : Value) : Rr (w.setCell ⟨g, i, none⟩ x) p v at_ bs :=
  h.kp ((Kp.refl [g] w).setCell (.inl (by simp)) x) (by simpa using Ne.symm hg) (fun k hk hm => by simp at hm; subst hm; exact hv hk)
theorem Rr.drewN {w : World} {p : Nat} {v : Value} {at_ : Nat} {bs : List UInt8} (h : Rr w p v at_ bs) (n : Nat) : Rr (w.drewN n) p v at_ bs := ⟨h.blk, h.rd, h.le, h.len, h.ne, h.vlt⟩

set_option maxHeartbeats 800000 in
/-- 'next', where there are enough bytes and what goes on answers OK. -/
theorem next_ok (p : Nat) (v : Value) (a : Nat) (bs : List UInt8) (k : Nat) (hk : a + k ≤ bs.length) (g : Nat) (lb : Array Value) (w : World) (h : Rr w p v a bs) (R : World → Prop)
    (eg : ∀ args w, (callFunc g args).run Try.prog w = .ok (.enter g args) w)
    (hcall : ∀ A c W, Kp [p] w W → Rr W p v (a + k) bs → Rd W 1 (.slice A k c) k (bv ((bs.drop a).take k)) →
      Calls Try.prog g (#[.slice A k c] ++ lb) W fun e w' => e = .returned (.int .i64 0) ∧ R w') :
    Calls Try.prog 40 #[.pointer (some ⟨p, 0, none⟩), .int .i64 k, .func (.func g) #[] lb] w fun e w' => e = .returned (.int .i64 0) ∧ R w' := by
  have hc0 := h.blk.cell 0
  have hc1 := h.blk.cell 1
  have hf1 := h.blk.frozen 1
  obtain ⟨A, c, hA⟩ := rd_form h.rd
  subst hA
  have hcc : bs.length ≤ c ∧ c ≤ 9223372036854775807 := by
    obtain ⟨_, A', c', hv, h1, h2, _⟩ := h.rd
    cases hv
    exact ⟨h1, by unfold maxLen at h2; omega⟩
  obtain ⟨hcc1, hcc2⟩ := hcc
  simp at hc0 hc1
  have hle := h.le
  have hlen := h.len
  have hmv : ∀ n, Kp [p] w ((w.setCell ⟨p, 1, none⟩ (.int .i64 ((a : Int) + k))).drewN n) ∧ Rr ((w.setCell ⟨p, 1, none⟩ (.int .i64 ((a : Int) + k))).drewN n) p (.slice A bs.length c) (a + k) bs := fun n => by
    have k1 : Kp [p] w (w.setCell ⟨p, 1, none⟩ (.int .i64 ((a : Int) + k))) := (Kp.refl [p] w).setCell (.inl (by simp)) _
    exact ⟨k1.drewN n, (h.moved k1 (by have := setCell1 (x := .int .i64 ((a : Int) + k)) h.blk; rw [Int.natCast_add]; exact this) hk).drewN n⟩
  have Hmv := Lib.hid hmv
  have Hcall := Lib.hid hcall
  clear hmv hcall
  have Hh := Lib.hid h
  clear h
  by_cases hca : c = a
  · have hk0 : k = 0 := by omega
    subst hk0
    have ha : a = bs.length := by omega
    have Ha := Lib.hid ha
    clear ha
    subst hca
    go_enter Try.func40, Try.ntmps40
    go_wp2_with (go_at_call 25; refine (r_left p _ c bs w Hh.out).mono ?_; rintro e w' ⟨rfl, nq, rfl⟩)
    obtain ⟨h1, h2⟩ := Hmv.out nq
    simp only [Int.natCast_zero, Int.add_zero, Nat.add_zero] at h1 h2
    have h3 := h2.rd.cut0 (a := c) (k := 0) hk rfl
    rw [Nat.sub_self, bv_drop] at h3
    refine (Hcall.out _ _ _ h1 h2 h3).mono ?_
    rintro e w' ⟨rfl, hR⟩
    go_wp2
    go_ret
    exact ⟨rfl, hR⟩
  · go_enter Try.func40, Try.ntmps40
    go_wp2_with (go_at_call 25; refine (r_left p _ a bs w Hh.out).mono ?_; rintro e w' ⟨rfl, nq, rfl⟩)
    obtain ⟨h1, h2⟩ := Hmv.out nq
    refine (Hcall.out _ _ _ h1 h2 (by rw [← bv_drop]; exact h2.rd.cut hk hca)).mono ?_
    rintro e w' ⟨rfl, hR⟩
    go_wp2
    go_ret
    exact ⟨rfl, hR⟩

set_option maxHeartbeats 800000 in
/-- 'next', where there are not enough bytes. -/
theorem next_end (p : Nat) (v : Value) (a : Nat) (bs : List UInt8) (k : Int) (hk : (bs.length : Int) - a < k) (f : Value) (w : World) (h : Rr w p v a bs) :
    Calls Try.prog 40 #[.pointer (some ⟨p, 0, none⟩), .int .i64 k, f] w fun e w' => e = .returned (.int .i64 110) ∧ ∃ n, w' = w.drewN n := by
  go_enter Try.func40, Try.ntmps40
  go_wp2_with (go_at_call 25; refine (r_left p _ a bs w h).mono ?_; rintro e w' ⟨rfl, nq, rfl⟩)
  go_ret
  exact ⟨rfl, nq, rfl⟩

set_option maxHeartbeats 800000 in
/-- 'next', where what goes on refuses: the place is as it was. -/
theorem next_no (p : Nat) (v : Value) (a : Nat) (bs : List UInt8) (k : Nat) (hk : a + k ≤ bs.length) (g : Nat) (lb : Array Value) (w : World) (h : Rr w p v a bs) (er : Int) (her : er ≠ 0) (R : World → Prop)
    (eg : ∀ args w, (callFunc g args).run Try.prog w = .ok (.enter g args) w)
    (hcall : ∀ A c W, Kp [p] w W → Rr W p v (a + k) bs → Rd W 1 (.slice A k c) k (bv ((bs.drop a).take k)) →
      Calls Try.prog g (#[.slice A k c] ++ lb) W fun e w' => e = .returned (.int .i64 er) ∧ Kp [p] w w' ∧ Blk w' p 74 #[v, .int .i64 ((a : Int) + k)] ∧ R (w'.setCell ⟨p, 1, none⟩ (.int .i64 a))) :
    Calls Try.prog 40 #[.pointer (some ⟨p, 0, none⟩), .int .i64 k, .func (.func g) #[] lb] w fun e w' => e = .returned (.int .i64 er) ∧ R w' := by
  have hc0 := h.blk.cell 0
  have hc1 := h.blk.cell 1
  have hf1 := h.blk.frozen 1
  obtain ⟨A, c, hA⟩ := rd_form h.rd
  subst hA
  have hcc : bs.length ≤ c ∧ c ≤ 9223372036854775807 := by
    obtain ⟨_, A', c', hv, h1, h2, _⟩ := h.rd
    cases hv
    exact ⟨h1, by unfold maxLen at h2; omega⟩
  obtain ⟨hcc1, hcc2⟩ := hcc
  simp at hc0 hc1
  have hle := h.le
  have hlen := h.len
  have hmv : ∀ n, Kp [p] w ((w.setCell ⟨p, 1, none⟩ (.int .i64 ((a : Int) + k))).drewN n) ∧ Rr ((w.setCell ⟨p, 1, none⟩ (.int .i64 ((a : Int) + k))).drewN n) p (.slice A bs.length c) (a + k) bs := fun n => by
    have k1 : Kp [p] w (w.setCell ⟨p, 1, none⟩ (.int .i64 ((a : Int) + k))) := (Kp.refl [p] w).setCell (.inl (by simp)) _
    exact ⟨k1.drewN n, (h.moved k1 (by have := setCell1 (x := .int .i64 ((a : Int) + k)) h.blk; rw [Int.natCast_add]; exact this) hk).drewN n⟩
  have Hmv := Lib.hid hmv
  have Hcall := Lib.hid hcall
  clear hmv hcall
  have Hh := Lib.hid h
  clear h
  have her' : (er == 0) = false := by simpa using her
  have her2 : (er != 0) = true := by simpa using her
  have Her := Lib.hid her
  clear her
  by_cases hca : c = a
  · have hk0 : k = 0 := by omega
    subst hk0
    have ha : a = bs.length := by omega
    have Ha := Lib.hid ha
    clear ha
    subst hca
    go_enter Try.func40, Try.ntmps40
    go_wp2_with (go_at_call 25; refine (r_left p _ c bs w Hh.out).mono ?_; rintro e w' ⟨rfl, nq, rfl⟩)
    obtain ⟨h1, h2⟩ := Hmv.out nq
    simp only [Int.natCast_zero, Int.add_zero, Nat.add_zero] at h1 h2
    have h3 := h2.rd.cut0 (a := c) (k := 0) hk rfl
    rw [Nat.sub_self, bv_drop] at h3
    refine (Hcall.out _ _ _ h1 h2 h3).mono ?_
    rintro e w' ⟨rfl, hkp, hb, hR⟩
    have g1 := hb.cell 1
    have g2 := hb.frozen 1
    have g3 := hb.lt
    simp at g1
    have HR := Lib.hid hR
    clear hR hb hkp h1 h2 h3
    go_wp2
    go_ret
    exact ⟨rfl, HR.out⟩
  · go_enter Try.func40, Try.ntmps40
    go_wp2_with (go_at_call 25; refine (r_left p _ a bs w Hh.out).mono ?_; rintro e w' ⟨rfl, nq, rfl⟩)
    obtain ⟨h1, h2⟩ := Hmv.out nq
    refine (Hcall.out _ _ _ h1 h2 (by rw [← bv_drop]; exact h2.rd.cut hk hca)).mono ?_
    rintro e w' ⟨rfl, hkp, hb, hR⟩
    have g1 := hb.cell 1
    have g2 := hb.frozen 1
    have g3 := hb.lt
    simp at g1
    have HR := Lib.hid hR
    clear hR hb hkp h1 h2
    go_wp2
    go_ret
    exact ⟨rfl, HR.out⟩
end Go.Proofs.Ytdcmncmpoinlaaa
