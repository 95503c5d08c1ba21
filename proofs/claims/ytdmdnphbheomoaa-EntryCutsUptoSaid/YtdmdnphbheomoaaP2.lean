/- Several texts in one: WireR, WireS, Txt, EntA, EntB, WList, WireT, WireU, EntC, Inv, Sep, SepO, Cut, Fence, Range. -/
import Derived.RangeFuncNested
import Derived.RangeFuncBound
import Derived.RangeFuncCalls
import Derived.RangeFuncLeaves
import Derived.Shelf.Abstract
import Derived.Shelf.RegionOpen
import Derived.WalkKit
import Derived.OwnWalkIn
import Derived.TacticsInMore
import Derived.LoopNIn
import Derived.LoopN
import Derived.LoopIn
import Derived.Test.YtdmdnphbheomoaaP1
/- Walks of package wire: the reader. -/
namespace Go.Proofs.Ytdmdnphbheomoaa
open Go.RowKit

/-- A reader: its block p, the bytes' slice v, the place, the bytes. -/
structure Rr (w : World) (p : Nat) (v : Value) (at_ : Nat) (bs : List UInt8) : Prop where
  blk : Blk w p 103 #[v, .int .i64 at_]
  rd : Rd w 1 v bs.length (bv bs)
  le : at_ ≤ bs.length
  len : bs.length ≤ 140737488355328
  ne : v.ownBlock ≠ some p
  vlt : ∀ g, v.ownBlock = some g → g < w.heap.size

theorem Rr.kp {w w' : World} {S : List Nat} {p : Nat} {v : Value} {at_ : Nat} {bs : List UInt8} (h : Rr w p v at_ bs) (hk : Kp S w w') (hp : p ∉ S) (hv : ∀ g, v.ownBlock = some g → g ∉ S) : Rr w' p v at_ bs :=
  ⟨h.blk.kp hk hp, h.rd.kp hk hv, h.le, h.len, h.ne, fun g hg => Nat.lt_of_lt_of_le (h.vlt g hg) hk.size⟩
theorem Rr.moved {w w' : World} {p : Nat} {v : Value} {a b : Nat} {bs : List UInt8} (h : Rr w p v a bs) (hk : Kp [p] w w') (hb : Blk w' p 103 #[v, .int .i64 b]) (hle : b ≤ bs.length) : Rr w' p v b bs :=
  ⟨hb, h.rd.kp hk (fun g hg hm => by simp at hm; subst hm; exact h.ne hg), hle, h.len, h.ne, fun g hg => Nat.lt_of_lt_of_le (h.vlt g hg) hk.size⟩

set_option maxHeartbeats 400000 in
theorem r_left (p : Nat) (v : Value) (a : Nat) (bs : List UInt8) (w : World) (h : Rr w p v a bs) :
    Calls Try.prog 68 #[.pointer (some ⟨p, 0, none⟩)] w fun e w' => e = .returned (.int .i64 ((bs.length : Int) - a)) ∧ ∃ n, w' = w.drewN n := by
  have hc0 := h.blk.cell 0
  have hc1 := h.blk.cell 1
  obtain ⟨A, c, rfl⟩ := rd_form h.rd
  simp at hc0 hc1
  have hle := h.le
  have hlen := h.len
  go_enter Try.func68, Try.ntmps68
  go_wp2
  go_quiet (fail)
  go_wp2
  go_ret
  exact ⟨rfl, _, rfl⟩

theorem setCell1 {w : World} {p : Nat} {v u x : Value} (h : Blk w p 103 #[v, u]) : Blk (w.setCell ⟨p, 1, none⟩ x) p 103 #[v, x] := by
  simpa using h.set_ 1 x

theorem Rr.alloc {w : World} {p : Nat} {v : Value} {at_ : Nat} {bs : List UInt8} (h : Rr w p v at_ bs) (o : Obj) : Rr (w.alloc o) p v at_ bs := h.kp ((Kp.refl [] w).alloc o) (by simp) (fun _ _ => by simp)
theorem Rr.kp' {w w' : World} {p : Nat} {v : Value} {at_ : Nat} {bs : List UInt8} (h : Rr w p v at_ bs) (hk : Kp [] w w') : Rr w' p v at_ bs := h.kp hk (by simp) (fun _ _ => by simp)
theorem Rr.set {w : World} {p g : Nat} {v : Value} {at_ : Nat} {bs : List UInt8} (h : Rr w p v at_ bs) (hg : g ≠ p) (hv : v.ownBlock ≠ some g) (i : Nat) (x : Value) : Rr (w.setCell ⟨g, i, none⟩ x) p v at_ bs :=
  h.kp ((Kp.refl [g] w).setCell (.inl (by simp)) x) (by simpa using Ne.symm hg) (fun k hk hm => by simp at hm; subst hm; exact hv hk)
theorem Rr.drewN {w : World} {p : Nat} {v : Value} {at_ : Nat} {bs : List UInt8} (h : Rr w p v at_ bs) (n : Nat) : Rr (w.drewN n) p v at_ bs := ⟨h.blk, h.rd, h.le, h.len, h.ne, h.vlt⟩

set_option maxHeartbeats 800000 in
/-- 'next', where there are enough bytes and what goes on answers OK. -/
theorem next_ok (p : Nat) (v : Value) (a : Nat) (bs : List UInt8) (k : Nat) (hk : a + k ≤ bs.length) (g : Nat) (lb : Array Value) (w : World) (h : Rr w p v a bs) (R : World → Prop)
    (eg : ∀ args w, (callFunc g args).run Try.prog w = .ok (.enter g args) w)
    (hcall : ∀ A c W, Kp [p] w W → Rr W p v (a + k) bs → Rd W 1 (.slice A k c) k (bv ((bs.drop a).take k)) →
      Calls Try.prog g (#[.slice A k c] ++ lb) W fun e w' => e = .returned (.int .i64 0) ∧ R w') :
    Calls Try.prog 65 #[.pointer (some ⟨p, 0, none⟩), .int .i64 k, .func (.func g) #[] lb] w fun e w' => e = .returned (.int .i64 0) ∧ R w' := by
  have hc0 := h.blk.cell 0
  have hc1 := h.blk.cell 1
  have hf1 := h.blk.frozen 1
  obtain ⟨A, c, hA⟩ := rd_form h.rd
  subst hA
  have hcc : bs.length ≤ c ∧ c ≤ 9223372036854775807 := by
    obtain ⟨_, A', c', hv, h1, h2, _⟩ := h.rd
    cases hv
    exact ⟨h1, by unfold maxLen at h2; omega⟩
  obtain ⟨hcc1, hcc2⟩ := hcc
  simp at hc0 hc1
  have hle := h.le
  have hlen := h.len
  have hmv : ∀ n, Kp [p] w ((w.setCell ⟨p, 1, none⟩ (.int .i64 ((a : Int) + k))).drewN n) ∧ Rr ((w.setCell ⟨p, 1, none⟩ (.int .i64 ((a : Int) + k))).drewN n) p (.slice A bs.length c) (a + k) bs := fun n => by
    have k1 : Kp [p] w (w.setCell ⟨p, 1, none⟩ (.int .i64 ((a : Int) + k))) := (Kp.refl [p] w).setCell (.inl (by simp)) _
    exact ⟨k1.drewN n, (h.moved k1 (by have := setCell1 (x := .int .i64 ((a : Int) + k)) h.blk; rw [Int.natCast_add]; exact this) hk).drewN n⟩
  have Hmv := Lib.hid hmv
  have Hcall := Lib.hid hcall
  clear hmv hcall
  have Hh := Lib.hid h
  clear h
  by_cases hca : c = a
  · have hk0 : k = 0 := by omega
    subst hk0
    have ha : a = bs.length := by omega
    have Ha := Lib.hid ha
    clear ha
    subst hca
    go_enter Try.func65, Try.ntmps65
    go_wp2_with (go_at_call 68; refine (r_left p _ c bs w Hh.out).mono ?_; rintro e w' ⟨rfl, nq, rfl⟩)
    obtain ⟨h1, h2⟩ := Hmv.out nq
    simp only [Int.natCast_zero, Int.add_zero, Nat.add_zero] at h1 h2
    have h3 := h2.rd.cut0 (a := c) (k := 0) hk rfl
    rw [Nat.sub_self, bv_drop] at h3
    refine (Hcall.out _ _ _ h1 h2 h3).mono ?_
    rintro e w' ⟨rfl, hR⟩
    go_wp2
    go_ret
    exact ⟨rfl, hR⟩
  · go_enter Try.func65, Try.ntmps65
    go_wp2_with (go_at_call 68; refine (r_left p _ a bs w Hh.out).mono ?_; rintro e w' ⟨rfl, nq, rfl⟩)
    obtain ⟨h1, h2⟩ := Hmv.out nq
    refine (Hcall.out _ _ _ h1 h2 (by rw [← bv_drop]; exact h2.rd.cut hk hca)).mono ?_
    rintro e w' ⟨rfl, hR⟩
    go_wp2
    go_ret
    exact ⟨rfl, hR⟩

set_option maxHeartbeats 800000 in
/-- 'next', where there are not enough bytes. -/
theorem next_end (p : Nat) (v : Value) (a : Nat) (bs : List UInt8) (k : Int) (hk : (bs.length : Int) - a < k) (f : Value) (w : World) (h : Rr w p v a bs) :
    Calls Try.prog 65 #[.pointer (some ⟨p, 0, none⟩), .int .i64 k, f] w fun e w' => e = .returned (.int .i64 110) ∧ ∃ n, w' = w.drewN n := by
  go_enter Try.func65, Try.ntmps65
  go_wp2_with (go_at_call 68; refine (r_left p _ a bs w h).mono ?_; rintro e w' ⟨rfl, nq, rfl⟩)
  go_ret
  exact ⟨rfl, nq, rfl⟩

set_option maxHeartbeats 800000 in
/-- 'next', where what goes on refuses: the place is as it was. -/
theorem next_no (p : Nat) (v : Value) (a : Nat) (bs : List UInt8) (k : Nat) (hk : a + k ≤ bs.length) (g : Nat) (lb : Array Value) (w : World) (h : Rr w p v a bs) (er : Int) (her : er ≠ 0) (R : World → Prop)
    (eg : ∀ args w, (callFunc g args).run Try.prog w = .ok (.enter g args) w)
    (hcall : ∀ A c W, Kp [p] w W → Rr W p v (a + k) bs → Rd W 1 (.slice A k c) k (bv ((bs.drop a).take k)) →
      Calls Try.prog g (#[.slice A k c] ++ lb) W fun e w' => e = .returned (.int .i64 er) ∧ Kp [p] w w' ∧ Blk w' p 103 #[v, .int .i64 ((a : Int) + k)] ∧ R (w'.setCell ⟨p, 1, none⟩ (.int .i64 a))) :
    Calls Try.prog 65 #[.pointer (some ⟨p, 0, none⟩), .int .i64 k, .func (.func g) #[] lb] w fun e w' => e = .returned (.int .i64 er) ∧ R w' := by
  have hc0 := h.blk.cell 0
  have hc1 := h.blk.cell 1
  have hf1 := h.blk.frozen 1
  obtain ⟨A, c, hA⟩ := rd_form h.rd
  subst hA
  have hcc : bs.length ≤ c ∧ c ≤ 9223372036854775807 := by
    obtain ⟨_, A', c', hv, h1, h2, _⟩ := h.rd
    cases hv
    exact ⟨h1, by unfold maxLen at h2; omega⟩
  obtain ⟨hcc1, hcc2⟩ := hcc
  simp at hc0 hc1
  have hle := h.le
  have hlen := h.len
  have hmv : ∀ n, Kp [p] w ((w.setCell ⟨p, 1, none⟩ (.int .i64 ((a : Int) + k))).drewN n) ∧ Rr ((w.setCell ⟨p, 1, none⟩ (.int .i64 ((a : Int) + k))).drewN n) p (.slice A bs.length c) (a + k) bs := fun n => by
    have k1 : Kp [p] w (w.setCell ⟨p, 1, none⟩ (.int .i64 ((a : Int) + k))) := (Kp.refl [p] w).setCell (.inl (by simp)) _
    exact ⟨k1.drewN n, (h.moved k1 (by have := setCell1 (x := .int .i64 ((a : Int) + k)) h.blk; rw [Int.natCast_add]; exact this) hk).drewN n⟩
  have Hmv := Lib.hid hmv
  have Hcall := Lib.hid hcall
  clear hmv hcall
  have Hh := Lib.hid h
  clear h
  have her' : (er == 0) = false := by simpa using her
  have her2 : (er != 0) = true := by simpa using her
  have Her := Lib.hid her
  clear her
  by_cases hca : c = a
  · have hk0 : k = 0 := by omega
    subst hk0
    have ha : a = bs.length := by omega
    have Ha := Lib.hid ha
    clear ha
    subst hca
    go_enter Try.func65, Try.ntmps65
    go_wp2_with (go_at_call 68; refine (r_left p _ c bs w Hh.out).mono ?_; rintro e w' ⟨rfl, nq, rfl⟩)
    obtain ⟨h1, h2⟩ := Hmv.out nq
    simp only [Int.natCast_zero, Int.add_zero, Nat.add_zero] at h1 h2
    have h3 := h2.rd.cut0 (a := c) (k := 0) hk rfl
    rw [Nat.sub_self, bv_drop] at h3
    refine (Hcall.out _ _ _ h1 h2 h3).mono ?_
    rintro e w' ⟨rfl, hkp, hb, hR⟩
    have g1 := hb.cell 1
    have g2 := hb.frozen 1
    have g3 := hb.lt
    simp at g1
    have HR := Lib.hid hR
    clear hR hb hkp h1 h2 h3
    go_wp2
    go_ret
    exact ⟨rfl, HR.out⟩
  · go_enter Try.func65, Try.ntmps65
    go_wp2_with (go_at_call 68; refine (r_left p _ a bs w Hh.out).mono ?_; rintro e w' ⟨rfl, nq, rfl⟩)
    obtain ⟨h1, h2⟩ := Hmv.out nq
    refine (Hcall.out _ _ _ h1 h2 (by rw [← bv_drop]; exact h2.rd.cut hk hca)).mono ?_
    rintro e w' ⟨rfl, hkp, hb, hR⟩
    have g1 := hb.cell 1
    have g2 := hb.frozen 1
    have g3 := hb.lt
    simp at g1
    have HR := Lib.hid hR
    clear hR hb hkp h1 h2
    go_wp2
    go_ret
    exact ⟨rfl, HR.out⟩
end Go.Proofs.Ytdmdnphbheomoaa
/- Walks of package wire: what a reader reads. -/
namespace Go.Proofs.Ytdmdnphbheomoaa
open Go.RowKit

theorem or_shift (n q : Nat) (hq : q < 256) (hn : n < 72057594037927936) : bits .or .u64 ((n : Int) * 256) (q : Int) = ((256 * n + q : Nat) : Int) := by
  have h1 : ((n : Int) * 256) = ((256 * n : Nat) : Int) := by omega
  rw [h1, u64_or_nat _ _ (by omega) (by omega)]
  have h2 : n <<< 8 + q = n <<< 8 ||| q := Nat.shiftLeft_add_eq_or_of_lt (by omega) n
  rw [Nat.shiftLeft_eq] at h2
  rw [show 256 * n = n * 2 ^ 8 from by omega, ← h2]

set_option maxHeartbeats 400000 in
theorem number_any (x : Value) (bs : List UInt8) (hb : bs.length ≤ 8) (w : World) (hx : Rd w 1 x bs.length (bv bs)) :
    Calls Try.prog 67 #[x] w fun e w' => e = .returned (.int .u64 (num bs)) ∧ w = w' := by
  obtain ⟨hl, A, c, rfl, hc1, hc2, hA, hcells⟩ := hx
  go_enter Try.func67, Try.ntmps67
  go_wp2
  go_loop [3, 8] (fun x t => ∃ i : Nat, i ≤ bs.length ∧ t = .int .i64 i ∧ x = .int .u64 (num (bs.take i))) (fun _ t => bs.length - (intOf t).toNat)
  case atStart => exact ⟨0, Nat.zero_le _, rfl, rfl⟩
  case round =>
    obtain ⟨i, hi, rfl, rfl⟩ := hrel
    by_cases hlt : i < bs.length
    · rcases A with _ | ad
      · have := (hA rfl).1; omega
      · obtain ⟨q, n, hq, hn, hcell, hnext, hnow⟩ : ∃ q n : Nat, q < 256 ∧ n < 72057594037927936 ∧ w.cell? (ad.add i) = some (.int .u8 (q : Int)) ∧ num (bs.take (i + 1)) = 256 * n + q ∧ num (bs.take i) = n := by
          refine ⟨bs[i].toNat, num (bs.take i), bs[i].toNat_lt, ?_, hcells ad rfl i _ (by rw [bv_get, List.getElem?_eq_getElem hlt]; rfl), num_take bs i hlt, rfl⟩
          have h1 := num_lt (bs.take i)
          rw [List.length_take, Nat.min_eq_left (by omega)] at h1
          have : 256 ^ i ≤ 256 ^ 7 := Nat.pow_le_pow_right (by omega) (by omega)
          omega
        rw [hnow]
        have Hnext := Lib.hid hnext
        clear hnext hnow hcells
        go_wp2
        go_round
        case rel => exact ⟨i + 1, by omega, by go_num, by rw [Hnext.out, or_shift n q hq hn]⟩
        case measure => simp [intOf]; omega
    · go_wp2
      go_ret
      rw [List.take_of_length_le (by omega)]
      exact ⟨rfl, rfl⟩

theorem eg_take_u16 : ∀ args w, (callFunc 71 args).run Try.prog w = .ok (.enter 71 args) w := fun _ _ => by kernel_rfl
set_option maxRecDepth 100000 in
set_option maxHeartbeats 800000 in
theorem take_u16_in (g : Nat) (x0 : Value) (A : Option Addr) (c : Nat) (bs : List UInt8) (hb : bs.length = 2) (w : World) (hx : Rd w 1 (.slice A 2 c) 2 (bv bs)) (hg : Blk w g 70 #[x0]) :
    Calls Try.prog 71 #[.slice A 2 c, .pointer (some ⟨g, 0, none⟩)] w fun e w' => e = .returned (.int .i64 0) ∧ (w.setCell ⟨g, 0, none⟩ (.int .u16 (num bs))) = w' := by
  have hc := hg.cell 0
  have hf := hg.frozen 0
  have hlt := hg.lt
  simp at hc
  have hnum := num_lt bs
  rw [hb] at hnum
  simp only [Nat.reducePow] at hnum
  have Hc := number_any (.slice A 2 c) bs (by omega) w (by rw [hb]; exact hx)
  have HC := Lib.hid Hc
  clear Hc
  generalize num bs = n at *
  go_enter Try.func71, Try.ntmps71
  go_wp2_with (go_at_call 67; refine HC.out.mono ?_; rintro e w' ⟨rfl, rfl⟩)
  go_ret
  exact ⟨rfl, rfl⟩

set_option maxRecDepth 100000 in
set_option maxHeartbeats 800000 in
theorem take_u16 (p : Nat) (v : Value) (a : Nat) (bs : List UInt8) (w : World) (h : Rr w p v a bs) (hk : a + 2 ≤ bs.length) :
    Calls Try.prog 49 #[.pointer (some ⟨p, 0, none⟩)] w fun e w' => e = .returned (.tuple #[.int .u16 (num ((bs.drop a).take 2)), .int .i64 0]) ∧ Kp [p] w w' ∧ Rr w' p v (a + 2) bs := by
  have hp := h.blk.lt
  have hnext : Calls Try.prog 65 #[.pointer (some ⟨p, 0, none⟩), .int .i64 2, .func (.func 71) #[] #[.pointer (some ⟨w.heap.size, 0, none⟩)]] (w.alloc (.cells #[.int .u16 0] 70))
      fun e w' => e = .returned (.int .i64 0) ∧ w'.cell? ⟨w.heap.size, 0, none⟩ = some (.int .u16 (num ((bs.drop a).take 2))) ∧ Kp [p] w w' ∧ Rr w' p v (a + 2) bs :=
    next_ok p v a bs 2 hk _ _ _ (h.alloc _) _ eg_take_u16 (fun A c W hkp hr hrd => by
      have hb : Blk W w.heap.size 70 #[.int .u16 0] := (Blk.new w _ _).kp hkp (by simp; omega)
      refine (take_u16_in w.heap.size _ A c _ (by rw [List.length_take, List.length_drop]; omega) W hrd hb).mono ?_
      rintro e w' ⟨rfl, rfl⟩
      refine ⟨rfl, by simpa using (hb.set_ 0 _).cell 0, ?_, hr.set (by omega) (fun hv => by have := h.vlt _ hv; omega) 0 _⟩
      have k1 : Kp [p] w W := ((Kp.refl [p] w).alloc _).trans hkp (fun g hg => .inl hg)
      exact k1.setCell (.inr (by simp)) _)
  have Hn := Lib.hid hnext
  clear hnext
  generalize num ((bs.drop a).take 2) = n at *
  go_enter Try.func49, Try.ntmps49
  go_wp2_with (first
    | (go_at_call 63; refine (width_u16 _).mono ?_; rintro e w' ⟨rfl, rfl⟩)
    | (go_at_call 65; refine Hn.out.mono ?_; rintro e w' ⟨rfl, hc, hkp, hr⟩))
  go_ret2
  exact ⟨rfl, hkp, hr⟩

set_option maxRecDepth 100000 in
set_option maxHeartbeats 800000 in
theorem take_u16_end (p : Nat) (v : Value) (a : Nat) (bs : List UInt8) (w : World) (h : Rr w p v a bs) (hk : bs.length < a + 2) :
    Calls Try.prog 49 #[.pointer (some ⟨p, 0, none⟩)] w fun e w' => e = .returned (.tuple #[.int .u16 0, .int .i64 110]) ∧ Kp [] w w' := by
  have hn := next_end p v a bs 2 (by omega) (.func (.func 71) #[] #[.pointer (some ⟨w.heap.size, 0, none⟩)]) _ (h.alloc (.cells #[.int .u16 0] 70))
  have Hn := Lib.hid hn
  clear hn
  go_enter Try.func49, Try.ntmps49
  go_wp2_with (first
    | (go_at_call 63; refine (width_u16 _).mono ?_; rintro e w' ⟨rfl, rfl⟩)
    | (go_at_call 65; refine Hn.out.mono ?_; rintro e w' ⟨rfl, nq, rfl⟩; have hc : ((w.alloc (.cells #[.int .u16 0] 70)).drewN nq).cell? ⟨w.heap.size, 0, none⟩ = some (.int .u16 0) := by simp))
  go_ret2
  exact ⟨rfl, ((Kp.refl [] w).alloc _).drewN _⟩

theorem eg_take_u64 : ∀ args w, (callFunc 76 args).run Try.prog w = .ok (.enter 76 args) w := fun _ _ => by kernel_rfl
set_option maxRecDepth 100000 in
set_option maxHeartbeats 800000 in
theorem take_u64_in (g : Nat) (x0 : Value) (A : Option Addr) (c : Nat) (bs : List UInt8) (hb : bs.length = 8) (w : World) (hx : Rd w 1 (.slice A 8 c) 8 (bv bs)) (hg : Blk w g 93 #[x0]) :
    Calls Try.prog 76 #[.slice A 8 c, .pointer (some ⟨g, 0, none⟩)] w fun e w' => e = .returned (.int .i64 0) ∧ (w.setCell ⟨g, 0, none⟩ (.int .u64 (num bs))) = w' := by
  have hc := hg.cell 0
  have hf := hg.frozen 0
  have hlt := hg.lt
  simp at hc
  have hnum := num_lt bs
  rw [hb] at hnum
  simp only [Nat.reducePow] at hnum
  have Hc := number_any (.slice A 8 c) bs (by omega) w (by rw [hb]; exact hx)
  have HC := Lib.hid Hc
  clear Hc
  generalize num bs = n at *
  go_enter Try.func76, Try.ntmps76
  go_wp2_with (go_at_call 67; refine HC.out.mono ?_; rintro e w' ⟨rfl, rfl⟩)
  go_ret
  exact ⟨rfl, rfl⟩

set_option maxRecDepth 100000 in
set_option maxHeartbeats 800000 in
theorem take_u64 (p : Nat) (v : Value) (a : Nat) (bs : List UInt8) (w : World) (h : Rr w p v a bs) (hk : a + 8 ≤ bs.length) :
    Calls Try.prog 70 #[.pointer (some ⟨p, 0, none⟩)] w fun e w' => e = .returned (.tuple #[.int .u64 (num ((bs.drop a).take 8)), .int .i64 0]) ∧ Kp [p] w w' ∧ Rr w' p v (a + 8) bs := by
  have hp := h.blk.lt
  have hnext : Calls Try.prog 65 #[.pointer (some ⟨p, 0, none⟩), .int .i64 8, .func (.func 76) #[] #[.pointer (some ⟨w.heap.size, 0, none⟩)]] (w.alloc (.cells #[.int .u64 0] 93))
      fun e w' => e = .returned (.int .i64 0) ∧ w'.cell? ⟨w.heap.size, 0, none⟩ = some (.int .u64 (num ((bs.drop a).take 8))) ∧ Kp [p] w w' ∧ Rr w' p v (a + 8) bs :=
    next_ok p v a bs 8 hk _ _ _ (h.alloc _) _ eg_take_u64 (fun A c W hkp hr hrd => by
      have hb : Blk W w.heap.size 93 #[.int .u64 0] := (Blk.new w _ _).kp hkp (by simp; omega)
      refine (take_u64_in w.heap.size _ A c _ (by rw [List.length_take, List.length_drop]; omega) W hrd hb).mono ?_
      rintro e w' ⟨rfl, rfl⟩
      refine ⟨rfl, by simpa using (hb.set_ 0 _).cell 0, ?_, hr.set (by omega) (fun hv => by have := h.vlt _ hv; omega) 0 _⟩
      have k1 : Kp [p] w W := ((Kp.refl [p] w).alloc _).trans hkp (fun g hg => .inl hg)
      exact k1.setCell (.inr (by simp)) _)
  have Hn := Lib.hid hnext
  clear hnext
  generalize num ((bs.drop a).take 8) = n at *
  go_enter Try.func70, Try.ntmps70
  go_wp2_with (first
    | (go_at_call 74; refine (width_u64 _).mono ?_; rintro e w' ⟨rfl, rfl⟩)
    | (go_at_call 65; refine Hn.out.mono ?_; rintro e w' ⟨rfl, hc, hkp, hr⟩))
  go_ret2
  exact ⟨rfl, hkp, hr⟩

set_option maxRecDepth 100000 in
set_option maxHeartbeats 800000 in
theorem take_u64_end (p : Nat) (v : Value) (a : Nat) (bs : List UInt8) (w : World) (h : Rr w p v a bs) (hk : bs.length < a + 8) :
    Calls Try.prog 70 #[.pointer (some ⟨p, 0, none⟩)] w fun e w' => e = .returned (.tuple #[.int .u64 0, .int .i64 110]) ∧ Kp [] w w' := by
  have hn := next_end p v a bs 8 (by omega) (.func (.func 76) #[] #[.pointer (some ⟨w.heap.size, 0, none⟩)]) _ (h.alloc (.cells #[.int .u64 0] 93))
  have Hn := Lib.hid hn
  clear hn
  go_enter Try.func70, Try.ntmps70
  go_wp2_with (first
    | (go_at_call 74; refine (width_u64 _).mono ?_; rintro e w' ⟨rfl, rfl⟩)
    | (go_at_call 65; refine Hn.out.mono ?_; rintro e w' ⟨rfl, nq, rfl⟩; have hc : ((w.alloc (.cells #[.int .u64 0] 93)).drewN nq).cell? ⟨w.heap.size, 0, none⟩ = some (.int .u64 0) := by simp))
  go_ret2
  exact ⟨rfl, ((Kp.refl [] w).alloc _).drewN _⟩
end Go.Proofs.Ytdmdnphbheomoaa
/- A row of texts of the call's own; one more text appended; two lists of texts held against one another. -/
namespace Go.Proofs.Ytdmdnphbheomoaa
open Go.RowKit
theorem Try.infoBytes : (Try.prog.info? 25).map (fun i => (i.zero, i.size, i.bytes)) = some (some (.slice none 0 0), 1, 24) := by kernel_rfl
def textR : List (List UInt8) → List Value → List Res
  | l :: ls, B :: Bs => rowR 5 1 B l.length (bv l) :: textR ls Bs
  | _, _ => []
theorem exec_convT {P : Program} {w : World} {ρ : Operand → Value} {o : Oper} {s t : TypeId} {x : Operand} {v u : Value} (ho : o.op = .convert s t x) (hx : ρ x = v) (h : (convert s t v).run P w = .ok u w) : (execOp ρ o).run P w = .ok (.value u) w := by
  unfold execOp
  simp only [ho, hx, Sem.run_bind, h, Result.andThen_ok, Sem.run_pure]
theorem textR_snoc : ∀ (ls : List (List UInt8)) (Bs : List Value) (l : List UInt8) (B : Value), ls.length = Bs.length → textR (ls ++ [l]) (Bs ++ [B]) = textR ls Bs ++ [rowR 5 1 B l.length (bv l)]
  | [], [], _, _, _ => rfl
  | _ :: ls, _ :: Bs, l, B, h => by simp only [List.cons_append, textR, textR_snoc ls Bs l B (by simpa using h)]
  | [], _ :: _, _, _, h => by simp at h
  | _ :: _, [], _, _, h => by simp at h
theorem textR_mem : ∀ (ls : List (List UInt8)) (Bs : List Value) (i : Nat) (l : List UInt8) (B : Value), ls[i]? = some l → Bs[i]? = some B → rowR 5 1 B l.length (bv l) ∈ textR ls Bs
  | l0 :: ls, B0 :: Bs, 0, l, B, h1, h2 => by cases h1; cases h2; exact List.mem_cons_self ..
  | l0 :: ls, B0 :: Bs, i + 1, l, B, h1, h2 => List.mem_cons_of_mem _ (textR_mem ls Bs i l B h1 h2)
  | [], _, _, _, _, h1, _ => by simp at h1
  | _ :: _, [], _, _, _, _, h2 => by simp at h2
/-- Text i, and how the rest stands if it is turned. -/
theorem textR_split : ∀ (ls : List (List UInt8)) (Bs : List Value) (i : Nat) (l : List UInt8) (B : Value), ls[i]? = some l → Bs[i]? = some B →
    ∃ l1 l2, textR ls Bs = l1 ++ rowR 5 1 B l.length (bv l) :: l2 ∧ ∀ (l' : List UInt8) (B' : Value), textR (ls.set i l') (Bs.set i B') = l1 ++ rowR 5 1 B' l'.length (bv l') :: l2
  | l0 :: ls, B0 :: Bs, 0, l, B, h1, h2 => by cases h1; cases h2; exact ⟨[], textR ls Bs, rfl, fun _ _ => rfl⟩
  | l0 :: ls, B0 :: Bs, i + 1, l, B, h1, h2 => by
    obtain ⟨l1, l2, e, h⟩ := textR_split ls Bs i l B h1 h2
    exact ⟨rowR 5 1 B0 l0.length (bv l0) :: l1, l2, by simp only [textR, e, List.cons_append], fun l' B' => by simp only [List.set_cons_succ, textR, h, List.cons_append]⟩
  | [], _, _, _, _, h1, _ => by simp at h1
  | _ :: _, [], _, _, _, _, h2 => by simp at h2
theorem texts_of {w0 W : World} {v : Value} {ls : List (List UInt8)} {Bs : List Value} {L1 L2 : List Res} (hl : ls.length = Bs.length) (S : Held w0 W (L1 ++ rowR 25 1 v ls.length Bs :: L2)) (hm : ∀ r, r ∈ textR ls Bs → r ∈ L2) : Txs W v ls := by
  refine ⟨Bs, Rd.of_own S.at_, fun i hi => ?_⟩
  have hB : Bs[i]? = some (Bs[i]'(by omega)) := List.getElem?_eq_getElem (by omega)
  have hr := textR_mem ls Bs i _ _ (List.getElem?_eq_getElem hi) hB
  exact ⟨_, hB, Rd.of_own (S.ok _ (List.mem_append_right _ (List.mem_cons_of_mem _ (hm _ hr))))⟩
end Go.Proofs.Ytdmdnphbheomoaa
/- Check of entry and of the reference. -/
namespace Go.Proofs.Ytdmdnphbheomoaa
open Go.RowKit
theorem chk_4 {f : Int} {L : List (List UInt8)} (h : f < 0 ∨ 4611686018427387904 < f ∨ 4611686018427387904 - f + 1 < (L.length : Int)) : chk f L = 4 := if_pos h
theorem chk_2 {f : Int} {L : List (List UInt8)} (h1 : 0 ≤ f) (h2 : f ≤ 4611686018427387904) (h4 : L.length = 0) : chk f L = 2 := by
  unfold chk; rw [if_neg (by omega), if_pos h4]
theorem chk_5 {f : Int} {L : List (List UInt8)} (h1 : 0 ≤ f) (h2 : f ≤ 4611686018427387904) (h3 : (L.length : Int) ≤ 4611686018427387904 - f + 1) (h5 : 1024 < L.length) : chk f L = 5 := by
  unfold chk; rw [if_neg (by omega), if_neg (by omega), if_pos h5]
theorem chk_3 {f : Int} {L : List (List UInt8)} (h1 : 0 ≤ f) (h2 : f ≤ 4611686018427387904) (h3 : (L.length : Int) ≤ 4611686018427387904 - f + 1) (h4 : ¬ L.length = 0) (h5 : ¬ 1024 < L.length) (h : L.any (fun e => decide (4096 < e.length)) = true) : chk f L = 3 := by
  unfold chk; rw [if_neg (by omega), if_neg (by omega), if_neg (by omega), if_pos h]
theorem chk_0 {f : Int} {L : List (List UInt8)} (h1 : 0 ≤ f) (h2 : f ≤ 4611686018427387904) (h3 : (L.length : Int) ≤ 4611686018427387904 - f + 1) (h4 : ¬ L.length = 0) (h5 : ¬ 1024 < L.length) (h : L.any (fun e => decide (4096 < e.length)) = false) : chk f L = 0 := by
  unfold chk; rw [if_neg (by omega), if_neg (by omega), if_neg (by omega), if_neg (by rw [h]; simp)]
theorem Txs.len_le {w : World} {v : Value} {L : List (List UInt8)} (h : Txs w v L) : L.length ≤ 9223372036854775807 := by
  obtain ⟨vs, ⟨_, A', c', _, h1, h2, _⟩, _⟩ := h
  unfold maxLen at h2
  omega
theorem Txs.at_ {w : World} {ad : Addr} {n c : Nat} {L : List (List UInt8)} (h : Txs w (.slice (some ad) n c) L) {k : Nat} (hk : k < L.length) : ∃ A c, w.cell? (ad.add k) = some (.slice A L[k].length c) ∧ Rd w 1 (.slice A L[k].length c) L[k].length (bv L[k]) := by
  obtain ⟨A', c', e, _, h2⟩ := h.open_
  cases e
  obtain ⟨u, h3, h4⟩ := h2 ad rfl k hk
  obtain ⟨A, c, rfl, _⟩ := rd_get2 h4
  exact ⟨A, c, h3, h4⟩
set_option maxRecDepth 100000 in
set_option maxHeartbeats 2000000 in
theorem check_any (f : Int) (hf : -9223372036854775808 ≤ f ∧ f ≤ 9223372036854775807) (v : Value) (L : List (List UInt8)) (w : World) (hv : Txs w v L) :
    Calls Try.prog 16 #[.agg #[.int .i64 f, v]] w fun e w' => e = .returned (.int .i64 (chk f L : Int)) ∧ Kp [] w w' := by
  have hbL := hv.len_le
  obtain ⟨A, c, rfl, hA, -⟩ := hv.open_
  have Hv := Lib.hid hv
  have HA := Lib.hid hA
  clear hA hv
  by_cases h0 : f < 0
  · have Hc := Lib.hid (chk_4 (L := L) (.inl h0))
    go_enter Try.func16, Try.ntmps16
    go_wp2
    go_ret
    exact ⟨by rw [Hc.out]; rfl, (Kp.refl [] w).alloc _⟩
  · by_cases h1 : 4611686018427387904 < f
    · have Hc := Lib.hid (chk_4 (L := L) (.inr (.inl h1)))
      go_enter Try.func16, Try.ntmps16
      go_wp2
      go_ret
      exact ⟨by rw [Hc.out]; rfl, (Kp.refl [] w).alloc _⟩
    · by_cases h2 : 4611686018427387904 - f + 1 < (L.length : Int)
      · have Hc := Lib.hid (chk_4 (L := L) (.inr (.inr h2)))
        go_enter Try.func16, Try.ntmps16
        go_wp2
        go_ret
        exact ⟨by rw [Hc.out]; rfl, (Kp.refl [] w).alloc _⟩
      · by_cases h3 : L.length = 0
        · have Hc := Lib.hid (chk_2 (f := f) (L := L) (by omega) (by omega) h3)
          have H3 := Lib.hid h3
          rw [h3] at h2 hbL ⊢
          clear h3
          go_enter Try.func16, Try.ntmps16
          go_wp2
          go_ret
          exact ⟨by rw [Hc.out]; rfl, (Kp.refl [] w).alloc _⟩
        · have h3' : ¬ (L.length : Int) = 0 := by omega
          by_cases h4 : 1024 < L.length
          · have Hc := Lib.hid (chk_5 (f := f) (L := L) (by omega) (by omega) (by omega) h4)
            have h4' : (1024 : Int) < L.length := by omega
            go_enter Try.func16, Try.ntmps16
            go_wp2
            go_ret
            exact ⟨by rw [Hc.out]; rfl, (Kp.refl [] w).alloc _⟩
          · have h4' : ¬ (1024 : Int) < L.length := by omega
            have HC3 := Lib.hid (chk_3 (f := f) (L := L) (by omega) (by omega) (by omega) h3 h4)
            have HC0 := Lib.hid (chk_0 (f := f) (L := L) (by omega) (by omega) (by omega) h3 h4)
            obtain ⟨ad, rfl⟩ := HA.out (by omega)
            go_enter Try.func16, Try.ntmps16
            go_wp2
            go_loop [37] (fun i => ∃ k : Nat, k ≤ L.length ∧ i = .int .i64 k ∧ (L.take k).any (fun e => decide (4096 < e.length)) = false) (fun i => L.length - (intOf i).toNat)
            case atStart => exact ⟨0, by omega, rfl, by simp⟩
            case round =>
              obtain ⟨k, hk, rfl, hany⟩ := hrel
              by_cases hlt : k < L.length
              · have he : L[k]? = some L[k] := List.getElem?_eq_getElem hlt
                have HS := Lib.hid (any_long_take_succ he)
                have HL := Lib.hid (any_long_of he)
                have HN := Lib.hid hany
                obtain ⟨Ae, ce, hce, -⟩ := (Hv.out.kp0 ((Kp.refl [] w).alloc (.cells #[.int .i64 f, .slice (some ad) L.length c] 24))).at_ hlt
                clear he hany
                generalize L[k] = x at *
                by_cases hx : 4096 < x.length
                · go_wp2
                  go_ret
                  exact ⟨by rw [HC3.out (HL.out hx)]; rfl, (Kp.refl [] w).alloc _⟩
                · go_wp2
                  go_round
                  case rel => exact ⟨k + 1, by omega, by go_num, by rw [HS.out, HN.out]; simp; omega⟩
                  case measure => simp [intOf]; omega
              · obtain rfl : k = L.length := by omega
                rw [List.take_length] at hany
                have HN := Lib.hid hany
                clear hany
                go_wp2
                go_ret
                exact ⟨by rw [HC0.out HN.out]; rfl, (Kp.refl [] w).alloc _⟩
set_option maxRecDepth 100000 in
set_option maxHeartbeats 2000000 in
theorem rcheck_any (f : Int) (hf : -9223372036854775808 ≤ f ∧ f ≤ 9223372036854775807) (v : Value) (L : List (List UInt8)) (w : World) (hv : Txs w v L) :
    Calls Try.prog 17 #[.agg #[.int .i64 f, v]] w fun e w' => e = .returned (.int .i64 (chk f L : Int)) ∧ Kp [] w w' := by
  have hbL := hv.len_le
  obtain ⟨A, c, rfl, hA, -⟩ := hv.open_
  have Hv := Lib.hid hv
  have HA := Lib.hid hA
  clear hA hv
  by_cases h0 : f < 0
  · have Hc := Lib.hid (chk_4 (L := L) (.inl h0))
    go_enter Try.func17, Try.ntmps17
    go_wp2
    go_ret
    exact ⟨by rw [Hc.out]; rfl, (Kp.refl [] w).alloc _⟩
  · by_cases h1 : 4611686018427387904 < f
    · have Hc := Lib.hid (chk_4 (L := L) (.inr (.inl h1)))
      go_enter Try.func17, Try.ntmps17
      go_wp2
      go_ret
      exact ⟨by rw [Hc.out]; rfl, (Kp.refl [] w).alloc _⟩
    · by_cases h2 : 4611686018427387904 - f + 1 < (L.length : Int)
      · have Hc := Lib.hid (chk_4 (L := L) (.inr (.inr h2)))
        have h2a : (0 : Int) < (L.length : Int) := by omega
        have h2b : 4611686018427387904 - ((L.length : Int) - 1) < f := by omega
        go_enter Try.func17, Try.ntmps17
        go_wp2
        go_ret
        exact ⟨by rw [Hc.out]; rfl, (Kp.refl [] w).alloc _⟩
      · by_cases h3 : L.length = 0
        · have Hc := Lib.hid (chk_2 (f := f) (L := L) (by omega) (by omega) h3)
          have H3 := Lib.hid h3
          rw [h3] at h2 hbL ⊢
          clear h3
          go_enter Try.func17, Try.ntmps17
          go_wp2
          go_ret
          exact ⟨by rw [Hc.out]; rfl, (Kp.refl [] w).alloc _⟩
        · have h3' : ¬ (L.length : Int) = 0 := by omega
          by_cases h4 : 1024 < L.length
          · have h2a : (0 : Int) < (L.length : Int) := by omega
            have h2b : ¬ 4611686018427387904 - ((L.length : Int) - 1) < f := by omega
            have Hc := Lib.hid (chk_5 (f := f) (L := L) (by omega) (by omega) (by omega) h4)
            have h4' : (1024 : Int) < L.length := by omega
            go_enter Try.func17, Try.ntmps17
            go_wp2
            go_ret
            exact ⟨by rw [Hc.out]; rfl, (Kp.refl [] w).alloc _⟩
          · have h2a : (0 : Int) < (L.length : Int) := by omega
            have h2b : ¬ 4611686018427387904 - ((L.length : Int) - 1) < f := by omega
            have h4' : ¬ (1024 : Int) < L.length := by omega
            have HC3 := Lib.hid (chk_3 (f := f) (L := L) (by omega) (by omega) (by omega) h3 h4)
            have HC0 := Lib.hid (chk_0 (f := f) (L := L) (by omega) (by omega) (by omega) h3 h4)
            obtain ⟨ad, rfl⟩ := HA.out (by omega)
            go_enter Try.func17, Try.ntmps17
            go_wp2
            go_loop [4] (fun i => ∃ k : Nat, k ≤ L.length ∧ i = .int .i64 k ∧ (L.take k).any (fun e => decide (4096 < e.length)) = false) (fun i => L.length - (intOf i).toNat)
            case atStart => exact ⟨0, by omega, rfl, by simp⟩
            case round =>
              obtain ⟨k, hk, rfl, hany⟩ := hrel
              by_cases hlt : k < L.length
              · have he : L[k]? = some L[k] := List.getElem?_eq_getElem hlt
                have HS := Lib.hid (any_long_take_succ he)
                have HL := Lib.hid (any_long_of he)
                have HN := Lib.hid hany
                obtain ⟨Ae, ce, hce, -⟩ := (Hv.out.kp0 ((Kp.refl [] w).alloc (.cells #[.int .i64 f, .slice (some ad) L.length c] 24))).at_ hlt
                clear he hany
                generalize L[k] = x at *
                by_cases hx : 4096 < x.length
                · go_wp2
                  go_ret
                  exact ⟨by rw [HC3.out (HL.out hx)]; rfl, (Kp.refl [] w).alloc _⟩
                · go_wp2
                  go_round
                  case rel => exact ⟨k + 1, by omega, by go_num, by rw [HS.out, HN.out]; simp; omega⟩
                  case measure => simp [intOf]; omega
              · obtain rfl : k = L.length := by omega
                rw [List.take_length] at hany
                have HN := Lib.hid hany
                clear hany
                go_wp2
                go_ret
                exact ⟨by rw [HC0.out HN.out]; rfl, (Kp.refl [] w).alloc _⟩
end Go.Proofs.Ytdmdnphbheomoaa
/- The reference's Put and One for layer 15. -/
namespace Go.Proofs.Ytdmdnphbheomoaa
open Go.RowKit
/-- A new row of bytes. -/
def NewB (bs : List UInt8) (w : World) (v : Value) (w' : World) : Prop := Ow w' 5 1 v bs.length (bv bs) ∧ Kp [] w w' ∧ ∀ g, v.ownBlock = some g → w.heap.size ≤ g
theorem NewB.rd {bs : List UInt8} {w w' : World} {v : Value} (h : NewB bs w v w') : Rd w' 1 v bs.length (bv bs) := Rd.of_own h.1
theorem NewB.nil (w w' : World) (h : Kp [] w w') : NewB [] w (.slice none 0 0) w' := ⟨World.ownsRow_nil _ _ _ _, h, by simp [Value.ownBlock]⟩
theorem NewB.base {bs : List UInt8} {w0 w w' : World} {v : Value} (k : Kp [] w0 w) (h : NewB bs w v w') : NewB bs w0 v w' := ⟨h.1, k.trans h.2.1 (by simp), fun g hg => Nat.le_trans k.size (h.2.2 g hg)⟩
theorem NewB.kp {bs : List UInt8} {w0 w w' : World} {v : Value} (h : NewB bs w0 v w) (k : Kp [] w w') : NewB bs w0 v w' := ⟨ow_kp h.1 k (by simp), h.2.1.trans k (by simp), h.2.2⟩
theorem NewB.form {bs : List UInt8} {w0 w : World} {v : Value} (h : NewB bs w0 v w) : ∃ A c, v = .slice A bs.length c := by obtain ⟨A, c, rfl, _⟩ := ow_form h.1; exact ⟨A, c, rfl⟩
/-- 'append(v, y...)' onto a new row. -/
theorem app_newB {ops : Array Oper} {rest : List Oper} {o : Oper} {a : Act} {w : World} {Q : Exit → Act → World → Prop} (hgd : o.guard = none) (s x : Operand)
    (ho : o.op = .call { callee := .builtin .append, args := #[s, x], argTypes := #[25, 25] })
    (v : Value) (xs : List UInt8) (hs : a.eval s = v) {w0 : World} (hown : NewB xs w0 v w)
    (y : Value) (ys : List UInt8) (hx : a.eval x = y) (hr : Rd w 1 y ys.length (bv ys)) (hb : xs.length + ys.length ≤ 140737488355328)
    (h : ∀ v' w', NewB (xs ++ ys) w0 v' w' → wpList Try.prog ops Q rest (a.put o.dst v') w') : wpList Try.prog ops Q (o :: rest) a w :=
  app_bytes hgd s x ho v xs hs hown.1 y ys hx hr w0 hown.2.1 hown.2.2 hb (fun v' w' h1 h2 _ h4 _ => h v' w' ⟨h1, h2, h4⟩)
theorem number15_step {w wr w1 : World} {v v' : Value} {i x : Nat} {o : Obj} (hi : i + 1 ≤ 8)
    (hown1 : Ow w1 5 1 v' (7 - i + 1) (bv ((be 8 x).take (7 - i)) ++ [Value.int .u8 ((x : Int) / 2 ^ (8 * i) % 256)])) (hkp : Kp [] w wr) (hf : ∀ g, v.ownBlock = some g → w.heap.size ≤ g)
    (hg1 : (wr.alloc o).grownBy w1 v.ownBlock) (hat1 : v'.ownBlock = v.ownBlock ∨ v'.ownBlock = some (wr.heap.size + 1)) :
    Ow w1 5 1 v' (8 - i) (bv ((be 8 x).take (8 - i))) ∧ Kp [] w w1 ∧ ∀ g, v'.ownBlock = some g → w.heap.size ≤ g := by
  refine ⟨?_, (hkp.alloc o).grown hg1 (fun g hg => .inr (hf g hg)), fun g hg => ?_⟩
  · rw [be_take_succ 8 x i (by omega), bv_append, show 8 - i = 7 - i + 1 from by omega, show 7 - i + 1 - 1 = 7 - i from by omega]
    rw [byte_of] at hown1
    exact hown1
  · rcases hat1 with h | h
    · rw [h] at hg; exact hf g hg
    · rw [h] at hg; cases hg; have := hkp.size; omega
set_option maxRecDepth 100000 in
set_option maxHeartbeats 2000000 in
theorem number15_any (x : Int) (w : World) :
    Calls Try.prog 42 #[.int .i64 x] w fun e w' => ∃ v, e = .returned v ∧ NewB (be 8 (tou64 x)) w v w' := by
  obtain ⟨i0, hi, hz0, hz1, hz2⟩ := info_parts Try.infoU8
  have HW := Lib.hid (wrap_u64_nat x)
  have hlt := tou64_lt x
  go_enter Try.func42, Try.ntmps42
  go_wp2
  go_loopw [3, 4] (fun u t wr => ∃ j : Nat, j ≤ 8 ∧ t = .int .i64 (8 * (j : Int) - 8) ∧ Ow wr 5 1 u (8 - j) (bv ((be 8 (tou64 x)).take (8 - j))) ∧ Kp [] w wr ∧ ∀ g, u.ownBlock = some g → w.heap.size ≤ g) (fun _ n _ => ((intOf n) + 8).toNat)
  case atStart => exact ⟨8, by omega, rfl, World.ownsRow_nil _ _ _ _, Kp.refl _ _, by simp [Value.ownBlock]⟩
  case round =>
    obtain ⟨j, hj, rfl, hown', hkp, hf⟩ := hrel
    by_cases h0 : j = 0
    · subst h0
      go_wp2
      go_ret
      refine ⟨_, rfl, ?_, hkp, hf⟩
      rw [Nat.sub_zero, List.take_of_length_le (by simp)] at hown'
      simpa using hown'
    · obtain ⟨i, rfl⟩ : ∃ i, j = i + 1 := ⟨j - 1, by omega⟩
      clear h0
      rw [show (8 * ((i + 1 : Nat) : Int) - 8) = ((8 * i : Nat) : Int) by omega]
      have hi8 : ((8 * i : Nat) : Int) ≤ 56 := by omega
      have hw2 := HW.out
      generalize tou64 x = y at *
      obtain ⟨k8, hk8⟩ : ∃ k8 : Nat, k8 = 8 * i := ⟨_, rfl⟩
      rw [← hk8] at hi8 ⊢
      have HK := Lib.hid hk8
      clear hk8 HW
      go_wp2_with (at_builtin; go_loud (refine wpList_app _ rfl (.tmp 9) (.tmp 15) _ rfl 5 i0 _ 1 1 Try.underlying25 hi hz0 hz1 hz2 rfl (by decide) _ _ _ rfl (hown'.alloc _) (.slice (some ⟨wr.heap.size, 0, none⟩) 1 1) 1 [Value.int .u8 ((y : Int) / 2 ^ k8 % 256)] rfl (rd_new _ _ _) (one_bv _ rfl) (by unfold maxLen; omega) (by omega) ?_))
      intro v' w1 hown1 hg1 hat1
      rw [HK.out] at hown1
      obtain ⟨q1, q2, q3⟩ := number15_step (by omega) hown1 hkp hf hg1 hat1
      clear hown1 hg1 hat1
      go_wp2
      go_roundw
      case rel => exact ⟨i, by omega, by rw [HK.out]; first | rfl | (congr 1; omega), q1, q2, q3⟩
      case measure => simp [intOf]; omega
theorem bv_be2 (n : Nat) : bv (be 2 n) = [.int .u8 ((n : Int) / 256 % 256), .int .u8 ((n : Int) % 256)] := by
  rw [be_succ, be_succ, bv_cons, bv_cons]
  simp only [be_zero, bv_nil, UInt8.toNat_ofNat', Nat.pow_one, Nat.pow_zero, Nat.div_one, Nat.reducePow]
  congr 3
theorem own_be2 {w : World} {g : Nat} (hg : g = w.heap.size) (n : Nat) : Ow (w.alloc (.cells #[.int .u8 ((n : Int) / 256 % 256), .int .u8 ((n : Int) % 256)] 5)) 5 1 (.slice (some ⟨g, 0, none⟩) 2 2) (be 2 n).length (bv (be 2 n)) := by
  subst hg
  have := ow_new w 5 1 2 #[.int .u8 ((n : Int) / 256 % 256), .int .u8 ((n : Int) % 256)] rfl (by decide)
  rw [be_length, bv_be2]
  exact this
set_option maxRecDepth 100000 in
set_option maxHeartbeats 2000000 in
theorem list15_any (x : Value) (e : List UInt8) (w : World) (hx : Rd w 1 x e.length (bv e)) (hn : e.length + 2 ≤ 140737488355328) :
    Calls Try.prog 43 #[x] w fun r w' => ∃ v, r = .returned v ∧ NewB (item e) w v w' := by
  obtain ⟨A, c, rfl, hnc, hcm, -⟩ := rd_get2 hx
  have Hx := Lib.hid hx
  have HO := Lib.hid (own_be2 (w := w) rfl e.length)
  clear hx
  unfold maxLen at hcm
  go_enter Try.func43, Try.ntmps43
  go_wp2_with (at_builtin; refine app_bytes rfl (.tmp 11) (.tmp 12) rfl (.slice (some ⟨w.heap.size, 0, none⟩) 2 2) (be 2 e.length) rfl HO.out (.slice A e.length c) e rfl (Hx.out.alloc _) w ((Kp.refl [] w).alloc _) (by simp [Value.ownBlock]) (by rw [be_length]; omega) ?_; intro v5 w5 o5 k5 g5 f5 _)
  go_ret
  exact ⟨_, rfl, o5, k5, f5⟩
def PutPost15 (k : IntKind) (f : Int) (L : List (List UInt8)) (w : World) (e : Ending) (w' : World) : Prop :=
  ∃ u, e = .returned (.tuple #[u, .int k (chk f L : Int)]) ∧ NewB (outB f L) w u w'
theorem outB_no {f : Int} {L : List (List UInt8)} (h : chk f L ≠ 0) : outB f L = [] := if_neg h
theorem outB_ok {f : Int} {L : List (List UInt8)} (h : chk f L = 0) : outB f L = formB f L := if_pos h
theorem formB_take_succ {f : Int} {L : List (List UInt8)} {k : Nat} {e : List UInt8} (h : L[k]? = some e) : be 8 (tou64 f) ++ be 2 L.length ++ items (L.take (k + 1)) = be 8 (tou64 f) ++ be 2 L.length ++ items (L.take k) ++ item e := by
  rw [items_take_succ h, List.append_assoc, List.append_assoc, List.append_assoc]
theorem chk_take_le {f : Int} {L : List (List UInt8)} (h : chk f L = 0) (k : Nat) : (items (L.take k)).length ≤ 4196352 := by
  obtain ⟨h1, h2, h3, h4, h5, h6⟩ := chk_zero h
  have h7 := items_length_le (L.take k) (fun e he => h6 e (List.mem_of_mem_take he))
  have h8 : (L.take k).length ≤ L.length := by rw [List.length_take]; omega
  omega
theorem num_pre {f : Int} {n : Nat} : (be 8 (tou64 f) ++ be 2 n).length = 10 := by simp
set_option maxRecDepth 100000 in
set_option maxHeartbeats 2000000 in
theorem rput15_any (f : Int) (hf : -9223372036854775808 ≤ f ∧ f ≤ 9223372036854775807) (v : Value) (L : List (List UInt8)) (w : World) (hv : Txs w v L) :
    Calls Try.prog 13 #[.agg #[.int .i64 f, v]] w (PutPost15 .i64 f L w) := by
  have hbL := hv.len_le
  obtain ⟨A, c, rfl, hA, -⟩ := hv.open_
  have Hv := Lib.hid (hv.kp0 ((Kp.refl [] w).alloc (.cells #[.int .i64 f, .slice A L.length c] 24)))
  have HA := Lib.hid hA
  have B0 := Lib.hid (Blk.new w 24 #[.int .i64 f, .slice A L.length c])
  have K0 := Lib.hid ((Kp.refl [] w).alloc (.cells #[.int .i64 f, .slice A L.length c] 24))
  obtain ⟨d0, d1, -, -, -⟩ := Blk.c2 B0.out
  clear hA hv
  go_enter Try.func13, Try.ntmps13
  go_wp2_with fail
  refine (rcheck_any f hf _ L _ Hv.out).mono ?_
  rintro e w1 ⟨rfl, k1⟩
  generalize hW : w.alloc (.cells #[.int .i64 f, .slice A L.length c] 24) = W0 at *
  generalize w.heap.size = g at *
  clear hW
  have K1 := Lib.hid k1
  have B1 := Lib.hid (B0.out.kp k1 (by simp))
  clear d0 d1 k1
  obtain ⟨d0, d1, -, -, -⟩ := Blk.c2 B1.out
  by_cases hc : chk f L = 0
  · have HC := Lib.hid hc
    have hc' : ((chk f L : Nat) : Int) = 0 := by omega
    have HI := Lib.hid (fun k => chk_take_le hc k)
    obtain ⟨h8, H8⟩ : ∃ h8, Hid (h8 = be 8 (tou64 f)) := ⟨_, Lib.hid rfl⟩
    obtain ⟨h2, H2⟩ : ∃ h2, Hid (h2 = be 2 L.length) := ⟨_, Lib.hid rfl⟩
    obtain ⟨P, HP⟩ : ∃ P, Hid (P = h8 ++ h2) := ⟨_, Lib.hid rfl⟩
    have hl8 : h8.length + h2.length ≤ 10 := by rw [H8.out, H2.out]; simp
    have hlP : P.length ≤ 10 := by rw [HP.out]; simpa using hl8
    rw [hc']
    clear hc hc'
    go_wp2_with fail
    refine (number15_any f _).mono ?_
    rintro e w2 ⟨u2, rfl, o2⟩
    rw [← H8.out] at o2
    have N2 := Lib.hid (o2.base K1.out)
    have B2 := Lib.hid (B0.out.kp N2.out.2.1 (by simp))
    obtain ⟨A2, c2, rfl⟩ := o2.form
    clear d0 d1 o2
    obtain ⟨d0, d1, -, -, -⟩ := Blk.c2 B2.out
    have HO : Hid (Rd (w2.alloc (.cells #[.int .u8 ((L.length : Int) / 256 % 256), .int .u8 ((L.length : Int) % 256)] 5)) 1 (.slice (some ⟨w2.heap.size, 0, none⟩) 2 2) h2.length (bv h2)) := Lib.hid (by rw [H2.out]; exact Rd.of_own (own_be2 (w := w2) rfl L.length))
    have N3 := Lib.hid (N2.out.kp ((Kp.refl [] w2).alloc (.cells #[.int .u8 ((L.length : Int) / 256 % 256), .int .u8 ((L.length : Int) % 256)] 5)))
    go_wp2_with (at_builtin; refine app_newB rfl (.tmp 15) (.tmp 26) rfl (.slice A2 h8.length c2) h8 rfl N3.out (.slice (some ⟨w2.heap.size, 0, none⟩) 2 2) h2 rfl HO.out (by omega) ?_; intro v3 w3 o3; rw [← HP.out] at o3; have O3 := Lib.hid o3; obtain ⟨A3, c3, rfl⟩ := o3.form; clear o3)
    go_loopw [5, 6] (fun o i wr => ∃ k : Nat, k ≤ L.length ∧ i = .int .i64 k ∧ NewB (P ++ items (L.take k)) W0 o wr) (fun _ i _ => L.length - (intOf i).toNat)
    case atStart => exact ⟨0, by omega, rfl, by simpa [items] using O3.out⟩
    case round =>
      clear d0 d1 O3 N3 HO B2 N2 B1 K1
      obtain ⟨k, hk, rfl, hN⟩ := hrel
      obtain ⟨Ao, co, rfl⟩ := hN.form
      have HN := Lib.hid hN
      have hik := HI.out k
      obtain ⟨d0, d1, -, -, -⟩ := Blk.c2 (B0.out.kp hN.2.1 (by simp))
      clear hN
      by_cases hlt : k < L.length
      · obtain ⟨ad, rfl⟩ := HA.out (by omega)
        obtain ⟨Ae, ce, hce, hre⟩ := (Hv.out.kp0 HN.out.2.1).at_ hlt
        have he : L[k]? = some L[k] := List.getElem?_eq_getElem hlt
        obtain ⟨o', HO'⟩ : ∃ o', Hid (P ++ items (L.take (k + 1)) = o') := ⟨_, Lib.hid rfl⟩
        have HS : Hid (P ++ items (L.take k) ++ item L[k] = o') := Lib.hid (by rw [← HO'.out, items_take_succ he, List.append_assoc])
        have hle : (items (L.take k)).length + L[k].length + 2 ≤ 4196352 := by
          have := HI.out (k + 1)
          rw [items_take_succ he, List.length_append, item_length] at this
          omega
        have Hre := Lib.hid hre
        clear he hre
        generalize L[k] = x at *
        have hol : (P ++ items (L.take k)).length ≤ 4196362 := by rw [List.length_append]; omega
        generalize P ++ items (L.take k) = o at *
        go_wp2_with fail
        refine (list15_any _ x _ Hre.out (by omega)).mono ?_
        rintro e w5 ⟨v5, rfl, o5⟩
        obtain ⟨A5, c5, rfl⟩ := o5.form
        have O5 := Lib.hid o5.rd
        have N5 := Lib.hid (HN.out.kp o5.2.1)
        have hil : (item x).length ≤ 4196352 := by rw [item_length]; omega
        clear o5 d0 d1
        generalize item x = y at *
        go_wp2_with (at_builtin; refine app_newB rfl (.tmp 35) (.tmp 41) rfl (.slice Ao o.length co) o rfl N5.out (.slice A5 y.length c5) y rfl O5.out (by omega) ?_; intro v6 w6 o6; rw [HS.out] at o6; have O6 := Lib.hid o6; obtain ⟨A6, c6, rfl⟩ := o6.form; clear o6)
        go_roundw
        case rel => exact ⟨k + 1, by omega, by go_num, by rw [HO'.out]; exact O6.out⟩
        case measure => simp [intOf]; omega
      · obtain rfl : k = L.length := by omega
        have HN2 : Hid (NewB (outB f L) W0 (.slice Ao (P ++ items (L.take L.length)).length co) wr) := Lib.hid (by
          have := HN.out
          rw [List.take_length, HP.out, H8.out, H2.out] at this ⊢
          rw [outB_ok HC.out]
          exact this)
        have K0' := Lib.hid (HN2.out.base K0.out)
        have Hz := Lib.hid HC.out
        clear HN2 HN
        generalize (P ++ items (L.take L.length)).length = n at *
        go_wp2
        go_ret2
        exact ⟨_, by rw [Hz.out]; rfl, K0'.out⟩
  · have HC := Lib.hid (outB_no hc)
    have hc' : ¬ ((chk f L : Nat) : Int) = 0 := by omega
    go_wp2
    go_ret2
    exact ⟨_, rfl, by rw [HC.out]; exact NewB.nil _ _ (K0.out.trans K1.out (by simp))⟩
end Go.Proofs.Ytdmdnphbheomoaa
/- A fellow of w_list (XWireC): an empty list may share the writer's block. -/
namespace Go.Proofs.Ytdmdnphbheomoaa
open Go.RowKit
set_option maxRecDepth 100000 in
set_option maxHeartbeats 400000 in
theorem w_listE (p : Nat) (v : Value) (bs : List UInt8) (x : Value) (ns : List UInt8) (k : Nat) (w : World) (hw : Wr w p v bs) (hx : Rd w 1 x ns.length (bv ns)) (hk : 1 ≤ k ∧ k ≤ 4) (hlt : ns.length < 256 ^ k) (hn : bs.length + 4 + ns.length ≤ 140737488355328) (hnb : ∀ g, x.ownBlock = some g → ns ≠ [] → v.ownBlock ≠ some g) :
    Calls Try.prog 40 #[.pointer (some ⟨p, 0, none⟩), .int .i64 k, x] w fun e w' => e = .returned (.int .i64 0) ∧ ∃ v', Wr w' p v' (bs ++ be k ns.length ++ ns) ∧ WSt p v v' w w' := by
  obtain ⟨i0, hi, hz0, hz1, hz2⟩ := info_parts Try.infoU8
  have hc := hw.1.cell 0
  simp at hc
  have Hx := Lib.hid hx
  obtain ⟨A, c, rfl⟩ : ∃ A c, x = .slice A ns.length c := by obtain ⟨_, A, c, h, _⟩ := hx; exact ⟨A, c, h⟩
  clear hx
  have h2 : ns.length < 18446744073709551616 := by omega
  have H2 := Lib.hid h2
  clear h2
  have hS : bs.length + k ≤ 140737488355328 := by omega
  rcases (show k = 1 ∨ k = 2 ∨ k = 3 ∨ k = 4 from by omega) with rfl | rfl | rfl | rfl
  all_goals
    simp only [Nat.reducePow] at hlt
    clear hk
    go_enter Try.func40, Try.ntmps40
    go_wp2_with fail
    refine (form_any v bs.length bs _ (by omega) ns.length H2.out _ hw.2 hS).mono ?_
    rintro e w1 ⟨v1, rfl, h1, h2, h3⟩
    obtain ⟨A1, c1, rfl, _, _⟩ := ow_form h1
    obtain ⟨d1, d2, d3⟩ := wr_kept hw h2
    have hx1 : Rd w1 1 (.slice A ns.length c) ns.length (bv ns) := Hx.out.kpl h2 (fun g hg hne hm => hnb g hg (fun h => hne (by rw [h]; rfl)) (by simpa using hm))
    have Hx1 := Lib.hid hx1; clear hx1
    go_wp2_with (at_builtin; go_loud (refine wpList_app _ rfl (.tmp 34) (.tmp 35) _ rfl 5 i0 _ 1 1 Try.underlying25 hi hz0 hz1 hz2 rfl (by decide) _ _ _ rfl h1 (.slice A ns.length c) ns.length (bv ns) rfl Hx1.out (bv_one _) (by unfold maxLen; omega) (by omega) ?_))
    intro v' w2 hown1 hg1 hat1
    obtain ⟨A2, c2, rfl, _, _⟩ := ow_form hown1
    have hb1 : Blk w1 p 98 #[v] := hw.1.kp h2 (fun hm => hw.ne (by simpa using hm))
    have hb2 := hb1.kp (Kp.of_grown hg1) (fun hm => (ow_blk_ne h1 hb1 (by decide)) (by simpa using hm))
    have d4 := hb2.cell 0
    have d5 := hb2.frozen 0
    have d6 := hb2.lt
    simp at d4
    go_wp2
    go_ret
    refine ⟨rfl, _, wr_step2 hw h1 h2 h3 (by rw [bv_append]; exact hown1) hg1 hat1⟩
end Go.Proofs.Ytdmdnphbheomoaa
/- Walks of package wire: a reader is made, its end; the law's 'known'. -/
namespace Go.Proofs.Ytdmdnphbheomoaa
open Go.RowKit

set_option maxHeartbeats 400000 in
theorem new_reader (x : Value) (bs : List UInt8) (w : World) (hx : Rd w 1 x bs.length (bv bs)) (hn : bs.length ≤ 140737488355328) :
    Calls Try.prog 45 #[x] w fun e w' => ∃ p v, e = .returned (.pointer (some ⟨p, 0, none⟩)) ∧ w.heap.size ≤ p ∧ Rr w' p v 0 bs ∧ (∀ g, v.ownBlock = some g → w.heap.size ≤ g) ∧ Kp [] w w' := by
  go_enter Try.func45, Try.ntmps45
  go_wp2_with (go_at_call 64; refine (clone_any x bs bs.length w hx hn).mono ?_; rintro e w1 ⟨v1, rfl, h1, h2, h3⟩; obtain ⟨A1, c1, rfl, _, _⟩ := ow_form h1)
  go_ret
  have hb : Blk (w1.alloc (.cells #[.slice A1 bs.length c1, .int .i64 0] 103)) w1.heap.size 103 #[.slice A1 bs.length c1, .int .i64 ((0 : Nat) : Int)] := Blk.new _ _ _
  have ho := h1.alloc (.cells #[.slice A1 bs.length c1, .int .i64 0] 103)
  refine ⟨_, _, rfl, h2.size, ⟨hb, Rd.of_own ho, Nat.zero_le _, hn, ow_blk_ne ho hb (by decide), fun g hg => ow_lt ho hg⟩, h3, h2.alloc _⟩

set_option maxHeartbeats 400000 in
theorem r_end (p : Nat) (v : Value) (a : Nat) (bs : List UInt8) (w : World) (h : Rr w p v a bs) :
    Calls Try.prog 50 #[.pointer (some ⟨p, 0, none⟩)] w fun e w' => e = .returned (.int .i64 (if a < bs.length then 111 else 0)) ∧ ∃ n, w' = w.drewN n := by
  by_cases hlt : a < bs.length
  · rw [if_pos hlt]
    go_enter Try.func50, Try.ntmps50
    go_wp2_with (go_at_call 68; refine (r_left p _ a bs w h).mono ?_; rintro e w' ⟨rfl, nq, rfl⟩)
    go_ret
    exact ⟨rfl, nq, rfl⟩
  · rw [if_neg hlt]
    go_enter Try.func50, Try.ntmps50
    go_wp2_with (go_at_call 68; refine (r_left p _ a bs w h).mono ?_; rintro e w' ⟨rfl, nq, rfl⟩)
    go_ret
    exact ⟨rfl, nq, rfl⟩

theorem Wr.kp {w w' : World} {S : List Nat} {q : Nat} {u : Value} {bs : List UInt8} (h : Wr w q u bs) (hk : Kp S w w') (hq : q ∉ S) (hu : ∀ g, u.ownBlock = some g → g ∉ S) : Wr w' q u bs := ⟨h.1.kp hk hq, ow_kp h.2 hk hu⟩
/-- A writer and a reader beside each other, both made since w0. -/
structure WR (w0 w : World) (q : Nat) (u : Value) (bs : List UInt8) (p : Nat) (v : Value) (a : Nat) (rs : List UInt8) : Prop where
  wr : Wr w q u bs
  rr : Rr w p v a rs
  ne : ∀ g, v.ownBlock = some g → u.ownBlock ≠ some g
  nq : v.ownBlock ≠ some q
  np : u.ownBlock ≠ some p
  pq : p ≠ q
  k : Kp [] w0 w
  qb : w0.heap.size ≤ q
  pb : w0.heap.size ≤ p
  ub : ∀ g, u.ownBlock = some g → w0.heap.size ≤ g
theorem WR.wstep {w0 w w' : World} {q p a : Nat} {u u' v : Value} {bs bs' rs : List UInt8} (h : WR w0 w q u bs p v a rs) (hw : Wr w' q u' bs') (hs : WSt q u u' w w') : WR w0 w' q u' bs' p v a rs := by
  refine ⟨hw, h.rr.kp hs.1 ?_ ?_, ?_, h.nq, ?_, h.pq, h.k.trans hs.1 ?_, h.qb, h.pb, ?_⟩
  · intro hm
    rcases List.mem_cons.1 hm with hm | hm
    · exact h.pq hm
    · exact h.np (by simpa using hm)
  · intro g hg hm
    rcases List.mem_cons.1 hm with hm | hm
    · subst hm; exact h.nq hg
    · exact h.ne g hg (by simpa using hm)
  · intro g hg
    rcases hs.2 with e | ⟨k, e, hk⟩
    · rw [e]; exact h.ne g hg
    · rw [e]; have := h.rr.vlt g hg; simp; omega
  · rcases hs.2 with e | ⟨k, e, hk⟩
    · rw [e]; exact h.np
    · rw [e]; have := h.rr.blk.lt; simp; omega
  · intro g hm
    rcases List.mem_cons.1 hm with hm | hm
    · subst hm; exact .inr h.qb
    · exact .inr (h.ub g (by simpa using hm))
  · intro g hg
    rcases hs.2 with e | ⟨k, e, hk⟩
    · exact h.ub g (by rw [← e]; exact hg)
    · rw [e] at hg; cases hg; have := h.k.size; omega
theorem WR.rstep {w0 w w' : World} {q p a a' : Nat} {u v : Value} {bs rs : List UInt8} (h : WR w0 w q u bs p v a rs) (hr : Rr w' p v a' rs) (hk : Kp [p] w w') : WR w0 w' q u bs p v a' rs :=
  ⟨h.wr.kp hk (by simpa using Ne.symm h.pq) (fun g hg hm => by simp at hm; subst hm; exact h.np hg), hr, h.ne, h.nq, h.np, h.pq, h.k.trans hk (fun g hg => by simp at hg; subst hg; exact .inr h.pb), h.qb, h.pb, h.ub⟩
theorem WR.kp {w0 w w' : World} {q p a : Nat} {u v : Value} {bs rs : List UInt8} (h : WR w0 w q u bs p v a rs) (hk : Kp [] w w') : WR w0 w' q u bs p v a rs :=
  ⟨h.wr.kp hk (by simp) (fun _ _ => by simp), h.rr.kp' hk, h.ne, h.nq, h.np, h.pq, h.k.trans hk (by simp), h.qb, h.pb, h.ub⟩
theorem WR.alloc {w0 w : World} {q p a : Nat} {u v : Value} {bs rs : List UInt8} (h : WR w0 w q u bs p v a rs) (o : Obj) : WR w0 (w.alloc o) q u bs p v a rs := h.kp ((Kp.refl [] w).alloc o)

end Go.Proofs.Ytdmdnphbheomoaa
/- WireOrders: the walk. -/
namespace Go.Proofs.Ytdmdnphbheomoaa
open Go.RowKit

def wrR (p : Nat) (v : Value) (bs : List UInt8) : Res where
  fp := p :: v.ownBlock.toList
  ok := fun w => Wr w p v bs
  keep := fun _ _ _ h hk hn => ⟨h.1.kp hk (hn p (by simp)), ow_kp h.2 hk (fun g hg => hn g (by simp [hg]))⟩
  lt := fun _ h b hb => by
    rcases List.mem_cons.1 hb with rfl | hb
    · exact h.1.lt
    · exact ow_lt h.2 (by simpa using hb)
def rrR (p : Nat) (v : Value) (a : Nat) (bs : List UInt8) : Res where
  fp := p :: v.ownBlock.toList
  ok := fun w => Rr w p v a bs
  keep := fun _ _ _ h hk hn => h.kp hk (hn p (by simp)) (fun g hg => hn g (by simp [hg]))
  lt := fun _ h b hb => by
    rcases List.mem_cons.1 hb with rfl | hb
    · exact h.blk.lt
    · exact h.vlt b (by simpa using hb)
theorem Held.wturn {w0 w w' : World} {l1 l2 : List Res} {p : Nat} {v v' : Value} {bs bs' : List UInt8} (h : Held w0 w (l1 ++ wrR p v bs :: l2)) (hw : Wr w' p v' bs') (hs : WSt p v v' w w') : Held w0 w' (l1 ++ wrR p v' bs' :: l2) :=
  h.turnAt (wrR p v' bs') hs.1 hw (fun b hb => by
    rcases List.mem_cons.1 hb with rfl | hb
    · exact .inl (by simp [wrR])
    · rcases hs.2 with e | ⟨g, e, hg⟩
      · rw [e] at hb; exact .inl (List.mem_cons_of_mem _ hb)
      · rw [e] at hb; simp at hb; subst hb; exact .inr hg)
theorem Held.rturn {w0 w w' : World} {l1 l2 : List Res} {p a a' : Nat} {v : Value} {bs : List UInt8} (h : Held w0 w (l1 ++ rrR p v a bs :: l2)) (hw : Rr w' p v a' bs) (hk : Kp [p] w w') : Held w0 w' (l1 ++ rrR p v a' bs :: l2) :=
  h.turnAt (rrR p v a' bs) (hk.more (fun g hg => .inl (by simp at hg; subst hg; simp [rrR]))) hw (fun _ hb => .inl hb)
theorem Held.wnew {w0 w w' : World} {L : List Res} (h : Held w0 w L) (hw : Wr w' w.heap.size (.slice none 0 0) []) (hk : Kp [] w w') : Held w0 w' (wrR w.heap.size (.slice none 0 0) [] :: L) :=
  h.new _ hk hw (fun b hb => by simp [wrR, Value.ownBlock] at hb; omega)

theorem wrap_u16_nat (x : Nat) : IntKind.u16.wrap (x : Int) = ((x % 65536 : Nat) : Int) := by
  simp [IntKind.wrap, IntKind.bits, IntKind.signed]
/-- The lesser number's form is the lesser text. -/
theorem bytesLess_num : ∀ (l m : List UInt8), l.length = m.length → Op.bytesLess l m = decide (num l < num m)
  | [], [], _ => by simp [Op.bytesLess]
  | a :: l, b :: m, h => by
    have hl : l.length = m.length := by simpa using h
    have ih := bytesLess_num l m hl
    have h1 := num_lt l
    have h2 := num_lt m
    rw [hl] at h1
    unfold Op.bytesLess
    rw [ih, num_cons, num_cons, hl]
    generalize num l = p at *
    generalize num m = q at *
    generalize 256 ^ m.length = e at *
    by_cases hab : a < b
    · have hab' : a.toNat + 1 ≤ b.toNat := UInt8.lt_iff_toNat_lt.1 hab
      have h3 : (a.toNat + 1) * e ≤ b.toNat * e := Nat.mul_le_mul_right _ hab'
      rw [Nat.add_mul] at h3
      simp [hab]
      omega
    · by_cases hba : a = b
      · subst hba
        simp
      · have hba' : b.toNat + 1 ≤ a.toNat := by
          rcases Nat.lt_trichotomy a.toNat b.toNat with h | h | h
          · exact absurd (UInt8.lt_iff_toNat_lt.2 h) hab
          · exact absurd (UInt8.toNat_inj.1 h) hba
          · exact h
        have h3 : (b.toNat + 1) * e ≤ a.toNat * e := Nat.mul_le_mul_right _ hba'
        rw [Nat.add_mul] at h3
        have e1 : decide (a < b) = false := by simpa using hab
        have e2 : (a == b) = false := by simpa using hba
        rw [e1, e2, Bool.false_and, Bool.or_false]
        symm
        rw [decide_eq_false_iff_not]
        omega
theorem bytesLess_be (x y : Nat) (hx : x < 18446744073709551616) (hy : y < 18446744073709551616) : Op.bytesLess (be 8 x) (be 8 y) = decide (x < y) := by
  rw [bytesLess_num _ _ (by simp), num_be_lt (k := 8) hx, num_be_lt (k := 8) hy]
theorem be_beq (x y : Nat) (hx : x < 18446744073709551616) (hy : y < 18446744073709551616) : (be 8 x == be 8 y) = decide (x = y) := by
  have : be 8 x = be 8 y ↔ x = y := ⟨fun h => by rw [← num_be_lt (k := 8) (x := x) hx, h, num_be_lt (k := 8) hy], fun h => by rw [h]⟩
  rw [Bool.eq_iff_iff]
  simp [this]

end Go.Proofs.Ytdmdnphbheomoaa
/- Put and One of entry. -/
namespace Go.Proofs.Ytdmdnphbheomoaa
open Go.RowKit
set_option maxRecDepth 100000 in
set_option maxHeartbeats 2000000 in
theorem put15_any (f : Int) (hf : -9223372036854775808 ≤ f ∧ f ≤ 9223372036854775807) (v : Value) (L : List (List UInt8)) (w : World) (hv : Txs w v L) :
    Calls Try.prog 12 #[.agg #[.int .i64 f, v]] w (PutPost15 .i64 f L w) := by
  have hbL := hv.len_le
  obtain ⟨A, c, rfl, hA, -⟩ := hv.open_
  have Hv := Lib.hid (hv.kp0 ((Kp.refl [] w).alloc (.cells #[.int .i64 f, .slice A L.length c] 24)))
  have HA := Lib.hid hA
  have B0 := Lib.hid (Blk.new w 24 #[.int .i64 f, .slice A L.length c])
  have K0 := Lib.hid ((Kp.refl [] w).alloc (.cells #[.int .i64 f, .slice A L.length c] 24))
  obtain ⟨d0, d1, -, -, -⟩ := Blk.c2 B0.out
  clear hA hv
  go_enter Try.func12, Try.ntmps12
  go_wp2_with fail
  refine (check_any f hf _ L _ Hv.out).mono ?_
  rintro e w1 ⟨rfl, k1⟩
  generalize hW : w.alloc (.cells #[.int .i64 f, .slice A L.length c] 24) = W0 at *
  generalize w.heap.size = g at *
  clear hW
  have K1 := Lib.hid k1
  have B1 := Lib.hid (B0.out.kp k1 (by simp))
  clear d0 d1 k1
  obtain ⟨d0, d1, -, -, -⟩ := Blk.c2 B1.out
  by_cases hc : chk f L = 0
  · have HC := Lib.hid hc
    have hc' : ((chk f L : Nat) : Int) = 0 := by omega
    have HI := Lib.hid (fun k => chk_take_le hc k)
    obtain ⟨h8, H8⟩ : ∃ h8, Hid (h8 = be 8 (tou64 f)) := ⟨_, Lib.hid rfl⟩
    obtain ⟨P, HP⟩ : ∃ P, Hid (P = h8 ++ be 2 L.length) := ⟨_, Lib.hid rfl⟩
    have hl8 : h8.length ≤ 8 := by rw [H8.out]; simp
    have hlP : P.length ≤ 10 := by rw [HP.out, List.length_append, be_length]; omega
    have hl1 : L.length ≤ 1024 := (chk_zero hc).2.2.2.2.1
    have H6 := Lib.hid (chk_zero hc).2.2.2.2.2
    have S1 := Lib.hid ((Held.start W0).kp K1.out)
    rw [hc']
    clear hc hc'
    go_wp2_with fail
    refine (new_writer _).mono ?_
    rintro e w2 ⟨rfl, hw, k2⟩
    have S2 := Lib.hid (S1.out.wnew hw k2)
    generalize w1.heap.size = p at *
    obtain ⟨d0, d1, -, -, -⟩ := Blk.c2 (B0.out.kp S2.out.k (by simp))
    clear hw k2
    go_wp2_with fail
    refine (w_signed p _ [] f w2 (S2.out.at_ (l1 := [])) (by simp)).mono ?_
    rintro e w3 ⟨rfl, v3, hw3, hs3⟩
    have S3 := Lib.hid (S2.out.wturn (l1 := []) hw3 hs3)
    obtain ⟨d0, d1, -, -, -⟩ := Blk.c2 (B0.out.kp S3.out.k (by simp))
    simp only [List.nil_append, ← H8.out] at S3
    clear hw3 hs3
    go_wp2_with fail
    refine (put_u16 p v3 _ L.length (by omega) w3 (S3.out.at_ (l1 := [])) (by omega)).mono ?_
    rintro e w4 ⟨rfl, v4, hw4, hs4⟩
    have S4 := Lib.hid (S3.out.wturn (l1 := []) hw4 hs4)
    obtain ⟨d0, d1, -, -, -⟩ := Blk.c2 (B0.out.kp S4.out.k (by simp))
    simp only [List.nil_append, ← HP.out] at S4
    clear hw4 hs4
    go_wp2
    go_loopw [27] (fun i wr => ∃ (k : Nat) (u : Value), k ≤ L.length ∧ i = .int .i64 k ∧ Held W0 wr [wrR p u (P ++ items (L.take k))]) (fun i _ => L.length - (intOf i).toNat)
    case atStart => exact ⟨0, v4, by omega, rfl, by simpa [items] using S4.out⟩
    case round =>
      clear S4 S3 S2 S1 d0 d1 B1 K1
      obtain ⟨k, u, hk, rfl, S⟩ := hrel
      have HS := Lib.hid S
      have hik := HI.out k
      obtain ⟨d0, d1, -, -, -⟩ := Blk.c2 (B0.out.kp S.k (by simp))
      by_cases hlt : k < L.length
      · obtain ⟨ad, rfl⟩ := HA.out (by omega)
        obtain ⟨Ae, ce, hce, hre⟩ := (Hv.out.kp0 S.k).at_ hlt
        obtain ⟨Ae0, ce0, hce0, hre0⟩ := Hv.out.at_ hlt
        have hee : (Value.slice Ae L[k].length ce) = .slice Ae0 L[k].length ce0 := by
          have := cell_kept hce0 S.k
          rw [hce] at this
          exact Option.some.inj this
        have he : L[k]? = some L[k] := List.getElem?_eq_getElem hlt
        have hnb : ∀ b, (Value.slice Ae L[k].length ce).ownBlock = some b → L[k] ≠ [] → u.ownBlock ≠ some b := fun b hb hne hu => by
          rw [hee] at hb
          have h1 := rd_lt hre0 hb (fun h => hne (bv_inj h))
          have h2 := S.base (wrR p u (P ++ items (L.take k))) (by simp) b (by simp [wrR, hu])
          omega
        have HNb := Lib.hid hnb
        have HS2 : Hid (P ++ items (L.take k) ++ be 2 L[k].length ++ L[k] = P ++ items (L.take (k + 1))) := Lib.hid (by rw [items_take_succ he]; simp [item])
        have h4 := H6.out L[k] (List.getElem_mem hlt)
        have Hre := Lib.hid hre
        have hol : (P ++ items (L.take k)).length ≤ 4196362 := by rw [List.length_append]; omega
        clear he hre hee hce0 hre0 hnb S
        generalize L[k] = x at *
        generalize P ++ items (L.take k) = o at *
        go_wp2_with fail
        refine (w_listE p u o _ x 2 _ (HS.out.at_ (l1 := [])) Hre.out ⟨by decide, by decide⟩ (by omega) (by omega) HNb.out).mono ?_
        rintro e w6 ⟨rfl, u6, hw6, hs6⟩
        have S6 := Lib.hid (HS.out.wturn (l1 := []) hw6 hs6)
        simp only [List.nil_append, HS2.out] at S6
        clear hw6 hs6
        go_wp2
        go_round
        case rel => exact ⟨k + 1, u6, by omega, by go_num, S6.out⟩
        case measure => simp [intOf]; omega
      · obtain rfl : k = L.length := by omega
        have HF : Hid (P ++ items (L.take L.length) = outB f L) := Lib.hid (by rw [List.take_length, HP.out, H8.out, outB_ok HC.out]; rfl)
        rw [HF.out] at HS
        have hol : (outB f L).length ≤ 4196362 := by rw [← HF.out, List.length_append]; omega
        have Hz := Lib.hid HC.out
        clear S HF
        obtain ⟨o, HO⟩ : ∃ o, Hid (outB f L = o) := ⟨_, Lib.hid rfl⟩
        rw [HO.out] at HS hol
        go_wp2_with fail
        refine (w_bytes p u o _ (HS.out.at_ (l1 := [])) (by omega)).mono ?_
        rintro e w7 ⟨v7, rfl, o7, k7, f7⟩
        have N7 : NewB o w v7 w7 := NewB.base (K0.out.trans HS.out.k (by simp)) ⟨o7, k7, f7⟩
        have N7 := Lib.hid N7
        clear o7 k7 f7
        go_wp2
        go_ret2
        exact ⟨_, by rw [Hz.out]; rfl, by rw [HO.out]; exact N7.out⟩
  · have HC := Lib.hid (outB_no hc)
    have hc' : ¬ ((chk f L : Nat) : Int) = 0 := by omega
    go_wp2
    go_ret2
    exact ⟨_, rfl, by rw [HC.out]; exact NewB.nil _ _ (K0.out.trans K1.out (by simp))⟩
theorem may_4 {n : Int} {e : List UInt8} (h : n < 0 ∨ 4611686018427387904 < n) : may n e = 4 := if_pos h
theorem may_3 {n : Int} {e : List UInt8} (h1 : 0 ≤ n) (h2 : n ≤ 4611686018427387904) (h : 4096 < e.length) : may n e = 3 := by
  unfold may; rw [if_neg (by omega), if_pos h]
def OnePost (k : IntKind) (n : Int) (e : List UInt8) (w : World) (r : Ending) (w' : World) : Prop :=
  ∃ u, r = .returned (.tuple #[u, .int k (may n e : Int)]) ∧ NewB (outO n e) w u w'
theorem outO_no {n : Int} {e : List UInt8} (h : may n e ≠ 0) : outO n e = [] := if_neg h
theorem outO_ok {n : Int} {e : List UInt8} (h : may n e = 0) : outO n e = formO n e := if_pos h
set_option maxRecDepth 100000 in
theorem may_any (n : Int) (x : Value) (e : List UInt8) (w : World) (hx : Rd w 1 x e.length (bv e)) :
    Calls Try.prog 44 #[.int .i64 n, x] w fun r w' => r = .returned (.int .i64 (may n e : Int)) ∧ w = w' := by
  obtain ⟨A, c, rfl, hnc, hcm, -⟩ := rd_get2 hx
  clear hx
  unfold maxLen at hcm
  by_cases h0 : n < 0
  · have HM := Lib.hid (may_4 (e := e) (.inl h0))
    go_enter Try.func44, Try.ntmps44
    go_wp2
    go_ret
    exact ⟨by rw [HM.out]; rfl, rfl⟩
  · by_cases h1 : 4611686018427387904 < n
    · have HM := Lib.hid (may_4 (e := e) (.inr h1))
      go_enter Try.func44, Try.ntmps44
      go_wp2
      go_ret
      exact ⟨by rw [HM.out]; rfl, rfl⟩
    · by_cases h2 : 4096 < e.length
      · have HM := Lib.hid (may_3 (n := n) (e := e) (by omega) (by omega) h2)
        have h2' : (4096 : Int) < e.length := by omega
        go_enter Try.func44, Try.ntmps44
        go_wp2
        go_ret
        exact ⟨by rw [HM.out]; rfl, rfl⟩
      · have HM := Lib.hid (may_ok (n := n) (e := e) (by omega) (by omega) (by omega))
        have h2' : ¬ (4096 : Int) < e.length := by omega
        go_enter Try.func44, Try.ntmps44
        go_wp2
        go_ret
        exact ⟨by rw [HM.out]; rfl, rfl⟩
set_option maxRecDepth 100000 in
theorem rone_any (n : Int) (x : Value) (e : List UInt8) (w : World) (hx : Rd w 1 x e.length (bv e)) :
    Calls Try.prog 15 #[.int .i64 n, x] w (OnePost .i64 n e w) := by
  have Hx := Lib.hid hx
  obtain ⟨A, c, rfl, hnc, hcm, -⟩ := rd_get2 hx
  clear hx
  unfold maxLen at hcm
  by_cases h0 : n < 0
  · have HM := Lib.hid (may_4 (e := e) (.inl h0))
    go_enter Try.func15, Try.ntmps15
    go_wp2
    go_ret2
    exact ⟨_, by rw [HM.out]; rfl, by rw [outO_no (by rw [HM.out]; decide)]; exact NewB.nil _ _ (Kp.refl _ _)⟩
  · by_cases h1 : 4611686018427387904 < n
    · have HM := Lib.hid (may_4 (e := e) (.inr h1))
      go_enter Try.func15, Try.ntmps15
      go_wp2
      go_ret2
      exact ⟨_, by rw [HM.out]; rfl, by rw [outO_no (by rw [HM.out]; decide)]; exact NewB.nil _ _ (Kp.refl _ _)⟩
    · by_cases h2 : 4096 < e.length
      · have HM := Lib.hid (may_3 (n := n) (e := e) (by omega) (by omega) h2)
        have h2' : (4096 : Int) < e.length := by omega
        go_enter Try.func15, Try.ntmps15
        go_wp2
        go_ret2
        exact ⟨_, by rw [HM.out]; rfl, by rw [outO_no (by rw [HM.out]; decide)]; exact NewB.nil _ _ (Kp.refl _ _)⟩
      · have HM := Lib.hid (may_ok (n := n) (e := e) (by omega) (by omega) (by omega))
        have h2' : ¬ (4096 : Int) < e.length := by omega
        obtain ⟨h8, H8⟩ : ∃ h8, Hid (h8 = be 8 (tou64 n)) := ⟨_, Lib.hid rfl⟩
        obtain ⟨y, HY⟩ : ∃ y, Hid (y = item e) := ⟨_, Lib.hid rfl⟩
        have hl8 : h8.length ≤ 8 := by rw [H8.out]; simp
        have hly : y.length ≤ 4098 := by rw [HY.out, item_length]; omega
        have HF : Hid (h8 ++ y = outO n e) := Lib.hid (by rw [outO_ok HM.out, H8.out, HY.out]; rfl)
        go_enter Try.func15, Try.ntmps15
        go_wp2_with fail
        refine (number15_any n _).mono ?_
        rintro e w2 ⟨u2, rfl, o2⟩
        rw [← H8.out] at o2
        have N2 := Lib.hid o2
        obtain ⟨A2, c2, rfl⟩ := o2.form
        clear o2
        go_wp2_with fail
        refine (list15_any _ _ _ (rd_old Hx.out N2.out.2.1) (by omega)).mono ?_
        rintro e w3 ⟨u3, rfl, o3⟩
        rw [← HY.out] at o3
        have R3 := Lib.hid o3.rd
        have N3 := Lib.hid (N2.out.kp o3.2.1)
        obtain ⟨A3, c3, rfl⟩ := o3.form
        clear o3
        go_wp2_with (at_builtin; refine app_newB rfl (.tmp 16) (.tmp 18) rfl (.slice A2 h8.length c2) h8 rfl N3.out (.slice A3 y.length c3) y rfl R3.out (by omega) ?_; intro v6 w6 o6; rw [HF.out] at o6; have O6 := Lib.hid o6; clear o6)
        go_ret2
        exact ⟨_, by rw [HM.out]; rfl, O6.out⟩
set_option maxRecDepth 100000 in
theorem one_any (n : Int) (x : Value) (e : List UInt8) (w : World) (hx : Rd w 1 x e.length (bv e)) :
    Calls Try.prog 14 #[.int .i64 n, x] w (OnePost .i64 n e w) := by
  have Hx := Lib.hid hx
  obtain ⟨A, c, rfl, hnc, hcm, -⟩ := rd_get2 hx
  have HXl := Lib.hid (fun g (hg : (Value.slice A e.length c).ownBlock = some g) (hne : e ≠ []) => rd_lt hx hg (fun h => hne (bv_inj h)))
  clear hx
  unfold maxLen at hcm
  go_enter Try.func14, Try.ntmps14
  go_wp2_with fail
  refine (may_any n _ e _ Hx.out).mono ?_
  rintro r w1 ⟨rfl, rfl⟩
  by_cases hc : may n e = 0
  · have HM := Lib.hid hc
    have hc' : ((may n e : Nat) : Int) = 0 := by omega
    have h4 := (may_zero hc).2.2
    have S1 := Lib.hid (Held.start w)
    rw [hc']
    clear hc hc'
    go_wp2_with fail
    refine (new_writer _).mono ?_
    rintro r w2 ⟨rfl, hw, k2⟩
    have S2 := Lib.hid (S1.out.wnew hw k2)
    clear hw k2
    go_wp2_with fail
    refine (w_signed w.heap.size _ [] n w2 (S2.out.at_ (l1 := [])) (by simp)).mono ?_
    rintro r w3 ⟨rfl, v3, hw3, hs3⟩
    have S3 := Lib.hid (S2.out.wturn (l1 := []) hw3 hs3)
    obtain ⟨h8, H8⟩ : ∃ h8, Hid (h8 = be 8 (tou64 n)) := ⟨_, Lib.hid rfl⟩
    have hl8 : h8.length ≤ 8 := by rw [H8.out]; simp
    have HF : Hid (h8 ++ be 2 e.length ++ e = outO n e) := Lib.hid (by rw [outO_ok HM.out, H8.out]; simp [formO, item])
    simp only [List.nil_append, ← H8.out] at S3
    clear hw3 hs3
    go_wp2_with fail
    refine (w_listE w.heap.size v3 h8 _ e 2 w3 (S3.out.at_ (l1 := [])) (rd_old Hx.out S3.out.k) ⟨by decide, by decide⟩ (by omega) (by omega) (fun b hb hne hu => by
      have h1 := HXl.out b hb hne
      have h2 := S3.out.base (wrR w.heap.size v3 h8) (by simp) b (by simp [wrR, hu])
      omega)).mono ?_
    rintro r w4 ⟨rfl, v4, hw4, hs4⟩
    have S4 := Lib.hid (S3.out.wturn (l1 := []) hw4 hs4)
    simp only [List.nil_append, HF.out] at S4
    clear hw4 hs4
    obtain ⟨o, HO⟩ : ∃ o, Hid (outO n e = o) := ⟨_, Lib.hid rfl⟩
    have hol : o.length ≤ 4106 := by rw [← HO.out, outO_ok HM.out, formO_length]; omega
    rw [HO.out] at S4
    go_wp2_with fail
    refine (w_bytes w.heap.size v4 o _ (S4.out.at_ (l1 := [])) (by omega)).mono ?_
    rintro r w7 ⟨v7, rfl, o7, k7, f7⟩
    have N7 := Lib.hid (show NewB o w v7 w7 from NewB.base S4.out.k ⟨o7, k7, f7⟩)
    clear o7 k7 f7
    go_wp2
    go_ret2
    exact ⟨_, by rw [HM.out]; rfl, by rw [HO.out]; exact N7.out⟩
  · have HC := Lib.hid (outO_no hc)
    have hc' : ¬ ((may n e : Nat) : Int) = 0 := by omega
    go_wp2
    go_ret2
    exact ⟨_, rfl, by rw [HC.out]; exact NewB.nil _ _ (Kp.refl _ _)⟩
end Go.Proofs.Ytdmdnphbheomoaa
/- A region that draws its order, operation by operation: what each leaves in its slot is told by a property that new memory does not disturb; each operation is walked once, from the properties of those that it waits for; whatever order is picked, all properties hold at the end. For regions that only read, make memory, and call what turns nothing old. -/
namespace Go.Proofs.Ytdmdnphbheomoaa

section
variable {P : Program} {ops : Array Oper} {Q : Exit → Act → World → Prop}

/-- The frame with the values put, from number k on. -/
def putAll (vs : Nat → Value) : List Oper → Nat → Act → Act
  | [], _, a => a
  | o :: l, k, a => putAll vs l (k + 1) (a.put o.dst (vs k))
def upd (vs : Nat → Value) (i : Nat) (v : Value) : Nat → Value := fun k => if k = i then v else vs k
/-- No two write one slot. -/
def apartB : List Oper → Bool
  | [] => true
  | o :: l => (match o.dst with | none => true | some d => l.all fun x => x.dst != some d) && apartB l
theorem putAll_late (vs : Nat → Value) (i : Nat) (v : Value) : ∀ (l : List Oper) (k : Nat) (a : Act), i < k → putAll (upd vs i v) l k a = putAll vs l k a
  | [], _, _, _ => rfl
  | o :: l, k, a, h => by
    show putAll (upd vs i v) l (k + 1) (a.put o.dst (upd vs i v k)) = putAll vs l (k + 1) (a.put o.dst (vs k))
    rw [putAll_late vs i v l (k + 1) _ (by omega)]
    congr 2
    simp [upd, show k ≠ i by omega]
theorem putAll_put (vs : Nat → Value) (x : Option Tmp) (v : Value) : ∀ (l : List Oper) (k : Nat) (a : Act), (∀ d, x = some d → ∀ o ∈ l, o.dst ≠ some d) → (putAll vs l k a).put x v = putAll vs l k (a.put x v)
  | [], _, _, _ => rfl
  | o :: l, k, a, h => by
    show (putAll vs l (k + 1) (a.put o.dst (vs k))).put x v = putAll vs l (k + 1) ((a.put x v).put o.dst (vs k))
    rw [putAll_put vs x v l (k + 1) _ (fun d hd o ho => h d hd o (List.mem_cons_of_mem _ ho)), Act.put_comm a (x := o.dst) (y := x) (vs k) v]
    intro d hd hx
    exact h d hx o (by simp) hd
theorem put_put (a : Act) (x : Option Tmp) (v u : Value) : (a.put x v).put x u = a.put x u := by
  cases x with
  | none => rfl
  | some d => simp [Act.put]
theorem putAll_upd (vs : Nat → Value) (i : Nat) (v : Value) : ∀ (l : List Oper) (k : Nat) (a : Act) (o : Oper), apartB l = true → k ≤ i → l[i - k]? = some o → (putAll vs l k a).put o.dst v = putAll (upd vs i v) l k a
  | [], _, _, _, _, _, h => by simp at h
  | x :: l, k, a, o, hB, hk, h => by
    simp only [apartB, Bool.and_eq_true] at hB
    by_cases e : k = i
    · subst e
      rw [Nat.sub_self] at h
      obtain rfl : x = o := by simpa using h
      show (putAll vs l (k + 1) (a.put x.dst (vs k))).put x.dst v = putAll (upd vs k v) l (k + 1) (a.put x.dst (upd vs k v k))
      rw [putAll_late vs k v l (k + 1) _ (by omega), putAll_put vs x.dst v l (k + 1) _ ?_, put_put]
      · simp [upd]
      · intro d hd o ho hod
        have h1 := hB.1
        rw [hd] at h1
        have := (List.all_eq_true.1 h1) o ho
        rw [hod] at this
        simp at this
    · have e2 : i - k = (i - (k + 1)) + 1 := by omega
      rw [e2, List.getElem?_cons_succ] at h
      show (putAll vs l (k + 1) (a.put x.dst (vs k))).put o.dst v = putAll (upd vs i v) l (k + 1) (a.put x.dst (upd vs i v k))
      rw [putAll_upd vs i v l (k + 1) _ o hB.2 (by omega) h]
      congr 2
      simp [upd, e]
def slotOf (a : Act) : Option Tmp → Value
  | none => undef
  | some d => a.tmps.getD d undef
def at0 (a : Act) (l : List Oper) : Nat → Value := fun k => match l[k]? with | none => undef | some o => slotOf a o.dst
theorem put_slot (a : Act) (x : Option Tmp) : a.put x (slotOf a x) = a := by
  cases x with
  | none => rfl
  | some d =>
    have : a.tmps.setIfInBounds d (a.tmps.getD d undef) = a.tmps := by
      apply Array.ext_getElem?
      intro i
      rw [Array.getElem?_setIfInBounds]
      split
      · rename_i h; subst h
        by_cases hl : d < a.tmps.size
        · simp [hl]
        · simp [hl]
      · rfl
    simp only [Act.put, slotOf]
    first | rw [this] | (simp only [this])
theorem putAll_at (a : Act) : ∀ (l : List Oper) (k : Nat) (vs : Nat → Value), (∀ j o, l[j]? = some o → vs (k + j) = slotOf a o.dst) → putAll vs l k a = a
  | [], _, _, _ => rfl
  | o :: l, k, vs, h => by
    have h0 := h 0 o rfl
    show putAll vs l (k + 1) (a.put o.dst (vs k)) = a
    rw [Nat.add_zero] at h0
    rw [h0, put_slot]
    exact putAll_at a l (k + 1) vs (fun j x hx => by rw [show k + 1 + j = k + (j + 1) from by omega]; exact h (j + 1) x (by simpa using hx))

/-- Each waits for earlier ones alone, and has no guard. -/
def earlierB : List Oper → Nat → Bool
  | [], _ => true
  | o :: l, k => (o.after.all fun e => decide (e.on < k)) && o.guard.isNone && earlierB l (k + 1)
theorem earlierB_spec : ∀ (l : List Oper) (k i : Nat) (o : Oper), earlierB l k = true → l[i]? = some o → (∀ e ∈ o.after, e.on < k + i) ∧ o.guard = none
  | [], _, _, _, _, h => by simp at h
  | x :: l, k, i, o, hB, h => by
    simp only [earlierB, Bool.and_eq_true] at hB
    rcases i with _ | i
    · obtain rfl : x = o := by simpa using h
      refine ⟨fun e he => ?_, by simpa using hB.1.2⟩
      have := (Array.all_eq_true_iff_forall_mem.1 hB.1.1) e he
      simpa using this
    · have := earlierB_spec l (k + 1) i o hB.2 (by simpa using h)
      exact ⟨fun e he => by have := this.1 e he; omega, this.2⟩

/-- What is to be shown of each operation. -/
def InvStep (P : Program) (Q : Exit → Act → World → Prop) (PV : Nat → Value → World → Prop) (W0 : World) (fr : (Nat → Value) → Act) (o : Oper) (i : Nat) : Prop :=
  ∀ (vs : Nat → Value) (A : Act) (W : World), fr vs = A → Kp [] W0 W → (∀ j, waitsB .any o j = true → PV j (vs j) W) →
    ∀ K : Act → World → Prop, (∀ v W', Kp [] W W' → PV i v W' → K (A.put o.dst v) W') → o.wp P A W K (Qn Q)
def InvSteps (P : Program) (Q : Exit → Act → World → Prop) (PV : Nat → Value → World → Prop) (W0 : World) (fr : (Nat → Value) → Act) : List Oper → Nat → Prop
  | [], _ => True
  | o :: l, i => InvStep P Q PV W0 fr o i ∧ InvSteps P Q PV W0 fr l (i + 1)
theorem InvSteps.at_ {PV : Nat → Value → World → Prop} {W0 : World} {fr : (Nat → Value) → Act} : ∀ {l : List Oper} {k : Nat}, InvSteps P Q PV W0 fr l k → ∀ {i o}, l[i]? = some o → InvStep P Q PV W0 fr o (k + i)
  | [], _, _, _, _, h => by simp at h
  | x :: l, k, hs, i, o, h => by
    rcases i with _ | i
    · obtain rfl : x = o := by simpa using h
      exact hs.1
    · have := hs.2.at_ (i := i) (o := o) (by simpa using h)
      rwa [show k + 1 + i = k + (i + 1) from by omega] at this

theorem inv_any {PV : Nat → Value → World → Prop} {W0 : World} {a0 : Act} {l : List Oper} (hst : ∀ i v W W', PV i v W → Kp [] W W' → PV i v W') (hap : apartB l = true) (hea : earlierB l 0 = true)
    (hs : InvSteps P Q PV W0 (fun vs => putAll vs l 0 a0) l 0)
    (hend : ∀ vs W, Kp [] W0 W → (∀ i, i < l.length → PV i (vs i) W) → Q .normal (putAll vs l 0 a0) W) :
    ∀ (fuel : Nat) (listed : Array Bool) (vs : Nat → Value) (W : World), listed.size = l.length → (listed.toList.filter (fun b => !b)).length = fuel → Kp [] W0 W → (∀ i, listed.getD i false = true → PV i (vs i) W) →
      wpAny P .any l.toArray Q fuel listed (putAll vs l 0 a0) W := by
  have all_of : ∀ (listed : Array Bool), listed.size = l.length → Region.ready .any l.toArray listed = [] → ∀ i, i < l.length → listed.getD i false = true := by
    intro listed hsz hr i
    induction i using Nat.strongRecOn with
    | _ i ih =>
      intro hi
      cases hl : listed.getD i false with
      | true => rfl
      | false =>
        exfalso
        have hlt : i < listed.size := by omega
        have hmem : i ∈ Region.ready .any l.toArray listed := mem_ready.2 ⟨by simp [hlt] at hl ⊢; exact hl, l[i], by simp [hi], fun e he _ => by
          have := (earlierB_spec l 0 i l[i] hea (by simp [hi])).1 e he
          exact ih e.on (by omega) (by omega)⟩
        rw [hr] at hmem; cases hmem
  have hnil : ∀ (listed : Array Bool) vs W, listed.size = l.length → Kp [] W0 W → (∀ i, listed.getD i false = true → PV i (vs i) W) → Region.ready .any l.toArray listed = [] → Q .normal (putAll vs l 0 a0) W :=
    fun listed vs W hsz hk hp hr => hend vs W hk (fun i hi => hp i (all_of listed hsz hr i hi))
  intro fuel
  induction fuel with
  | zero =>
    intro listed vs W hsz hf hk hp
    have hr : Region.ready .any l.toArray listed = [] := by
      refine List.eq_nil_iff_forall_not_mem.2 fun i hi => ?_
      have h0 := (mem_ready.1 hi).1
      obtain ⟨_, o, ho, _⟩ := mem_ready.1 hi
      have hlt : i < listed.size := by
        have := (Array.getElem?_eq_some_iff.1 ho).1
        simp at this; omega
      have : listed[i] ∈ listed.toList.filter (fun b => !b) := by
        rw [List.mem_filter]
        simp [hlt] at h0
        refine ⟨by simp, by simp [h0]⟩
      rw [List.eq_nil_of_length_eq_zero hf] at this
      cases this
    exact ⟨hr, hnil listed vs W hsz hk hp hr⟩
  | succ fuel ih =>
    intro listed vs W hsz hf hk hp
    refine ⟨hnil listed vs W hsz hk hp, fun i hi => ?_⟩
    obtain ⟨h0, o, ho, hall⟩ := mem_ready.1 hi
    have hol : l[i]? = some o := by simpa using ho
    have hlt : i < listed.size := by
      have := (List.getElem?_eq_some_iff.1 hol).1
      omega
    have hgd := (earlierB_spec l 0 i o hea hol).2
    refine wpOp_n ?_
    unfold wpOp
    simp only [ho]
    rw [if_pos (by simp [Region.wanted, hgd])]
    refine .inl ?_
    have hstep := hs.at_ hol
    rw [Nat.zero_add] at hstep
    refine hstep vs _ W rfl hk (fun j hj => by obtain ⟨e, he, hb, rfl⟩ := waitsB_spec hj; exact hp e.on (hall e he hb)) _ fun v W' hk' hv => ?_
    rw [putAll_upd vs i v l 0 a0 o hap (Nat.zero_le _) (by simpa using hol)]
    refine ih _ _ W' (by simpa using hsz) ?_ (hk.trans hk' (by simp)) (fun j hj => ?_)
    · simp [hlt] at h0
      have h1 : listed.toList = listed.toList.take i ++ false :: listed.toList.drop (i + 1) := by
        rw [← h0]
        have := List.take_append_drop i listed.toList
        rw [List.drop_eq_getElem_cons (by simpa using hlt)] at this
        simpa using this.symm
      have h2 : (listed.setIfInBounds i true).toList = listed.toList.take i ++ true :: listed.toList.drop (i + 1) := by
        rw [Array.toList_setIfInBounds]
        conv => lhs; rw [h1]
        rw [List.set_append_right _ _ (by simp; omega)]
        simp [Nat.min_eq_left (Nat.le_of_lt hlt)]
      rw [h1] at hf
      rw [h2]
      simp only [List.filter_append, List.filter_cons, List.length_append] at hf ⊢
      simp at hf ⊢
      omega
    · by_cases e : i = j
      · subst e; simpa [upd] using hv
      · rw [getD_set_ne false e] at hj
        simp only [upd, show j ≠ i from fun h => e h.symm, if_false]
        exact hst j _ W W' (hp j hj) hk'

/-- The region's rule. -/
theorem wp_region_inv {id : Nat} {a : Act} {w : World} {l : List Oper} (PV : Nat → Value → World → Prop) (hm : P.follows .mixedOrders = true) (hap : apartB l = true) (hea : earlierB l 0 = true)
    (hst : ∀ i v W W', PV i v W → Kp [] W W' → PV i v W')
    (hs : InvSteps P Q PV w.drew (fun vs => putAll vs l 0 a) l 0)
    (hend : ∀ vs W, Kp [] w.drew W → (∀ i, i < l.length → PV i (vs i) W) → Q .normal (putAll vs l 0 a) W) : (Code.region id l.toArray true).wp P Q a w := by
  refine wp_region_any hm ?_
  have h := inv_any (P := P) (Q := Q) hst hap hea hs hend l.length (Array.replicate l.length false) (at0 a l) w.drew (by simp) (by simp) (Kp.refl _ _) (fun i hi => by
    simp [Array.getElem?_replicate] at hi
    split at hi <;> simp at hi)
  rw [putAll_at a l 0 (at0 a l) (fun j o ho => by simp [at0, ho])] at h
  simpa using h
/-- What a slot holds behind all. -/
def evA (vs : Nat → Value) : List Oper → Nat → Nat → Option Value
  | [], _, _ => none
  | o :: l, k, d => if o.dst = some d then some (vs k) else evA vs l (k + 1) d
theorem put_size (a : Act) (x : Option Tmp) (v : Value) : (a.put x v).tmps.size = a.tmps.size := by cases x <;> simp [Act.put]
theorem putAll_eval (vs : Nat → Value) : ∀ (l : List Oper) (k : Nat) (a : Act) (d : Nat), d < a.tmps.size → apartB l = true → (putAll vs l k a).eval (.tmp d) = (evA vs l k d).getD (a.eval (.tmp d))
  | [], _, _, _, _, _ => rfl
  | o :: l, k, a, d, hd, hB => by
    show (putAll vs l (k + 1) (a.put o.dst (vs k))).eval (.tmp d) = _
    simp only [apartB, Bool.and_eq_true] at hB
    rw [putAll_eval vs l (k + 1) _ d (by rw [put_size]; exact hd) hB.2]
    rw [show evA vs (o :: l) k d = (if o.dst = some d then some (vs k) else evA vs l (k + 1) d) from rfl]
    by_cases e : o.dst = some d
    · rw [if_pos e]
      have hn : evA vs l (k + 1) d = none := by
        have h1 := hB.1
        rw [e] at h1
        have : ∀ (l : List Oper) (k : Nat), (∀ x ∈ l, x.dst ≠ some d) → evA vs l k d = none := by
          intro l
          induction l with
          | nil => intro _ _; rfl
          | cons x l ih =>
            intro k h
            unfold evA
            rw [if_neg (h x (by simp))]
            exact ih (k + 1) (fun y hy => h y (by simp [hy]))
        refine this l (k + 1) fun x hx hxd => ?_
        have := (List.all_eq_true.1 h1) x hx
        rw [hxd] at this
        simp at this
      rw [hn, e]
      simp [Act.put, Act.eval, hd]
    · rw [if_neg e]
      congr 1
      cases ho : o.dst with
      | none => rfl
      | some d' =>
        have hne : d' ≠ d := fun h => e (by rw [ho, h])
        simp [Act.put, Act.eval, Array.getElem?_setIfInBounds_ne hne]
theorem eval_of {vs : Nat → Value} {l : List Oper} {a A : Act} {d : Nat} {X : Value} (hA : (fun vs => putAll vs l 0 a) vs = A) (hB : apartB l = true) (hd : d < a.tmps.size) (h : (evA vs l 0 d).getD (a.eval (.tmp d)) = X) : A.eval (.tmp d) = X := by
  subst hA
  show (putAll vs l 0 a).eval _ = X
  rw [putAll_eval vs l 0 a d hd hB, h]
/-- A slot, as the walk's steps spell it. -/
theorem slot_is {vs : Nat → Value} {l : List Oper} {a A : Act} {d : Nat} {X : Value} (hA : (fun vs => putAll vs l 0 a) vs = A) (hB : apartB l = true) (hd : d < a.tmps.size) (h : (evA vs l 0 d).getD (a.eval (.tmp d)) = X) : A.tmps[d]?.getD undef = X := by
  have := eval_of hA hB hd h
  simpa [Act.eval] using this
end
end Go.Proofs.Ytdmdnphbheomoaa
/- A region that draws its order, operation by operation, where operations make things and turn things of the call's own (append onto a row that was made before, a store into a block): each thing has one number (of the operation that made it, or, from the operations' count on, of what was held ahead of the region); an operation TAKES what it turns and READS what it looks at. Each operation is walked once, whatever order is picked. -/
namespace Go.Proofs.Ytdmdnphbheomoaa

section
variable {P : Program} {Q : Exit → Act → World → Prop} {Γ : Type}
def upg (gs : Nat → Γ) (i : Nat) (γ : Γ) : Nat → Γ := fun k => if k = i then γ else gs k

/-- All that is asked of the numbers: what an operation takes or reads is there when it comes up, and nobody else takes it ahead of it. -/
def sepB (l : List Oper) (m : Nat) (tk rd : Nat → List Nat) : Bool :=
  (List.range l.length).all fun i => match l[i]? with
    | none => false
    | some o => (tk i ++ rd i).all (fun s => decide (s < m) && (decide (s < i) || decide (l.length ≤ s)) && (decide (l.length ≤ s) || waitsF .any l.toArray o s)) && decide (tk i).Nodup && (tk i).all (fun s => !(rd i).contains s) &&
      (List.range l.length).all fun k => decide (k = i) || match l[k]? with
        | none => false
        | some ok => (tk k).all fun s => !(tk i).contains s && (!(rd i).contains s || waitsF .any l.toArray ok i)
structure SepOk (l : List Oper) (m : Nat) (tk rd : Nat → List Nat) : Prop where
  lt : ∀ i o s, l[i]? = some o → s ∈ tk i ∨ s ∈ rd i → s < m
  early : ∀ i o s, l[i]? = some o → s ∈ tk i ∨ s ∈ rd i → s < i ∨ l.length ≤ s
  wait : ∀ i o s, l[i]? = some o → s ∈ tk i ∨ s ∈ rd i → s < l.length → waitsF .any l.toArray o s = true
  nodup : ∀ i o, l[i]? = some o → (tk i).Nodup
  own : ∀ i o s, l[i]? = some o → s ∈ tk i → s ∉ rd i
  one : ∀ i k o ok s, l[i]? = some o → l[k]? = some ok → i ≠ k → s ∈ tk k → s ∉ tk i
  late : ∀ i k o ok s, l[i]? = some o → l[k]? = some ok → i ≠ k → s ∈ tk k → s ∈ rd i → waitsF .any l.toArray ok i = true
theorem sepB_spec {l : List Oper} {m : Nat} {tk rd : Nat → List Nat} (h : sepB l m tk rd = true) : SepOk l m tk rd := by
  have h1 : ∀ i o, l[i]? = some o → _ := fun i o ho => by
    have hi : i < l.length := (List.getElem?_eq_some_iff.1 ho).1
    have := (List.all_eq_true.1 h) i (List.mem_range.2 hi)
    rw [ho] at this
    simp only [Bool.and_eq_true] at this
    exact this
  refine ⟨fun i o s ho hs => ?_, fun i o s ho hs => ?_, fun i o s ho hs hl => ?_, fun i o ho => ?_, fun i o s ho hs hr => ?_, fun i k o ok s ho hk hne hs ht => ?_, fun i k o ok s ho hk hne hs hr => ?_⟩
  · have := (List.all_eq_true.1 (h1 i o ho).1.1.1) s (List.mem_append.2 hs)
    simp only [Bool.and_eq_true, decide_eq_true_eq] at this
    exact this.1.1
  · have := (List.all_eq_true.1 (h1 i o ho).1.1.1) s (List.mem_append.2 hs)
    simp only [Bool.and_eq_true, Bool.or_eq_true, decide_eq_true_eq] at this
    exact this.1.2
  · have := (List.all_eq_true.1 (h1 i o ho).1.1.1) s (List.mem_append.2 hs)
    simp only [Bool.and_eq_true, Bool.or_eq_true, decide_eq_true_eq] at this
    rcases this.2 with h | h
    · omega
    · exact h
  · simpa using (h1 i o ho).1.1.2
  · have := (List.all_eq_true.1 (h1 i o ho).1.2) s hs
    simp at this
    exact this hr
  · have := (List.all_eq_true.1 (h1 i o ho).2) k (List.mem_range.2 (List.getElem?_eq_some_iff.1 hk).1)
    rw [hk] at this
    simp only [Bool.or_eq_true, decide_eq_true_eq] at this
    rcases this with e | this
    · exact hne e.symm
    · have := (List.all_eq_true.1 this) s hs
      simp only [Bool.and_eq_true] at this
      have := this.1
      simp at this
      exact this ht
  · have := (List.all_eq_true.1 (h1 i o ho).2) k (List.mem_range.2 (List.getElem?_eq_some_iff.1 hk).1)
    rw [hk] at this
    simp only [Bool.or_eq_true, decide_eq_true_eq] at this
    rcases this with e | this
    · exact absurd e.symm hne
    · have := (List.all_eq_true.1 this) s hs
      simp only [Bool.and_eq_true, Bool.or_eq_true] at this
      rcases this.2 with h | h
      · simp at h; exact absurd hr h
      · exact h

/-- Is thing s there, and not taken? -/
def liveB (n : Nat) (tk : Nat → List Nat) (listed : Array Bool) (s : Nat) : Bool :=
  (decide (n ≤ s) || listed.getD s false) && (List.range n).all fun k => !(listed.getD k false) || !(tk k).contains s
def liveL (n m : Nat) (tk : Nat → List Nat) (RS : Nat → (Nat → Value) → (Nat → Γ) → List Res) (listed : Array Bool) (vs : Nat → Value) (gs : Nat → Γ) : List Res :=
  (List.range m).flatMap fun s => if liveB n tk listed s then RS s vs gs else []
theorem liveB_true {n : Nat} {tk : Nat → List Nat} {listed : Array Bool} {s : Nat} : liveB n tk listed s = true ↔ (n ≤ s ∨ listed.getD s false = true) ∧ ∀ k, k < n → listed.getD k false = true → s ∉ tk k := by
  simp only [liveB, Bool.and_eq_true, Bool.or_eq_true, decide_eq_true_eq, List.all_eq_true, List.mem_range]
  constructor
  · rintro ⟨h1, h2⟩
    refine ⟨h1, fun k hk hl hm => ?_⟩
    have := h2 k hk
    rw [hl] at this
    simp at this
    exact this hm
  · rintro ⟨h1, h2⟩
    refine ⟨h1, fun k hk => ?_⟩
    cases hl : listed.getD k false with
    | false => simp
    | true => simpa using h2 k hk hl

theorem flatMap_congr' {α β : Type} : ∀ {l : List α} {f g : α → List β}, (∀ x ∈ l, f x = g x) → l.flatMap f = l.flatMap g
  | [], _, _, _ => rfl
  | x :: l, f, g, h => by
    rw [List.flatMap_cons, List.flatMap_cons, h x (by simp), flatMap_congr' (fun y hy => h y (by simp [hy]))]
theorem flatMap_part {α β : Type} (l : List α) (f g : α → List β) : (l.flatMap fun s => f s ++ g s).Perm (l.flatMap f ++ l.flatMap g) := by
  induction l with
  | nil => exact List.Perm.refl _
  | cons x l ih =>
    simp only [List.flatMap_cons, List.append_assoc]
    exact (List.Perm.append_left (f x) ((List.Perm.append_left (g x) ih).trans (List.perm_append_comm_assoc _ _ _)))
theorem flatMap_perm {α β : Type} {l l' : List α} (h : l.Perm l') (f : α → List β) : (l.flatMap f).Perm (l'.flatMap f) := by
  induction h with
  | nil => exact List.Perm.refl _
  | cons x _ ih => simp only [List.flatMap_cons]; exact ih.append_left _
  | swap x y l => simp only [List.flatMap_cons]; exact List.perm_append_comm_assoc _ _ _
  | trans _ _ ih1 ih2 => exact ih1.trans ih2
theorem flatMap_filter_if {α β : Type} (l : List α) (p : α → Bool) (f : α → List β) : (l.flatMap fun s => if p s then f s else []) = (l.filter p).flatMap f := by
  induction l with
  | nil => rfl
  | cons x l ih =>
    by_cases h : p x = true
    · simp only [List.flatMap_cons, List.filter_cons, h, if_true, ih]
    · simp only [List.flatMap_cons, List.filter_cons, h, ih]; simp
theorem filter_perm_of {l T : List Nat} (hl : l.Nodup) (hT : T.Nodup) (hs : ∀ x ∈ T, x ∈ l) : (l.filter fun x => T.contains x).Perm T :=
  (List.perm_ext_iff_of_nodup (hl.filter _) hT).2 fun x => by
    rw [List.mem_filter]
    constructor
    · rintro ⟨_, h⟩; simpa using h
    · intro h; exact ⟨hs x h, by simpa using h⟩
/-- The things of T, apart from the rest. -/
theorem part_off {β : Type} {m : Nat} {T : List Nat} (hT : T.Nodup) (hs : ∀ x ∈ T, x < m) (p : Nat → Bool) (hp : ∀ x ∈ T, p x = true) (f : Nat → List β) :
    ((List.range m).flatMap fun s => if p s then f s else []).Perm (T.flatMap f ++ (List.range m).flatMap fun s => if p s && !T.contains s then f s else []) := by
  have h1 : ((List.range m).flatMap fun s => if p s then f s else []) = (List.range m).flatMap fun s => (if T.contains s then f s else []) ++ (if p s && !T.contains s then f s else []) := by
    congr 1
    funext s
    by_cases hc : T.contains s = true
    · have := hp s (by simpa using hc)
      simp only [this, hc, if_true, Bool.not_true, Bool.and_false, Bool.false_eq_true, if_false, List.append_nil]
    · have hc' : T.contains s = false := by simpa using hc
      simp only [hc', Bool.false_eq_true, if_false, Bool.not_false, Bool.and_true, List.nil_append]
  rw [h1]
  refine (flatMap_part _ _ _).trans (List.Perm.append_right _ ?_)
  rw [flatMap_filter_if]
  exact flatMap_perm (filter_perm_of List.nodup_range hT (fun x hx => List.mem_range.2 (hs x hx))) f

/-- What is said of s rests on the values of numbers that s waits for, and on its own. -/
def depB (l : List Oper) (m : Nat) (dp : Nat → List Nat) : Bool :=
  (List.range m).all fun s => match l[s]? with
    | none => (dp s).isEmpty
    | some o => (dp s).all fun j => decide (j = s) || (decide (j < l.length) && waitsF .any l.toArray o j)
theorem depB_spec {l : List Oper} {m : Nat} {dp : Nat → List Nat} (h : depB l m dp = true) {s : Nat} (hs : s < m) : (l.length ≤ s → dp s = []) ∧ ∀ o, l[s]? = some o → ∀ j, j ∈ dp s → j = s ∨ waitsF .any l.toArray o j = true := by
  have := (List.all_eq_true.1 h) s (List.mem_range.2 hs)
  constructor
  · intro hl
    rw [List.getElem?_eq_none hl] at this
    simpa using this
  · intro o ho j hj
    rw [ho] at this
    have := (List.all_eq_true.1 this) j hj
    simp only [Bool.or_eq_true, Bool.and_eq_true, decide_eq_true_eq] at this
    exact this.imp id (·.2)
/-- What is to be shown of each operation. -/
def SepStep (P : Program) (Q : Exit → Act → World → Prop) (PV : Nat → (Nat → Value) → (Nat → Γ) → Prop) (RS : Nat → (Nat → Value) → (Nat → Γ) → List Res) (tk rd : Nat → List Nat) (w0 : World) (a0 : Act) (fr : (Nat → Value) → Act) (ops : Array Oper) (o : Oper) (i : Nat) : Prop :=
  ∀ (vs : Nat → Value) (gs : Nat → Γ) (A : Act) (W : World) (L : List Res), fr vs = A → Held w0 W ((tk i).flatMap (fun s => RS s vs gs) ++ L) → (∀ s, s ∈ rd i → ∀ r, r ∈ RS s vs gs → r ∈ L) → (∀ j, waitsF .any ops o j = true → PV j vs gs) → (∀ j oj, ops[j]? = some oj → waitsF .any ops oj i = true → vs j = slotOf a0 oj.dst) →
    ∀ K : Act → World → Prop, (∀ γ v W', Held w0 W' (RS i (upd vs i v) (upg gs i γ) ++ L) → PV i (upd vs i v) (upg gs i γ) → K (A.put o.dst v) W') → o.wp P A W K (Qn Q)
def SepSteps (P : Program) (Q : Exit → Act → World → Prop) (PV : Nat → (Nat → Value) → (Nat → Γ) → Prop) (RS : Nat → (Nat → Value) → (Nat → Γ) → List Res) (tk rd : Nat → List Nat) (w0 : World) (a0 : Act) (fr : (Nat → Value) → Act) (ops : Array Oper) : List Oper → Nat → Prop
  | [], _ => True
  | o :: l, i => SepStep P Q PV RS tk rd w0 a0 fr ops o i ∧ SepSteps P Q PV RS tk rd w0 a0 fr ops l (i + 1)
theorem SepSteps.at_ {PV : Nat → (Nat → Value) → (Nat → Γ) → Prop} {RS : Nat → (Nat → Value) → (Nat → Γ) → List Res} {tk rd : Nat → List Nat} {w0 : World} {a0 : Act} {fr : (Nat → Value) → Act} {ops : Array Oper} : ∀ {l : List Oper} {k : Nat}, SepSteps P Q PV RS tk rd w0 a0 fr ops l k → ∀ {i o}, l[i]? = some o → SepStep P Q PV RS tk rd w0 a0 fr ops o (k + i)
  | [], _, _, _, _, h => by simp at h
  | x :: l, k, hs, i, o, h => by
    rcases i with _ | i
    · obtain rfl : x = o := by simpa using h
      exact hs.1
    · have := hs.2.at_ (i := i) (o := o) (by simpa using h)
      rwa [show k + 1 + i = k + (i + 1) from by omega] at this

theorem sep_any {PV : Nat → (Nat → Value) → (Nat → Γ) → Prop} {RS : Nat → (Nat → Value) → (Nat → Γ) → List Res} {tk rd : Nat → List Nat} {m : Nat} {w0 : World} {a0 : Act} {l : List Oper} (hsep : SepOk l m tk rd) (hnm : l.length ≤ m) (dp : Nat → List Nat) (hdp : depB l m dp = true) (hd : ∀ s vs vs' gs gs', (∀ j, j ∈ dp s → vs j = vs' j ∧ gs j = gs' j) → RS s vs gs = RS s vs' gs' ∧ (PV s vs gs → PV s vs' gs')) (hap : apartB l = true) (hea : earlierB l 0 = true)
    (hs : SepSteps P Q PV RS tk rd w0 a0 (fun vs => putAll vs l 0 a0) l.toArray l 0)
    (hend : ∀ vs gs W listed, (∀ i, i < l.length → listed.getD i false = true) → Held w0 W (liveL l.length m tk RS listed vs gs) → (∀ i, i < l.length → PV i vs gs) → Q .normal (putAll vs l 0 a0) W) :
    ∀ (fuel : Nat) (listed : Array Bool) (vs : Nat → Value) (gs : Nat → Γ) (W : World), listed.size = l.length → (listed.toList.filter (fun b => !b)).length = fuel → Closed .any l.toArray listed → Held w0 W (liveL l.length m tk RS listed vs gs) → (∀ i, listed.getD i false = true → PV i vs gs) → (∀ j oj, l[j]? = some oj → listed.getD j false = false → vs j = slotOf a0 oj.dst) →
      wpAny P .any l.toArray Q fuel listed (putAll vs l 0 a0) W := by
  have all_of : ∀ (listed : Array Bool), listed.size = l.length → Region.ready .any l.toArray listed = [] → ∀ i, i < l.length → listed.getD i false = true := by
    intro listed hsz hr i
    induction i using Nat.strongRecOn with
    | _ i ih =>
      intro hi
      cases hl : listed.getD i false with
      | true => rfl
      | false =>
        exfalso
        have hlt : i < listed.size := by omega
        have hmem : i ∈ Region.ready .any l.toArray listed := mem_ready.2 ⟨by simp [hlt] at hl ⊢; exact hl, l[i], by simp [hi], fun e he _ => by
          have := (earlierB_spec l 0 i l[i] hea (by simp [hi])).1 e he
          exact ih e.on (by omega) (by omega)⟩
        rw [hr] at hmem; cases hmem
  have hnil : ∀ (listed : Array Bool) vs gs W, listed.size = l.length → Held w0 W (liveL l.length m tk RS listed vs gs) → (∀ i, listed.getD i false = true → PV i vs gs) → Region.ready .any l.toArray listed = [] → Q .normal (putAll vs l 0 a0) W :=
    fun listed vs gs W hsz hS hp hr => hend vs gs W listed (all_of listed hsz hr) hS (fun i hi => hp i (all_of listed hsz hr i hi))
  intro fuel
  induction fuel with
  | zero =>
    intro listed vs gs W hsz hf hcl hS hp _
    have hr : Region.ready .any l.toArray listed = [] := by
      refine List.eq_nil_iff_forall_not_mem.2 fun i hi => ?_
      have h0 := (mem_ready.1 hi).1
      obtain ⟨_, o, ho, _⟩ := mem_ready.1 hi
      have hlt : i < listed.size := by
        have := (Array.getElem?_eq_some_iff.1 ho).1
        simp at this; omega
      have : listed[i] ∈ listed.toList.filter (fun b => !b) := by
        rw [List.mem_filter]
        simp [hlt] at h0
        refine ⟨by simp, by simp [h0]⟩
      rw [List.eq_nil_of_length_eq_zero hf] at this
      cases this
    exact ⟨hr, hnil listed vs gs W hsz hS hp hr⟩
  | succ fuel ih =>
    intro listed vs gs W hsz hf hcl hS hp hv0
    refine ⟨hnil listed vs gs W hsz hS hp, fun i hi => ?_⟩
    obtain ⟨h0, o, ho, hall⟩ := mem_ready.1 hi
    have hol : l[i]? = some o := by simpa using ho
    have hil : i < l.length := (List.getElem?_eq_some_iff.1 hol).1
    have hlt : i < listed.size := by omega
    have hli : listed.getD i false = false := by simp [hlt] at h0 ⊢; exact h0
    have hgd := (earlierB_spec l 0 i o hea hol).2
    -- what it takes and reads is there
    have hlive : ∀ s, s ∈ tk i ∨ s ∈ rd i → liveB l.length tk listed s = true := fun s hs => by
      refine liveB_true.2 ⟨?_, fun k hk hkl hm => ?_⟩
      · by_cases hsl : s < l.length
        · exact .inr (waitsF_spec (hsep.wait i o s hol hs hsl) listed hcl hall)
        · exact .inl (by omega)
      · have hkl' : l[k]? = some l[k] := List.getElem?_eq_getElem hk
        have hne : i ≠ k := by rintro rfl; rw [hli] at hkl; cases hkl
        rcases hs with hs | hs
        · exact hsep.one i k o _ s hol hkl' hne hm hs
        · have hw := hsep.late i k o _ s hol hkl' hne hm hs
          have := waitsF_spec hw listed hcl (hcl k l[k] (by simp [hk]) hkl)
          rw [hli] at this
          cases this
    have hnot : liveB l.length tk listed i = false := by
      apply Bool.eq_false_iff.2
      intro h
      rcases (liveB_true.1 h).1 with h | h
      · omega
      · rw [hli] at h; cases h
    have hnew : ∀ s, liveB l.length tk (listed.setIfInBounds i true) s = (decide (s = i) || (liveB l.length tk listed s && !(tk i).contains s)) := fun s => by
      apply Bool.eq_iff_iff.2
      rw [Bool.or_eq_true, decide_eq_true_eq, Bool.and_eq_true, liveB_true, liveB_true]
      have hni : ∀ k, k < l.length → (listed.setIfInBounds i true).getD k false = true → i ∉ tk k := fun k hk hkl hm => by
        by_cases hki : k = i
        · subst hki
          have := hsep.early k o k hol (.inl hm)
          omega
        · rw [getD_set_ne false (fun h => hki h.symm)] at hkl
          have hkl' : l[k]? = some l[k] := List.getElem?_eq_getElem hk
          have hw := hsep.wait k l[k] i hkl' (.inl hm) hil
          have := waitsF_spec hw listed hcl (hcl k l[k] (by simp [hk]) hkl)
          rw [hli] at this
          cases this
      constructor
      · rintro ⟨h1, h2⟩
        by_cases hsi : s = i
        · exact .inl hsi
        · right
          rw [getD_set_ne false (fun h => hsi h.symm)] at h1
          refine ⟨⟨h1, fun k hk hkl => h2 k hk (getD_set_true hkl)⟩, ?_⟩
          have := h2 i hil (by simp [hlt])
          simpa using this
      · rintro (rfl | ⟨⟨h1, h2⟩, h3⟩)
        · exact ⟨.inr (by simp [hlt]), hni⟩
        · refine ⟨h1.imp id getD_set_true, fun k hk hkl hm => ?_⟩
          by_cases hki : k = i
          · subst hki
            simp at h3
            exact h3 hm
          · rw [getD_set_ne false (fun h => hki h.symm)] at hkl
            exact h2 k hk hkl hm
    obtain ⟨L, hL⟩ : ∃ L, L = (List.range m).flatMap fun s => if liveB l.length tk listed s && !(tk i).contains s then RS s vs gs else [] := ⟨_, rfl⟩
    have hperm : (liveL l.length m tk RS listed vs gs).Perm ((tk i).flatMap (fun s => RS s vs gs) ++ L) := by
      rw [hL]
      exact part_off (hsep.nodup i o hol) (fun x hx => hsep.lt i o x hol (.inl hx)) _ (fun x hx => hlive x (.inl hx)) _
    have hread : ∀ s, s ∈ rd i → ∀ r, r ∈ RS s vs gs → r ∈ L := fun s hs r hr => by
      rw [hL]
      refine List.mem_flatMap.2 ⟨s, List.mem_range.2 (hsep.lt i o s hol (.inr hs)), ?_⟩
      have h1 := hlive s (.inr hs)
      have h2 : (tk i).contains s = false := by
        have : s ∉ tk i := fun h => hsep.own i o s hol h hs
        simpa using this
      simp only [h1, h2, Bool.not_false, Bool.and_true, if_true]
      exact hr
    have hsame : ∀ v γ s, s < m → s ≠ i → (l.length ≤ s ∨ listed.getD s false = true) → RS s vs gs = RS s (upd vs i v) (upg gs i γ) ∧ (PV s vs gs → PV s (upd vs i v) (upg gs i γ)) := fun v γ s hsm hsi hs => by
      refine hd s vs _ gs _ (fun j hj => ?_)
      obtain ⟨d1, d2⟩ := depB_spec hdp hsm
      by_cases hsl : s < l.length
      · have hls : listed.getD s false = true := by
          rcases hs with h | h
          · omega
          · exact h
        have hji : j ≠ i := by
          rintro rfl
          rcases d2 l[s] (List.getElem?_eq_getElem hsl) _ hj with h | h
          · exact hsi h.symm
          · have := waitsF_spec h listed hcl (hcl s l[s] (by simp [hsl]) hls)
            rw [hli] at this
            cases this
        simp [upd, upg, hji]
      · rw [d1 (by omega)] at hj
        cases hj
    have hafter : ∀ v γ, (liveL l.length m tk RS (listed.setIfInBounds i true) (upd vs i v) (upg gs i γ)).Perm (RS i (upd vs i v) (upg gs i γ) ++ L) := fun v γ => by
      unfold liveL
      have h1 := part_off (T := [i]) (by simp) (m := m) (fun x hx => by simp at hx; omega) (fun s => liveB l.length tk (listed.setIfInBounds i true) s) (fun x hx => by
        simp at hx; subst hx; rw [hnew]; simp) (fun s => RS s (upd vs i v) (upg gs i γ))
      refine h1.trans ?_
      have h2 : ([i].flatMap fun s => RS s (upd vs i v) (upg gs i γ)) = RS i (upd vs i v) (upg gs i γ) := by simp
      rw [h2, hL]
      refine List.Perm.append_left _ (List.Perm.of_eq ?_)
      apply flatMap_congr'
      intro s hsm
      have hsm := List.mem_range.1 hsm
      by_cases hsi : s = i
      · subst hsi
        simp [hnot]
      · rw [hnew]
        have h3 : [i].contains s = false := by simpa using hsi
        simp only [h3, hsi, decide_false, Bool.false_or, Bool.not_false, Bool.and_true]
        by_cases hlv : (liveB l.length tk listed s && !(tk i).contains s) = true
        · rw [if_pos hlv, if_pos hlv]
          rw [Bool.and_eq_true] at hlv
          exact (hsame v γ s hsm hsi (liveB_true.1 hlv.1).1).1.symm
        · rw [if_neg hlv, if_neg hlv]
    refine wpOp_n ?_
    unfold wpOp
    simp only [ho]
    rw [if_pos (by simp [Region.wanted, hgd])]
    refine .inl ?_
    have hstep := hs.at_ hol
    rw [Nat.zero_add] at hstep
    refine hstep vs gs _ W L rfl (hS.perm hperm) hread (fun j hj => hp j (waitsF_spec hj listed hcl hall)) (fun j oj hj hw => hv0 j oj (by simpa using hj) (by
      cases hjl : listed.getD j false with
      | false => rfl
      | true =>
        have := waitsF_spec hw listed hcl (hcl j oj hj hjl)
        rw [hli] at this
        cases this)) _ fun γ v W' hS' hv => ?_
    rw [putAll_upd vs i v l 0 a0 o hap (Nat.zero_le _) (by simpa using hol)]
    refine ih _ _ (upg gs i γ) W' (by simpa using hsz) ?_ (hcl.add hi) (hS'.perm (hafter v γ).symm) (fun j hj => ?_) (fun j oj hj hjl => ?_)
    · simp [hlt] at h0
      have h1 : listed.toList = listed.toList.take i ++ false :: listed.toList.drop (i + 1) := by
        rw [← h0]
        have := List.take_append_drop i listed.toList
        rw [List.drop_eq_getElem_cons (by simpa using hlt)] at this
        simpa using this.symm
      have h2 : (listed.setIfInBounds i true).toList = listed.toList.take i ++ true :: listed.toList.drop (i + 1) := by
        rw [Array.toList_setIfInBounds]
        conv => lhs; rw [h1]
        rw [List.set_append_right _ _ (by simp; omega)]
        simp [Nat.min_eq_left (Nat.le_of_lt hlt)]
      rw [h1] at hf
      rw [h2]
      simp only [List.filter_append, List.filter_cons, List.length_append] at hf ⊢
      simp at hf ⊢
      omega
    · by_cases e : i = j
      · subst e; exact hv
      · rw [getD_set_ne false e] at hj
        have hjm : j < m := by
          by_cases hjl : j < l.length
          · omega
          · simp [show ¬ j < listed.size by omega] at hj
        exact (hsame v γ j hjm (fun h => e h.symm) (.inr hj)).2 (hp j hj)
    · by_cases e : i = j
      · subst e
        simp [hlt] at hjl
      · rw [getD_set_ne false e] at hjl
        rw [← hv0 j oj hj hjl]
        simp [upd, show j ≠ i from fun h => e h.symm]

/-- Not taken by anyone. -/
def endB (n : Nat) (tk : Nat → List Nat) (s : Nat) : Bool := (List.range n).all fun k => !(tk k).contains s
/-- The region's rule. RS: the things by their numbers (from l.length on: those held ahead of it, I); fin: the numbers that nobody takes. -/
theorem wp_region_sep [Inhabited Γ] {id : Nat} {a : Act} {w0 w : World} {l : List Oper} (m : Nat) (fin : List Nat) (PV : Nat → (Nat → Value) → (Nat → Γ) → Prop) (RS : Nat → (Nat → Value) → (Nat → Γ) → List Res) (tk rd : Nat → List Nat) {L0 : List Res} (hS : Held w0 w L0) (hm : P.follows .mixedOrders = true)
    (hap : apartB l = true) (hea : earlierB l 0 = true) (hsep : sepB l (l.length + m) tk rd = true) (dp : Nat → List Nat) (hdp : depB l (l.length + m) dp = true) (hd : ∀ s vs vs' gs gs', (∀ j, j ∈ dp s → vs j = vs' j ∧ gs j = gs' j) → RS s vs gs = RS s vs' gs' ∧ (PV s vs gs → PV s vs' gs')) (hfin : (List.range (l.length + m)).filter (endB l.length tk) = fin)
    (hL0 : ((List.range m).flatMap fun j => RS (l.length + j) (fun _ => undef) (fun _ => default)).Perm L0)
    (hs : SepSteps P Q PV RS tk rd w0 a (fun vs => putAll vs l 0 a) l.toArray l 0)
    (hend : ∀ vs gs W, Held w0 W (fin.flatMap fun s => RS s vs gs) → (∀ i, i < l.length → PV i vs gs) → Q .normal (putAll vs l 0 a) W) : (Code.region id l.toArray true).wp P Q a w := by
  refine wp_region_any hm ?_
  have h0 : ∀ i, (Array.replicate l.length false).getD i false = false := fun i => by
    simp [Array.getElem?_replicate]
    split <;> rfl
  have h := sep_any (P := P) (Q := Q) (m := l.length + m) (sepB_spec hsep) (by omega) dp hdp hd hap hea hs (fun vs gs W listed hall hS hp => hend vs gs W (by
      have : liveL l.length (l.length + m) tk RS listed vs gs = fin.flatMap fun s => RS s vs gs := by
        unfold liveL
        rw [flatMap_filter_if, ← hfin]
        congr 1
        apply List.filter_congr
        intro s hs
        have hs := List.mem_range.1 hs
        apply Bool.eq_iff_iff.2
        rw [liveB_true]
        simp only [endB, List.all_eq_true, List.mem_range]
        constructor
        · rintro ⟨_, h⟩ k hk
          simpa using h k hk (hall k hk)
        · intro h
          refine ⟨?_, fun k hk _ => by simpa using h k hk⟩
          by_cases hsl : s < l.length
          · exact .inr (hall s hsl)
          · exact .inl (by omega)
      rw [this] at hS
      exact hS) hp) l.length (Array.replicate l.length false) (at0 a l) (fun _ => default) w.drew (by simp) (by simp) (fun j oj _ hl => by rw [h0] at hl; cases hl) (by
      refine (hS.kp ((Kp.refl [] w).drew)).perm ?_
      refine hL0.symm.trans (List.Perm.of_eq ?_)
      unfold liveL
      rw [List.range_add, List.flatMap_append]
      have h1 : ((List.range l.length).flatMap fun s => if liveB l.length tk (Array.replicate l.length false) s then RS s (at0 a l) (fun _ => default) else []) = [] := by
        rw [List.flatMap_eq_nil_iff]
        intro s hs
        have hs := List.mem_range.1 hs
        rw [if_neg]
        intro h
        rcases (liveB_true.1 h).1 with h | h
        · omega
        · rw [h0] at h; cases h
      rw [h1, List.nil_append, List.flatMap_map]
      apply flatMap_congr'
      intro j hj
      have hj := List.mem_range.1 hj
      rw [if_pos (liveB_true.2 ⟨.inl (by simp), fun k _ hk => by rw [h0] at hk; cases hk⟩)]
      refine (hd _ _ _ _ _ (fun x hx => ?_)).1
      rw [(depB_spec hdp (by omega)).1 (by omega)] at hx
      cases hx) (fun i hi => by rw [h0] at hi; cases hi) (fun j oj hj _ => by simp [at0, hj])
  rw [putAll_at a l 0 (at0 a l) (fun j o ho => by simp [at0, ho])] at h
  simpa using h
end
end Go.Proofs.Ytdmdnphbheomoaa
/- Operations of a region walked by XSep: appends. -/
namespace Go.Proofs.Ytdmdnphbheomoaa
open Go.RowKit
/-- An instruction that yields v. -/
theorem op_runs {P : Program} {o : Oper} {a : Act} {w w' : World} {K : Act → World → Prop} {Q : Exit → Act → World → Prop} {v : Value} (h : (execOp a.eval o).run P w = .ok (.value v) w') (hK : K (a.put o.dst v) w') : o.wp P a w K Q := by
  unfold Oper.wp
  rw [h]
  exact hK
/-- append onto a row of the list; what is appended reads. -/
theorem op_app {P : Program} {o : Oper} {a : Act} {w0 w : World} {K : Act → World → Prop} {Q : Exit → Act → World → Prop} {L : List Res} (s x : Operand) (t e : TypeId)
    (ho : o.op = .call { callee := .builtin .append, args := #[s, x], argTypes := #[t, t] })
    {size bytes : Nat} {z : Value} (hI : (P.info? e).map (fun i => (i.zero, i.size, i.bytes)) = some (some z, size, bytes)) (ht : P.underlying t = some (.slice e)) (hzs : z.cells.size = size) (hsz : 0 < size)
    (v : Value) (n : Nat) (xs : List Value) (hs : a.eval s = v) (S : Held w0 w (rowR e size v n xs :: L))
    (y : Value) (m : Nat) (news : List Value) (hx : a.eval x = y) (hr : Rd w size y m news) (h1 : ∀ u ∈ news, u.oneCell' = true)
    (h63 : n + m ≤ maxLen) (hbytes : (n + m) * bytes ≤ 140737488355328)
    (h : ∀ v' w', Held w0 w' (rowR e size v' (n + m) (xs ++ news) :: L) → K (a.put o.dst v') w') : o.wp P a w K Q := by
  obtain ⟨i0, hi, hz, hsize, hby⟩ := info_parts hI
  obtain ⟨v', w', hrun, h2, h3, h4⟩ := run_app (P := P) w t o.type e i0 z size bytes ht hi hz hsize hby hzs hsz v n xs (S.at_ (l1 := [])) y m news hr h1 h63 hbytes
  refine op_runs (v := v') (w' := w') ?_ (h v' w' (S.grow (l1 := []) h2 h3 h4))
  unfold execOp
  simp only [ho, resolve, invoke, builtin, Sem.run_bind, Sem.run_pure, Result.andThen_ok, List.map_toArray, List.map_cons, List.map_nil, hs, hx, hrun]
/-- append(nil, y...): a new thing. -/
theorem op_app_nil {P : Program} {o : Oper} {a : Act} {w0 w : World} {K : Act → World → Prop} {Q : Exit → Act → World → Prop} {L : List Res} (s x : Operand) (t e : TypeId)
    (ho : o.op = .call { callee := .builtin .append, args := #[s, x], argTypes := #[t, t] })
    {size bytes : Nat} {z : Value} (hI : (P.info? e).map (fun i => (i.zero, i.size, i.bytes)) = some (some z, size, bytes)) (ht : P.underlying t = some (.slice e)) (hzs : z.cells.size = size) (hsz : 0 < size)
    (hs : a.eval s = .slice none 0 0) (S : Held w0 w L)
    (y : Value) (m : Nat) (news : List Value) (hx : a.eval x = y) (hr : Rd w size y m news) (h1 : ∀ u ∈ news, u.oneCell' = true)
    (h63 : m ≤ maxLen) (hbytes : m * bytes ≤ 140737488355328)
    (h : ∀ v' w', Held w0 w' (rowR e size v' m news :: L) → K (a.put o.dst v') w') : o.wp P a w K Q :=
  op_app s x t e ho hI ht hzs hsz (.slice none 0 0) 0 [] hs (S.rownew (World.ownsRow_nil _ _ _ _) (Kp.refl [] w) (by simp [Value.ownBlock])) y m news hx hr h1 (by omega) (by simpa using hbytes) (fun v' w' S' => h v' w' (by simpa using S'))
/-- A row that is handed on shorter, or longer, by another slice of it. -/
def grow1 : Value → Value
  | .slice A n c => .slice A (n + 1) c
  | v => v
theorem rd_of_row {w0 w : World} {L : List Res} {e : TypeId} {s : Nat} {v : Value} {n : Nat} {xs : List Value} (S : Held w0 w L) (h : rowR e s v n xs ∈ L) : Rd w s v n xs := Rd.of_own (S.ok _ h)
end Go.Proofs.Ytdmdnphbheomoaa
/- Slices of bytes, cut: one run equation each, with what the cut reads. -/
namespace Go.Proofs.Ytdmdnphbheomoaa
open Go.RowKit

/-- What a cut slice is good for. -/
def CutOf (A : Option Addr) (n c lo m : Nat) (A' : Option Addr) (c' : Nat) : Prop :=
  ∀ (W : World) (bs : List UInt8), Rd W 1 (.slice A n c) n (bv bs) → Rd W 1 (.slice A' m c') m (bv ((bs.drop lo).take m))
theorem cut_of {A : Option Addr} {n c lo m : Nat} (h : lo + m ≤ n) : ∃ A' c', sliced A lo (lo + m) c 1 = .slice A' m c' ∧ CutOf A n c lo m A' c' ∧ ∀ g, (Value.slice A' m c').ownBlock = some g → (Value.slice A n c).ownBlock = some g := by
  by_cases e : c = lo
  · refine ⟨A, c - lo, by simp [sliced, e], fun W bs h1 => ?_, fun g hg => by cases A <;> simp_all [Value.ownBlock]⟩
    have := h1.cut0 (a := lo) (k := m) h e
    rwa [bv_drop] at this
  · refine ⟨A.map (fun x => x.add lo), c - lo, by simp [sliced, e], fun W bs h1 => ?_, fun g hg => ?_⟩
    · have := h1.cut (a := lo) (k := m) h e
      rwa [bv_drop] at this
    · cases A with
      | none => simp [Value.ownBlock] at hg
      | some ad =>
        simp only [Option.map_some, Value.ownBlock] at hg ⊢
        rw [← hg]; simp [block_of_add]
theorem run_size_u8 (w : World) : (sizeOf 5).run Try.prog w = .ok 1 w := by
  obtain ⟨i0, hi, hz0, hz1, hz2⟩ := info_parts Try.infoU8
  simp [sizeOf, typeInfo, hi, hz1]
theorem cut_at (w : World) (x : Value) (lo hi mx : Option Value) : (Instr.sliceAt 25 x lo hi mx).run Try.prog w = (Instr.slice 25 x lo hi mx).run Try.prog w := by
  simp [Instr.sliceAt, run_underlying Try.underlying25]
theorem elem_u8 : Try.prog.elem 25 = 5 := by kernel_rfl
theorem und_u8 : Try.prog.underlying 25 = some (.slice (Try.prog.elem 25)) := by rw [elem_u8]; exact Try.underlying25
theorem cut_hi (A : Option Addr) (n c k : Nat) (h : Int) (hh : h = k) (hk : k ≤ n) (hc : n ≤ c) : ∃ A' c', (∀ w, (Instr.sliceAt 25 (.slice A n c) none (some (.int .i64 h)) none).run Try.prog w = .ok (.slice A' k c') w) ∧ CutOf A n c 0 k A' c' ∧ ∀ g, (Value.slice A' k c').ownBlock = some g → (Value.slice A n c).ownBlock = some g := by
  subst hh
  obtain ⟨A', c', e, h1, h2⟩ := cut_of (A := A) (n := n) (c := c) (lo := 0) (m := k) (by omega)
  refine ⟨A', c', fun w => ?_, h1, h2⟩
  rw [cut_at, run_slice_h w 25 A n c und_u8 .i64 k (by omega) (by omega), elem_u8, run_size_u8]
  simp only [Result.andThen_ok, Int.toNat_natCast]
  rw [Nat.zero_add] at e
  rw [e]
theorem cut_lo (A : Option Addr) (n c lo m : Nat) (l : Int) (hl : l = lo) (hm : lo + m = n) : ∃ A' c', (∀ w, (Instr.sliceAt 25 (.slice A n c) (some (.int .i64 l)) none none).run Try.prog w = .ok (.slice A' m c') w) ∧ CutOf A n c lo m A' c' ∧ ∀ g, (Value.slice A' m c').ownBlock = some g → (Value.slice A n c).ownBlock = some g := by
  subst hl
  obtain ⟨A', c', e, h1, h2⟩ := cut_of (A := A) (n := n) (c := c) (lo := lo) (m := m) (by omega)
  refine ⟨A', c', fun w => ?_, h1, h2⟩
  rw [cut_at, run_slice_l w 25 A n c und_u8 .i64 lo (by omega) (by omega), elem_u8, run_size_u8]
  simp only [Result.andThen_ok, Int.toNat_natCast]
  rw [← hm, e]
theorem cut_lh (A : Option Addr) (n c lo m : Nat) (l h : Int) (hl : l = lo) (hh : h = lo + m) (hm : lo + m ≤ n) (hc : n ≤ c) : ∃ A' c', (∀ w, (Instr.sliceAt 25 (.slice A n c) (some (.int .i64 l)) (some (.int .i64 h)) none).run Try.prog w = .ok (.slice A' m c') w) ∧ CutOf A n c lo m A' c' ∧ ∀ g, (Value.slice A' m c').ownBlock = some g → (Value.slice A n c).ownBlock = some g := by
  subst hl hh
  obtain ⟨A', c', e, h1, h2⟩ := cut_of (A := A) (n := n) (c := c) (lo := lo) (m := m) (by omega)
  refine ⟨A', c', fun w => ?_, h1, h2⟩
  rw [cut_at, run_slice_lh w 25 A n c und_u8 .i64 .i64 lo ((lo : Int) + (m : Int)) (by omega) (by omega) (by omega), elem_u8, run_size_u8]
  simp only [Result.andThen_ok, Int.toNat_natCast]
  rw [show ((lo : Int) + (m : Int)).toNat = lo + m from by omega, e]
end Go.Proofs.Ytdmdnphbheomoaa
/- Walking inside a round: a region's walk outside serves inside; one law for 'for .. range f', whose round is told what holds of what it is handed. -/
namespace Go.Proofs.Ytdmdnphbheomoaa
open Go.RowKit Go.Shelf

section bridge
variable {P : Program} {ops : Array Oper} {Q : Exit → Act → World → Prop} {n rl : Nat}
def plainB (l : List Oper) : Bool := l.all fun o => match o.op with | .defer _ => false | _ => true
theorem plainB_spec {l : List Oper} (h : plainB l = true) {o : Oper} (ho : o ∈ l) : ∀ c, o.op ≠ .defer c := by
  intro c hc
  have := List.all_eq_true.1 h o ho
  rw [hc] at this
  cases this
theorem oper_in {o : Oper} {a : Act} {w : World} {K : Act → World → Prop} (hd : ∀ c, o.op ≠ .defer c) (hQ : ¬ LetsOut Q) (h : o.wp P a w K Q) : o.wpIn (Fence.wide.inRound rl) n P a w K Q := by
  refine ⟨fun _ _ => trivial, ?_⟩
  rw [Fence.inRound_round, Oper.semAt_some rl a.eval o hd]
  unfold Oper.wp at h
  generalize (execOp a.eval o).run P w = r at *
  have hn : (Fence.wide.inRound rl).depth.isSome = true → 1 ≤ n := fun h => by simp [Fence.wide] at h
  cases r with
  | ok nx w' =>
    cases nx with
    | value v => exact h
    | skip => exact h
    | defer d => exact h
    | enter f args => exact ⟨hn, CallsIn.inRound rl (callsIn_wide.2 h)⟩
    | row r args =>
      refine ⟨hn, fun c cs _ => ?_⟩
      obtain ⟨v, w2, h1, h2⟩ := h c cs
      exact ⟨v, w2, h1, stepsIn_wide.2 h2⟩
    | _ => exact h.elim
  | halt x w' => cases x <;> exact h
theorem not_lets (Q : Exit → Act → World → Prop) : ¬ LetsOut (Qn Q) := fun ⟨_, _, h⟩ => by cases h.1
theorem op_in {l : List Oper} (hp : plainB l = true) {i : Nat} {a : Act} {w : World} {K : Act → World → Prop} (h : wpOp P l.toArray (Qn Q) i K a w) : wpOpIn (Fence.wide.inRound rl) n P l.toArray Q i K a w := by
  unfold wpOp at h
  unfold wpOpIn
  split
  · rename_i ho
    simpa [ho] using h
  · rename_i o ho
    simp only [ho] at h
    have hm : o ∈ l := by
      have := Array.mem_of_getElem? ho
      simpa using this
    split
    · rename_i hw
      rw [if_pos hw] at h
      rcases h with h | ⟨_, h⟩
      · have h2 := oper_in (rl := rl) (n := n) (plainB_spec hp hm) (not_lets Q) h
        unfold Oper.wpIn at h2 ⊢
        refine ⟨h2.1, ?_⟩
        have h3 := h2.2
        generalize (o.semAt (Fence.wide.inRound rl).round a.eval).run P w = r at *
        cases r with
        | ok nx w' =>
          cases nx with
          | value v => exact h3
          | skip => exact h3
          | defer d => exact h3
          | enter f args =>
            refine ⟨h3.1, CallsIn.mono h3.2 (fun e w'' he => ?_)⟩
            cases e with
            | returned v => exact he
            | panicked ch => cases he.1
            | outgrown => exact (not_lets Q he).elim
          | row r args => exact h3
          | round r f t asg bd =>
            refine ⟨h3.1, RoundIn.mono h3.2 (fun e w'' he => ?_)⟩
            cases e with
            | returned v => exact he
            | panicked ch => cases he.1
            | outgrown => exact (not_lets Q he).elim
          | _ => exact h3.elim
        | halt x w' => cases x <;> first | exact h3.elim | cases h3.1
      · exact (not_lets Q h).elim
    · rename_i hw
      rw [if_neg hw] at h
      exact ⟨fun _ _ => trivial, h⟩
theorem wpOpIn_mono' {l : List Oper} {i : Nat} {a : Act} {w : World} {K K' : Act → World → Prop} (h : ∀ a w, K a w → K' a w) (hh : wpOpIn (Fence.wide.inRound rl) n P l.toArray Q i K a w) : wpOpIn (Fence.wide.inRound rl) n P l.toArray Q i K' a w := wpOpIn_mono h hh
theorem any_in {l : List Oper} (hp : plainB l = true) : ∀ (fuel : Nat) (listed : Array Bool) (a : Act) (w : World), wpAny P .any l.toArray (Qn Q) fuel listed a w → wpAnyIn (Fence.wide.inRound rl) n P .any l.toArray Q fuel listed a w
  | 0, _, _, _, h => ⟨h.1, h.2.2⟩
  | fuel + 1, _, _, _, h => ⟨fun h0 => (h.1 h0).2, fun i hi => wpOpIn_mono (fun a' w' h' => any_in hp fuel _ a' w' h') (op_in hp (h.2 i hi))⟩
theorem list_in {l0 : List Oper} (hp : plainB l0 = true) : ∀ (l : List Oper) (a : Act) (w : World), (∀ o ∈ l, o ∈ l0) → wpList P l0.toArray (Qn Q) l a w → wpListIn (Fence.wide.inRound rl) n P l0.toArray Q l a w
  | [], _, _, _, h => h.2
  | o :: l, a, w, hm, h => by
    unfold wpList at h
    unfold wpListIn
    split
    · rename_i hw
      rw [if_pos hw] at h
      rcases h with h | ⟨_, h⟩
      · have hi : ∃ i : Nat, l0.toArray[i]? = some o := by
          obtain ⟨i, hi, he⟩ := List.getElem_of_mem (hm o (by simp))
          exact ⟨i, by simp [hi, he]⟩
        obtain ⟨i, hi⟩ := hi
        have h1 : wpOp P l0.toArray (Qn Q) i (wpList P l0.toArray (Qn Q) l) a w := by
          unfold wpOp
          simp only [hi]
          rw [if_pos hw]
          exact .inl h
        have h2 := op_in (rl := rl) (n := n) hp h1
        have h3 := wpOpIn_mono (fun a' w' h' => list_in hp l a' w' (fun x hx => hm x (List.mem_cons_of_mem _ hx)) h') h2
        unfold wpOpIn at h3
        simp only [hi] at h3
        rwa [if_pos hw] at h3
      · exact (not_lets Q h).elim
    · rename_i hw
      rw [if_neg hw] at h
      exact ⟨fun _ _ => trivial, list_in hp l _ _ (fun x hx => hm x (List.mem_cons_of_mem _ hx)) h⟩
theorem lex_any {a : Act} {w : World} {l : List Oper} (es ls : List Nat) (S : World → Prop) (hB : lexE l.toArray es ls = true) (hS : S w.drew)
    (h : wpLex P l.toArray Q S (qfOf es) (lsOf ls) l 0 a w.drew) : wpAny P .any l.toArray Q l.toArray.size (Array.replicate l.toArray.size false) a w.drew := by
  simp only [lexE, Bool.and_eq_true] at hB
  obtain ⟨⟨h1, h4, h2⟩, h3⟩ := hB
  have hm' := mix_lex (md := .any) h1 (lsOf_spec h4) (chainB_spec h2) l 0 (Array.replicate l.toArray.size false) a w.drew (by simp) (by simpa using h3) (by simp)
    (fun j oj hj hl => by simp [Array.getElem?_replicate] at hl; split at hl <;> simp at hl) (fun m hm => by omega) (.inl hS) h
  exact any_of_mix (lsOf_spec h4) _ _ _ _ (by simp) (fun j oj hj hl => by simp [Array.getElem?_replicate] at hl; split at hl <;> simp at hl) (.inl hS) (by simpa using hm')
/-- A region in a round, walked as outside. -/
theorem in_region {id : Nat} {l : List Oper} {a : Act} {w : World} (hp : plainB l = true) (h : wpList P l.toArray (Qn Q) l a w) : (Code.region id l.toArray false).wpIn (Fence.wide.inRound rl) n P Q a w :=
  wpIn_region_lit (list_in hp l a w (fun _ h => h) h)
/-- A region in a round that draws its order, by the rule of XLex. -/
theorem in_region_lexf {id : Nat} {a : Act} {w : World} {l : List Oper} (es ls : List Nat) (S : World → Prop) (hp : plainB l = true) (hm : P.follows .mixedOrders = true) (hB : lexE l.toArray es ls = true) (hS : S w.drew)
    (h : ∀ (σ : Type) (_ : Nonempty σ) (f : σ → World) (_ : ∀ u, S (f u)) (_ : ∀ W, S W → ∃ u, W = f u), wpLex P l.toArray (Qn Q) S (qfOf es) (lsOf ls) l 0 a w.drew) : (Code.region id l.toArray true).wpIn (Fence.wide.inRound rl) n P Q a w := by
  have h' := h { W : World // S W } ⟨⟨_, hS⟩⟩ (fun u => u.1) (fun u => u.2) (fun W hW => ⟨⟨W, hW⟩, rfl⟩)
  exact wpIn_region_any hm (any_in hp _ _ _ _ (lex_any es ls S hB hS h'))
end bridge
theorem wpListIn_app {F : Fence} {nF : Nat} {P : Program} {w : World} {ops : Array Oper} {rest : List Oper} {o : Oper} {a : Act} {Q : Exit → Act → World → Prop} (hgd : o.guard = none) (s x : Operand) (t : TypeId)
    (ho : o.op = .call { callee := .builtin .append, args := #[s, x], argTypes := #[t, t] })
    (e : TypeId) (i : TypeInfo) (z : Value) (size bytes : Nat) (ht : P.underlying t = some (.slice e)) (hi : P.info? e = some i) (hz : i.zero = some z)
    (hsize : i.size = size) (hby : i.bytes = bytes) (hzs : z.cells.size = size) (hsz : 0 < size)
    (v : Value) (n : Nat) (xs : List Value) (hs : a.eval s = v) (hown : Ow w e size v n xs)
    (y : Value) (m : Nat) (news : List Value) (hx : a.eval x = y) (hr : Rd w size y m news) (h1 : ∀ u ∈ news, u.oneCell' = true)
    (h63 : n + m ≤ maxLen) (hbytes : (n + m) * bytes ≤ 140737488355328)
    (h : ∀ v' w', Ow w' e size v' (n + m) (xs ++ news) → w.grownBy w' v.ownBlock → (v'.ownBlock = v.ownBlock ∨ v'.ownBlock = some w.heap.size) → wpListIn F nF P ops Q rest (a.put o.dst v') w') : wpListIn F nF P ops Q (o :: rest) a w := by
  refine wpListIn_plain hgd fun K hK => ?_
  obtain ⟨v', w', hrun, h2, h3, h4⟩ := run_app (P := P) w t o.type e i z size bytes ht hi hz hsize hby hzs hsz v n xs hown y m news hr h1 h63 hbytes
  unfold Oper.wpIn
  refine ⟨by simp [Oper.about, ho, resolve, Target.leads, Sem.run_pure], ?_⟩
  rw [Oper.semAt_eq F.round _ _ (by rw [ho]; intro c hc'; cases hc')]
  unfold execOp
  simp only [ho, resolve, invoke, builtin, Sem.run_bind, Sem.run_pure, Result.andThen_ok, List.map_toArray, List.map_cons, List.map_nil, hs, hx, hrun]
  exact hK _ _ (h v' w' h2 h3 h4)
end Go.Proofs.Ytdmdnphbheomoaa
/- One law for 'for .. range f': the iterator tells, at each round, what holds of what it hands over; it makes memory alone between two rounds. -/
namespace Go.Proofs.Ytdmdnphbheomoaa
open Go.RowKit Go.Shelf

/-- What stays true when memory is made, and when an object that is no row of cells, from B on, is turned. -/
def Stays (B : Nat) (p : World → Prop) : Prop :=
  ∀ W W', p W → (Kp [] W W' ∨ ∃ (l : Nat) (o o' : Obj), B ≤ l ∧ W.heap[l]? = some o ∧ o.isCells = false ∧ W' = W.putObj l o') → p W'
theorem Stays.kp {B : Nat} {p : World → Prop} (h : Stays B p) {W W' : World} (hp : p W) (hk : Kp [] W W') : p W' := h W W' hp (.inl hk)
theorem Stays.put {B : Nat} {p : World → Prop} (h : Stays B p) {W : World} (hp : p W) {l : Nat} {o : Obj} (o' : Obj) (hB : B ≤ l) (hl : W.heap[l]? = some o) (ho : o.isCells = false) : p (W.putObj l o') :=
  h W _ hp (.inr ⟨l, o, o', hB, hl, ho, rfl⟩)
theorem Stays.and {B : Nat} {p q : World → Prop} (h : Stays B p) (h' : Stays B q) : Stays B (fun W => p W ∧ q W) := fun W W' hp hk => ⟨h W W' hp.1 hk, h' W W' hp.2 hk⟩
theorem Stays.pure (B : Nat) (q : Prop) : Stays B (fun _ => q) := fun _ _ h _ => h
theorem Stays.ex {B : Nat} {α : Sort _} {p : α → World → Prop} (h : ∀ x, Stays B (p x)) : Stays B (fun W => ∃ x, p x W) := fun W W' ⟨x, hx⟩ hk => ⟨x, h x W W' hx hk⟩

/-- A round, as the iterator may call it: it has made memory since W0, where the round before had ended (or the loop begun). -/
def RoundOk {α : Type} (P : Program) (n l : Nat) (encs : α → Array Value) (Z : α → World → Prop) (X : List α → α → World → World → Prop) (N : Nat) (J Jx : List α → World → Prop) : Prop :=
  ∀ pre x W0 W1, J pre W0 → Kp [] W0 W1 → X pre x W0 W1 → pre.length < N → YieldAt Fence.wide (n - 1) P l (encs x) W1 fun e W' =>
    (e = .returned (.bool true) ∧ J (pre ++ [x]) W' ∧ Z x W') ∨ (e = .returned (.bool false) ∧ Jx (pre ++ [x]) W')
/-- What is asked of an iterator (function g with what it has captured), called in w or later. -/
def SeqW {α : Type} (P : Program) (n g : Nat) (lb : Array Value) (encs : α → Array Value) (Z : α → World → Prop) (X : List α → α → World → World → Prop) (S Sp : List α → Prop) (N : Nat) (w : World) : Prop :=
  ∀ (l : Nat) (J Jx : List α → World → Prop) (W : World), Kp [] w W → (∀ s A B, J s A → Kp [] A B → J s B) → (∀ s A B, Jx s A → Kp [] A B → Jx s B) → RoundOk P n l encs Z X N J Jx → J [] W →
    CallsIn Fence.wide n P g (#[.func (.yield l) #[] #[]] ++ lb) W fun e W' => (∃ v, e = .returned v) ∧ ((∃ xs, S xs ∧ J xs W') ∨ (∃ pre, Sp pre ∧ Jx pre W'))

/-- How the body of a round may end: the loop's record l and the block D are as they were. -/
def Same2 (l D : Nat) (W W' : World) : Prop := W'.heap[l]? = W.heap[l]? ∧ W'.heap[D]? = W.heap[D]?
def roundEnd {α : Type} (l D : Nat) (Z : World → Prop) (I : List α → World → Prop) (Ix : Code → List α → World → Prop) (xs : List α) (W : World) : Exit → Act → World → Prop
  | .normal, _, W' => Same2 l D W W' ∧ Z W' ∧ I xs W'
  | .ret, _, W' => Same2 l D W W' ∧ Ix .ret xs W'
  | .exit id, _, W' => Same2 l D W W' ∧ Ix (.exit id) xs W'
  | .goto t, _, W' => Same2 l D W W' ∧ Ix (.goto t) xs W'
  | .panic _, _, _ => False
  | .outgrown, _, _ => False
def markOf (D : Nat) : Deferred := { target := .collected D, args := #[] }

variable {P : Program} {n : Nat}
set_option maxHeartbeats 1000000 in
theorem wp_range {α : Type} {g : Operand} {ps : Array Tmp} {assign body : Code} {Q : Exit → Act → World → Prop} {a : Act} {w : World} {gf : Nat} {lb : Array Value} (hg : a.eval g = .func (.func gf) #[] lb)
    (eg : ∀ args w, (callFunc gf args).run P w = .ok (.enter gf args) w) {encs : α → Array Value} {Z : α → World → Prop} {X : List α → α → World → World → Prop} {S Sp : List α → Prop} {N : Nat} (hseq : SeqW P (n - 1) gf lb encs Z X S Sp N w) (hZ : ∀ x, Stays w.heap.size (Z x))
    (hps : ∀ x, (encs x).size = ps.size)
    (I : List α → World → Prop) (Ix : Code → List α → World → Prop) (hI : ∀ pre, Stays w.heap.size (I pre)) (hIx : ∀ c pre, Stays w.heap.size (Ix c pre)) (h0 : I [] w)
    (I' : List α → α → World → Prop) (hI' : ∀ pre x, Stays w.heap.size (I' pre x)) (hprep : ∀ (pre : List α) (x : α) (W0 W1 : World), I pre W0 → Kp [] W0 W1 → X pre x W0 W1 → pre.length < N → I' pre x W1)
    (A : Array Value → List α → α → Act → World → Prop) (hA : ∀ pre x a', Stays w.heap.size (A a.tmps pre x a'))
    (hassign : ∀ (pre : List α) (x : α) (W : World), I' pre x W → ∀ K : Act → World → Prop, (∀ a' W', Kp [] W W' → A a.tmps pre x a' W' → K a' W') →
      assign.wpIn (Fence.wide.inRound (w.heap.size + 1)) (n - 1 - 1) P (Exit.then K (fun _ _ _ => False)) { tmps := (ps.zip (encs x)).foldl (fun t (p, v) => t.setIfInBounds p v) a.tmps, defers := [] } W)
    (hbody : ∀ (pre : List α) (x : α) (a' : Act) (W : World), I' pre x W → A a.tmps pre x a' W → pre.length < N → (∃ o, W.heap[w.heap.size + 1]? = some o ∧ o.isCells = false) → (∃ o, W.heap[w.heap.size]? = some o ∧ o.isCells = false) →
      body.wpIn (Fence.wide.inRound (w.heap.size + 1)) (n - 1 - 1) P (roundEnd (w.heap.size + 1) w.heap.size (Z x) I Ix (pre ++ [x]) W) a' W)
    (hdone : ∀ (xs : List α) (W : World), S xs → I xs W → W.heap[w.heap.size]? = some (.deferred (some [])) → Q .normal { a with defers := markOf w.heap.size :: a.defers } W)
    (hstop : ∀ (c : Code) (pre : List α) (W : World), Sp pre → Ix c pre W → W.heap[w.heap.size]? = some (.deferred (some [])) → c.wp P Q { a with defers := markOf w.heap.size :: a.defers } W) :
    (Code.rangeFunc g ps assign body).wp P Q a w := by
  refine (wpIn_wide (n := n)).1 (wpIn_rangeFunc ?_)
  intro fn hfn
  show ∃ (l : Nat) (mark : List Deferred) (w₁ : World) (d : Deferred) (w₁' : World) (f : FuncId) (args : Array Value) (w₂ : World), (Instr.enterLoop fn a.tmps ps assign body none).run P w = .ok (l, mark) w₁ ∧ _
  obtain ⟨rec, hrec⟩ : ∃ rec : LoopState → Option Code → Loop, rec = fun st pe => { state := st, pending := pe, fn, tmps := a.tmps, params := ps, assign, body, defers := w.heap.size } := ⟨_, rfl⟩
  obtain ⟨W1, hW1⟩ : ∃ W1, (w.alloc (.deferred (some []))).alloc (.loop (rec .ready none)) = W1 := ⟨_, rfl⟩
  have hk1 : Kp [] w W1 := by rw [← hW1]; exact ((Kp.refl [] w).alloc _).alloc _
  have hL1 : W1.heap[w.heap.size + 1]? = some (.loop (rec .ready none)) := by
    rw [← hW1]; have := World.alloc_heap_new (w.alloc (.deferred (some []))) (.loop (rec .ready none)); rwa [World.size_alloc] at this
  have hD1 : W1.heap[w.heap.size]? = some (.deferred (some [])) := by
    rw [← hW1]; exact (Below.heap_alloc _ _ _ (by simp)).trans (World.alloc_heap_new w _)
  have kept : ∀ {A B : World} {k : Nat} {o : Obj}, Kp [] A B → A.heap[k]? = some o → B.heap[k]? = some o := fun hk h => (hk.block _ (Array.getElem?_eq_some_iff.1 h).1 (by simp)).trans h
  refine ⟨w.heap.size + 1, [markOf w.heap.size], W1, { target := .fn (.func gf) lb, args := #[.func (.yield (w.heap.size + 1)) #[] #[]] }, W1, gf, #[.func (.yield (w.heap.size + 1)) #[] #[]] ++ lb, W1, ?_, ?_, fun _ _ => trivial, ?_, fun h => by simp [Fence.wide] at h, ?_⟩
  · rw [← hW1, hrec]; exact run_enterLoop_outer _ _ _ _ _
  · simp only [resolve, hg]
    simp [go_sem]
  · simp [invoke, go_sem, eg]
  · refine (hseq (w.heap.size + 1)
      (fun pre W => I pre W ∧ W.heap[w.heap.size + 1]? = some (.loop (rec .ready none)) ∧ W.heap[w.heap.size]? = some (.deferred (some [])))
      (fun pre W => ∃ c, Ix c pre W ∧ W.heap[w.heap.size + 1]? = some (.loop (rec .done (some c))) ∧ W.heap[w.heap.size]? = some (.deferred (some [])))
      W1 hk1 (fun s A B ⟨h1, h2, h3⟩ hk => ⟨(hI s).kp h1 hk, kept hk h2, kept hk h3⟩) (fun s A B ⟨c, h1, h2, h3⟩ hk => ⟨c, (hIx c s).kp h1 hk, kept hk h2, kept hk h3⟩) ?_ ⟨(hI []).kp h0 hk1, hL1, hD1⟩).mono ?_
    · rintro pre x W0 W ⟨hi0, hl0, hd0⟩ hk0 hx hlen
      have hi := hprep pre x W0 W hi0 hk0 hx hlen
      have hl := kept hk0 hl0
      have hd := kept hk0 hd0
      have hlt : w.heap.size + 1 < W.heap.size := (Array.getElem?_eq_some_iff.1 hl).1
      have hy := run_yield (P := P) (args := encs x) hl (by rw [hrec]; exact hps x)
      rw [hrec] at hy
      refine ⟨fn, _, assign, body, hy, roundIn_of_wpIn hfn (hassign pre x W hi _ fun a' Wa hka hAa => ?_)⟩
      have hla := kept hka hl
      have hda := kept hka hd
      refine ⟨Wa.putObj (w.heap.size + 1) (.loop { rec .ready none with state := .busy }), by have := run_beginRound (P := P) hla (by rw [hrec]); exact this, ?_⟩
      have hlta : w.heap.size + 1 < Wa.heap.size := (Array.getElem?_eq_some_iff.1 hla).1
      have hl2 : (Wa.putObj (w.heap.size + 1) (.loop { rec .ready none with state := .busy })).heap[w.heap.size + 1]? = some (.loop { rec .ready none with state := .busy }) := World.putObj_heap_same hlta
      have hd2 : (Wa.putObj (w.heap.size + 1) (.loop { rec .ready none with state := .busy })).heap[w.heap.size]? = some (.deferred (some [])) := (World.putObj_heap_other (by omega)).trans hda
      refine wpIn_mono (hbody pre x a' _ ((hI' pre x).put ((hI' pre x).kp hi hka) _ (by omega) hla rfl) ((hA pre x a').put hAa _ (by omega) hla rfl) hlen ⟨_, hl2, rfl⟩ ⟨_, hd2, rfl⟩) ?_
      have fin : ∀ (jump : Option Code) (W3 : World), Same2 (w.heap.size + 1) w.heap.size (Wa.putObj (w.heap.size + 1) (.loop { rec .ready none with state := .busy })) W3 →
          (Instr.endRound (w.heap.size + 1) jump).run P W3 = .ok (.bool jump.isNone) (W3.putObj (w.heap.size + 1) (.loop (rec (if jump.isNone then .ready else .done) jump))) ∧
          W3.heap[w.heap.size + 1]? = some (.loop { rec .ready none with state := .busy }) ∧
          (W3.putObj (w.heap.size + 1) (.loop (rec (if jump.isNone then .ready else .done) jump))).heap[w.heap.size + 1]? = some (.loop (rec (if jump.isNone then .ready else .done) jump)) ∧
          (W3.putObj (w.heap.size + 1) (.loop (rec (if jump.isNone then .ready else .done) jump))).heap[w.heap.size]? = some (.deferred (some [])) := fun jump W3 hs => by
        have hl3 := hs.1.trans hl2
        have hd3 := hs.2.trans hd2
        have := run_endRound (P := P) jump hl3
        rw [hrec] at this ⊢
        exact ⟨this, by rw [hrec] at hl3; exact hl3, World.putObj_heap_same (Array.getElem?_eq_some_iff.1 hl3).1, (World.putObj_heap_other (by omega)).trans hd3⟩
      rintro e a3 W3 hp
      cases e with
      | normal =>
        obtain ⟨hs, hk3, hi3⟩ := hp
        obtain ⟨hr, hl3, hl4, hd4⟩ := fin none W3 hs
        exact ⟨_, _, hr, .inl ⟨rfl, ⟨(hI _).put hi3 _ (by omega) hl3 rfl, hl4, hd4⟩, (hZ x).put hk3 _ (by omega) hl3 rfl⟩⟩
      | ret =>
        obtain ⟨hs, hi3⟩ := hp
        obtain ⟨hr, hl3, hl4, hd4⟩ := fin (some .ret) W3 hs
        exact ⟨_, _, hr, .inr ⟨rfl, .ret, (hIx _ _).put hi3 _ (by omega) hl3 rfl, hl4, hd4⟩⟩
      | exit id =>
        obtain ⟨hs, hi3⟩ := hp
        obtain ⟨hr, hl3, hl4, hd4⟩ := fin (some (.exit id)) W3 hs
        exact ⟨_, _, hr, .inr ⟨rfl, .exit id, (hIx _ _).put hi3 _ (by omega) hl3 rfl, hl4, hd4⟩⟩
      | goto t =>
        obtain ⟨hs, hi3⟩ := hp
        obtain ⟨hr, hl3, hl4, hd4⟩ := fin (some (.goto t)) W3 hs
        exact ⟨_, _, hr, .inr ⟨rfl, .goto t, (hIx _ _).put hi3 _ (by omega) hl3 rfl, hl4, hd4⟩⟩
      | panic ch => exact hp.elim
      | outgrown => exact hp.elim
    · rintro e W2 ⟨⟨v, rfl⟩, (⟨xs, hS, hi, hl, hd⟩ | ⟨pre, hSp, c, hi, hl, hd⟩)⟩
      · exact ⟨none, _, by have := run_endLoop (P := P) hl (by rw [hrec]; simp); rw [hrec] at this; exact this, hdone _ _ hS ((hI _).put hi _ (by omega) hl rfl) ((World.putObj_heap_other (by omega)).trans hd)⟩
      · exact ⟨some c, _, by have := run_endLoop (P := P) hl (by rw [hrec]; simp); rw [hrec] at this; exact this, wpIn_wide.2 (hstop c pre _ hSp ((hIx c pre).put hi _ (by omega) hl rfl) ((World.putObj_heap_other (by omega)).trans hd))⟩
end Go.Proofs.Ytdmdnphbheomoaa
