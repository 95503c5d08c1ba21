/- WireReads: 'bytes'; 'asks': Signed, Hash, Raw, List, End, none. -/
import Derived.Test.YtdcmncmpoinlaaaWireBJ
namespace Go.Proofs.Ytdcmncmpoinlaaa
open Go.RowKit

set_option maxRecDepth 100000 in
set_option maxHeartbeats 1000000 in
theorem bytes_true (u y : Value) (n : Nat) (cs : List UInt8) (w : World) (hu : Ow w 5 1 u n (bv cs)) (hy : Rd w 1 y n (bv cs)) (hn : n + 9 ≤ 140737488355328) :
    Calls Try.prog 58 #[u, y] w fun e w' => e = .returned (.bool true) ∧ Kp u.ownBlock.toList w w' := by
  obtain ⟨i0, hi0, hz0, hz1, hz2⟩ := info_parts Try.infoU8
  obtain ⟨A, c, rfl, _, _⟩ := ow_form hu
  obtain ⟨B, d, rfl⟩ := rd_form hy
  have hl : ∀ g, (Value.slice A n c).ownBlock = some g → g < w.heap.size := fun g hg => ow_lt hu hg
  go_enter Try.func58, Try.ntmps58
  go_wp2_with (first
    | (go_at_call 16; go_loud (refine (same_true _ _ cs _ _ w (Rd.of_own hu) hy).mono ?_); rintro e w' ⟨rfl, rfl⟩)
    | (go_at_call 20; go_loud (refine (spoil_any _ n _ w hu (by omega)).mono ?_); rintro e w3 ⟨rfl, o3, k3⟩))
  go_loopw [0, 6] (fun x t wr => ∃ j : Nat, j ≤ 9 ∧ t = .int .i64 (j : Int) ∧ ∃ xs, Ow wr 5 1 x (n + j) xs ∧ Kp (Value.slice A n c).ownBlock.toList w wr ∧ (x.ownBlock = (Value.slice A n c).ownBlock ∨ ∃ g, x.ownBlock = some g ∧ w.heap.size ≤ g)) (fun _ t _ => 9 - (intOf t).toNat)
  case atStart => exact ⟨0, Nat.zero_le _, rfl, _, o3, k3, .inl rfl⟩
  case round =>
    obtain ⟨j, hj, rfl, xs, ho, hk, hs⟩ := hrel
    by_cases hj2 : j < 9
    · have Hs := Lib.hid (And.intro ho (And.intro hk hs))
      have h63 := Lib.hid (show n + j + 1 ≤ maxLen by unfold maxLen; omega)
      have h47 := Lib.hid (show (n + j + 1) * 1 ≤ 140737488355328 by omega)
      clear ho hk hs o3 k3
      go_wp2_with (at_builtin; go_loud (refine wpList_app _ rfl (.tmp 16) (.tmp 17) _ rfl 5 i0 _ 1 1 Try.underlying36 hi0 hz0 hz1 hz2 rfl (by decide) _ (n + j) xs rfl (ow_kp Hs.out.1 ((Kp.refl [] _).alloc _) (by simp)) (.slice (some ⟨wr.heap.size, 0, none⟩) 1 1) 1 (bv [99]) rfl (rd_new _ _ _) (bv_one _) h63.out h47.out ?_))
      intro v' w4 hown4 hg4 hat4
      go_wp2
      go_roundw
      case rel =>
        have hks := Hs.out.2.1.size
        refine ⟨j + 1, by omega, by go_num, _, hown4, (Hs.out.2.1.alloc _).grown hg4 (fun g hg => ?_), ?_⟩
        · rcases Hs.out.2.2 with e | ⟨g', e, hg'⟩
          · exact .inl (by rw [← e, hg]; simp)
          · rw [e] at hg; cases hg; exact .inr hg'
        · rcases hat4 with e | e
          · rw [e]; exact Hs.out.2.2
          · exact .inr ⟨_, e, by first | omega | (simp; omega)⟩
      case measure => simp [intOf]; omega
    · obtain rfl : j = 9 := by omega
      obtain ⟨A2, c2, rfl, _, _⟩ := ow_form ho
      have hlen : decide ((9 : Int) ≤ (n : Int) + 9) = true := by rw [decide_eq_true_eq]; omega
      go_wp2
      go_ret
      exact ⟨rfl, hk⟩

set_option maxRecDepth 100000 in
set_option maxHeartbeats 1000000 in
theorem asks_5 (p : Nat) (v : Value) (a : Nat) (d : Nat) (x : Value) (bs : List UInt8) (n wd : Int) (w : World) (h : RD w p v a d x a bs) :
    Calls Try.prog 23 #[.pointer (some ⟨p, 0, none⟩), .pointer (some ⟨d, 0, none⟩), .agg #[.int .i64 5, .int .i64 n, .int .i64 wd]] w (AskPost p v (stepAt bs a 8) d x bs w) := by
  have k0 : Kp [] w (w.alloc (.cells #[.int .i64 5, .int .i64 n, .int .i64 wd] 63)) := (Kp.refl [] w).alloc _
  have h0 := h.kp0 k0
  by_cases hk : a + 8 ≤ bs.length
  · rw [show stepAt bs a 8 = a + 8 from if_pos hk]
    have ht := r_signed p v a bs hk _ h0.rr
    have hn := fun W hd => d_signed d x a bs hk W hd
    generalize wrap64 (num ((bs.drop a).take 8)) = N at *
    have Ht := Lib.hid ht
    have Hn := Lib.hid hn
    clear ht hn
    go_enter Try.func23, Try.ntmps23
    go_wp2_with (first
      | (go_at_call 52; refine Ht.out.mono ?_; rintro e w1 ⟨rfl, k1, r1⟩; have h1 := h0.stepR k1 r1)
      | (go_at_call 53; refine (Hn.out _ h1.dr).mono ?_; rintro e w2 ⟨rfl, r2, k2⟩)
      | (go_at_call 17; refine (num_any _ _).mono ?_; rintro e w' ⟨rfl, rfl⟩))
    go_ret
    exact askpost h k0 k1 k2 (h1.stepD k2 r2)
  · rw [show stepAt bs a 8 = a from if_neg hk]
    have ht := r_signed_end p v a bs (by omega) _ h0.rr
    have hn := fun W hd => d_signed_end d x a bs (by omega) W hd
    have Ht := Lib.hid ht
    have Hn := Lib.hid hn
    clear ht hn
    go_enter Try.func23, Try.ntmps23
    go_wp2_with (first
      | (go_at_call 52; refine Ht.out.mono ?_; rintro e w1 ⟨rfl, k1⟩; have h1 := h0.kp0 k1)
      | (go_at_call 53; refine (Hn.out _ h1.dr).mono ?_; rintro e w2 ⟨rfl, k2⟩)
      | (go_at_call 17; refine (num_any _ _).mono ?_; rintro e w' ⟨rfl, rfl⟩))
    go_ret
    exact askpost h k0 (k1.more (by simp)) (k2.more (by simp)) (h1.kp0 k2)

set_option maxRecDepth 100000 in
set_option maxHeartbeats 1000000 in
theorem asks_0 (p : Nat) (v : Value) (a : Nat) (d : Nat) (x : Value) (bs : List UInt8) (kd n wd : Int) (w : World) (h : RD w p v a d x a bs) (hkd : kd < 1 ∨ 9 < kd) :
    Calls Try.prog 23 #[.pointer (some ⟨p, 0, none⟩), .pointer (some ⟨d, 0, none⟩), .agg #[.int .i64 kd, .int .i64 n, .int .i64 wd]] w (AskPost p v a d x bs w) := by
  have k0 : Kp [] w (w.alloc (.cells #[.int .i64 kd, .int .i64 n, .int .i64 wd] 63)) := (Kp.refl [] w).alloc _
  have h0 := h.kp0 k0
  have n1 : (kd == 1) = false := by simp; omega
  have n2 : (kd == 2) = false := by simp; omega
  have n3 : (kd == 3) = false := by simp; omega
  have n4 : (kd == 4) = false := by simp; omega
  have n5 : (kd == 5) = false := by simp; omega
  have n6 : (kd == 6) = false := by simp; omega
  have n7 : (kd == 7) = false := by simp; omega
  have n8 : (kd == 8) = false := by simp; omega
  have n9 : (kd == 9) = false := by simp; omega
  clear hkd
  go_enter Try.func23, Try.ntmps23
  go_wp2
  go_ret
  exact askpost h k0 (Kp.refl _ _) (Kp.refl _ _) h0

set_option maxRecDepth 100000 in
set_option maxHeartbeats 1000000 in
theorem asks_9 (p : Nat) (v : Value) (a : Nat) (d : Nat) (x : Value) (bs : List UInt8) (n wd : Int) (w : World) (h : RD w p v a d x a bs) :
    Calls Try.prog 23 #[.pointer (some ⟨p, 0, none⟩), .pointer (some ⟨d, 0, none⟩), .agg #[.int .i64 9, .int .i64 n, .int .i64 wd]] w (AskPost p v a d x bs w) := by
  have k0 : Kp [] w (w.alloc (.cells #[.int .i64 9, .int .i64 n, .int .i64 wd] 63)) := (Kp.refl [] w).alloc _
  have h0 := h.kp0 k0
  have ht := r_end p v a bs _ h0.rr
  have hle := h.rr.le
  have hlen := h.rr.len
  obtain ⟨m, hm⟩ : ∃ m, m = bs.length - a := ⟨_, rfl⟩
  have hn := fun W hd => d_leftn d x a bs m (by omega) W hd
  have Hn := Lib.hid hn
  have hm2 : m ≤ 140737488355328 := by omega
  by_cases hlt : a < bs.length
  · rw [if_pos hlt] at ht
    have hm0 : 0 < m := by omega
    have Ht := Lib.hid ht
    clear ht hn hlt hm hle hlen
    go_enter Try.func23, Try.ntmps23
    go_wp2_with (first
      | (go_at_call 28; refine Ht.out.mono ?_; rintro e w1 ⟨rfl, nq, hw1⟩; have k1 : Kp [] _ w1 := hw1 ▸ Kp.drew' nq; have h1 := h0.kp0 k1; clear hw1)
      | (go_at_call 26; refine (Hn.out _ h1.dr).mono ?_; rintro e w2 ⟨rfl, nr, hw2⟩; have k2 : Kp [] _ w2 := hw2 ▸ Kp.drew' nr; clear hw2)
      | (go_at_call 17; refine (num_any _ _).mono ?_; rintro e w' ⟨rfl, rfl⟩))
    go_ret
    exact askpost h k0 (k1.more (by simp)) (k2.more (by simp)) (h1.kp0 k2)
  · rw [if_neg hlt] at ht
    obtain rfl : m = 0 := by omega
    have Ht := Lib.hid ht
    clear ht hn hlt hm hle hlen
    go_enter Try.func23, Try.ntmps23
    go_wp2_with (first
      | (go_at_call 28; refine Ht.out.mono ?_; rintro e w1 ⟨rfl, nq, hw1⟩; have k1 : Kp [] _ w1 := hw1 ▸ Kp.drew' nq; have h1 := h0.kp0 k1; clear hw1)
      | (go_at_call 26; refine (Hn.out _ h1.dr).mono ?_; rintro e w2 ⟨rfl, nr, hw2⟩; have k2 : Kp [] _ w2 := hw2 ▸ Kp.drew' nr; clear hw2)
      | (go_at_call 17; refine (num_any _ _).mono ?_; rintro e w' ⟨rfl, rfl⟩))
    go_ret
    exact askpost h k0 (k1.more (by simp)) (k2.more (by simp)) (h1.kp0 k2)

/-- What 'asks' does behind two answers that are bytes. -/
def RawPost (p : Nat) (v : Value) (a' : Nat) (bs cs : List UInt8) (er : Int) (w : World) (e : Ending) (w' : World) : Prop :=
  ∃ u, e = .returned (.tuple #[u, .int .i64 er]) ∧ Ow w' 5 1 u cs.length (bv cs) ∧ Kp [p] w w' ∧ Rr w' p v a' bs ∧ ∀ b, u.ownBlock = some b → w.heap.size ≤ b
def RawPostD (d : Nat) (x : Value) (a' : Nat) (bs cs : List UInt8) (er : Int) (w : World) (e : Ending) (w' : World) : Prop :=
  ∃ u, e = .returned (.tuple #[u, .int .i64 er]) ∧ Ow w' 5 1 u cs.length (bv cs) ∧ Kp [d] w w' ∧ Dr w' d x a' bs ∧ ∀ b, u.ownBlock = some b → w.heap.size ≤ b

theorem askpost2 {w w1 w2 w3 w' : World} {p a a' d : Nat} {v x : Value} {bs : List UInt8} {S : List Nat} (h0 : RD w p v a d x a bs) (k0 : Kp [] w w1) (k1 : Kp [p] w1 w2) (k2 : Kp [d] w2 w3) (h : RD w3 p v a' d x a' bs) (k3 : Kp S w3 w') (hS : ∀ g, g ∈ S → w.heap.size ≤ g) : AskPost p v a' d x bs w (.returned (.bool true)) w' :=
  ⟨rfl, (((k0.more (T := [p, d]) (by simp)).trans k1 (fun g hg => .inl (by simp at hg; simp [hg]))).trans k2 (fun g hg => .inl (by simp at hg; simp [hg]))).trans k3 (fun g hg => .inr (hS g hg)), h0.far h k3 hS⟩

set_option maxRecDepth 100000 in
set_option maxHeartbeats 1000000 in
theorem asks_7in (p : Nat) (v : Value) (a a' : Nat) (d : Nat) (x : Value) (bs cs : List UInt8) (n wd er : Int) (w : World) (h : RD w p v a d x a bs) (hcs : cs.length + 9 ≤ 140737488355328)
    (hr : ∀ W, Rr W p v a bs → Calls Try.prog 56 #[.pointer (some ⟨p, 0, none⟩), .int .i64 n] W (RawPost p v a' bs cs er W))
    (hd : ∀ W, Dr W d x a bs → Calls Try.prog 57 #[.pointer (some ⟨d, 0, none⟩), .int .i64 n] W (RawPostD d x a' bs cs er W)) :
    Calls Try.prog 23 #[.pointer (some ⟨p, 0, none⟩), .pointer (some ⟨d, 0, none⟩), .agg #[.int .i64 7, .int .i64 n, .int .i64 wd]] w (AskPost p v a' d x bs w) := by
  have k0 : Kp [] w (w.alloc (.cells #[.int .i64 7, .int .i64 n, .int .i64 wd] 63)) := (Kp.refl [] w).alloc _
  have b0 : Blk (w.alloc (.cells #[.int .i64 7, .int .i64 n, .int .i64 wd] 63)) w.heap.size 63 #[.int .i64 7, .int .i64 n, .int .i64 wd] := Blk.new _ _ _
  have h0 := h.kp0 k0
  have hpl := h.rr.blk.lt
  have hdl := h.dr.blk.lt
  have Hr := Lib.hid hr
  have Hd := Lib.hid hd
  clear hr hd
  go_enter Try.func23, Try.ntmps23
  go_wp2_with (first
    | (go_at_call 56; refine (Hr.out _ h0.rr).mono ?_; rintro e w1 ⟨u, rfl, o1, k1, r1, f1⟩; have h1 := h0.stepR k1 r1; have b1 := b0.kp k1 (by simp; omega); have c1 := b1.cell 1; obtain ⟨A1, e1, rfl, _, _⟩ := ow_form o1)
    | (go_at_call 57; refine (Hd.out _ h1.dr).mono ?_; rintro e w2 ⟨y, rfl, o2, k2, r2, f2⟩; have h2 := h1.stepD k2 r2; obtain ⟨A2, e2, rfl, _, _⟩ := ow_form o2; have o1' := ow_kp o1 k2 (fun g hg hm => by have := f1 g hg; simp at hm this; omega))
    | (go_at_call 58; refine (bytes_true _ _ _ cs _ o1' (Rd.of_own o2) hcs).mono ?_; rintro e w3 ⟨rfl, k3⟩)
    | (go_at_call 17; refine (num_any _ _).mono ?_; rintro e w' ⟨rfl, rfl⟩))
  go_ret
  exact askpost2 h k0 k1 k2 h2 k3 (fun g hg => by have := f1 g (by simpa using hg); simp at this; omega)

set_option maxRecDepth 100000 in
set_option maxHeartbeats 1000000 in
theorem asks_8in (p : Nat) (v : Value) (a a' : Nat) (d : Nat) (x : Value) (bs cs : List UInt8) (n wd er : Int) (w : World) (h : RD w p v a d x a bs) (hcs : cs.length + 9 ≤ 140737488355328)
    (hr : ∀ W, Rr W p v a bs → Calls Try.prog 59 #[.pointer (some ⟨p, 0, none⟩), .int .i64 wd, .int .i64 n] W (RawPost p v a' bs cs er W))
    (hd : ∀ W, Dr W d x a bs → Calls Try.prog 60 #[.pointer (some ⟨d, 0, none⟩), .int .i64 wd, .int .i64 n] W (RawPostD d x a' bs cs er W)) :
    Calls Try.prog 23 #[.pointer (some ⟨p, 0, none⟩), .pointer (some ⟨d, 0, none⟩), .agg #[.int .i64 8, .int .i64 n, .int .i64 wd]] w (AskPost p v a' d x bs w) := by
  have k0 : Kp [] w (w.alloc (.cells #[.int .i64 8, .int .i64 n, .int .i64 wd] 63)) := (Kp.refl [] w).alloc _
  have b0 : Blk (w.alloc (.cells #[.int .i64 8, .int .i64 n, .int .i64 wd] 63)) w.heap.size 63 #[.int .i64 8, .int .i64 n, .int .i64 wd] := Blk.new _ _ _
  have h0 := h.kp0 k0
  have hpl := h.rr.blk.lt
  have hdl := h.dr.blk.lt
  have Hr := Lib.hid hr
  have Hd := Lib.hid hd
  clear hr hd
  go_enter Try.func23, Try.ntmps23
  go_wp2_with (first
    | (go_at_call 59; refine (Hr.out _ h0.rr).mono ?_; rintro e w1 ⟨u, rfl, o1, k1, r1, f1⟩; have h1 := h0.stepR k1 r1; have b1 := b0.kp k1 (by simp; omega); have c1 := b1.cell 1; have c2 := b1.cell 2; obtain ⟨A1, e1, rfl, _, _⟩ := ow_form o1)
    | (go_at_call 60; refine (Hd.out _ h1.dr).mono ?_; rintro e w2 ⟨y, rfl, o2, k2, r2, f2⟩; have h2 := h1.stepD k2 r2; obtain ⟨A2, e2, rfl, _, _⟩ := ow_form o2; have o1' := ow_kp o1 k2 (fun g hg hm => by have := f1 g hg; simp at hm this; omega))
    | (go_at_call 58; refine (bytes_true _ _ _ cs _ o1' (Rd.of_own o2) hcs).mono ?_; rintro e w3 ⟨rfl, k3⟩)
    | (go_at_call 17; refine (num_any _ _).mono ?_; rintro e w' ⟨rfl, rfl⟩))
  go_ret
  exact askpost2 h k0 k1 k2 h2 k3 (fun g hg => by have := f1 g (by simpa using hg); simp at this; omega)
end Go.Proofs.Ytdcmncmpoinlaaa
