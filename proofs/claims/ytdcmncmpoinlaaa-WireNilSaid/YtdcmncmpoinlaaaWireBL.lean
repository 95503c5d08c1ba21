/- WireReads: 'asks': Hash; all kinds. -/
import Derived.Test.YtdcmncmpoinlaaaWireBK
namespace Go.Proofs.Ytdcmncmpoinlaaa
open Go.RowKit

def AskPostH (p : Nat) (v : Value) (a' : Nat) (bs cs : List UInt8) (er : Int) (w : World) (e : Ending) (w' : World) : Prop :=
  e = .returned (.tuple #[.agg (hashA cs), .int .i64 er]) ∧ Kp [p] w w' ∧ Rr w' p v a' bs
def AskPostHD (d : Nat) (x : Value) (a' : Nat) (bs cs : List UInt8) (er : Int) (w : World) (e : Ending) (w' : World) : Prop :=
  e = .returned (.tuple #[.agg (hashA cs), .int .i64 er]) ∧ Kp [d] w w' ∧ Dr w' d x a' bs

theorem eqH (w : World) (cs : List UInt8) (h : cs.length = 32) : (Op.equalIn 10000 50 (.agg (hashA cs)) (.agg (hashA cs))).run Try.prog w = .ok true w := by
  obtain ⟨i, hi⟩ : ∃ i, Try.prog.info? 5 = some i := by
    have := Try.infoU8
    cases h : Try.prog.info? 5 with
    | none => rw [h] at this; cases this
    | some i => exact ⟨i, rfl⟩
  have := run_eq_bytes (P := Try.prog) w 9998 50 5 32 i Try.underlying50 hi (by kernel_rfl) Try.underlying5 cs cs h h
  rwa [beq_self_eq_true] at this

set_option maxRecDepth 100000 in
set_option maxHeartbeats 1000000 in
theorem asks_6in (p : Nat) (v : Value) (a a' : Nat) (d : Nat) (x : Value) (bs cs : List UInt8) (n wd er : Int) (w : World) (h : RD w p v a d x a bs) (hcs : cs.length = 32)
    (hr : ∀ W, Rr W p v a bs → Calls Try.prog 54 #[.pointer (some ⟨p, 0, none⟩)] W (AskPostH p v a' bs cs er W))
    (hd : ∀ W, Dr W d x a bs → Calls Try.prog 55 #[.pointer (some ⟨d, 0, none⟩)] W (AskPostHD d x a' bs cs er W)) :
    Calls Try.prog 23 #[.pointer (some ⟨p, 0, none⟩), .pointer (some ⟨d, 0, none⟩), .agg #[.int .i64 6, .int .i64 n, .int .i64 wd]] w (AskPost p v a' d x bs w) := by
  have k0 : Kp [] w (w.alloc (.cells #[.int .i64 6, .int .i64 n, .int .i64 wd] 63)) := (Kp.refl [] w).alloc _
  have h0 := h.kp0 k0
  have Heq := fun w => eqH w cs hcs
  have h1c : ∀ u ∈ (hashA cs).toList, u.oneCell' = true := bv_one _
  have Hz := Lib.hid (show (hashA cs).size = 32 by rw [hashA_size, hcs])
  have hpl := h.rr.blk.lt
  have hdl := h.dr.blk.lt
  obtain ⟨ha, hha⟩ : ∃ ha, ha = hashA cs := ⟨_, rfl⟩
  unfold AskPostH at hr
  unfold AskPostHD at hd
  rw [← hha] at hr hd Heq h1c Hz
  have Hr := Lib.hid hr
  have Hd := Lib.hid hd
  clear hr hd hcs hha
  go_enter Try.func23, Try.ntmps23
  go_wp2_with (first
    | (go_at_call 54; refine (Hr.out _ h0.rr).mono ?_; rintro e w1 ⟨rfl, k1, r1⟩; have h1 := h0.stepR k1 r1)
    | (go_at_call 55; refine (Hd.out _ h2.dr).mono ?_; rintro e w3 ⟨rfl, k3, r3⟩; have h3 := h2.stepD k3 r3)
    | (refine wpList_store_agg rfl 50 (.tmp 27) (.tmp 155) rfl w1.heap.size 0 rfl ha rfl 50 (hashA (List.replicate 32 0)) (Blk.new _ _ _) (by rw [Try.infoHash, Hz.out]) (by rw [Hz.out]; decide) h1c ?_; intro w2 c2 k2; rw [set_all _ ha (by rw [Hz.out]; rfl)] at c2; have k2' := ((Kp.refl [] w1).alloc _).trans k2 (fun g hg => .inr (by simp at hg; omega)); have h2 := h1.kp0 k2')
    | (refine wpList_store_agg rfl 50 (.tmp 29) (.tmp 160) rfl w3.heap.size 0 rfl ha rfl 50 (hashA (List.replicate 32 0)) (Blk.new _ _ _) (by rw [Try.infoHash, Hz.out]) (by rw [Hz.out]; decide) h1c ?_; intro w4 c4 k4; rw [set_all _ ha (by rw [Hz.out]; rfl)] at c4; have k4' := ((Kp.refl [] w3).alloc _).trans k4 (fun g hg => .inr (by simp at hg; omega)); have h4 := h3.kp0 k4'; have c5 := (c2.kp k3 (by have := k1.size; have := h1.dr.blk.lt; simp; omega)).kp k4' (by simp); have Hc4 := Lib.hid c4.agg; have Hc5 := Lib.hid c5.agg)
    | (refine wpList_load_agg rfl 50 (.tmp 27) rfl ⟨w1.heap.size, 0, none⟩ rfl ha.toList _ Hc5.out Try.underlying50 rfl (by rw [Try.infoHash, Array.length_toList, Hz.out]) ?_)
    | (refine wpList_load_agg rfl 50 (.tmp 29) rfl ⟨w3.heap.size, 0, none⟩ rfl ha.toList _ Hc4.out Try.underlying50 rfl (by rw [Try.infoHash, Array.length_toList, Hz.out]) ?_)
    | (go_at_call 17; refine (num_any _ _).mono ?_; rintro e w' ⟨rfl, rfl⟩))
  go_ret
  exact askpost h k0 (k1.trans k2' (by simp)) (k3.trans k4' (by simp)) h4

theorem rawpost_end {p a : Nat} {v : Value} {bs : List UInt8} {er : Int} {w w' : World} (h : Rr w p v a bs) (hk : Kp [] w w') : RawPost p v a bs [] er w (.returned (.tuple #[.slice none 0 0, .int .i64 er])) w' :=
  ⟨_, rfl, World.ownsRow_nil _ _ _ _, hk.more (by simp), h.kp' hk, fun _ hb => nomatch hb⟩
theorem rawpost_endD {d a : Nat} {x : Value} {bs : List UInt8} {er : Int} {w w' : World} (h : Dr w d x a bs) (hk : Kp [] w w') : RawPostD d x a bs [] er w (.returned (.tuple #[.slice none 0 0, .int .i64 er])) w' :=
  ⟨_, rfl, World.ownsRow_nil _ _ _ _, hk.more (by simp), h.kp0 hk, fun _ hb => nomatch hb⟩

/-- The place behind Raw, and behind List. -/
def rawAt (bs : List UInt8) (a : Nat) (n : Int) : Nat := if n < 0 then a else stepAt bs a n.toNat
def listAt (bs : List UInt8) (a : Nat) (n wd : Int) : Nat :=
  if wd < 1 ∨ 4 < wd ∨ n < 0 then a else if a + wd.toNat ≤ bs.length ∧ num ((bs.drop a).take wd.toNat) ≤ n.toNat ∧ a + wd.toNat + num ((bs.drop a).take wd.toNat) ≤ bs.length then a + wd.toNat + num ((bs.drop a).take wd.toNat) else a

theorem asks_7 (p : Nat) (v : Value) (a : Nat) (d : Nat) (x : Value) (bs : List UInt8) (n wd : Int) (w : World) (h : RD w p v a d x a bs) (hbs : bs.length + 9 ≤ 140737488355328) :
    Calls Try.prog 23 #[.pointer (some ⟨p, 0, none⟩), .pointer (some ⟨d, 0, none⟩), .agg #[.int .i64 7, .int .i64 n, .int .i64 wd]] w (AskPost p v (rawAt bs a n) d x bs w) := by
  by_cases hn : n < 0
  · rw [show rawAt bs a n = a from if_pos hn]
    refine asks_7in p v a a d x bs [] n wd 2 w h (by simp) (fun W hW => (r_raw_arg p n W hn).mono ?_) (fun W hW => (d_raw_arg d n W hn).mono ?_)
    · rintro e w' ⟨rfl, rfl⟩; exact rawpost_end hW (Kp.refl _ _)
    · rintro e w' ⟨rfl, rfl⟩; exact rawpost_endD hW (Kp.refl _ _)
  · obtain ⟨k, rfl⟩ := Int.eq_ofNat_of_zero_le (show 0 ≤ n by omega)
    have hle := h.rr.le
    rw [show rawAt bs a (k : Int) = stepAt bs a k from if_neg hn]
    by_cases hk : a + k ≤ bs.length
    · rw [show stepAt bs a k = a + k from if_pos hk]
      have hl : ((bs.drop a).take k).length = k := by rw [List.length_take, List.length_drop]; omega
      refine asks_7in p v a (a + k) d x bs ((bs.drop a).take k) k wd 0 w h (by omega) (fun W hW => (r_raw p v a bs k W hW hk).mono ?_) (fun W hW => (d_raw d x a bs k W hW hk).mono ?_)
      · rintro e w' ⟨u, rfl, o, k1, r1, f1⟩; exact ⟨u, rfl, by rw [hl]; exact o, k1, r1, f1⟩
      · rintro e w' ⟨u, rfl, o, k1, r1, f1⟩; exact ⟨u, rfl, by rw [hl]; exact o, k1, r1, f1⟩
    · rw [show stepAt bs a k = a from if_neg hk]
      refine asks_7in p v a a d x bs [] k wd 110 w h (by simp) (fun W hW => (r_raw_end p v a bs k W hW (by omega)).mono ?_) (fun W hW => (d_raw_end d x a bs k W hW (by omega)).mono ?_)
      · rintro e w' ⟨rfl, k1⟩; exact rawpost_end hW k1
      · rintro e w' ⟨rfl, k1⟩; exact rawpost_endD hW k1

theorem asks_8 (p : Nat) (v : Value) (a : Nat) (d : Nat) (x : Value) (bs : List UInt8) (n wd : Int) (w : World) (h : RD w p v a d x a bs) (hbs : bs.length + 9 ≤ 140737488355328) (hn63 : n ≤ 9223372036854775807) :
    Calls Try.prog 23 #[.pointer (some ⟨p, 0, none⟩), .pointer (some ⟨d, 0, none⟩), .agg #[.int .i64 8, .int .i64 n, .int .i64 wd]] w (AskPost p v (listAt bs a n wd) d x bs w) := by
  by_cases harg : wd < 1 ∨ 4 < wd ∨ n < 0
  · rw [show listAt bs a n wd = a from if_pos harg]
    refine asks_8in p v a a d x bs [] n wd 2 w h (by simp) (fun W hW => (r_list_arg p wd n harg W).mono ?_) (fun W hW => (d_list_arg d wd n harg W).mono ?_)
    · rintro e w' ⟨rfl, k1⟩; exact rawpost_end hW k1
    · rintro e w' ⟨rfl, rfl⟩; exact rawpost_endD hW (Kp.refl _ _)
  · obtain ⟨m, rfl⟩ := Int.eq_ofNat_of_zero_le (show 0 ≤ n by omega)
    obtain ⟨k, rfl⟩ := Int.eq_ofNat_of_zero_le (show 0 ≤ wd by omega)
    have hle := h.rr.le
    rw [show listAt bs a (m : Int) (k : Int) = _ from if_neg harg, Int.toNat_natCast, Int.toNat_natCast]
    by_cases hk : a + k ≤ bs.length
    · by_cases h1 : num ((bs.drop a).take k) ≤ m
      · by_cases h2 : a + k + num ((bs.drop a).take k) ≤ bs.length
        · rw [if_pos ⟨hk, h1, h2⟩]
          have hl : ((bs.drop (a + k)).take (num ((bs.drop a).take k))).length = num ((bs.drop a).take k) := by rw [List.length_take, List.length_drop]; omega
          refine asks_8in p v a (a + k + num ((bs.drop a).take k)) d x bs ((bs.drop (a + k)).take (num ((bs.drop a).take k))) m k 0 w h (by omega) (fun W hW => (r_list p v a k m bs (by omega) (by omega) (by omega) hk W hW h1 h2).mono ?_) (fun W hW => (d_list d x a k m bs (by omega) (by omega) (by omega) hk W hW h1 h2).mono ?_)
          · rintro e w' ⟨u, rfl, o, k1, r1, f1⟩; exact ⟨u, rfl, by rw [hl]; exact o, k1, r1, f1⟩
          · rintro e w' ⟨u, rfl, o, k1, r1, f1⟩; exact ⟨u, rfl, by rw [hl]; exact o, k1, r1, f1⟩
        · rw [if_neg (fun hh => h2 hh.2.2)]
          refine asks_8in p v a a d x bs [] m k 110 w h (by simp) (fun W hW => (r_list_no p v a k m bs 110 (by omega) (by omega) (by omega) hk W hW (.inr ⟨rfl, h1, by omega⟩)).mono ?_) (fun W hW => (d_list_no d x a k m bs 110 (by omega) (by omega) (by omega) hk W hW (.inr ⟨rfl, h1, by omega⟩)).mono ?_)
          · rintro e w' ⟨rfl, k1, r1⟩; exact ⟨_, rfl, World.ownsRow_nil _ _ _ _, k1, r1, fun _ hb => nomatch hb⟩
          · rintro e w' ⟨rfl, k1, r1⟩; exact ⟨_, rfl, World.ownsRow_nil _ _ _ _, k1, r1, fun _ hb => nomatch hb⟩
      · rw [if_neg (fun hh => h1 hh.2.1)]
        refine asks_8in p v a a d x bs [] m k 3 w h (by simp) (fun W hW => (r_list_no p v a k m bs 3 (by omega) (by omega) (by omega) hk W hW (.inl ⟨rfl, by omega⟩)).mono ?_) (fun W hW => (d_list_no d x a k m bs 3 (by omega) (by omega) (by omega) hk W hW (.inl ⟨rfl, by omega⟩)).mono ?_)
        · rintro e w' ⟨rfl, k1, r1⟩; exact ⟨_, rfl, World.ownsRow_nil _ _ _ _, k1, r1, fun _ hb => nomatch hb⟩
        · rintro e w' ⟨rfl, k1, r1⟩; exact ⟨_, rfl, World.ownsRow_nil _ _ _ _, k1, r1, fun _ hb => nomatch hb⟩
    · rw [if_neg (fun hh => hk hh.1)]
      refine asks_8in p v a a d x bs [] m k 110 w h (by simp) (fun W hW => (r_list_end p v a k m bs (by omega) (by omega) (by omega) W hW).mono ?_) (fun W hW => (d_list_end d x a k m bs (by omega) (by omega) (by omega) W hW).mono ?_)
      · rintro e w' ⟨rfl, k1⟩; exact rawpost_end hW k1
      · rintro e w' ⟨rfl, k1⟩; exact rawpost_endD hW k1

theorem asks_6 (p : Nat) (v : Value) (a : Nat) (d : Nat) (x : Value) (bs : List UInt8) (n wd : Int) (w : World) (h : RD w p v a d x a bs) :
    Calls Try.prog 23 #[.pointer (some ⟨p, 0, none⟩), .pointer (some ⟨d, 0, none⟩), .agg #[.int .i64 6, .int .i64 n, .int .i64 wd]] w (AskPost p v (stepAt bs a 32) d x bs w) := by
  by_cases hk : a + 32 ≤ bs.length
  · rw [show stepAt bs a 32 = a + 32 from if_pos hk]
    refine asks_6in p v a (a + 32) d x bs ((bs.drop a).take 32) n wd 0 w h (by rw [List.length_take, List.length_drop]; omega) (fun W hW => (r_hash p v a bs hk W hW).mono ?_) (fun W hW => (d_hash d x a bs hk W hW).mono ?_)
    · rintro e w' ⟨rfl, k1, r1⟩; exact ⟨rfl, k1, r1⟩
    · rintro e w' ⟨rfl, r1, k1⟩; exact ⟨rfl, k1, r1⟩
  · rw [show stepAt bs a 32 = a from if_neg hk]
    refine asks_6in p v a a d x bs (List.replicate 32 0) n wd 110 w h (by simp) (fun W hW => (r_hash_end p v a bs (by omega) W hW).mono ?_) (fun W hW => (d_hash_end d x a bs (by omega) W hW).mono ?_)
    · rintro e w' ⟨rfl, k1⟩; exact ⟨rfl, k1.more (by simp), hW.kp' k1⟩
    · rintro e w' ⟨rfl, k1⟩; exact ⟨rfl, k1.more (by simp), hW.kp0 k1⟩

/-- The place behind an Ask. -/
def AskD.next (q : AskD) (bs : List UInt8) (a : Nat) : Nat :=
  if q.kind = 1 then stepAt bs a 1 else if q.kind = 2 then stepAt bs a 2 else if q.kind = 3 then stepAt bs a 4 else if q.kind = 4 then stepAt bs a 8 else if q.kind = 5 then stepAt bs a 8
  else if q.kind = 6 then stepAt bs a 32 else if q.kind = 7 then rawAt bs a q.n else if q.kind = 8 then listAt bs a q.n q.width else a
/-- All kinds. -/
theorem asks_any (p : Nat) (v : Value) (a : Nat) (d : Nat) (x : Value) (bs : List UInt8) (q : AskD) (w : World) (h : RD w p v a d x a bs) (hbs : bs.length + 9 ≤ 140737488355328) :
    Calls Try.prog 23 #[.pointer (some ⟨p, 0, none⟩), .pointer (some ⟨d, 0, none⟩), .agg q.cells] w (AskPost p v (q.next bs a) d x bs w) := by
  obtain ⟨kd, n, wd, hkd, hn, hw⟩ := q
  show Calls _ _ #[_, _, .agg #[.int .i64 kd, .int .i64 n, .int .i64 wd]] _ _
  simp only [AskD.next]
  by_cases hc : kd < 1 ∨ 9 < kd
  · rw [if_neg (by omega), if_neg (by omega), if_neg (by omega), if_neg (by omega), if_neg (by omega), if_neg (by omega), if_neg (by omega), if_neg (by omega)]
    exact asks_0 p v a d x bs kd n wd w h hc
  · have : kd = 1 ∨ kd = 2 ∨ kd = 3 ∨ kd = 4 ∨ kd = 5 ∨ kd = 6 ∨ kd = 7 ∨ kd = 8 ∨ kd = 9 := by omega
    rcases this with rfl | rfl | rfl | rfl | rfl | rfl | rfl | rfl | rfl
    · exact asks_1 p v a d x bs n wd w h
    · exact asks_2 p v a d x bs n wd w h
    · exact asks_3 p v a d x bs n wd w h
    · exact asks_4 p v a d x bs n wd w h
    · exact asks_5 p v a d x bs n wd w h
    · exact asks_6 p v a d x bs n wd w h
    · exact asks_7 p v a d x bs n wd w h hbs
    · exact asks_8 p v a d x bs n wd w h hbs hn.2
    · exact asks_9 p v a d x bs n wd w h
end Go.Proofs.Ytdcmncmpoinlaaa
