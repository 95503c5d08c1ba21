/- WireBack: 'back': Hash, Raw, List. -/
import Derived.Test.YtdcmncmpoinlaaaWireCA
namespace Go.Proofs.Ytdcmncmpoinlaaa
open Go.RowKit

set_option maxRecDepth 100000 in
set_option maxHeartbeats 1000000 in
theorem back_6 (p : Nat) (v : Value) (a : Nat) (bs rest : List UInt8) (cs : Array Value) (q : PutD) (B : Value) (w : World) (hc : PutC cs q B) (hkd : q.kind = 6) (h : Rr w p v a bs) (hpre : bs.drop a = q.h ++ rest) :
    Calls Try.prog 27 #[.pointer (some ⟨p, 0, none⟩), .agg cs] w (BackPost p v (a + 32) bs w) := by
  have hc0 := hc.c0
  have hch := hc.ch
  have hhl := hc.hh
  rw [hkd] at hc0
  obtain ⟨h1, h2⟩ := pre_take hpre hhl (by decide)
  have k0 : Kp [] w (w.alloc (.cells cs 52)) := (Kp.refl [] w).alloc _
  have b0 : Blk (w.alloc (.cells cs 52)) w.heap.size 52 cs := Blk.new _ _ _
  have ht := r_hash p v a bs h2 _ (h.kp' k0)
  rw [h1] at ht
  have Heq := fun w => eqH w q.h hhl
  have h1c : ∀ u ∈ (hashA q.h).toList, u.oneCell' = true := bv_one _
  have Hz := Lib.hid (show (hashA q.h).size = 32 by rw [hashA_size, hhl])
  obtain ⟨ha, hha⟩ : ∃ ha, ha = hashA q.h := ⟨_, rfl⟩
  have hbv : bv q.h = ha.toList := by rw [hha]; rfl
  rw [← hha] at ht Heq h1c Hz
  have Hch := Lib.hid hch
  have Hbv := Lib.hid hbv
  have Hhl := Lib.hid hhl
  clear h1 hpre hc hkd hha hch hbv hhl
  have Ht := Lib.hid ht
  have hpl := h.blk.lt
  have hvl := h.vlt
  have Hvl := Lib.hid hvl
  clear ht hvl
  go_enter Try.func27, Try.ntmps27
  go_wp2_with (first
    | (go_at_call 54; refine Ht.out.mono ?_; rintro e w1 ⟨rfl, k1, r1⟩; have b1 := b0.kp k1 (by simp; omega))
    | (refine wpList_store_agg rfl 50 (.tmp 15) (.tmp 112) rfl w1.heap.size 0 rfl ha rfl 50 (hashA (List.replicate 32 0)) (Blk.new _ _ _) (by rw [Try.infoHash, Hz.out]) (by rw [Hz.out]; decide) h1c ?_; intro w2 c2 k2; rw [set_all _ ha (by rw [Hz.out]; rfl)] at c2; have k2' := ((Kp.refl [] w1).alloc _).trans k2 (fun g hg => .inr (by simp at hg; omega)); have b2 := b1.kp k2' (by simp); have Hc2 := Lib.hid c2.agg; have Hb2 := Lib.hid (run_hash (P := Try.prog) 50 _ b2 Hch.out Try.underlying50 rfl Try.infoHash Hhl.out))
    | (refine wpList_load_run rfl 50 (.tmp 15) rfl (.pointer (some ⟨w1.heap.size, 0, none⟩)) rfl (.agg ha) (run_loadAt_agg w2 _ 50 ha.toList _ Hc2.out Try.underlying50 rfl (by rw [Try.infoHash, Array.length_toList, Hz.out])) ?_)
    | (refine wpList_load_run rfl 50 (.tmp 119) rfl (.pointer (some ⟨w.heap.size, 2, none⟩)) rfl (.agg ha) (by rw [Hb2.out, Hbv.out]) ?_)
    | (go_at_call 17; refine (num_any _ _).mono ?_; rintro e w' ⟨rfl, rfl⟩))
  go_ret
  exact ⟨rfl, ((k0.more (by simp)).trans k1 (fun g hg => .inl hg)).trans k2' (by simp), r1.kp' k2'⟩

set_option maxRecDepth 100000 in
set_option maxHeartbeats 1000000 in
theorem back_7 (p : Nat) (v : Value) (a : Nat) (bs rest : List UInt8) (cs : Array Value) (q : PutD) (B : Value) (w : World) (hc : PutC cs q B) (hkd : q.kind = 7) (h : Rr w p v a bs) (hpre : bs.drop a = q.b ++ rest) (hne : q.b ≠ []) (hB : Rd w 1 B q.b.length (bv q.b)) (hBp : B.ownBlock ≠ some p) :
    Calls Try.prog 27 #[.pointer (some ⟨p, 0, none⟩), .agg cs] w (BackPost p v (a + q.b.length) bs w) := by
  have hc0 := hc.c0
  have hc3 := hc.c34
  rw [hkd] at hc0
  obtain ⟨h1, h2⟩ := pre_take hpre rfl (List.length_pos_iff.2 hne)
  have k0 : Kp [] w (w.alloc (.cells cs 52)) := (Kp.refl [] w).alloc _
  have b0 : Blk (w.alloc (.cells cs 52)) w.heap.size 52 cs := Blk.new _ _ _
  have ht := r_raw p v a bs q.b.length _ (h.kp' k0) h2
  rw [h1] at ht
  obtain ⟨D, d, rfl⟩ := rd_form hB
  have Hb := Lib.hid (rd_old hB k0)
  have hcell := (b0.cell 34).trans hc3
  have HC := Lib.hid hc3
  clear h1 hpre hc hkd hB hne
  generalize q.b = c at *
  have Ht := Lib.hid ht
  have hpl := h.blk.lt
  clear ht
  go_enter Try.func27, Try.ntmps27
  go_wp2_with (first
    | (go_at_call 56; refine Ht.out.mono ?_; rintro e w1 ⟨u, rfl, o1, k1, r1, f1⟩; obtain ⟨A1, e1, rfl, _, _⟩ := ow_form o1; have c1 := ((b0.kp k1 (by simp; omega)).cell 34).trans HC.out; have Hb1 := Lib.hid (Hb.out.kp k1 (fun g hg hm => by simp at hm; subst hm; exact hBp hg)))
    | (go_at_call 16; go_loud (refine (same_true _ _ c _ _ w1 (Rd.of_own o1) Hb1.out).mono ?_); rintro e w' ⟨rfl, rfl⟩)
    | (go_at_call 17; refine (num_any _ _).mono ?_; rintro e w' ⟨rfl, rfl⟩))
  go_ret
  exact ⟨rfl, (k0.more (by simp)).trans k1 (fun g hg => .inl hg), r1⟩

set_option maxRecDepth 100000 in
set_option maxHeartbeats 1000000 in
theorem back_8 (p : Nat) (v : Value) (a k : Nat) (bs rest : List UInt8) (cs : Array Value) (q : PutD) (B : Value) (w : World) (hc : PutC cs q B) (hkd : q.kind = 8) (hwd : q.width = (k : Int)) (hk : 1 ≤ k ∧ k ≤ 4) (hlt : q.b.length < 256 ^ k) (h : Rr w p v a bs) (hpre : bs.drop a = (be k q.b.length ++ q.b) ++ rest) (hB : Rd w 1 B q.b.length (bv q.b)) (hBp : q.b ≠ [] → B.ownBlock ≠ some p) :
    Calls Try.prog 27 #[.pointer (some ⟨p, 0, none⟩), .agg cs] w (BackPost p v (a + k + q.b.length) bs w) := by
  have hc0 := hc.c0
  have hc3 := hc.c34
  have hc5 := hc.c35
  rw [hkd] at hc0
  rw [hwd] at hc5
  have hpl2 := congrArg List.length hpre
  simp only [List.length_drop, List.length_append, be_length] at hpl2
  have hnum : num ((bs.drop a).take k) = q.b.length := by
    rw [hpre, List.append_assoc, List.take_append_of_le_length (by simp), List.take_of_length_le (by simp), num_be_lt hlt]
  have hlist : (bs.drop (a + k)).take q.b.length = q.b := by
    rw [← List.drop_drop, hpre, List.append_assoc, List.drop_append_of_le_length (by simp), List.drop_of_length_le (by simp), List.nil_append, List.take_append_of_le_length (Nat.le_refl _), List.take_of_length_le (Nat.le_refl _)]
  have k0 : Kp [] w (w.alloc (.cells cs 52)) := (Kp.refl [] w).alloc _
  have b0 : Blk (w.alloc (.cells cs 52)) w.heap.size 52 cs := Blk.new _ _ _
  have hl48 := h.len
  have ht := r_list p v a k q.b.length bs hk.1 hk.2 (by omega) (by omega) _ (h.kp' k0) (by rw [hnum]; exact Nat.le_refl _) (by rw [hnum]; omega)
  rw [hnum, hlist] at ht
  obtain ⟨D, d, rfl⟩ := rd_form hB
  have Hb := Lib.hid (rd_old hB k0)
  have hcell := (b0.cell 34).trans hc3
  have hcell5 := (b0.cell 35).trans hc5
  have HC := Lib.hid hc3
  have hlen : q.b.length ≤ 140737488355328 := by omega
  clear hpre hc hkd hB hnum hlist hpl2
  generalize q.b = c at *
  have Ht := Lib.hid ht
  have hpl := h.blk.lt
  have Hbp := Lib.hid hBp
  clear ht hBp
  go_enter Try.func27, Try.ntmps27
  go_wp2_with (first
    | (go_at_call 59; refine Ht.out.mono ?_; rintro e w1 ⟨u, rfl, o1, k1, r1, f1⟩; obtain ⟨A1, e1, rfl, _, _⟩ := ow_form o1; have c1 := ((b0.kp k1 (by simp; omega)).cell 34).trans HC.out; have Hb1 := Lib.hid (Hb.out.kpl k1 (fun g hg hne hm => by simp at hm; subst hm; exact Hbp.out (bv_ne hne) hg)))
    | (go_at_call 16; go_loud (refine (same_true _ _ c _ _ w1 (Rd.of_own o1) Hb1.out).mono ?_); rintro e w' ⟨rfl, rfl⟩)
    | (go_at_call 17; refine (num_any _ _).mono ?_; rintro e w' ⟨rfl, rfl⟩))
  go_ret
  exact ⟨rfl, (k0.more (by simp)).trans k1 (fun g hg => .inl hg), r1⟩

/-- All kinds that have written something. -/
theorem back_any (p : Nat) (v : Value) (a : Nat) (bs rest : List UInt8) (cs : Array Value) (q : PutD) (B : Value) (w : World) (hc : PutC cs q B) (h : Rr w p v a bs) (hne : q.enc ≠ []) (hpre : bs.drop a = q.enc ++ rest) (hB : Rd w 1 B q.b.length (bv q.b)) (hBp : q.b ≠ [] → B.ownBlock ≠ some p) :
    Calls Try.prog 27 #[.pointer (some ⟨p, 0, none⟩), .agg cs] w (BackPost p v (a + q.enc.length) bs w) := by
  unfold PutD.enc at *
  by_cases h1 : q.kind = 1
  · simp only [if_pos h1] at hpre ⊢; rw [be_length]; exact back_1 p v a bs rest cs q B w hc h1 h hpre
  by_cases h2 : q.kind = 2
  · simp only [if_neg h1, if_pos h2] at hpre ⊢; rw [be_length]; exact back_2 p v a bs rest cs q B w hc h2 h hpre
  by_cases h3 : q.kind = 3
  · simp only [if_neg h1, if_neg h2, if_pos h3] at hpre ⊢; rw [be_length]; exact back_3 p v a bs rest cs q B w hc h3 h hpre
  by_cases h4 : q.kind = 4
  · simp only [if_neg h1, if_neg h2, if_neg h3, if_pos h4] at hpre ⊢; rw [be_length]; exact back_4 p v a bs rest cs q B w hc h4 h hpre
  by_cases h5 : q.kind = 5
  · simp only [if_neg h1, if_neg h2, if_neg h3, if_neg h4, if_pos h5] at hpre ⊢; rw [be_length]; exact back_5 p v a bs rest cs q B w hc h5 h hpre
  by_cases h6 : q.kind = 6
  · simp only [if_neg h1, if_neg h2, if_neg h3, if_neg h4, if_neg h5, if_pos h6] at hpre ⊢; rw [hc.hh]; exact back_6 p v a bs rest cs q B w hc h6 h hpre
  by_cases h7 : q.kind = 7
  · simp only [if_neg h1, if_neg h2, if_neg h3, if_neg h4, if_neg h5, if_neg h6, if_pos h7] at hpre hne ⊢
    exact back_7 p v a bs rest cs q B w hc h7 h hpre hne hB (hBp hne)
  simp only [if_neg h1, if_neg h2, if_neg h3, if_neg h4, if_neg h5, if_neg h6, if_neg h7] at hpre hne ⊢
  by_cases h8 : q.kind = 8
  · simp only [if_pos h8] at hpre hne ⊢
    by_cases hw : 1 ≤ q.width ∧ q.width ≤ 4 ∧ q.b.length < 256 ^ q.width.toNat
    · simp only [if_pos hw] at hpre hne ⊢
      rw [List.length_append, be_length, ← Nat.add_assoc]
      exact back_8 p v a q.width.toNat bs rest cs q B w hc h8 (by omega) (by omega) hw.2.2 h hpre hB hBp
    · simp only [if_neg hw] at hne; exact absurd rfl hne
  · simp only [if_neg h8] at hne; exact absurd rfl hne
end Go.Proofs.Ytdcmncmpoinlaaa
