/- WireReads: Hash, of both. -/
import Derived.Test.YtdcmncmpoinlaaaWireBG
import Derived.Test.YtdcmncmpoinlaaaArr
namespace Go.Proofs.Ytdcmncmpoinlaaa
open Go.RowKit

/-- The two blocks that Hash makes. -/
def hashW (w : World) : World := (w.alloc (.cells (hashA (List.replicate 32 0)) 50)).alloc (.cells (hashA (List.replicate 32 0)) 50)
theorem hashW_kp (w : World) : Kp [] w (hashW w) := ((Kp.refl [] w).alloc _).alloc _
theorem hashW_blks (w : World) : Blk (hashW w) w.heap.size 50 (hashA (List.replicate 32 0)) ∧ Blk (hashW w) (w.heap.size + 1) 50 (hashA (List.replicate 32 0)) := by
  refine ⟨(Blk.new w _ _).alloc _, ?_⟩
  have := Blk.new (w.alloc (.cells (hashA (List.replicate 32 0)) 50)) 50 (hashA (List.replicate 32 0))
  rwa [World.size_alloc] at this
set_option maxRecDepth 100000 in
set_option maxHeartbeats 800000 in
theorem r_hash_end (p : Nat) (v : Value) (a : Nat) (bs : List UInt8) (hk : bs.length < a + 32) (w : World) (h : Rr w p v a bs) :
    Calls Try.prog 54 #[.pointer (some ⟨p, 0, none⟩)] w fun e w' => e = .returned (.tuple #[.agg (hashA (List.replicate 32 0)), .int .i64 110]) ∧ Kp [] w w' := by
  have hn := next_end p v a bs 32 (by omega) (.func (.func 67) #[] #[.pointer (some ⟨w.heap.size + 1, 0, none⟩)]) _ (h.kp' (hashW_kp w))
  have Hn := Lib.hid hn
  clear hn
  go_enter Try.func54, Try.ntmps54
  go_wp2_with fail
  refine Hn.out.mono ?_
  rintro e w1 ⟨rfl, n, rfl⟩
  obtain ⟨hb1, hb2⟩ := hashW_blks w
  have b1 := hb1.drewN n
  have b2 := hb2.drewN n
  have k1 := (hashW_kp w).drewN n
  generalize (hashW w).drewN n = w1 at *
  have Hc := Lib.hid b2.agg
  go_wp2_with (first
    | (refine wpList_load_agg rfl 50 (.tmp 4) rfl ⟨w.heap.size + 1, 0, none⟩ rfl (bv (List.replicate 32 0)) _ Hc.out Try.underlying50 rfl (by rw [Try.infoHash]; rfl) ?_)
    | (refine wpList_store_agg rfl 50 (.tmp 2) (.tmp 9) rfl w.heap.size 0 rfl (hashA (List.replicate 32 0)) rfl 50 _ b1 (by rw [Try.infoHash]; rfl) (by decide) (bv_one _) ?_; intro w2 c2 k2))
  have e2 := set_all (hashA (List.replicate 32 0)) (hashA (List.replicate 32 0)) rfl
  rw [e2] at c2
  exact bodyPost_ret (results_cell_tmp (by rfl) rfl c2 Try.underlying50 rfl (by rw [Try.infoHash]; rfl)) rfl ⟨rfl, k1.trans k2 (by simp)⟩

set_option maxRecDepth 100000 in
set_option maxHeartbeats 800000 in
theorem r_hash (p : Nat) (v : Value) (a : Nat) (bs : List UInt8) (hk : a + 32 ≤ bs.length) (w : World) (h : Rr w p v a bs) :
    Calls Try.prog 54 #[.pointer (some ⟨p, 0, none⟩)] w fun e w' => e = .returned (.tuple #[.agg (hashA ((bs.drop a).take 32)), .int .i64 0]) ∧ Kp [p] w w' ∧ Rr w' p v (a + 32) bs := by
  have hp := h.blk.lt
  have hvl := h.vlt
  have hcl : ((bs.drop a).take 32).length = 32 := by rw [List.length_take, List.length_drop]; omega
  have hnext : Calls Try.prog 40 #[.pointer (some ⟨p, 0, none⟩), .int .i64 32, .func (.func 67) #[] #[.pointer (some ⟨w.heap.size + 1, 0, none⟩)]] (hashW w)
      fun e w' => e = .returned (.int .i64 0) ∧ Blk w' w.heap.size 50 (hashA (List.replicate 32 0)) ∧ Blk w' (w.heap.size + 1) 50 (hashA ((bs.drop a).take 32)) ∧ Kp [p] w w' ∧ Rr w' p v (a + 32) bs :=
    next_ok p v a bs 32 hk _ _ _ (h.kp' (hashW_kp w)) _ eg_hash_in (fun A c W hkp hr hrd => by
      obtain ⟨b1, b2⟩ := hashW_blks w
      have k1 : Kp [p] w W := ((hashW_kp w).more (T := [p]) (by simp)).trans hkp (fun g hg => .inl hg)
      have c1 := b1.kp hkp (by simp; omega)
      refine (hash_in (w.heap.size + 1) _ ((bs.drop a).take 32) hcl _ (by simp [hashA_size]) W hrd (b2.kp hkp (by simp; omega))).mono ?_
      rintro e w' ⟨rfl, hb', hkk⟩
      exact ⟨rfl, c1.kp hkk (by simp), hb', k1.trans hkk (fun g hg => by simp at hg; right; omega), hr.kp hkk (by simp; omega) (fun g hg hm => by simp at hm; have := hvl g hg; omega)⟩)
  have Hn := Lib.hid hnext
  clear hnext
  have hz : (hashA ((bs.drop a).take 32)).size = 32 := by rw [hashA_size, hcl]
  have h1 : ∀ u ∈ (hashA ((bs.drop a).take 32)).toList, u.oneCell' = true := bv_one _
  generalize hashA ((bs.drop a).take 32) = ha at *
  have Hz := Lib.hid hz
  clear hz hcl hk
  go_enter Try.func54, Try.ntmps54
  go_wp2_with fail
  refine Hn.out.mono ?_
  rintro e w1 ⟨rfl, b1, b2, k1, hr⟩
  have Hc := Lib.hid b2.agg
  go_wp2_with (first
    | (refine wpList_load_agg rfl 50 (.tmp 4) rfl ⟨w.heap.size + 1, 0, none⟩ rfl ha.toList _ Hc.out Try.underlying50 rfl (by rw [Try.infoHash, Array.length_toList, Hz.out]) ?_)
    | (refine wpList_store_agg rfl 50 (.tmp 2) (.tmp 9) rfl w.heap.size 0 rfl ha rfl 50 _ b1 (by rw [Try.infoHash, Hz.out]) (by rw [Hz.out]; decide) h1 ?_; intro w2 c2 k2))
  have e2 := set_all (hashA (List.replicate 32 0)) ha (by rw [Hz.out]; rfl)
  rw [e2] at c2
  exact bodyPost_ret (results_cell_tmp (by rfl) rfl c2 Try.underlying50 rfl (by rw [Try.infoHash, Hz.out])) rfl ⟨rfl, k1.trans k2 (fun g hg => by simp at hg; right; omega), hr.kp k2 (by simp; omega) (fun g hg hm => by simp at hm; have := hvl g hg; omega)⟩
end Go.Proofs.Ytdcmncmpoinlaaa
