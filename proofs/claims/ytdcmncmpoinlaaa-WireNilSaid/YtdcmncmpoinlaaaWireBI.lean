/- WireReads: the reference's Hash. -/
import Derived.Test.YtdcmncmpoinlaaaWireBH
namespace Go.Proofs.Ytdcmncmpoinlaaa
open Go.RowKit

/-- The first j cells of a hash are there. -/
def hpart (cs : List UInt8) (j : Nat) : Array Value := hashA (cs.take j ++ List.replicate (32 - j) 0)
theorem hpart_zero (cs : List UInt8) : hpart cs 0 = hashA (List.replicate 32 0) := by simp [hpart]
theorem hpart_all (cs : List UInt8) (h : cs.length = 32) : hpart cs 32 = hashA cs := by simp [hpart, List.take_of_length_le (Nat.le_of_eq h)]
theorem hpart_size (cs : List UInt8) (h : cs.length = 32) (j : Nat) (hj : j ≤ 32) : (hpart cs j).size = 32 := by
  simp [hpart, hashA_size]; omega
theorem hpart_set (cs : List UInt8) (h : cs.length = 32) (j : Nat) (hj : j < 32) (b : UInt8) (hb : cs[j]? = some b) : (hpart cs j).setIfInBounds j (.int .u8 (b.toNat : Int)) = hpart cs (j + 1) := by
  apply Array.ext_getElem?
  intro i
  have hbv : ∀ l : List UInt8, ∀ i : Nat, (hashA l)[i]? = l[i]?.map fun b : UInt8 => Value.int .u8 (b.toNat : Int) := fun l i => by simp [hashA, bv_get]
  rw [Array.getElem?_setIfInBounds, hpart_size cs h j (by omega)]
  unfold hpart
  rw [hbv, hbv]
  by_cases e : j = i
  · subst e
    rw [if_pos rfl, if_pos hj, List.getElem?_append_left (by rw [List.length_take]; omega), List.getElem?_take, if_pos (by omega), hb]; rfl
  · rw [if_neg e]
    congr 1
    by_cases hi : i < j
    · rw [List.getElem?_append_left (by rw [List.length_take]; omega), List.getElem?_append_left (by rw [List.length_take]; omega), List.getElem?_take, List.getElem?_take, if_pos hi, if_pos (by omega)]
    · rw [List.getElem?_append_right (by rw [List.length_take]; omega), List.getElem?_append_right (by rw [List.length_take]; omega), List.length_take, List.length_take, List.getElem?_replicate, List.getElem?_replicate]
      by_cases h2 : i < 32
      · rw [if_pos (by omega), if_pos (by omega)]
      · rw [if_neg (by omega), if_neg (by omega)]

/-- What reads as cells lies in a block that is there. -/
theorem rd_lt {w : World} {s n g : Nat} {v : Value} {xs : List Value} (h : Rd w s v n xs) (hg : v.ownBlock = some g) (hne : xs ≠ []) : g < w.heap.size := by
  obtain ⟨_, A, c, rfl, _, _, _, h4⟩ := h
  cases A with
  | none => simp [Value.ownBlock] at hg
  | some ad =>
    simp [Value.ownBlock] at hg
    obtain ⟨x, xs', rfl⟩ := List.exists_cons_of_ne_nil hne
    have := cell_lt (h4 ad rfl 0 x rfl)
    rw [block_of_add, hg] at this
    exact this

set_option maxRecDepth 100000 in
set_option maxHeartbeats 800000 in
theorem d_hash_end (d : Nat) (x : Value) (a : Nat) (bs : List UInt8) (hk : bs.length < a + 32) (w : World) (h : Dr w d x a bs) :
    Calls Try.prog 55 #[.pointer (some ⟨d, 0, none⟩)] w fun e w' => e = .returned (.tuple #[.agg (hashA (List.replicate 32 0)), .int .i64 110]) ∧ Kp [] w w' := by
  have hl := d_left d x a bs _ (h.kp0 (hashW_kp w))
  have Hl := Lib.hid hl
  have hlt : (bs.length : Int) - a < 32 := by have := h.le; omega
  clear hl
  go_enter Try.func55, Try.ntmps55
  go_wp2_with fail
  refine Hl.out.mono ?_
  rintro e w1 ⟨rfl, n, rfl⟩
  obtain ⟨hb1, hb2⟩ := hashW_blks w
  have b1 := hb1.drewN n
  have b2 := hb2.drewN n
  have k1 := (hashW_kp w).drewN n
  generalize (hashW w).drewN n = w1 at *
  have Hc := Lib.hid b2.agg
  go_wp2_with (first
    | (refine wpList_load_agg rfl 50 (.tmp 4) rfl ⟨w.heap.size + 1, 0, none⟩ rfl (bv (List.replicate 32 0)) _ Hc.out Try.underlying50 rfl (by rw [Try.infoHash]; rfl) ?_)
    | (refine wpList_store_agg rfl 50 (.tmp 2) (.tmp 9) rfl w.heap.size 0 rfl (hashA (List.replicate 32 0)) rfl 50 _ b1 (by rw [Try.infoHash]; rfl) (by decide) (bv_one _) ?_; intro w2 c2 k2))
  have e2 := set_all (hashA (List.replicate 32 0)) (hashA (List.replicate 32 0)) rfl
  rw [e2] at c2
  exact bodyPost_ret (results_cell_tmp (by rfl) rfl c2 Try.underlying50 rfl (by rw [Try.infoHash]; rfl)) rfl ⟨rfl, k1.trans k2 (by simp)⟩

set_option maxRecDepth 100000 in
set_option maxHeartbeats 1000000 in
theorem d_hash (d : Nat) (x : Value) (a : Nat) (bs : List UInt8) (hk : a + 32 ≤ bs.length) (w : World) (h : Dr w d x a bs) :
    Calls Try.prog 55 #[.pointer (some ⟨d, 0, none⟩)] w fun e w' => e = .returned (.tuple #[.agg (hashA ((bs.drop a).take 32)), .int .i64 0]) ∧ Dr w' d x (a + 32) bs ∧ Kp [d] w w' := by
  have hl := d_left d x a bs _ (h.kp0 (hashW_kp w))
  have Hl := Lib.hid hl
  have hlt : ¬ (bs.length : Int) - a < 32 := by have := h.le; omega
  have hlen := h.len
  have hdl := h.blk.lt
  have hcl : ((bs.drop a).take 32).length = 32 := by rw [List.length_take, List.length_drop]; omega
  have hxl : ∀ g, x.ownBlock = some g → bs ≠ [] → g < w.heap.size := fun g hg hne => rd_lt h.rd hg (fun e => hne (by cases bs with | nil => rfl | cons b bs => cases e))
  obtain ⟨A, c, rfl⟩ := rd_form h.rd
  clear hl
  go_enter Try.func55, Try.ntmps55
  go_wp2_with fail
  refine Hl.out.mono ?_
  rintro e w1 ⟨rfl, n, rfl⟩
  obtain ⟨hb1, hb2⟩ := hashW_blks w
  have b1 := hb1.drewN n
  have b2 := hb2.drewN n
  have k1 := (hashW_kp w).drewN n
  generalize (hashW w).drewN n = w1 at *
  go_wp2_with fail
  go_loopw [5] (fun t wr => ∃ j : Nat, j ≤ 32 ∧ t = .int .i64 (j : Int) ∧ Blk wr w.heap.size 50 (hashA (List.replicate 32 0)) ∧ Blk wr (w.heap.size + 1) 50 (hpart ((bs.drop a).take 32) j) ∧ Kp [] w wr) (fun t _ => 32 - (intOf t).toNat)
  case atStart => exact ⟨0, Nat.zero_le _, rfl, b1, by rw [hpart_zero]; exact b2, k1⟩
  case round =>
    obtain ⟨j, hj, rfl, c1, c2, k2⟩ := hrel
    have hd := h.kp0 k2
    by_cases hj2 : j < 32
    · obtain ⟨ad, rfl⟩ : ∃ ad, A = some ad := by
        cases A with
        | none => obtain ⟨_, A', c', hv, _, _, h3, _⟩ := h.rd; cases hv; have := (h3 rfl).1; omega
        | some ad => exact ⟨ad, rfl⟩
      have hbyte : ((bs.drop a).take 32)[j]? = some ((bs.drop a).take 32)[j] := List.getElem?_eq_getElem _
      generalize ((bs.drop a).take 32)[j] = y at hbyte
      have hcell : wr.cell? (ad.add (a + j)) = some (.int .u8 (y.toNat : Int)) := by
        obtain ⟨_, A', c', hv, _, _, _, h4⟩ := hd.rd
        cases hv
        refine h4 ad rfl (a + j) _ ?_
        rw [bv_get, ← List.getElem?_drop]
        rw [List.getElem?_take, if_pos hj2] at hbyte
        rw [hbyte]; rfl
      have e0 := hd.blk.cell 0
      have e1 := hd.blk.cell 1
      simp at e0 e1
      have hidx : ((a : Int) + (j : Int)).toNat = a + j := by omega
      have Hs := Lib.hid (hpart_set _ hcl j hj2 y hbyte)
      have hz := c2.frozen j
      have hl2 := c2.lt
      have hcj := c2.cell j
      have Hsz := Lib.hid (hpart_size _ hcl j hj)
      rw [Array.getElem?_eq_getElem (by rw [Hsz.out]; exact hj2)] at hcj
      generalize ((hpart ((bs.drop a).take 32) j)[j]'_) = y0 at hcj
      have C1 := Lib.hid c1
      have C2 := Lib.hid c2
      have hy := y.toNat_lt
      generalize y.toNat = yn at *
      clear c1 c2 hbyte b1 b2 hl2 hcl
      go_wp2_with fail
      have s0 : (fun V : World => V.cell? ⟨d, 0, none⟩ = some (.slice (some ad) bs.length c) ∧ V.cell? ⟨d, 1, none⟩ = some (.int .i64 (a : Int)) ∧ V.cell? (ad.add (a + j)) = some (.int .u8 (yn : Int))) wr.drew := ⟨e0, e1, hcell⟩
      refine wp_region_lexf [14] [14] (fun V : World => V.cell? ⟨d, 0, none⟩ = some (.slice (some ad) bs.length c) ∧ V.cell? ⟨d, 1, none⟩ = some (.int .i64 (a : Int)) ∧ V.cell? (ad.add (a + j)) = some (.int .u8 (yn : Int))) (by kernel_rfl) (by kernel_rfl) s0 (fun σ hne f hf hsur => ?_); have Hsur := Lib.hid hsur; clear hsur
      have hfa := fun y => (hf y).1
      have hfb := fun y => (hf y).2.1
      have hfc := fun y => (hf y).2.2
      clear hf
      go_wp2_with (first
        | (refine lex_qq Hsur.out rfl rfl rfl ?_; intro K hK; go_big_quiet_op; go_big_quiet_on) | (refine lex_skipk rfl ?_; intro K hK; go_simp; refine hK _ _ ?_; clear hK K) | (refine lex_e rfl rfl ?_; intro K hK; go_step) | (refine lex_nil ?_)
        | ((with_reducible apply And.intro); · (intro hl; first | (exact ls_absurd hl rfl) | trivial)))
      go_roundw
      case rel => exact ⟨j + 1, by omega, by go_num, C1.out.far (by simp) _, by rw [← Hs.out]; exact C2.out.set_ _ _, k2.drew.setCell (.inr (by simp)) _⟩
      case measure => simp [intOf]; omega
    · obtain rfl : j = 32 := by omega
      rw [hpart_all _ hcl] at c2
      have h1 : ∀ u ∈ (hashA ((bs.drop a).take 32)).toList, u.oneCell' = true := bv_one _
      have Hz := Lib.hid (show (hashA ((bs.drop a).take 32)).size = 32 by rw [hashA_size, hcl])
      obtain ⟨ha, hha⟩ : ∃ ha, ha = hashA ((bs.drop a).take 32) := ⟨_, rfl⟩
      rw [← hha] at h1 Hz c2
      have Hha := Lib.hid hha
      clear hha
      have e1 := hd.blk.cell 1
      simp at e1
      have e0 := hd.blk.cell 0
      simp at e0
      have f1 := hd.blk.frozen 1
      have hle := hd.le
      have Hc := Lib.hid (c2.far (g := w.heap.size + 1) (p := ⟨d, 1, none⟩) (by simp; omega) (.int .i64 ((a : Int) + 32))).agg
      have H1 := Lib.hid (c1.far (g := w.heap.size) (p := ⟨d, 1, none⟩) (by simp; omega) (.int .i64 ((a : Int) + 32)))
      obtain ⟨g1, kk⟩ := hd.set (b := a + 32) hk
      rw [Int.natCast_add] at g1 kk
      have hdl2 := hd.blk.lt
      clear hcl hk b1 b2 c1 c2
      go_wp2_with (first
        | (refine wpList_load_agg rfl 50 (.tmp 4) rfl ⟨w.heap.size + 1, 0, none⟩ rfl ha.toList _ Hc.out Try.underlying50 rfl (by rw [Try.infoHash, Array.length_toList, Hz.out]) ?_)
        | (refine wpList_store_agg rfl 50 (.tmp 2) (.tmp 36) rfl w.heap.size 0 rfl ha rfl 50 _ H1.out (by rw [Try.infoHash, Hz.out]) (by rw [Hz.out]; decide) h1 ?_; intro w2 c2 k3))
      have e2 := set_all (hashA (List.replicate 32 0)) ha (by rw [Hz.out]; rfl)
      rw [e2] at c2
      refine bodyPost_ret (results_cell_tmp (by rfl) rfl c2 Try.underlying50 rfl (by rw [Try.infoHash, Hz.out])) rfl ⟨by rw [Hha.out]; rfl, ?_, ?_⟩
      · exact g1.kp k3 (by simp; omega) (fun g hg hne hm => by simp at hm; have := hxl g hg hne; omega)
      · exact ((k2.more (by simp)).trans kk (fun g hg => .inl hg)).trans k3 (fun g hg => by simp at hg; right; omega)
end Go.Proofs.Ytdcmncmpoinlaaa
