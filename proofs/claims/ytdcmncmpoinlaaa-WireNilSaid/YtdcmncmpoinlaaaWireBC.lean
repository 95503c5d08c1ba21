/- WireReads: the reference's Raw; List. -/
import Derived.Test.YtdcmncmpoinlaaaWireBB
namespace Go.Proofs.Ytdcmncmpoinlaaa
open Go.RowKit

set_option maxRecDepth 100000 in
set_option maxHeartbeats 800000 in
theorem d_raw (d : Nat) (x : Value) (a : Nat) (bs : List UInt8) (k : Nat) (w : World) (h : Dr w d x a bs) (hk : a + k ≤ bs.length) :
    Calls Try.prog 57 #[.pointer (some ⟨d, 0, none⟩), .int .i64 k] w fun e w' => ∃ u, e = .returned (.tuple #[u, .int .i64 0]) ∧ Ow w' 5 1 u k (bv ((bs.drop a).take k)) ∧ Kp [d] w w' ∧ Dr w' d x (a + k) bs ∧ ∀ b, u.ownBlock = some b → w.heap.size ≤ b := by
  obtain ⟨i0, hi, hz0, hz1, hz2⟩ := info_parts Try.infoU8
  have hc0 := h.blk.cell 0
  have hc1 := h.blk.cell 1
  obtain ⟨A, c, rfl⟩ := rd_form h.rd
  simp at hc0 hc1
  have hle := h.le
  have hlen := h.len
  have hf1 := h.blk.frozen 1
  have hdl := h.blk.lt
  have hkl : ¬ ((bs.length : Int) - a < k) := by omega
  obtain ⟨hrl, A', c', hv, hr1, hr2, hr3, hr4⟩ := h.rd
  cases hv
  have hr2' : c ≤ 9223372036854775807 := by unfold maxLen at hr2; omega
  have Hst := Lib.hid (fun q : Nat => (show Dr (w.drewN q) d _ a bs from ⟨h.blk, h.rd, h.le, h.len, h.ne⟩).set hk)
  clear hr3 hr4 hrl hr2
  have hsub : (a : Int) + (k : Int) - (k : Int) = (a : Int) := by omega
  have hidx : ((a : Int) + (k : Int)).toNat = a + k := by omega
  by_cases hca : c = a
  · have hk0 : k = 0 := by omega
    subst hk0
    have ha : a = bs.length := by omega
    have Ha := Lib.hid ha
    clear ha
    subst hca
    simp only [Int.natCast_zero, Int.add_zero, Int.sub_zero] at hsub hidx hkl
    go_enter Try.func57, Try.ntmps57
    go_wp2_with (go_at_call 26; refine (d_left d _ c bs w h).mono ?_; rintro e w' ⟨rfl, nq, rfl⟩)
    obtain ⟨g1, g2⟩ := Hst.out nq
    simp only [Nat.add_zero] at g1 g2
    generalize hW : (w.drewN nq).setCell ⟨d, 1, none⟩ (.int .i64 (c : Int)) = W at *
    have e0 := g1.blk.cell 0
    have e1 := g1.blk.cell 1
    simp at e0 e1
    have hcut : Rd W.drew 1 (.slice A 0 0) 0 (bv ((bs.drop c).take 0)) := by rw [← bv_drop]; have := g1.rd.cut0 (a := c) (k := 0) hk rfl; rwa [Nat.sub_self] at this
    have s0 : (fun V : World => V.cell? ⟨d, 0, none⟩ = some (.slice A bs.length c) ∧ V.cell? ⟨d, 1, none⟩ = some (.int .i64 (c : Int))) W.drew := ⟨e0, e1⟩
    refine wp_region_lexf [15] [] (fun V : World => V.cell? ⟨d, 0, none⟩ = some (.slice A bs.length c) ∧ V.cell? ⟨d, 1, none⟩ = some (.int .i64 (c : Int))) (by kernel_rfl) (by kernel_rfl) s0 (fun σ hne f hf hsur => ?_); have Hsur := Lib.hid hsur; clear hsur
    have hfa := fun y => (hf y).1
    have hfb := fun y => (hf y).2
    clear hf
    go_wp2_with (first
      | (refine lex_app rfl rfl (.const (.slice none 0 0)) (.tmp 35) _ rfl 5 i0 _ 1 1 Try.underlying36 hi hz0 hz1 hz2 rfl (by decide) _ 0 [] rfl (World.ownsRow_nil _ _ _ _) (.slice A 0 0) 0 (bv ((bs.drop c).take 0)) rfl hcut (bv_one _) (by unfold maxLen; omega) (by omega) ?_; intro v1 w1 o1 gr1 at1; have k1 : Kp [] W.drew w1 := (Kp.refl _ _).grown gr1 (fun _ hg => nomatch hg); have g3 := g1.kp0 (Kp.of_drew k1); have s1 := And.intro (g3.blk.cell 0) (g3.blk.cell 1))
      | (refine lex_qq Hsur.out rfl rfl rfl ?_; intro K hK; go_big_quiet_op; go_big_quiet_on) | (refine lex_skipk rfl ?_; intro K hK; go_simp; refine hK _ _ ?_; clear hK K) | (refine lex_e rfl rfl ?_; intro K hK; go_step) | (refine lex_nil ?_)
      | ((with_reducible apply And.intro); · (intro hl; first | (exact ls_absurd hl rfl) | exact s1)))
    go_ret2
    refine ⟨v1, rfl, by simpa using o1, (((Kp.refl [d] w).drewN nq).trans g2 (fun g hg => .inl hg)).trans (Kp.of_drew k1) (by simp), g3, fun b hb => ?_⟩
    rcases at1 with e | e
    · rw [e] at hb; exact nomatch hb
    · rw [e] at hb
      have := g2.size
      simp at hb this
      omega
  · go_enter Try.func57, Try.ntmps57
    go_wp2_with (go_at_call 26; refine (d_left d _ a bs w h).mono ?_; rintro e w' ⟨rfl, nq, rfl⟩)
    obtain ⟨g1, g2⟩ := Hst.out nq
    rw [Int.natCast_add] at g1 g2
    generalize hW : (w.drewN nq).setCell ⟨d, 1, none⟩ (.int .i64 ((a : Int) + (k : Int))) = W at *
    have e0 := g1.blk.cell 0
    have e1 := g1.blk.cell 1
    simp at e0 e1
    have hcut : Rd W.drew 1 (.slice (A.map (fun x => x.add a)) k (c - a)) k (bv ((bs.drop a).take k)) := by rw [← bv_drop]; exact g1.rd.cut hk hca
    have s0 : (fun V : World => V.cell? ⟨d, 0, none⟩ = some (.slice A bs.length c) ∧ V.cell? ⟨d, 1, none⟩ = some (.int .i64 ((a : Int) + (k : Int)))) W.drew := ⟨e0, e1⟩
    refine wp_region_lexf [15] [] (fun V : World => V.cell? ⟨d, 0, none⟩ = some (.slice A bs.length c) ∧ V.cell? ⟨d, 1, none⟩ = some (.int .i64 ((a : Int) + (k : Int)))) (by kernel_rfl) (by kernel_rfl) s0 (fun σ hne f hf hsur => ?_); have Hsur := Lib.hid hsur; clear hsur
    have hfa := fun y => (hf y).1
    have hfb := fun y => (hf y).2
    clear hf
    go_wp2_with (first
      | (refine lex_app rfl rfl (.const (.slice none 0 0)) (.tmp 35) _ rfl 5 i0 _ 1 1 Try.underlying36 hi hz0 hz1 hz2 rfl (by decide) _ 0 [] rfl (World.ownsRow_nil _ _ _ _) (.slice (A.map (fun x => x.add a)) k (c - a)) k (bv ((bs.drop a).take k)) rfl hcut (bv_one _) (by unfold maxLen; omega) (by omega) ?_; intro v1 w1 o1 gr1 at1; have k1 : Kp [] W.drew w1 := (Kp.refl _ _).grown gr1 (fun _ hg => nomatch hg); have g3 := g1.kp0 (Kp.of_drew k1); have s1 := And.intro (g3.blk.cell 0) (g3.blk.cell 1))
      | (refine lex_qq Hsur.out rfl rfl rfl ?_; intro K hK; go_big_quiet_op; go_big_quiet_on) | (refine lex_skipk rfl ?_; intro K hK; go_simp; refine hK _ _ ?_; clear hK K) | (refine lex_e rfl rfl ?_; intro K hK; go_step) | (refine lex_nil ?_)
      | ((with_reducible apply And.intro); · (intro hl; first | (exact ls_absurd hl rfl) | exact s1)))
    go_ret2
    refine ⟨v1, rfl, by simpa using o1, (((Kp.refl [d] w).drewN nq).trans g2 (fun g hg => .inl hg)).trans (Kp.of_drew k1) (by simp), g3, fun b hb => ?_⟩
    rcases at1 with e | e
    · rw [e] at hb; exact nomatch hb
    · rw [e] at hb
      have := g2.size
      simp at hb this
      omega
end Go.Proofs.Ytdcmncmpoinlaaa
