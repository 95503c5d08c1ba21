/- Walks of the law's helpers for layer 2: lent, kept, long. -/
import Derived.Test.YtgldgkdnnimglaaCrcK
namespace Go.Proofs.Ytgldgkdnnimglaa
open Go.RowKit

set_option maxRecDepth 100000 in
set_option maxHeartbeats 800000 in
theorem clent_any (x : Value) (bs : List UInt8) (n : Nat) (w : World) (hx : Rd w 1 x n (bv bs)) (hn : n + 2 ≤ 140737488355328) :
    Calls Try.prog 13 #[x] w fun e w' => ∃ g c, e = .returned (.slice (some ⟨g, 0, none⟩) n c) ∧ Ow w' 5 1 (.slice (some ⟨g, 0, none⟩) (n + 2) c) (n + 2) (bv (bs ++ [165, 90])) ∧ Kp [] w w' ∧ w.heap.size ≤ g := by
  obtain ⟨i0, hi, hz0, hz1, hz2⟩ := info_parts Try.infoU8
  obtain ⟨A, c, rfl⟩ := rd_form hx
  have hl : bs.length = n := by have := hx.1; rw [bv_length] at this; omega
  have k0 : Kp [] w (w.alloc (.cells #[] 5)) := (Kp.refl [] w).alloc _
  have H0 := Lib.hid (ow_new w 5 1 0 #[] rfl (by decide))
  have Hx := Lib.hid (rd_old hx k0)
  have K0 := Lib.hid k0
  have Hl := Lib.hid hl
  clear hx k0 hl
  go_enter Try.func13, Try.ntmps13
  go_wp2_with (at_builtin; refine wpList_app _ rfl (.tmp 3) (.tmp 4) _ rfl 5 i0 _ 1 1 Try.underlying22 hi hz0 hz1 hz2 rfl (by decide) _ 0 [] rfl H0.out (.slice A n c) n (bv bs) rfl Hx.out (bv_one _) (by unfold maxLen; omega) (by omega) ?_)
  intro v1 w1 hown1 hg1 hat1
  have k1 := K0.out.grown hg1 (fun g hg => .inr (by simp [Value.ownBlock] at hg; omega))
  have hown1 : Ow w1 5 1 v1 n (bv bs) := by simpa using hown1
  have hv1 : ∀ g, v1.ownBlock = some g → w.heap.size ≤ g := fun g hg => by
    rcases hat1 with e | e
    · rw [e] at hg; simp [Value.ownBlock] at hg; omega
    · rw [e] at hg; simp at hg; omega
  have H1 := Lib.hid hown1
  have K1 := Lib.hid k1
  have Hv := Lib.hid hv1
  clear hown1 hg1 hat1 k1 hv1
  have H2 := Lib.hid (rd_lit w1 5 #[.int .u8 165, .int .u8 90] [165, 90] rfl (by decide))
  go_wp2_with (at_builtin; refine wpList_app _ rfl (.tmp 5) (.tmp 6) _ rfl 5 i0 _ 1 1 Try.underlying22 hi hz0 hz1 hz2 rfl (by decide) _ n (bv bs) rfl (ow_kp H1.out ((Kp.refl [] w1).alloc _) (by simp)) (.slice (some ⟨w1.heap.size, 0, none⟩) 2 2) 2 (bv [165, 90]) rfl H2.out (bv_one _) (by unfold maxLen; omega) (by omega) ?_)
  intro v2 w2 hown2 hg2 hat2
  rw [← bv_append] at hown2
  obtain ⟨g, c2, rfl, hc1, hc2⟩ := ow_some hown2 (by omega)
  have K2 := Lib.hid ((K1.out.alloc _).grown hg2 (fun g' hg' => .inr (Hv.out g' hg')))
  have H3 := Lib.hid hown2
  have hge : w.heap.size ≤ g := by
    rcases hat2 with e | e
    · exact Hv.out g (by rw [← e]; rfl)
    · simp [Value.ownBlock] at e; have := K1.out.size; omega
  clear hown2 hg2 hat2
  go_wp2
  go_ret
  exact ⟨g, c2, rfl, H3.out, K2.out, hge⟩

/-- The shorter slice of a longer row. -/
theorem rd_ow_take {w : World} {e : TypeId} {g c n m : Nat} {bs cs : List UInt8} (h : Ow w e 1 (.slice (some ⟨g, 0, none⟩) m c) m (bv (bs ++ cs))) (hl : bs.length = n) (hm : n ≤ m) : Rd w 1 (.slice (some ⟨g, 0, none⟩) n c) n (bv bs) := by
  obtain ⟨h1, A, c', hv, h2, h3, h4, h5⟩ := Rd.of_own h
  cases hv
  refine ⟨by rw [bv_length]; omega, _, _, rfl, by omega, h3, (fun h => by cases h), fun ad had j u hu => ?_⟩
  refine h5 ad had j u ?_
  have hj : j < (bv bs).length := (List.getElem?_eq_some_iff.1 hu).1
  rw [bv_append, List.getElem?_append_left hj]
  exact hu
set_option maxRecDepth 100000 in
set_option maxHeartbeats 800000 in
theorem ckept_any (g c n : Nat) (y : Value) (bs : List UInt8) (w : World) (hm : Ow w 5 1 (.slice (some ⟨g, 0, none⟩) (n + 2) c) (n + 2) (bv (bs ++ [165, 90]))) (hy : Rd w 1 y n (bv bs)) (hn : n + 2 ≤ 140737488355328) :
    Calls Try.prog 18 #[.slice (some ⟨g, 0, none⟩) n c, y] w fun e w' => e = .returned (.bool true) ∧ w = w' := by
  have hl : bs.length = n := by have := hy.1; rw [bv_length] at this; omega
  obtain ⟨Ay, cy, rfl⟩ := rd_form hy
  obtain ⟨_, _, hv, hc1, hc2⟩ := ow_form hm
  cases hv
  have hs1 := strB (rd_ow_take hm hl (by omega))
  have hs2 := strB hy
  have hc3 := hm.cellAt n (by omega)
  have hc4 := hm.cellAt (n + 1) (by omega)
  rw [bv_get, List.getElem?_append_right (by omega)] at hc3 hc4
  rw [hl, Nat.sub_self] at hc3
  rw [hl, show n + 1 - n = 1 by omega] at hc4
  have Hm := Lib.hid hm
  have Hy := Lib.hid hy
  have Hl := Lib.hid hl
  clear hm hy hl
  unfold maxLen at hc2
  simp at hc3 hc4
  go_enter Try.func18, Try.ntmps18
  go_wp2
  go_ret
  exact ⟨rfl, rfl⟩
end Go.Proofs.Ytgldgkdnnimglaa
