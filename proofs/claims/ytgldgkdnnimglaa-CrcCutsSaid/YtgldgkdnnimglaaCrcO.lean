/- CrcPatches: the walk. -/
import Derived.Test.YtgldgkdnnimglaaCrcN
namespace Go.Proofs.Ytgldgkdnnimglaa
open Go.RowKit

set_option maxRecDepth 100000 in
set_option maxHeartbeats 1600000 in
theorem patches_true (w : World) (s : Nat) (hs : s < 4294967296) (vb : Value) (b : List UInt8) (rb : Rd w 1 vb b.length (bv b)) (hb : b.length ≤ 140737488351232) (n : Int) (hn : -9223372036854775808 ≤ n ∧ n ≤ 9223372036854775807) :
    Calls Try.prog 7 #[.int .u32 s, vb, .int .i64 n] w fun e w' => e = .returned (.bool true) ∧ Kp [] w w' := by
  obtain ⟨Ab, cb, rfl⟩ := rd_form rb
  have k0 : Kp [] w (w.alloc (.cells #[.slice Ab b.length cb] 22)) := (Kp.refl [] w).alloc _
  have ht : Txs (w.alloc (.cells #[.slice Ab b.length cb] 22)) (.slice (some ⟨w.heap.size, 0, none⟩) 1 1) [b] := txs1 22 rfl rb
  have hl2 : ∀ i (h : i < [b].length), [b][i].length ≤ 140737488355328 := fun i hi => by
    obtain rfl : i = 0 := by simp at hi; omega
    show b.length ≤ _; omega
  by_cases hy : 100000 < [b].flatten.length
  · have H := Lib.hid (long_yes _ _ _ ht (by simp) hl2 hy)
    have K0 := Lib.hid k0
    clear ht hl2 hy k0 rb
    go_enter Try.func7, Try.ntmps7
    go_wp2_with (first
      | (go_at_call 11; ((with_reducible refine H.out.mono ?_); rintro e w' ⟨rfl, rfl⟩))
      | (go_at_call 12; ((with_reducible refine (works_true _).mono ?_); rintro e w1 ⟨rfl, k1⟩)))
    go_ret
    exact ⟨rfl, K0.out.trans k1 (by simp)⟩
  · have H := Lib.hid (long_not _ _ _ ht (by simp) hl2 hy)
    have hle : b.length ≤ 100000 := by simpa using hy
    have S0 := Lib.hid ((Held.start w).kp k0)
    have Rb := Lib.hid (fun W (k : Kp [] w W) => rd_old rb k)
    clear ht hl2 hy k0 rb
    go_enter Try.func7, Try.ntmps7
    go_wp2_with (first
      | (go_at_call 11; ((with_reducible refine H.out.mono ?_); rintro e w' ⟨rfl, rfl⟩))
      | (go_at_call 13; ((with_reducible refine (clent_any (.slice Ab b.length cb) b b.length _ (Rb.out _ S0.out.k) (by omega)).mono ?_); rintro e w1 ⟨gx, cx, rfl, o1, k1, l1⟩; have S1 := Lib.hid (S0.out.rownew o1 k1 (fun g hg => by simp [Value.ownBlock] at hg; omega)); clear o1 k1 l1))
      | (go_at_call 27; ((refine (patch_any s hs _ _ b n hn.2 w1 (rd_ow_take (S1.out.at_ (l1 := [])) rfl (by omega))).mono ?_); rintro e w2 ⟨rfl, k2⟩; have S2 := Lib.hid (S1.out.kp k2)))
      | (go_at_call 28; ((refine (rpatch_any s hs _ _ b n hn.2 w2 (Rb.out _ S2.out.k)).mono ?_); rintro e w' ⟨rfl, rfl⟩))
      | (go_at_call 18; ((with_reducible refine (ckept_any gx cx b.length _ b _ (S2.out.at_ (l1 := [])) (Rb.out _ S2.out.k) (by omega)).mono ?_); rintro e w' ⟨rfl, rfl⟩))
      | (go_at_call 12; ((with_reducible refine (works_true _).mono ?_); rintro e w5 ⟨rfl, k5⟩)))
    go_ret
    exact ⟨rfl, S2.out.k.trans k5 (by simp)⟩
end Go.Proofs.Ytgldgkdnnimglaa
