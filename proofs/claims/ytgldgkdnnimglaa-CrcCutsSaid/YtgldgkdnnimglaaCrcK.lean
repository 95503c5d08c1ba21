/- Walks of the law's helpers for layer 2: works. -/
import Derived.Test.YtgldgkdnnimglaaCrcJ
import Derived.Lib.SmallJoins
namespace Go.Proofs.Ytgldgkdnnimglaa
open Go.RowKit

set_option maxHeartbeats 400000 in
theorem all_any (p : Option Addr) (n : Int) (w : World) : Calls Try.prog 32 #[.pointer p, .int .i64 n] w fun e w' => e = .returned (.func (.func 48) #[] #[.pointer (some ⟨w.heap.size, 0, none⟩), .pointer (some ⟨w.heap.size + 1, 0, none⟩)]) ∧
    w' = (w.alloc (.cells #[.pointer p] 47)).alloc (.cells #[.int .i64 n] 3) := by
  go_enter Try.func32, Try.ntmps32
  go_wp2
  go_ret
  exact ⟨rfl, rfl⟩
theorem eq_func_nil (w : World) (f : Fn) (xs ys : Array Value) : (binOp .eql 54 (.func f xs ys) .nilFunc).run Try.prog w = .ok (.bool false) w := by kernel_rfl
theorem Sum_nine (v : Value) (w : World) (h : Txs w v [[49, 50, 51, 52, 53, 54, 55, 56, 57]]) : Calls Try.prog 14 #[v] w fun e w' => e = .returned (.int .u32 3808858755) ∧ w = w' := by
  have := Sum_any v _ w h (by decide)
  rwa [show crc [[49, 50, 51, 52, 53, 54, 55, 56, 57]].flatten = 3808858755 from by decide +kernel] at this
theorem Sum_four (v : Value) (w : World) (h : Txs w v [[49, 50, 51, 52]]) : Calls Try.prog 14 #[v] w fun e w' => e = .returned (.int .u32 4131058926) ∧ w = w' := by
  have := Sum_any v _ w h (by decide)
  rwa [show crc [[49, 50, 51, 52]].flatten = 4131058926 from by decide +kernel] at this
theorem More_five (v : Value) (w : World) (h : Rd w 1 v 5 (bv [53, 54, 55, 56, 57])) : Calls Try.prog 16 #[.int .u32 4131058926, v] w fun e w' => e = .returned (.int .u32 3808858755) ∧ w = w' := by
  have := more_any 4131058926 (by decide) v 5 _ w h
  rwa [show more 4131058926 [53, 54, 55, 56, 57] = 3808858755 from by decide +kernel] at this
theorem Mask_five (w : World) : Calls Try.prog 24 #[.int .u32 5] w fun e w' => e = .returned (.int .u32 2727144152) ∧ w = w' := by
  have := Mask_any 5 (by decide) w
  rwa [show mask 5 = 2727144152 from by decide +kernel] at this
theorem Unmask_five (w : World) : Calls Try.prog 26 #[.int .u32 2727144152] w fun e w' => e = .returned (.int .u32 5) ∧ w = w' := by
  have := Unmask_any 2727144152 (by decide) w
  rwa [show unmask 2727144152 = 5 from by decide +kernel] at this
theorem Carry_one (w : World) : Calls Try.prog 19 #[.int .u32 1, .int .i64 1] w fun e w' => e = .returned (.int .u32 4067132163) ∧ Kp [] w w' := by
  have := carry_any 1 (by decide) 1 (by decide) w
  rwa [show carry 1 (1 : Int).toNat = 4067132163 from by decide +kernel] at this
theorem Range_nine (p : Nat) (v : Value) (w : World) (h : Sm w p v [49, 50, 51, 52, 53, 54, 55, 56, 57]) : Calls Try.prog 36 #[.pointer (some ⟨p, 0, none⟩), .int .i64 0, .int .i64 9] w fun e w' => e = .returned (.tuple #[.int .u32 3808858755, .bool true]) ∧ Kp [] w w' := by
  have := s_range p v _ 0 9 (by decide) (by decide) (by decide) w h
  rwa [show crc ((([49, 50, 51, 52, 53, 54, 55, 56, 57] : List UInt8).drop 0).take (9 - 0)) = 3808858755 from by decide +kernel] at this
/-- The row of a constant: marked behind its end. -/
theorem rd_mark (w : World) (e : TypeId) (cs : Array Value) (l : List UInt8) (fr : Nat × Nat) (h : cs.toList = bv l) (hn : l.length ≤ 4096) {g : Nat} (hg : g = w.heap.size) : Rd (w.alloc (.cells cs e fr)) 1 (.slice (some ⟨g, 0, none⟩) l.length l.length) l.length (bv l) := by
  subst hg
  refine ⟨by rw [bv_length]; omega, _, _, rfl, Nat.le_refl _, by unfold maxLen; omega, (fun h => by cases h), fun ad had j u hu => ?_⟩
  cases had
  have h1 := World.cell?_alloc_mark w cs e fr j
  rw [← h, Array.getElem?_toList] at hu
  rw [hu] at h1
  by_cases hj : j = 0
  · subst hj; simpa [Addr.add] using h1
  · simpa [Addr.add, hj] using h1
/-- '[]byte("..")' of a constant. -/
theorem conv_const (w : World) (C : Array Value) (n c g : Nat) (hg : g = w.heap.size) : (convert 22 22 (.slice (some ⟨g, 0, none⟩) n c)).run Try.prog (w.alloc (.cells C 5)) = .ok (.slice (some ⟨g, 0, none⟩) n c) (w.alloc (.cells C 5 (C.size, C.size + 1))) := by
  subst hg
  exact Lib.run_convert_bytes_const (P := Try.prog) w 22 5 C n c Try.underlying22 Try.underlying5
abbrev c4 : Array Value := #[.int .u8 49, .int .u8 50, .int .u8 51, .int .u8 52]
abbrev c5 : Array Value := #[.int .u8 53, .int .u8 54, .int .u8 55, .int .u8 56, .int .u8 57]
abbrev c9 : Array Value := #[.int .u8 49, .int .u8 50, .int .u8 51, .int .u8 52, .int .u8 53, .int .u8 54, .int .u8 55, .int .u8 56, .int .u8 57]
theorem rdm4 {w : World} {g : Nat} (hg : g = w.heap.size) : Rd (w.alloc (.cells c4 5 (4, 5))) 1 (.slice (some ⟨g, 0, none⟩) 4 4) 4 (bv [49, 50, 51, 52]) := rd_mark w _ _ [49, 50, 51, 52] _ rfl (by decide) hg
theorem rdm5 {w : World} {g : Nat} (hg : g = w.heap.size) : Rd (w.alloc (.cells c5 5 (5, 6))) 1 (.slice (some ⟨g, 0, none⟩) 5 5) 5 (bv [53, 54, 55, 56, 57]) := rd_mark w _ _ [53, 54, 55, 56, 57] _ rfl (by decide) hg
theorem rdm9 {w : World} {g : Nat} (hg : g = w.heap.size) : Rd (w.alloc (.cells c9 5 (9, 10))) 1 (.slice (some ⟨g, 0, none⟩) 9 9) 9 (bv [49, 50, 51, 52, 53, 54, 55, 56, 57]) := rd_mark w _ _ [49, 50, 51, 52, 53, 54, 55, 56, 57] _ rfl (by decide) hg
set_option maxRecDepth 100000 in
set_option maxHeartbeats 2000000 in
theorem works_true (w : World) : Calls Try.prog 12 #[] w fun e w' => e = .returned (.bool true) ∧ Kp [] w w' := by
  have kc := conv_const
  have kf := eq_func_nil
  have r4 : Rd (w.alloc (.cells c4 5 (4, 5))) 1 (.slice (some ⟨w.heap.size, 0, none⟩) 4 4) 4 (bv [49, 50, 51, 52]) := rd_mark w _ _ [49, 50, 51, 52] _ rfl (by decide) rfl
  have r5 : Rd ((w.alloc (.cells c4 5 (4, 5))).alloc (.cells c5 5 (5, 6))) 1 (.slice (some ⟨w.heap.size + 1, 0, none⟩) 5 5) 5 (bv [53, 54, 55, 56, 57]) := rd_mark _ _ _ [53, 54, 55, 56, 57] _ rfl (by decide) (by simp)
  have t2 := txsIn2 22 (r4.alloc (.cells c5 5 (5, 6))) r5
  rw [show ((w.alloc (.cells c4 5 (4, 5))).alloc (.cells c5 5 (5, 6))).heap.size = w.heap.size + 1 + 1 from by simp] at t2
  have HN := Lib.hid (new_any _ _ _ _ t2 (fun g hg => by
    simp only [fpB, Value.ownBlock] at hg
    simp at hg ⊢
    omega) (by decide) (by decide))
  have k0 : Kp [] w ((((w.alloc (.cells c4 5 (4, 5))).alloc (.cells c5 5 (5, 6)))).alloc (.cells #[.slice (some ⟨w.heap.size, 0, none⟩) 4 4, .slice (some ⟨w.heap.size + 1, 0, none⟩) 5 5] 22)) := (((Kp.refl [] w).alloc _).alloc _).alloc _
  have K0 := Lib.hid k0
  clear r4 r5 t2 k0
  go_enter Try.func12, Try.ntmps12
  go_wp2_with fail
  refine HN.out.mono ?_
  rintro e w1 ⟨p, v, rfl, hs, k1, -, -⟩
  have Hs := Lib.hid (show Sm w1 p v [49, 50, 51, 52, 53, 54, 55, 56, 57] from hs)
  have K1 := Lib.hid (K0.out.trans k1 (by simp))
  clear hs k1 HN K0
  go_wp2_with (first
    | (go_at_call 32; ((with_reducible refine (all_any (some ⟨p, 0, none⟩) 4 w1).mono ?_); rintro e w' ⟨rfl, rfl⟩))
    | (go_at_call 36; ((with_reducible refine (Range_nine p v _ ((Hs.out.kp0 ((Kp.refl [] w1).alloc _)).kp0 ((Kp.refl [] _).alloc _))).mono ?_); rintro e w3 ⟨rfl, k3⟩)))
  go_wp2_with (first
    | (go_at_call 14; ((with_reducible refine (Sum_nine _ _ (txs1 22 (by simp) (rdm9 rfl))).mono ?_); rintro e w' ⟨rfl, rfl⟩))
    | (go_at_call 14; ((with_reducible refine (Sum_four _ _ (txs1 22 (by simp) (rdm4 (by simp)))).mono ?_); rintro e w' ⟨rfl, rfl⟩))
    | (go_at_call 16; ((with_reducible refine (More_five _ _ (rdm5 (by simp))).mono ?_); rintro e w' ⟨rfl, rfl⟩))
    | (go_at_call 24; ((with_reducible refine (Mask_five _).mono ?_); rintro e w' ⟨rfl, rfl⟩))
    | (go_at_call 26; ((with_reducible refine (Unmask_five _).mono ?_); rintro e w' ⟨rfl, rfl⟩))
    | (go_at_call 19; ((with_reducible refine (Carry_one _).mono ?_); rintro e w5 ⟨rfl, k5⟩)))
  go_ret
  refine ⟨rfl, Kp.trans (S := []) ?_ k5 (by simp)⟩
  repeat (refine Kp.alloc ?_ _)
  exact ((K1.out.alloc _).alloc _).trans k3 (by simp)
end Go.Proofs.Ytgldgkdnnimglaa
