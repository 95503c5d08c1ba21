/- CrcSums: the walk. -/
import Derived.Test.YtgldgkdnnimglaaCrcM1
namespace Go.Proofs.Ytgldgkdnnimglaa
open Go.RowKit

theorem flat_le (L : List (List UInt8)) (j : Nat) : (L.take j).flatten.length ≤ L.flatten.length := by
  have e : L.flatten = (L.take j).flatten ++ (L.drop j).flatten := by rw [← List.flatten_append, List.take_append_drop]
  rw [e, List.length_append]; omega
def longB (L : List (List UInt8)) : Bool := decide (100000 < L.flatten.length)
set_option maxHeartbeats 800000 in
theorem long_any (v : Value) (L : List (List UInt8)) (w : World) (h : Txs w v L) (hL : L.length ≤ 1073741824) (hl : ∀ i (h : i < L.length), L[i].length ≤ 140737488355328) :
    Calls Try.prog 11 #[v] w fun e w' => e = .returned (.bool (longB L)) ∧ w = w' := by
  obtain ⟨A, c, rfl, hA, hc⟩ := h.open_
  have HA := Lib.hid hA
  have Hc := Lib.hid hc
  have Hl := Lib.hid hl
  clear hA hc h hl
  go_enter Try.func11, Try.ntmps11
  go_wp2
  go_loop [3, 4] (fun s t => ∃ j : Nat, j ≤ L.length ∧ t = .int .i64 j ∧ s = .int .i64 ((L.take j).flatten.length : Int) ∧ (L.take j).flatten.length ≤ 100000) (fun _ t => L.length - (intOf t).toNat)
  case atStart => exact ⟨0, by omega, rfl, rfl, by simp⟩
  case round =>
    obtain ⟨j, hj, rfl, rfl, hb⟩ := hrel
    by_cases hlt : j < L.length
    · obtain ⟨ad, rfl⟩ := HA.out (by omega)
      obtain ⟨u, hcell, hu⟩ := Hc.out ad rfl j hlt
      obtain ⟨Au, cu, rfl⟩ := rd_form hu
      have hfl : (L.take (j + 1)).flatten.length = (L.take j).flatten.length + L[j].length := by rw [crc_flat_succ L j hlt, List.length_append]
      have Hfl := Lib.hid hfl
      have hlj := Hl.out j hlt
      have hle := flat_le L (j + 1)
      rw [hfl] at hle
      clear hu hfl
      have Hlong : Hid (100000 < L.flatten.length → longB L = true) := Lib.hid (fun h => by unfold longB; simpa using h)
      generalize (L.take j).flatten.length = n at *
      generalize L[j].length = m at *
      by_cases hgt : 100000 < n + m
      · have Hlong2 := Lib.hid (Hlong.out (by omega))
        clear Hlong
        go_wp2
        go_ret
        exact ⟨by rw [Hlong2.out]; rfl, rfl⟩
      · go_wp2
        go_round
        case rel => exact ⟨j + 1, by omega, by go_num, by rw [Hfl.out]; rfl, by rw [Hfl.out]; omega⟩
        case measure => simp [intOf]; omega
    · obtain rfl : j = L.length := by omega
      rw [List.take_length] at hb
      have Hlong : Hid (longB L = false) := Lib.hid (by unfold longB; simpa using hb)
      clear hb
      go_wp2
      go_ret
      exact ⟨by rw [Hlong.out]; rfl, rfl⟩
theorem long_yes (v : Value) (L : List (List UInt8)) (w : World) (h : Txs w v L) (hL : L.length ≤ 1073741824) (hl : ∀ i (h : i < L.length), L[i].length ≤ 140737488355328) (hy : 100000 < L.flatten.length) :
    Calls Try.prog 11 #[v] w fun e w' => e = .returned (.bool true) ∧ w = w' := by
  have := long_any v L w h hL hl
  rwa [show longB L = true from by unfold longB; simpa using hy] at this
theorem long_not (v : Value) (L : List (List UInt8)) (w : World) (h : Txs w v L) (hL : L.length ≤ 1073741824) (hl : ∀ i (h : i < L.length), L[i].length ≤ 140737488355328) (hy : ¬ 100000 < L.flatten.length) :
    Calls Try.prog 11 #[v] w fun e w' => e = .returned (.bool false) ∧ w = w' := by
  have := long_any v L w h hL hl
  rwa [show longB L = false from by unfold longB; simpa using hy] at this

set_option maxRecDepth 100000 in
set_option maxHeartbeats 1600000 in
theorem sums_true (w : World) (va : Value) (a : List UInt8) (ra : Rd w 1 va a.length (bv a)) (ha : a.length ≤ 140737488351232) (vb : Value) (b : List UInt8) (rb : Rd w 1 vb b.length (bv b)) (hb : b.length ≤ 140737488351232) (s : Nat) (hs : s < 4294967296) :
    Calls Try.prog 3 #[va, vb, .int .u32 s] w fun e w' => e = .returned (.bool true) ∧ Kp [] w w' := by
  obtain ⟨Aa, ca, rfl⟩ := rd_form ra
  obtain ⟨Ab, cb, rfl⟩ := rd_form rb
  have k0 : Kp [] w (w.alloc (.cells #[.slice Aa a.length ca, .slice Ab b.length cb] 22)) := (Kp.refl [] w).alloc _
  have ht : Txs (w.alloc (.cells #[.slice Aa a.length ca, .slice Ab b.length cb] 22)) (.slice (some ⟨w.heap.size, 0, none⟩) 2 2) [a, b] := txs2 22 rfl ra rb
  have hl2 : ∀ i (h : i < [a, b].length), [a, b][i].length ≤ 140737488355328 := fun i hi => by
    have : i = 0 ∨ i = 1 := by simp at hi; omega
    rcases this with rfl | rfl
    · show a.length ≤ _; omega
    · show b.length ≤ _; omega
  by_cases hy : 100000 < [a, b].flatten.length
  · have H := Lib.hid (long_yes _ _ _ ht (by simp) hl2 hy)
    have K0 := Lib.hid k0
    clear ht hl2 hy k0 ra rb
    go_enter Try.func3, Try.ntmps3
    go_wp2_with (first
      | (go_at_call 11; ((with_reducible refine H.out.mono ?_); rintro e w' ⟨rfl, rfl⟩))
      | (go_at_call 12; ((with_reducible refine (works_true _).mono ?_); rintro e w1 ⟨rfl, k1⟩)))
    go_ret
    exact ⟨rfl, K0.out.trans k1 (by simp)⟩
  · have H := Lib.hid (long_not _ _ _ ht (by simp) hl2 hy)
    have hle : a.length + b.length ≤ 100000 := by simpa using hy
    obtain ⟨i0, hi, hz0, hz1, hz2⟩ := info_parts Try.infoU8
    have S0 := Lib.hid ((Held.start w).kp k0)
    have Ra := Lib.hid (fun W (k : Kp [] w W) => rd_old ra k)
    have Rb := Lib.hid (fun W (k : Kp [] w W) => rd_old rb k)
    clear ht hl2 hy k0 ra rb
    go_enter Try.func3, Try.ntmps3
    go_wp2_with (first
      | (go_at_call 11; ((with_reducible refine H.out.mono ?_); rintro e w' ⟨rfl, rfl⟩))
      | (go_at_call 13; ((with_reducible refine (clent_any (.slice Aa a.length ca) a a.length _ (Ra.out _ S0.out.k) (by omega)).mono ?_); rintro e w1 ⟨gx, cx, rfl, o1, k1, l1⟩; have S1 := Lib.hid (S0.out.rownew o1 k1 (fun g hg => by simp [Value.ownBlock] at hg; omega)); clear o1 k1 l1))
      | (go_at_call 13; ((with_reducible refine (clent_any (.slice Ab b.length cb) b b.length _ (Rb.out _ S1.out.k) (by omega)).mono ?_); rintro e w2 ⟨gy, cy, rfl, o2, k2, l2⟩; have S2 := Lib.hid (S1.out.rownew o2 k2 (fun g hg => by simp [Value.ownBlock] at hg; omega)); clear o2 k2 l2))
      | (at_builtin; refine wpList_app _ rfl (.tmp 19) (.tmp 20) _ rfl 5 i0 _ 1 1 Try.underlying22 hi hz0 hz1 hz2 rfl (by decide) _ 0 [] rfl (ow_new w2 5 1 0 #[] rfl (by decide)) (.slice Aa a.length ca) a.length (bv a) rfl (Ra.out _ (S2.out.k.alloc _)) (bv_one _) (by unfold maxLen; omega) (by omega) ?_))
    intro v3 w3 o3 g3 a3
    have S3 := Lib.hid (((S2.out.rownew (ow_new w2 5 1 0 #[] rfl (by decide)) ((Kp.refl [] w2).alloc _) (fun g hg => by simp [Value.ownBlock] at hg; omega))).grow (l1 := []) o3 g3 (by rw [World.size_alloc]; exact a3))
    have o3' : Ow w3 5 1 v3 a.length (bv a) := by simpa using o3
    have O3 := Lib.hid o3'
    clear o3 o3' g3 a3 S2 H
    go_wp2_with (at_builtin; refine wpList_app _ rfl (.tmp 21) (.tmp 22) _ rfl 5 i0 _ 1 1 Try.underlying22 hi hz0 hz1 hz2 rfl (by decide) v3 a.length (bv a) rfl O3.out (.slice Ab b.length cb) b.length (bv b) rfl (Rb.out _ S3.out.k) (bv_one _) (by unfold maxLen; omega) (by omega) ?_)
    intro v4 w4 o4 g4 a4
    have S4 := Lib.hid (S3.out.grow (l1 := []) o4 g4 a4)
    rw [← bv_append] at o4
    obtain ⟨A4, c4, rfl, -, -⟩ := ow_form o4
    have Rab : Hid (∀ W, Kp [] w4 W → Rd W 1 (.slice A4 (a.length + b.length) c4) (a.length + b.length) (bv (a ++ b))) := Lib.hid (fun W k => rd_old (Rd.of_own o4) k)
    have Ox : Hid (∀ W, Kp [] w4 W → Ow W 5 1 (.slice (some ⟨gx, 0, none⟩) (a.length + 2) cx) (a.length + 2) (bv (a ++ [165, 90]))) := Lib.hid (fun W k => (S4.out.kp k).at_ (l1 := [_, _]))
    have Oy : Hid (∀ W, Kp [] w4 W → Ow W 5 1 (.slice (some ⟨gy, 0, none⟩) (b.length + 2) cy) (b.length + 2) (bv (b ++ [165, 90]))) := Lib.hid (fun W k => (S4.out.kp k).at_ (l1 := [_]))
    have Rx : Hid (∀ W, Kp [] w4 W → Rd W 1 (.slice (some ⟨gx, 0, none⟩) a.length cx) a.length (bv a)) := Lib.hid (fun W k => rd_ow_take (Ox.out W k) rfl (by omega))
    have Ry : Hid (∀ W, Kp [] w4 W → Rd W 1 (.slice (some ⟨gy, 0, none⟩) b.length cy) b.length (bv b)) := Lib.hid (fun W k => rd_ow_take (Oy.out W k) rfl (by omega))
    have Ra4 := Lib.hid (fun W (k : Kp [] w4 W) => Ra.out W (S4.out.k.trans k (by simp)))
    have Rb4 := Lib.hid (fun W (k : Kp [] w4 W) => Rb.out W (S4.out.k.trans k (by simp)))
    have K4 := Lib.hid S4.out.k
    clear o4 g4 a4 S3 S4 O3 S1 S0 Ra Rb
    have Hs1 : Hid (∀ W g, g = W.heap.size → Kp [] w4 W → Calls Try.prog 14 #[.slice (some ⟨g, 0, none⟩) 2 2] (W.alloc (.cells #[.slice (some ⟨gx, 0, none⟩) a.length cx, .slice (some ⟨gy, 0, none⟩) b.length cy] 22)) fun e w' => e = .returned (.int .u32 ((crc (a ++ b) : Nat) : Int)) ∧ W.alloc (.cells #[.slice (some ⟨gx, 0, none⟩) a.length cx, .slice (some ⟨gy, 0, none⟩) b.length cy] 22) = w') := Lib.hid (fun W g hg k => by
      have := Sum_any _ _ _ (txs2 22 hg (Rx.out W k) (Ry.out W k)) (by simp)
      simpa using this)
    have Hs2 : Hid (∀ W g, g = W.heap.size → Kp [] w4 W → Calls Try.prog 14 #[.slice (some ⟨g, 0, none⟩) 1 1] (W.alloc (.cells #[.slice A4 (a.length + b.length) c4] 22)) fun e w' => e = .returned (.int .u32 ((crc (a ++ b) : Nat) : Int)) ∧ W.alloc (.cells #[.slice A4 (a.length + b.length) c4] 22) = w') := Lib.hid (fun W g hg k => by
      have := Sum_any _ _ _ (txs1 22 hg (Rab.out W k)) (by simp)
      simpa using this)
    have Hs3 : Hid (∀ W, Calls Try.prog 14 #[.slice none 0 0] W fun e w' => e = .returned (.int .u32 0) ∧ W = w') := Lib.hid (fun W => by
      have := Sum_any (.slice none 0 0) [] W ⟨[], Rd.nil _ _, fun i h => by simp at h⟩ (by simp)
      rw [show crc ([] : List (List UInt8)).flatten = 0 from crc_nil] at this
      exact this)
    have Hr := Lib.hid (fun W (k : Kp [] w4 W) => rsum_any _ _ (a ++ b) W (Rab.out W k))
    have Hm1 := Lib.hid (fun W (k : Kp [] w4 W) => more_any s hs _ _ a W (Rx.out W k))
    have Hm2 := Lib.hid (fun W (k : Kp [] w4 W) => rmore_any s hs _ _ a W (Ra4.out W k))
    generalize crc (a ++ b) = cr at *
    generalize more s a = m at *
    go_wp2_with (first
      | (go_at_call 14; ((with_reducible refine (Hs1.out w4 _ rfl (Kp.refl _ _)).mono ?_); rintro e w' ⟨rfl, rfl⟩))
      | (go_at_call 14; ((with_reducible refine (Hs2.out _ _ (by simp) ((Kp.refl _ _).alloc _)).mono ?_); rintro e w' ⟨rfl, rfl⟩))
      | (go_at_call 14; ((with_reducible refine (Hs3.out _).mono ?_); rintro e w' ⟨rfl, rfl⟩))
      | (go_at_call 15; ((with_reducible refine (Hr.out _ (by repeat (first | exact Kp.refl _ _ | refine Kp.alloc ?_ _))).mono ?_); rintro e w' ⟨rfl, rfl⟩))
      | (go_at_call 16; ((with_reducible refine (Hm1.out _ (by repeat (first | exact Kp.refl _ _ | refine Kp.alloc ?_ _))).mono ?_); rintro e w' ⟨rfl, rfl⟩))
      | (go_at_call 17; ((with_reducible refine (Hm2.out _ (by repeat (first | exact Kp.refl _ _ | refine Kp.alloc ?_ _))).mono ?_); rintro e w' ⟨rfl, rfl⟩))
      | (go_at_call 18; ((with_reducible refine (ckept_any gx cx a.length _ a _ (Ox.out _ (by repeat (first | exact Kp.refl _ _ | refine Kp.alloc ?_ _))) (Ra4.out _ (by repeat (first | exact Kp.refl _ _ | refine Kp.alloc ?_ _))) (by omega)).mono ?_); rintro e w' ⟨rfl, rfl⟩))
      | (go_at_call 18; ((with_reducible refine (ckept_any gy cy b.length _ b _ (Oy.out _ (by repeat (first | exact Kp.refl _ _ | refine Kp.alloc ?_ _))) (Rb4.out _ (by repeat (first | exact Kp.refl _ _ | refine Kp.alloc ?_ _))) (by omega)).mono ?_); rintro e w' ⟨rfl, rfl⟩))
      | (go_at_call 12; ((with_reducible refine (works_true _).mono ?_); rintro e w5 ⟨rfl, k5⟩)))
    go_ret
    exact ⟨rfl, ((K4.out.alloc _).alloc _).trans k5 (by simp)⟩
end Go.Proofs.Ytgldgkdnnimglaa
