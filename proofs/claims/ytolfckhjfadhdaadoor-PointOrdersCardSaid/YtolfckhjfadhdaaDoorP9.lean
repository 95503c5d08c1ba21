/- Several texts in one: PtCmp, PtCmq, PtCmr, PtLast, PtMax, PtOrders, PtOpens. -/
import Derived.Lib.Bytealg
import Derived.Great.BuildSlice
import Derived.SizedLaws
import Derived.Test.YtolfckhjfadhdaaDoorP8
/- Compare of point and of the reference. -/
namespace Go.Proofs.YtolfckhjfadhdaaDoor
open Go.RowKit
/-! ### The order -/
def cmpB (a b : List UInt8) : Int := Lib.compareBytes a b
theorem cmpB_cons (x y : UInt8) (a b : List UInt8) : cmpB (x :: a) (y :: b) = if x.toNat < y.toNat then -1 else if y.toNat < x.toNat then 1 else cmpB a b := by
  simp only [cmpB, Lib.compareBytes, UInt8.lt_iff_toNat_lt]
theorem cmpB_range : ∀ (a b : List UInt8), -1 ≤ cmpB a b ∧ cmpB a b ≤ 1
  | [], [] => by simp [cmpB, Lib.compareBytes]
  | [], _ :: _ => by simp [cmpB, Lib.compareBytes]
  | _ :: _, [] => by simp [cmpB, Lib.compareBytes]
  | x :: a, y :: b => by
    rw [cmpB_cons]
    have := cmpB_range a b
    split
    · omega
    · split <;> omega
theorem cmpB_neg : ∀ (a b : List UInt8), cmpB b a = - cmpB a b
  | [], [] => rfl
  | [], _ :: _ => rfl
  | _ :: _, [] => rfl
  | x :: a, y :: b => by
    rw [cmpB_cons, cmpB_cons, cmpB_neg a b]
    split <;> split <;> omega
theorem cmpB_zero : ∀ {a b : List UInt8}, cmpB a b = 0 → a = b
  | [], [], _ => rfl
  | [], _ :: _, h => by simp [cmpB, Lib.compareBytes] at h
  | _ :: _, [], h => by simp [cmpB, Lib.compareBytes] at h
  | x :: a, y :: b, h => by
    rw [cmpB_cons] at h
    split at h
    · omega
    · split at h
      · omega
      · rw [cmpB_zero h, UInt8.toNat_inj.1 (by omega : x.toNat = y.toNat)]
theorem cmpB_self : ∀ (a : List UInt8), cmpB a a = 0
  | [] => rfl
  | x :: a => by rw [cmpB_cons, cmpB_self a]; split <;> omega
theorem cmpB_trans : ∀ {a b c : List UInt8}, a.length = b.length → b.length = c.length → cmpB a b ≤ 0 → cmpB b c ≤ 0 → cmpB a c ≤ 0
  | [], [], [], _, _, _, _ => by simp [cmpB, Lib.compareBytes]
  | x :: a, y :: b, z :: c, h1, h2, h3, h4 => by
    rw [cmpB_cons] at h3 h4 ⊢
    have ih := cmpB_trans (a := a) (b := b) (c := c) (by simpa using h1) (by simpa using h2)
    by_cases a1 : x.toNat < y.toNat
    · split
      · omega
      · split
        · split at h4
          · omega
          · split at h4 <;> omega
        · split at h4
          · omega
          · split at h4 <;> omega
    · rw [if_neg a1] at h3
      by_cases a2 : y.toNat < x.toNat
      · rw [if_pos a2] at h3; omega
      · rw [if_neg a2] at h3
        by_cases b1 : y.toNat < z.toNat
        · rw [if_pos (by omega)]; omega
        · rw [if_neg b1] at h4
          by_cases b2 : z.toNat < y.toNat
          · rw [if_pos b2] at h4; omega
          · rw [if_neg b2] at h4
            rw [if_neg (by omega), if_neg (by omega)]
            exact ih h3 h4
def cmpZ (z y : Int) : Int := if z < y then -1 else if y < z then 1 else 0
def cmpP (z : Int) (h : List UInt8) (y : Int) (g : List UInt8) : Int := if cmpZ z y ≠ 0 then cmpZ z y else cmpB h g
theorem cmpP_eq (z : Int) (h : List UInt8) (y : Int) (g : List UInt8) : cmpP z h y g = if z < y then -1 else if y < z then 1 else cmpB h g := by
  unfold cmpP cmpZ
  by_cases a : z < y
  · simp [a]
  · by_cases b : y < z
    · simp [a, b]
    · simp [a, b]
theorem cmpP_range (z : Int) (h : List UInt8) (y : Int) (g : List UInt8) : -1 ≤ cmpP z h y g ∧ cmpP z h y g ≤ 1 := by
  have := cmpB_range h g
  rw [cmpP_eq]
  split
  · omega
  · split <;> omega
theorem cmpP_neg (z : Int) (h : List UInt8) (y : Int) (g : List UInt8) : cmpP y g z h = - cmpP z h y g := by
  rw [cmpP_eq, cmpP_eq, cmpB_neg h g]
  split <;> split <;> omega
theorem cmpP_zero {z : Int} {h : List UInt8} {y : Int} {g : List UInt8} : cmpP z h y g = 0 ↔ z = y ∧ h = g := by
  rw [cmpP_eq]
  constructor
  · intro e
    split at e
    · omega
    · split at e
      · omega
      · exact ⟨by omega, cmpB_zero e⟩
  · rintro ⟨rfl, rfl⟩
    rw [if_neg (by omega), if_neg (by omega), cmpB_self]
theorem cmpP_trans {z : Int} {h : List UInt8} {y : Int} {g : List UInt8} {x : Int} {f : List UInt8} (h1 : h.length = g.length) (h2 : g.length = f.length) (a : cmpP z h y g ≤ 0) (b : cmpP y g x f ≤ 0) : cmpP z h x f ≤ 0 := by
  rw [cmpP_eq] at a b ⊢
  by_cases a1 : z < y
  · by_cases b1 : x < y
    · rw [if_neg (by omega), if_pos b1] at b; omega
    · rw [if_pos (by omega)]; omega
  · rw [if_neg a1] at a
    by_cases a2 : y < z
    · rw [if_pos a2] at a; omega
    · rw [if_neg a2] at a
      by_cases b1 : y < x
      · rw [if_pos (by omega)]; omega
      · rw [if_neg b1] at b
        by_cases b2 : x < y
        · rw [if_pos b2] at b; omega
        · rw [if_neg b2] at b
          rw [if_neg (by omega), if_neg (by omega)]
          exact cmpB_trans h1 h2 a b
/-! ### The library's comparisons -/
theorem run_loadB {P : Program} {w : World} : ∀ (bs : List UInt8) (a : Addr) (acc : ByteArray), (∀ j u, (bv bs)[j]? = some u → w.cell? (a.add j) = some u) → (Extern.Bytes.loadBytes a bs.length acc).run P w = .ok ⟨acc.data ++ bs.toArray⟩ w
  | [], a, acc, _ => by simp [Extern.Bytes.loadBytes]
  | b :: bs, a, acc, h => by
    have h0 : w.cell? a = some (.int .u8 (b.toNat : Int)) := by have := h 0 _ rfl; simpa [Addr.add] using this
    have ih := run_loadB (P := P) (w := w) bs (a.add 1) (acc.push (b.toNat : Int).toNat.toUInt8) (fun j u hu => by rw [add_of_add, Nat.add_comm]; exact h (j + 1) u (by simpa [bv] using hu))
    simp only [List.length_cons, Extern.Bytes.loadBytes, Sem.run_bind, run_load, h0, Result.andThen]
    rw [ih]
    simp [ByteArray.push]
theorem run_bytesOf {P : Program} {w : World} {x : Value} {bs : List UInt8} {n : Nat} (h : Rd w 1 x n (bv bs)) : (Extern.Bytes.bytesOf x).run P w = .ok ⟨bs.toArray⟩ w := by
  obtain ⟨hl, A, c, rfl, _, _, hA, hc⟩ := h
  have hn : bs.length = n := by rw [bv_length] at hl; omega
  rcases A with _ | a
  · obtain ⟨rfl, _⟩ := hA rfl
    obtain rfl : bs = [] := List.eq_nil_of_length_eq_zero (by omega)
    rfl
  · subst hn
    show (Extern.Bytes.loadBytes a bs.length .empty).run P w = _
    rw [run_loadB bs a .empty (hc a rfl)]
    simp [ByteArray.empty, ByteArray.emptyWithCapacity]
    rfl
theorem run_cmpBytes {P : Program} {w : World} {x y : Value} {a b : List UInt8} {n m : Nat} (hx : Rd w 1 x n (bv a)) (hy : Rd w 1 y m (bv b)) : (Extern.BytealgCompare.compare #[x, y]).run P w = .ok (.int .i64 (cmpB a b)) w := by
  change Sem.run P (do pure (goInt (Extern.BytealgCompare.cmp (← Extern.Bytes.bytesOf x) (← Extern.Bytes.bytesOf y)))) w = _
  simp only [Sem.run_bind, Sem.run_pure, run_bytesOf hx, run_bytesOf hy, Result.andThen]
  rw [Lib.cmp_eq]
  rfl
set_option maxRecDepth 100000 in
theorem bcmp_any (x y : Value) (a b : List UInt8) (n m : Nat) (w : World) (hx : Rd w 1 x n (bv a)) (hy : Rd w 1 y m (bv b)) : Calls Tryd.prog 39 #[x, y] w fun e w' => e = .returned (.int .i64 (cmpB a b)) ∧ w = w' := by
  have h := Lib.hid (run_cmpBytes (P := Tryd.prog) hx hy)
  obtain ⟨A, c, rfl⟩ := rd_form hx
  obtain ⟨B, d, rfl⟩ := rd_form hy
  clear hx hy
  go_enter Tryd.func39, Tryd.ntmps39
  go_wp2
  rw [run_callFunc_extern Tryd.func61 (by kernel_rfl) (by kernel_rfl) (by kernel_rfl) (e := Extern.BytealgCompare.compare) (by kernel_rfl), h.out]
  simp only [Result.andThen]
  rw [Oper.upon_value]
  go_wp2
  go_ret
  exact ⟨rfl, rfl⟩
set_option maxRecDepth 100000 in
theorem isnan_any (z : Int) (w : World) : Calls Tryd.prog 60 #[.int .i64 z] w fun e w' => e = .returned (.bool false) ∧ w = w' := by
  have h : (z != z) = false := bne_self_eq_false z
  go_enter Tryd.func60, Tryd.ntmps60
  go_wp2
  go_ret
  exact ⟨rfl, rfl⟩
set_option maxRecDepth 100000 in
theorem ccmp_any (z y : Int) (w : World) : Calls Tryd.prog 38 #[.int .i64 z, .int .i64 y] w fun e w' => e = .returned (.int .i64 (cmpZ z y)) ∧ w = w' := by
  have HZ : Hid (cmpZ z y = if z < y then -1 else if y < z then 1 else 0) := Lib.hid rfl
  by_cases h : z < y
  · rw [if_pos h] at HZ
    go_enter Tryd.func38, Tryd.ntmps38
    go_wp2_with (go_at_call 60; (with_reducible refine (isnan_any _ _).mono ?_); rintro e w' ⟨rfl, rfl⟩)
    go_ret
    exact ⟨by rw [HZ.out]; rfl, rfl⟩
  · rw [if_neg h] at HZ
    by_cases h2 : y < z
    · rw [if_pos h2] at HZ
      go_enter Tryd.func38, Tryd.ntmps38
      go_wp2_with (go_at_call 60; (with_reducible refine (isnan_any _ _).mono ?_); rintro e w' ⟨rfl, rfl⟩)
      go_ret
      exact ⟨by rw [HZ.out]; rfl, rfl⟩
    · rw [if_neg h2] at HZ
      go_enter Tryd.func38, Tryd.ntmps38
      go_wp2_with (go_at_call 60; (with_reducible refine (isnan_any _ _).mono ?_); rintro e w' ⟨rfl, rfl⟩)
      go_ret
      exact ⟨by rw [HZ.out]; rfl, rfl⟩
end Go.Proofs.YtolfckhjfadhdaaDoor
/- Compare of point and of the reference: the walks. -/
namespace Go.Proofs.YtolfckhjfadhdaaDoor
open Go.RowKit
set_option maxRecDepth 100000 in
theorem cor_any (x : Value) (a b : Int) (w : World) (hx : Rd w 1 x 2 [.int .i64 a, .int .i64 b]) : Calls Tryd.prog 37 #[x] w fun e w' => e = .returned (.int .i64 (if a ≠ 0 then a else b)) ∧ w = w' := by
  obtain ⟨hl, A, c, rfl, h1, h2, hA, hc⟩ := hx
  rcases A with _ | ad
  · have := hA rfl; omega
  have HC := Lib.hid (hc ad rfl)
  have HR : Hid (a ≠ 0 → (if a ≠ 0 then a else b) = a) := Lib.hid (fun h => if_pos h)
  have HS : Hid (a = 0 → (if a ≠ 0 then a else b) = b) := Lib.hid (fun h => if_neg (by simpa using h))
  generalize (if a ≠ 0 then a else b) = r at *
  clear hA hc hl
  go_enter Tryd.func37, Tryd.ntmps37
  go_wp2
  go_loopw [5, 8] (fun _ t wr => ∃ k : Nat, k ≤ 2 ∧ t = .int .i64 (k : Int) ∧ w = wr ∧ (1 ≤ k → a = 0) ∧ (2 ≤ k → b = 0)) (fun _ t _ => 2 - (intOf t).toNat)
  case atStart => exact ⟨0, by omega, rfl, rfl, by omega, by omega⟩
  case round =>
    obtain ⟨k, hk, rfl, rfl, ha, hb⟩ := hrel
    by_cases hlt : k < 2
    · by_cases hk0 : k = 0
      · subst hk0
        have hcell : w.cell? ad = some (.int .i64 a) := by have := HC.out 0 _ rfl; simpa [Addr.add] using this
        by_cases h0 : a = 0
        · have ht : (a != 0) = false := by simpa using h0
          go_wp2
          go_roundw
          case rel => exact ⟨1, by omega, rfl, trivial, fun _ => h0, by omega⟩
          case measure => simp [intOf]
        · have ht : (a != 0) = true := by simpa using h0
          go_wp2
          go_ret
          exact ⟨by rw [HR.out h0]; rfl, rfl⟩
      · obtain rfl : k = 1 := by omega
        have hcell : w.cell? { block := ad.block, off := ad.off + 1 } = some (.int .i64 b) := by have := HC.out 1 _ rfl; simpa [Addr.add] using this
        have ha0 := ha (by omega)
        by_cases h0 : b = 0
        · have ht : (b != 0) = false := by simpa using h0
          go_wp2
          go_roundw
          case rel => exact ⟨2, by omega, rfl, trivial, fun _ => ha0, fun _ => h0⟩
          case measure => simp [intOf]
        · have ht : (b != 0) = true := by simpa using h0
          go_wp2
          go_ret
          exact ⟨by rw [HS.out ha0]; rfl, rfl⟩
    · obtain rfl : k = 2 := by omega
      have ha0 := ha (by omega)
      have hb0 := hb (by omega)
      go_wp2
      go_ret
      exact ⟨by rw [HS.out ha0, hb0]; rfl, rfl⟩
set_option maxRecDepth 100000 in
set_option maxHeartbeats 4000000 in
theorem pcmp_any (z : Int) (hh : List UInt8) (hhl : hh.length = 32) (y : Int) (gg : List UInt8) (hgl : gg.length = 32) (w : World) : Calls Tryd.prog 19 #[.agg (ptA z hh), .agg (ptA y gg)] w fun e w' => e = .returned (.int .i64 (cmpP z hh y gg)) ∧ Kp [] w w' := by
  have HH := Lib.hid hhl
  have HG := Lib.hid hgl
  have S0 := Lib.hid (((Held.start w).newBlk 25 (ptA z hh)).newBlk 25 (ptA y gg))
  rw [World.size_alloc] at S0
  obtain ⟨cs, HC⟩ : ∃ cs, Hid (ptA z hh = cs) := ⟨_, Lib.hid rfl⟩
  obtain ⟨ds, HD⟩ : ∃ ds, Hid (ptA y gg = ds) := ⟨_, Lib.hid rfl⟩
  rw [HC.out] at S0 ⊢
  rw [HD.out] at S0 ⊢
  clear hhl hgl
  go_enter Tryd.func19, Tryd.ntmps19
  go_wp2_with fail
  generalize hW1 : (w.alloc (.cells cs 25)).alloc (.cells ds 25) = w1 at *
  generalize hg4 : w.heap.size = g2 at *
  generalize hg5 : g2 + 1 = g3 at *
  rw [← HC.out, ← HD.out] at S0
  -- SEP pcmp1
  refine wp_region_invG (fun i v W => match i with | 0 => v = .pointer (some ⟨g2, 0, none⟩) | 1 => v = .int .i64 z | 2 => v = .pointer (some ⟨g3, 0, none⟩) | 3 => v = .int .i64 y | 4 => v = .int .i64 (cmpZ z y) | 5 => v = .pointer (some ⟨g2, 1, none⟩) | 6 => v = .slice (some ⟨g2, 1, none⟩) 32 32 | 7 => v = .pointer (some ⟨g3, 1, none⟩) | 8 => v = .slice (some ⟨g3, 1, none⟩) 32 32 | 9 => v = .int .i64 (cmpB hh gg) | 10 => ∃ g, (v) = .slice (some ⟨g, 0, none⟩) 2 2 ∧ Rd W 1 (v) 2 [.int .i64 (cmpZ z y), .int .i64 (cmpB hh gg)] | 11 => v = .int .i64 (cmpP z hh y gg) | 12 => v = .int .i64 (cmpP z hh y gg) | _ => True) (by kernel_rfl) (by kernel_rfl) (by kernel_rfl) ?_ ?_ ?_
  · intro i v W W' h k
    iterate 10 (rcases i with _ | i; · exact h)
    rcases i with _ | i
    · obtain ⟨g, h1, h2⟩ := h; exact ⟨g, h1, Rd.kp h2 k (by simp)⟩
    iterate 2 (rcases i with _ | i; · exact h)
    exact h
  · refine ⟨?_, ?_, ?_, ?_, ?_, ?_, ?_, ?_, ?_, ?_, ?_, ?_, ?_, trivial⟩
    · intro vs A' W hA hW hd K hK
      refine wpOp_free _ rfl rfl ?_
      have e2 : A'.tmps[2]?.getD undef = .pointer (some ⟨g2, 0, none⟩) := slot_is hA (by kernel_rfl) (Nat.le_of_ble_eq_true (by kernel_rfl)) (by kernel_rfl)
      go_step
      exact hK _ _ (Kp.refl _ _) rfl
    · intro vs A' W hA hW hd K hK
      refine wpOp_free _ rfl rfl ?_
      have f0 : vs 0 = .pointer (some ⟨g2, 0, none⟩) := hd 0 (by kernel_rfl)
      have e5 : A'.tmps[5]?.getD undef = vs 0 := slot_is hA (by kernel_rfl) (Nat.le_of_ble_eq_true (by kernel_rfl)) (by kernel_rfl)
      rw [f0] at e5
      have c0 := pt_c0 (Blk.kp (S0.out.at_ (l1 := [_])).drew hW (by simp))
      go_step
      exact hK _ _ (Kp.refl _ _) rfl
    · intro vs A' W hA hW hd K hK
      refine wpOp_free _ rfl rfl ?_
      have e3 : A'.tmps[3]?.getD undef = .pointer (some ⟨g3, 0, none⟩) := slot_is hA (by kernel_rfl) (Nat.le_of_ble_eq_true (by kernel_rfl)) (by kernel_rfl)
      go_step
      exact hK _ _ (Kp.refl _ _) rfl
    · intro vs A' W hA hW hd K hK
      refine wpOp_free _ rfl rfl ?_
      have f2 : vs 2 = .pointer (some ⟨g3, 0, none⟩) := hd 2 (by kernel_rfl)
      have e7 : A'.tmps[7]?.getD undef = vs 2 := slot_is hA (by kernel_rfl) (Nat.le_of_ble_eq_true (by kernel_rfl)) (by kernel_rfl)
      rw [f2] at e7
      have c0 := pt_c0 (Blk.kp (S0.out.at_ (l1 := [])).drew hW (by simp))
      go_step
      exact hK _ _ (Kp.refl _ _) rfl
    · intro vs A' W hA hW hd K hK
      refine wpOp_free _ rfl rfl ?_
      have f1 : vs 1 = .int .i64 z := hd 1 (by kernel_rfl)
      have e6 : A'.tmps[6]?.getD undef = vs 1 := slot_is hA (by kernel_rfl) (Nat.le_of_ble_eq_true (by kernel_rfl)) (by kernel_rfl)
      rw [f1] at e6
      have f3 : vs 3 = .int .i64 y := hd 3 (by kernel_rfl)
      have e8 : A'.tmps[8]?.getD undef = vs 3 := slot_is hA (by kernel_rfl) (Nat.le_of_ble_eq_true (by kernel_rfl)) (by kernel_rfl)
      rw [f3] at e8
      go_step
      refine (ccmp_any z y W).mono ?_
      rintro e w' ⟨rfl, rfl⟩
      exact hK _ _ (Kp.refl _ _) rfl
    · intro vs A' W hA hW hd K hK
      refine wpOp_free _ rfl rfl ?_
      have e2 : A'.tmps[2]?.getD undef = .pointer (some ⟨g2, 0, none⟩) := slot_is hA (by kernel_rfl) (Nat.le_of_ble_eq_true (by kernel_rfl)) (by kernel_rfl)
      go_step
      exact hK _ _ (Kp.refl _ _) rfl
    · intro vs A' W hA hW hd K hK
      refine wpOp_free _ rfl rfl ?_
      have f5 : vs 5 = .pointer (some ⟨g2, 1, none⟩) := hd 5 (by kernel_rfl)
      have e10 : A'.tmps[10]?.getD undef = vs 5 := slot_is hA (by kernel_rfl) (Nat.le_of_ble_eq_true (by kernel_rfl)) (by kernel_rfl)
      rw [f5] at e10
      go_step
      exact hK _ _ (Kp.refl _ _) rfl
    · intro vs A' W hA hW hd K hK
      refine wpOp_free _ rfl rfl ?_
      have e3 : A'.tmps[3]?.getD undef = .pointer (some ⟨g3, 0, none⟩) := slot_is hA (by kernel_rfl) (Nat.le_of_ble_eq_true (by kernel_rfl)) (by kernel_rfl)
      go_step
      exact hK _ _ (Kp.refl _ _) rfl
    · intro vs A' W hA hW hd K hK
      refine wpOp_free _ rfl rfl ?_
      have f7 : vs 7 = .pointer (some ⟨g3, 1, none⟩) := hd 7 (by kernel_rfl)
      have e12 : A'.tmps[12]?.getD undef = vs 7 := slot_is hA (by kernel_rfl) (Nat.le_of_ble_eq_true (by kernel_rfl)) (by kernel_rfl)
      rw [f7] at e12
      go_step
      exact hK _ _ (Kp.refl _ _) rfl
    · intro vs A' W hA hW hd K hK
      refine wpOp_free _ rfl rfl ?_
      have f6 : vs 6 = .slice (some ⟨g2, 1, none⟩) 32 32 := hd 6 (by kernel_rfl)
      have e11 : A'.tmps[11]?.getD undef = vs 6 := slot_is hA (by kernel_rfl) (Nat.le_of_ble_eq_true (by kernel_rfl)) (by kernel_rfl)
      rw [f6] at e11
      have f8 : vs 8 = .slice (some ⟨g3, 1, none⟩) 32 32 := hd 8 (by kernel_rfl)
      have e13 : A'.tmps[13]?.getD undef = vs 8 := slot_is hA (by kernel_rfl) (Nat.le_of_ble_eq_true (by kernel_rfl)) (by kernel_rfl)
      rw [f8] at e13
      go_step
      refine (bcmp_any _ _ hh gg 32 32 W (pt_rd (Blk.kp (S0.out.at_ (l1 := [_])).drew hW (by simp)) HH.out) (pt_rd (Blk.kp (S0.out.at_ (l1 := [])).drew hW (by simp)) HG.out)).mono ?_
      rintro e w' ⟨rfl, rfl⟩
      exact hK _ _ (Kp.refl _ _) rfl
    · intro vs A' W hA hW hd K hK
      refine wpOp_free _ rfl rfl ?_
      have f4 : vs 4 = .int .i64 (cmpZ z y) := hd 4 (by kernel_rfl)
      have e9 : A'.tmps[9]?.getD undef = vs 4 := slot_is hA (by kernel_rfl) (Nat.le_of_ble_eq_true (by kernel_rfl)) (by kernel_rfl)
      rw [f4] at e9
      have f9 : vs 9 = .int .i64 (cmpB hh gg) := hd 9 (by kernel_rfl)
      have e14 : A'.tmps[14]?.getD undef = vs 9 := slot_is hA (by kernel_rfl) (Nat.le_of_ble_eq_true (by kernel_rfl)) (by kernel_rfl)
      rw [f9] at e14
      go_step
      exact hK _ _ ((Kp.refl [] W).alloc _) ⟨_, rfl, Rd.of_own (ow_new W 3 1 2 #[.int .i64 (cmpZ z y), .int .i64 (cmpB hh gg)] rfl (by decide))⟩
    · intro vs A' W hA hW hd K hK
      refine wpOp_free _ rfl rfl ?_
      have f10 : ∃ g, (vs 10) = .slice (some ⟨g, 0, none⟩) 2 2 ∧ Rd W 1 (vs 10) 2 [.int .i64 (cmpZ z y), .int .i64 (cmpB hh gg)] := hd 10 (by kernel_rfl)
      have e15 : A'.tmps[15]?.getD undef = vs 10 := slot_is hA (by kernel_rfl) (Nat.le_of_ble_eq_true (by kernel_rfl)) (by kernel_rfl)
      go_step
      obtain ⟨g, hv, hr⟩ := f10
      refine (cor_any _ (cmpZ z y) (cmpB hh gg) W hr).mono ?_
      rintro e w' ⟨rfl, rfl⟩
      exact hK _ _ (Kp.refl _ _) rfl
    · intro vs A' W hA hW hd K hK
      refine wpOp_free _ rfl rfl ?_
      have f11 : vs 11 = .int .i64 (cmpP z hh y gg) := hd 11 (by kernel_rfl)
      have e16 : A'.tmps[16]?.getD undef = vs 11 := slot_is hA (by kernel_rfl) (Nat.le_of_ble_eq_true (by kernel_rfl)) (by kernel_rfl)
      rw [f11] at e16
      go_step
      exact hK _ _ (Kp.refl _ _) rfl
  · intro vs W hW hp
    have p12 : vs 12 = .int .i64 (cmpP z hh y gg) := hp 12 (Nat.le_of_ble_eq_true rfl)
    clear hp
    have S1 := Lib.hid (S0.out.kp ((Kp.refl [] _).drew.trans hW (by simp)))
    simp only [putAll, p12, Act.put, List.setIfInBounds_toArray, List.set_cons_succ, List.set_cons_zero]
    clear p12 hW S0
  -- END pcmp1
    go_wp2_with fail
    go_ret
    exact ⟨rfl, S1.out.k⟩
end Go.Proofs.YtolfckhjfadhdaaDoor
/- Compare of the reference: the walk. -/
namespace Go.Proofs.YtolfckhjfadhdaaDoor
open Go.RowKit
theorem cmpB_drop : ∀ (i : Nat) {a b : List UInt8}, a.length = b.length → a.take i = b.take i → cmpB a b = cmpB (a.drop i) (b.drop i)
  | 0, _, _, _, _ => by simp
  | i + 1, [], [], _, _ => by simp
  | i + 1, x :: a, y :: b, hl, h => by
    simp only [List.take_succ_cons, List.cons.injEq] at h
    obtain ⟨rfl, h⟩ := h
    rw [cmpB_cons, if_neg (by omega), if_neg (by omega), List.drop_succ_cons, List.drop_succ_cons]
    exact cmpB_drop i (by simpa using hl) h
theorem cmpB_at {i : Nat} {a b : List UInt8} {x y : UInt8} (hl : a.length = b.length) (h : a.take i = b.take i) (hx : a[i]? = some x) (hy : b[i]? = some y) (hne : x.toNat ≠ y.toNat) : cmpB a b = if x.toNat < y.toNat then -1 else 1 := by
  obtain ⟨ha, hx⟩ := List.getElem?_eq_some_iff.1 hx
  obtain ⟨hb, hy⟩ := List.getElem?_eq_some_iff.1 hy
  rw [cmpB_drop i hl h, List.drop_eq_getElem_cons ha, List.drop_eq_getElem_cons hb, hx, hy, cmpB_cons]
  split
  · rfl
  · rw [if_pos (by omega)]
set_option maxRecDepth 100000 in
set_option maxHeartbeats 4000000 in
theorem rcmp_any (z : Int) (hh : List UInt8) (hhl : hh.length = 32) (y : Int) (gg : List UInt8) (hgl : gg.length = 32) (w : World) : Calls Tryd.prog 20 #[.agg (ptA z hh), .agg (ptA y gg)] w fun e w' => e = .returned (.int .i64 (cmpP z hh y gg)) ∧ Kp [] w w' := by
  have HH := Lib.hid hhl
  have HG := Lib.hid hgl
  have HCP := Lib.hid (cmpP_eq z hh y gg)
  have S0 := Lib.hid (((Held.start w).newBlk 25 (ptA z hh)).newBlk 25 (ptA y gg))
  rw [World.size_alloc] at S0
  have c2 := pt_c0 (S0.out.at_ (l1 := [_]))
  have c3 := pt_c0 (S0.out.at_ (l1 := []))
  obtain ⟨cs, HC⟩ : ∃ cs, Hid (ptA z hh = cs) := ⟨_, Lib.hid rfl⟩
  obtain ⟨ds, HD⟩ : ∃ ds, Hid (ptA y gg = ds) := ⟨_, Lib.hid rfl⟩
  rw [HC.out, HD.out] at S0
  rw [HC.out, HD.out] at c2 c3 ⊢
  clear hhl hgl
  by_cases hzy : z = y
  · have hne : (z != y) = false := by simpa using hzy
    have HR : Hid (cmpP z hh y gg = cmpB hh gg) := Lib.hid (by rw [HCP.out, if_neg (by omega), if_neg (by omega)])
    clear hzy
    go_enter Tryd.func20, Tryd.ntmps20
    go_wp2
    generalize hW1 : (w.alloc (.cells cs 25)).alloc (.cells ds 25) = w1 at *
    generalize hg4 : w.heap.size = g2 at *
    generalize hg5 : g2 + 1 = g3 at *
    rw [← HC.out, ← HD.out] at S0
    go_loopw [5] (fun t wr => ∃ k : Nat, k ≤ 32 ∧ t = .int .i64 (k : Int) ∧ Held w wr [blkR g3 25 (ptA y gg), blkR g2 25 (ptA z hh)] ∧ hh.take k = gg.take k) (fun t _ => 32 - (intOf t).toNat)
    case atStart => exact ⟨0, by omega, rfl, S0.out, rfl⟩
    case round =>
      obtain ⟨k, hk, rfl, S, htk⟩ := hrel
      have HS := Lib.hid S
      have HT := Lib.hid htk
      clear S S0 htk
      by_cases hlt : k < 32
      · obtain ⟨cc, hcc⟩ : ∃ c, hh[k]? = some c := ⟨_, List.getElem?_eq_getElem (by rw [HH.out]; exact hlt)⟩
        obtain ⟨dd, hdd⟩ : ∃ c, gg[k]? = some c := ⟨_, List.getElem?_eq_getElem (by rw [HG.out]; exact hlt)⟩
        have HCc := Lib.hid hcc
        have HDd := Lib.hid hdd
        have HC2 : Hid (∀ V, Kp [] wr V → V.cell? ⟨g2, 1 + k, none⟩ = some (.int .u8 (cc.toNat : Int))) := Lib.hid (fun V kk => by
          rw [pt_byte ((HS.out.at_ (l1 := [_])).kp kk (by simp)) k (by rw [HH.out]; exact hlt), (List.getElem?_eq_some_iff.1 HCc.out).2])
        have HC3 : Hid (∀ V, Kp [] wr V → V.cell? ⟨g3, 1 + k, none⟩ = some (.int .u8 (dd.toNat : Int))) := Lib.hid (fun V kk => by
          rw [pt_byte ((HS.out.at_ (l1 := [])).kp kk (by simp)) k (by rw [HG.out]; exact hlt), (List.getElem?_eq_some_iff.1 HDd.out).2])
        clear hcc hdd
        go_wp2_with fail
        -- SEP rcmp8
        refine wp_region_invG (fun i v W => match i with | 0 => v = .int .i64 (k : Int) | 1 => v = .pointer (some ⟨g2, 1, none⟩) | 2 => v = .pointer (some ⟨g2, 1 + k, none⟩) | 3 => v = .int .u8 (cc.toNat : Int) | 4 => v = .int .i64 (k : Int) | 5 => v = .pointer (some ⟨g3, 1, none⟩) | 6 => v = .pointer (some ⟨g3, 1 + k, none⟩) | 7 => v = .int .u8 (dd.toNat : Int) | 8 => v = .bool ((cc.toNat : Int) != dd.toNat) | _ => True) (by kernel_rfl) (by kernel_rfl) (by kernel_rfl) ?_ ?_ ?_
        · intro i v W W' h _
          iterate 9 (rcases i with _ | i; · exact h)
          exact h
        · refine ⟨?_, ?_, ?_, ?_, ?_, ?_, ?_, ?_, ?_, trivial⟩
          · intro vs A' W hA hW hd K hK
            refine wpOp_free _ rfl rfl ?_
            have e5 : A'.tmps[5]?.getD undef = .int .i64 (k : Int) := slot_is hA (by kernel_rfl) (Nat.le_of_ble_eq_true (by kernel_rfl)) (by kernel_rfl)
            go_step
            exact hK _ _ (Kp.refl _ _) rfl
          · intro vs A' W hA hW hd K hK
            refine wpOp_free _ rfl rfl ?_
            have e2 : A'.tmps[2]?.getD undef = .pointer (some ⟨g2, 0, none⟩) := slot_is hA (by kernel_rfl) (Nat.le_of_ble_eq_true (by kernel_rfl)) (by kernel_rfl)
            go_step
            exact hK _ _ (Kp.refl _ _) rfl
          · intro vs A' W hA hW hd K hK
            refine wpOp_free _ rfl rfl ?_
            have f1 : vs 1 = .pointer (some ⟨g2, 1, none⟩) := hd 1 (by kernel_rfl)
            have e21 : A'.tmps[21]?.getD undef = vs 1 := slot_is hA (by kernel_rfl) (Nat.le_of_ble_eq_true (by kernel_rfl)) (by kernel_rfl)
            rw [f1] at e21
            have f0 : vs 0 = .int .i64 (k : Int) := hd 0 (by kernel_rfl)
            have e20 : A'.tmps[20]?.getD undef = vs 0 := slot_is hA (by kernel_rfl) (Nat.le_of_ble_eq_true (by kernel_rfl)) (by kernel_rfl)
            rw [f0] at e20
            have h0 : 0 ≤ (k : Int) := by omega
            have h1 : (k : Int) < 32 := by omega
            go_step
            exact hK _ _ (Kp.refl _ _) rfl
          · intro vs A' W hA hW hd K hK
            refine wpOp_free _ rfl rfl ?_
            have f2 : vs 2 = .pointer (some ⟨g2, 1 + k, none⟩) := hd 2 (by kernel_rfl)
            have e22 : A'.tmps[22]?.getD undef = vs 2 := slot_is hA (by kernel_rfl) (Nat.le_of_ble_eq_true (by kernel_rfl)) (by kernel_rfl)
            rw [f2] at e22
            have c0 := HC2.out W ((Kp.refl [] _).drew.trans hW (by simp))
            go_step
            exact hK _ _ (Kp.refl _ _) rfl
          · intro vs A' W hA hW hd K hK
            refine wpOp_free _ rfl rfl ?_
            have e5 : A'.tmps[5]?.getD undef = .int .i64 (k : Int) := slot_is hA (by kernel_rfl) (Nat.le_of_ble_eq_true (by kernel_rfl)) (by kernel_rfl)
            go_step
            exact hK _ _ (Kp.refl _ _) rfl
          · intro vs A' W hA hW hd K hK
            refine wpOp_free _ rfl rfl ?_
            have e3 : A'.tmps[3]?.getD undef = .pointer (some ⟨g3, 0, none⟩) := slot_is hA (by kernel_rfl) (Nat.le_of_ble_eq_true (by kernel_rfl)) (by kernel_rfl)
            go_step
            exact hK _ _ (Kp.refl _ _) rfl
          · intro vs A' W hA hW hd K hK
            refine wpOp_free _ rfl rfl ?_
            have f5 : vs 5 = .pointer (some ⟨g3, 1, none⟩) := hd 5 (by kernel_rfl)
            have e25 : A'.tmps[25]?.getD undef = vs 5 := slot_is hA (by kernel_rfl) (Nat.le_of_ble_eq_true (by kernel_rfl)) (by kernel_rfl)
            rw [f5] at e25
            have f4 : vs 4 = .int .i64 (k : Int) := hd 4 (by kernel_rfl)
            have e24 : A'.tmps[24]?.getD undef = vs 4 := slot_is hA (by kernel_rfl) (Nat.le_of_ble_eq_true (by kernel_rfl)) (by kernel_rfl)
            rw [f4] at e24
            have h0 : 0 ≤ (k : Int) := by omega
            have h1 : (k : Int) < 32 := by omega
            go_step
            exact hK _ _ (Kp.refl _ _) rfl
          · intro vs A' W hA hW hd K hK
            refine wpOp_free _ rfl rfl ?_
            have f6 : vs 6 = .pointer (some ⟨g3, 1 + k, none⟩) := hd 6 (by kernel_rfl)
            have e26 : A'.tmps[26]?.getD undef = vs 6 := slot_is hA (by kernel_rfl) (Nat.le_of_ble_eq_true (by kernel_rfl)) (by kernel_rfl)
            rw [f6] at e26
            have c0 := HC3.out W ((Kp.refl [] _).drew.trans hW (by simp))
            go_step
            exact hK _ _ (Kp.refl _ _) rfl
          · intro vs A' W hA hW hd K hK
            refine wpOp_free _ rfl rfl ?_
            have f3 : vs 3 = .int .u8 (cc.toNat : Int) := hd 3 (by kernel_rfl)
            have e23 : A'.tmps[23]?.getD undef = vs 3 := slot_is hA (by kernel_rfl) (Nat.le_of_ble_eq_true (by kernel_rfl)) (by kernel_rfl)
            rw [f3] at e23
            have f7 : vs 7 = .int .u8 (dd.toNat : Int) := hd 7 (by kernel_rfl)
            have e27 : A'.tmps[27]?.getD undef = vs 7 := slot_is hA (by kernel_rfl) (Nat.le_of_ble_eq_true (by kernel_rfl)) (by kernel_rfl)
            rw [f7] at e27
            go_step
            exact hK _ _ (Kp.refl _ _) rfl
        · intro vs W hW hp
          have p8 : vs 8 = .bool ((cc.toNat : Int) != dd.toNat) := hp 8 (Nat.le_of_ble_eq_true rfl)
          clear hp
          have HS1 := Lib.hid (HS.out.kp ((Kp.refl [] _).drew.trans hW (by simp)))
          have HC2 := Lib.hid (fun V (kk : Kp [] W V) => HC2.out V ((Kp.refl [] _).drew.trans (hW.trans kk (by simp)) (by simp)))
          have HC3 := Lib.hid (fun V (kk : Kp [] W V) => HC3.out V ((Kp.refl [] _).drew.trans (hW.trans kk (by simp)) (by simp)))
          simp only [putAll, p8, Act.put, List.setIfInBounds_toArray, List.set_cons_succ, List.set_cons_zero]
          clear p8 hW HS
        -- END rcmp8
          by_cases hcd : cc.toNat = dd.toNat
          · have hb : ((cc.toNat : Int) != (dd.toNat : Int)) = false := by simp; omega
            go_wp2
            go_roundw
            case rel =>
              refine ⟨k + 1, by omega, by go_num, HS1.out, ?_⟩
              rw [List.take_add_one, List.take_add_one, HT.out, HCc.out, HDd.out, UInt8.toNat_inj.1 hcd]
            case measure => simp [intOf]; omega
          · have hb : ((cc.toNat : Int) != (dd.toNat : Int)) = true := by simp; omega
            have HAt := Lib.hid (cmpB_at (by rw [HH.out, HG.out]) HT.out HCc.out HDd.out hcd)
            go_wp2_with fail
            -- SEP rcmp9
            refine wp_region_invG (fun i v W => match i with | 0 => v = .int .i64 (k : Int) | 1 => v = .pointer (some ⟨g2, 1, none⟩) | 2 => v = .pointer (some ⟨g2, 1 + k, none⟩) | 3 => v = .int .u8 (cc.toNat : Int) | 4 => v = .int .i64 (k : Int) | 5 => v = .pointer (some ⟨g3, 1, none⟩) | 6 => v = .pointer (some ⟨g3, 1 + k, none⟩) | 7 => v = .int .u8 (dd.toNat : Int) | 8 => v = .bool (decide (cc.toNat < dd.toNat)) | _ => True) (by kernel_rfl) (by kernel_rfl) (by kernel_rfl) ?_ ?_ ?_
            · intro i v W W' h _
              iterate 9 (rcases i with _ | i; · exact h)
              exact h
            · refine ⟨?_, ?_, ?_, ?_, ?_, ?_, ?_, ?_, ?_, trivial⟩
              · intro vs A' W hA hW hd K hK
                refine wpOp_free _ rfl rfl ?_
                have e5 : A'.tmps[5]?.getD undef = .int .i64 (k : Int) := slot_is hA (by kernel_rfl) (Nat.le_of_ble_eq_true (by kernel_rfl)) (by kernel_rfl)
                go_step
                exact hK _ _ (Kp.refl _ _) rfl
              · intro vs A' W hA hW hd K hK
                refine wpOp_free _ rfl rfl ?_
                have e2 : A'.tmps[2]?.getD undef = .pointer (some ⟨g2, 0, none⟩) := slot_is hA (by kernel_rfl) (Nat.le_of_ble_eq_true (by kernel_rfl)) (by kernel_rfl)
                go_step
                exact hK _ _ (Kp.refl _ _) rfl
              · intro vs A' W hA hW hd K hK
                refine wpOp_free _ rfl rfl ?_
                have f1 : vs 1 = .pointer (some ⟨g2, 1, none⟩) := hd 1 (by kernel_rfl)
                have e30 : A'.tmps[30]?.getD undef = vs 1 := slot_is hA (by kernel_rfl) (Nat.le_of_ble_eq_true (by kernel_rfl)) (by kernel_rfl)
                rw [f1] at e30
                have f0 : vs 0 = .int .i64 (k : Int) := hd 0 (by kernel_rfl)
                have e29 : A'.tmps[29]?.getD undef = vs 0 := slot_is hA (by kernel_rfl) (Nat.le_of_ble_eq_true (by kernel_rfl)) (by kernel_rfl)
                rw [f0] at e29
                have h0 : 0 ≤ (k : Int) := by omega
                have h1 : (k : Int) < 32 := by omega
                go_step
                exact hK _ _ (Kp.refl _ _) rfl
              · intro vs A' W hA hW hd K hK
                refine wpOp_free _ rfl rfl ?_
                have f2 : vs 2 = .pointer (some ⟨g2, 1 + k, none⟩) := hd 2 (by kernel_rfl)
                have e31 : A'.tmps[31]?.getD undef = vs 2 := slot_is hA (by kernel_rfl) (Nat.le_of_ble_eq_true (by kernel_rfl)) (by kernel_rfl)
                rw [f2] at e31
                have c0 := HC2.out W ((Kp.refl [] _).drew.trans hW (by simp))
                go_step
                exact hK _ _ (Kp.refl _ _) rfl
              · intro vs A' W hA hW hd K hK
                refine wpOp_free _ rfl rfl ?_
                have e5 : A'.tmps[5]?.getD undef = .int .i64 (k : Int) := slot_is hA (by kernel_rfl) (Nat.le_of_ble_eq_true (by kernel_rfl)) (by kernel_rfl)
                go_step
                exact hK _ _ (Kp.refl _ _) rfl
              · intro vs A' W hA hW hd K hK
                refine wpOp_free _ rfl rfl ?_
                have e3 : A'.tmps[3]?.getD undef = .pointer (some ⟨g3, 0, none⟩) := slot_is hA (by kernel_rfl) (Nat.le_of_ble_eq_true (by kernel_rfl)) (by kernel_rfl)
                go_step
                exact hK _ _ (Kp.refl _ _) rfl
              · intro vs A' W hA hW hd K hK
                refine wpOp_free _ rfl rfl ?_
                have f5 : vs 5 = .pointer (some ⟨g3, 1, none⟩) := hd 5 (by kernel_rfl)
                have e34 : A'.tmps[34]?.getD undef = vs 5 := slot_is hA (by kernel_rfl) (Nat.le_of_ble_eq_true (by kernel_rfl)) (by kernel_rfl)
                rw [f5] at e34
                have f4 : vs 4 = .int .i64 (k : Int) := hd 4 (by kernel_rfl)
                have e33 : A'.tmps[33]?.getD undef = vs 4 := slot_is hA (by kernel_rfl) (Nat.le_of_ble_eq_true (by kernel_rfl)) (by kernel_rfl)
                rw [f4] at e33
                have h0 : 0 ≤ (k : Int) := by omega
                have h1 : (k : Int) < 32 := by omega
                go_step
                exact hK _ _ (Kp.refl _ _) rfl
              · intro vs A' W hA hW hd K hK
                refine wpOp_free _ rfl rfl ?_
                have f6 : vs 6 = .pointer (some ⟨g3, 1 + k, none⟩) := hd 6 (by kernel_rfl)
                have e35 : A'.tmps[35]?.getD undef = vs 6 := slot_is hA (by kernel_rfl) (Nat.le_of_ble_eq_true (by kernel_rfl)) (by kernel_rfl)
                rw [f6] at e35
                have c0 := HC3.out W ((Kp.refl [] _).drew.trans hW (by simp))
                go_step
                exact hK _ _ (Kp.refl _ _) rfl
              · intro vs A' W hA hW hd K hK
                refine wpOp_free _ rfl rfl ?_
                have f3 : vs 3 = .int .u8 (cc.toNat : Int) := hd 3 (by kernel_rfl)
                have e32 : A'.tmps[32]?.getD undef = vs 3 := slot_is hA (by kernel_rfl) (Nat.le_of_ble_eq_true (by kernel_rfl)) (by kernel_rfl)
                rw [f3] at e32
                have f7 : vs 7 = .int .u8 (dd.toNat : Int) := hd 7 (by kernel_rfl)
                have e36 : A'.tmps[36]?.getD undef = vs 7 := slot_is hA (by kernel_rfl) (Nat.le_of_ble_eq_true (by kernel_rfl)) (by kernel_rfl)
                rw [f7] at e36
                go_step
                exact hK _ _ (Kp.refl _ _) rfl
            · intro vs W hW hp
              have p8 : vs 8 = .bool (decide (cc.toNat < dd.toNat)) := hp 8 (Nat.le_of_ble_eq_true rfl)
              clear hp
              have HS2 := Lib.hid (HS1.out.kp ((Kp.refl [] _).drew.trans hW (by simp)))
              simp only [putAll, p8, Act.put, List.setIfInBounds_toArray, List.set_cons_succ, List.set_cons_zero]
              clear p8 hW HS1
            -- END rcmp9
              by_cases hl2 : cc.toNat < dd.toNat
              · go_wp2
                go_ret
                refine ⟨?_, HS2.out.k⟩
                rw [HR.out, HAt.out, if_pos (by omega)]
                rfl
              · go_wp2
                go_ret
                refine ⟨?_, HS2.out.k⟩
                rw [HR.out, HAt.out, if_neg (by omega)]
                rfl
      · obtain rfl : k = 32 := by omega
        have HAt : Hid (cmpB hh gg = 0) := Lib.hid (by
          have := HT.out
          rw [List.take_of_length_le (by rw [HH.out]; omega), List.take_of_length_le (by rw [HG.out]; omega)] at this
          rw [this, cmpB_self])
        go_wp2
        go_ret
        refine ⟨?_, HS.out.k⟩
        rw [HR.out, HAt.out]
        rfl
  · have hne : (z != y) = true := by simpa using hzy
    by_cases hlt : z < y
    · have HR : Hid (cmpP z hh y gg = -1) := Lib.hid (by rw [HCP.out, if_pos hlt])
      go_enter Tryd.func20, Tryd.ntmps20
      go_wp2
      go_ret
      refine ⟨?_, S0.out.k⟩
      rw [HR.out]
      rfl
    · have HR : Hid (cmpP z hh y gg = 1) := Lib.hid (by rw [HCP.out, if_neg hlt, if_pos (by omega)])
      go_enter Tryd.func20, Tryd.ntmps20
      go_wp2
      go_ret
      refine ⟨?_, S0.out.k⟩
      rw [HR.out]
      rfl
end Go.Proofs.YtolfckhjfadhdaaDoor
/- Lists of points in memory; Last of the reference. -/
namespace Go.Proofs.YtolfckhjfadhdaaDoor
open Go.RowKit
abbrev Pt := Int × List UInt8
def ptsC (ps : List Pt) : List Value := ps.flatMap fun p => (ptA p.1 p.2).toList
def PtsOk (ps : List Pt) : Prop := ∀ p, p ∈ ps → (-9223372036854775808 ≤ p.1 ∧ p.1 ≤ 9223372036854775807) ∧ p.2.length = 32
theorem ptsC_length : ∀ {ps : List Pt}, PtsOk ps → (ptsC ps).length = ps.length * 33
  | [], _ => rfl
  | p :: ps, h => by
    have h1 := ptA_size (s := p.1) (h p (by simp)).2
    have ih := ptsC_length (ps := ps) (fun q hq => h q (by simp [hq]))
    unfold ptsC at ih ⊢
    rw [List.flatMap_cons, List.length_append, ih, Array.length_toList, h1, List.length_cons]
    omega
theorem ptsC_at : ∀ {ps : List Pt} {k : Nat} {p : Pt}, PtsOk ps → ps[k]? = some p → ∀ j u, (ptA p.1 p.2).toList[j]? = some u → (ptsC ps)[k * 33 + j]? = some u
  | [], _, _, _, h => by simp at h
  | q :: ps, 0, p, hok, h => by
    intro j u hu
    obtain rfl : q = p := by simpa using h
    unfold ptsC
    rw [List.flatMap_cons, Nat.zero_mul, Nat.zero_add, List.getElem?_append_left (List.getElem?_eq_some_iff.1 hu).1]
    exact hu
  | q :: ps, k + 1, p, hok, h => by
    intro j u hu
    have h1 := ptA_size (s := q.1) (hok q (by simp)).2
    have ih := ptsC_at (ps := ps) (k := k) (p := p) (fun q hq => hok q (by simp [hq])) (by simpa using h) j u hu
    unfold ptsC at ih ⊢
    rw [List.flatMap_cons, List.getElem?_append_right (by rw [Array.length_toList, h1]; omega), Array.length_toList, h1, ← ih]
    congr 1
    omega
theorem pts_at {W : World} {ad : Addr} {c n : Nat} {ps : List Pt} (h : Rd W 33 (.slice (some ad) n c) n (ptsC ps)) (hok : PtsOk ps) {k : Nat} {p : Pt} (hk : ps[k]? = some p) : ∀ j u, (ptA p.1 p.2).toList[j]? = some u → W.cell? ((ad.add (k * 33)).add j) = some u := by
  obtain ⟨hl, A', c', hv, _, _, _, hc⟩ := h
  cases hv
  intro j u hu
  rw [add_of_add]
  exact hc ad rfl _ u (ptsC_at hok hk j u hu)
def stepP (b q : Pt) : Pt := if 0 < cmpP q.1 q.2 b.1 b.2 then q else b
def lastP : List Pt → Pt
  | [] => (0, List.replicate 32 0)
  | p :: l => l.foldl stepP p
theorem stepP_self (p : Pt) : stepP p p = p := by unfold stepP; split <;> rfl
theorem stepP_mem (b q : Pt) : stepP b q = b ∨ stepP b q = q := by unfold stepP; split <;> simp
theorem fold_mem : ∀ (l : List Pt) (b : Pt), l.foldl stepP b = b ∨ l.foldl stepP b ∈ l
  | [], b => .inl rfl
  | q :: l, b => by
    rw [List.foldl_cons]
    rcases fold_mem l (stepP b q) with h | h
    · rw [h]
      rcases stepP_mem b q with e | e
      · exact .inl e
      · exact .inr (by rw [e]; simp)
    · exact .inr (by simp [h])
theorem lastP_ok {ps : List Pt} (h : PtsOk ps) : (lastP ps).2.length = 32 := by
  cases ps with
  | nil => simp [lastP]
  | cons p l =>
    rcases fold_mem l p with e | e
    · show (l.foldl stepP p).2.length = 32; rw [e]; exact (h p (by simp)).2
    · exact (h _ (List.mem_cons_of_mem _ e)).2
theorem fold_ok {b : Pt} (hb : b.2.length = 32) : ∀ {l : List Pt}, PtsOk l → (l.foldl stepP b).2.length = 32 := fun {l} h => by
  rcases fold_mem l b with e | e
  · rw [e]; exact hb
  · exact (h _ e).2
theorem take_fold {ps : List Pt} {k : Nat} {q : Pt} (b : Pt) (h : ps[k]? = some q) : (ps.take (k + 1)).foldl stepP b = stepP ((ps.take k).foldl stepP b) q := by
  rw [List.take_add_one, h]
  simp
def LastPost (ps : List Pt) (w : World) (e : Ending) (w' : World) : Prop := e = .returned (.tuple #[.agg (ptA (lastP ps).1 (lastP ps).2), .bool (decide (0 < ps.length))]) ∧ Kp [] w w'
set_option maxRecDepth 100000 in
set_option maxHeartbeats 4000000 in
theorem rlast_any (x : Value) (ps : List Pt) (hok : PtsOk ps) (hn : ps.length ≤ 140737488355328) (w : World) (hx : Rd w 33 x ps.length (ptsC ps)) : Calls Tryd.prog 18 #[x] w (LastPost ps w) := by
  have HZ : Hid (zeroP.size = 33) := Lib.hid rfl
  have HZO := Lib.hid (ptA_one 0 (List.replicate 32 0))
  have HX := Lib.hid hx
  have S0 := Lib.hid ((Held.start w).newBlk 25 zeroP)
  obtain ⟨A, c, rfl⟩ := rd_form hx
  clear hx
  cases ps with
  | nil =>
    go_enter Tryd.func18, Tryd.ntmps18
    go_wp2_with (refine wpList_store_blk rfl 25 (.tmp 2) (.tmp 9) rfl w.heap.size rfl zeroP (by kernel_rfl) 25 _ (S0.out.at_ (l1 := [])) (by rw [HZ.out]; exact Tryd.infoPointP) rfl HZO.out ?_; intro w9 b9 k9; have S9 := Lib.hid (Held.setBlk (l1 := []) S0.out b9 k9); clear b9 k9)
    refine bodyPost_ret (results_cell_tmp (by rfl) rfl (S9.out.at_ (l1 := [])) Tryd.underlying25 rfl (by rw [HZ.out]; exact Tryd.infoPointP)) rfl ?_
    exact ⟨rfl, S9.out.k⟩
  | cons p l =>
    obtain ⟨ad, rfl⟩ : ∃ ad, A = some ad := by
      obtain ⟨_, A', c', hv, _, _, hA, _⟩ := HX.out
      cases hv
      cases A with
      | none => have := hA rfl; simp at this
      | some ad => exact ⟨ad, rfl⟩
    obtain ⟨ps, Hps⟩ : ∃ ps, Hid (p :: l = ps) := ⟨_, Lib.hid rfl⟩
    have HL : Hid (ps.foldl stepP p = lastP ps) := Lib.hid (by rw [← Hps.out]; show (l.foldl stepP (stepP p p)) = l.foldl stepP p; rw [stepP_self])
    have hp0 : ps[0]? = some p := by rw [← Hps.out]; rfl
    have hn0 : 0 < ps.length := by rw [← Hps.out]; simp
    rw [Hps.out] at hok hn HX ⊢
    have HOk := Lib.hid hok
    have HGp := Lib.hid (hok p (List.mem_of_getElem? hp0)).2
    have HAt := Lib.hid (fun V (kk : Kp [] w V) (k : Nat) (q : Pt) (hk : ps[k]? = some q) => pts_at (rd_old HX.out kk) HOk.out hk)
    have HP00 : Hid (∀ V, Kp [] w V → ∀ j u, (ptA p.1 p.2).toList[j]? = some u → V.cell? (ad.add j) = some u) := Lib.hid (fun V kk j u hu => by have := HAt.out V kk 0 p hp0 j u hu; simpa [Addr.add] using this)
    obtain ⟨n, Hn⟩ : ∃ n, Hid (ps.length = n) := ⟨_, Lib.hid rfl⟩
    rw [Hn.out] at hn hn0 HX ⊢
    have hnz : ((n : Int) == 0) = false := by simp; omega
    clear hok hp0
    go_enter Tryd.func18, Tryd.ntmps18
    go_wp2_with (first
      | (refine wpList_runF rfl (exec_load rfl rfl (run_loadAt_agg _ ad 25 (ptA p.1 p.2).toList _ (HP00.out _ ((Kp.refl [] w).alloc _)) Tryd.underlying25 rfl (by rw [Array.length_toList, ptA_size HGp.out]; exact Tryd.infoPointP))) ?_)
      | (refine wpList_store_blk rfl 25 (.tmp 4) (.tmp 12) rfl (w.heap.size + 1) rfl (ptA p.1 p.2) rfl 25 _ (by have := Blk.new (w.alloc (.cells zeroP 25)) 25 zeroP; rwa [World.size_alloc] at this) (by rw [ptA_size HGp.out]; exact Tryd.infoPointP) (by rw [ptA_size HGp.out]; rfl) (ptA_one _ _) ?_; intro w1 b1 k1; have S1 := Lib.hid (Held.setBlk (l1 := []) (by have := S0.out.newBlk 25 zeroP; rwa [World.size_alloc] at this) b1 k1); clear b1 k1))
    generalize hg4 : w.heap.size + 1 = g4 at *
    generalize hg2 : w.heap.size = g2 at *
    go_loopw [5] (fun t wr => ∃ (k : Nat) (b : Pt), k ≤ n ∧ t = .int .i64 (k : Int) ∧ Held w wr [blkR g4 25 (ptA b.1 b.2), blkR g2 25 zeroP] ∧ (ps.take k).foldl stepP p = b) (fun t _ => n - (intOf t).toNat)
    case atStart => exact ⟨0, p, by omega, rfl, S1.out, rfl⟩
    case round =>
      obtain ⟨k, b, hk, rfl, S, hb⟩ := hrel
      have HS := Lib.hid S
      have HB := Lib.hid hb
      have HGb : Hid (b.2.length = 32) := Lib.hid (by rw [← hb]; exact fold_ok HGp.out (fun q hq => HOk.out q (List.mem_of_mem_take hq)))
      clear S S1 hb
      by_cases hlt : k < n
      · obtain ⟨q, hq⟩ : ∃ q, ps[k]? = some q := ⟨_, List.getElem?_eq_getElem (by rw [Hn.out]; exact hlt)⟩
        have HGq := Lib.hid (HOk.out q (List.mem_of_getElem? hq)).2
        have HQ : Hid (∀ V, Kp [] wr V → ∀ j u, (ptA q.1 q.2).toList[j]? = some u → V.cell? ((ad.add (k * 33)).add j) = some u) := Lib.hid (fun V kk => HAt.out V (HS.out.k.trans kk (by simp)) k q hq)
        have HTk := Lib.hid (take_fold p hq)
        clear hq
        rw [HB.out] at HTk
        go_wp2_with fail
        -- SEP plast_r
        refine wp_region_invG (fun i v W => match i with | 0 => v = .slice (some ad) n c | 1 => v = .int .i64 (k : Int) | 2 => v = .pointer (some (ad.add (k * 33))) | 3 => v = .agg (ptA q.1 q.2) | 4 => v = .agg (ptA b.1 b.2) | 5 => v = .int .i64 (cmpP q.1 q.2 b.1 b.2) | 6 => v = .bool (decide (0 < cmpP q.1 q.2 b.1 b.2)) | _ => True) (by kernel_rfl) (by kernel_rfl) (by kernel_rfl) ?_ ?_ ?_
        · intro i v W W' h _
          iterate 7 (rcases i with _ | i; · exact h)
          exact h
        · refine ⟨?_, ?_, ?_, ?_, ?_, ?_, ?_, trivial⟩
          · intro vs A' W hA hW hd K hK
            refine wpOp_free _ rfl rfl ?_
            have e0 : A'.tmps[0]?.getD undef = .slice (some ad) n c := slot_is hA (by kernel_rfl) (Nat.le_of_ble_eq_true (by kernel_rfl)) (by kernel_rfl)
            go_step
            exact hK _ _ (Kp.refl _ _) rfl
          · intro vs A' W hA hW hd K hK
            refine wpOp_free _ rfl rfl ?_
            have e5 : A'.tmps[5]?.getD undef = .int .i64 (k : Int) := slot_is hA (by kernel_rfl) (Nat.le_of_ble_eq_true (by kernel_rfl)) (by kernel_rfl)
            go_step
            exact hK _ _ (Kp.refl _ _) rfl
          · intro vs A' W hA hW hd K hK
            refine wpOp_free _ rfl rfl ?_
            have f0 : vs 0 = .slice (some ad) n c := hd 0 (by kernel_rfl)
            have e19 : A'.tmps[19]?.getD undef = vs 0 := slot_is hA (by kernel_rfl) (Nat.le_of_ble_eq_true (by kernel_rfl)) (by kernel_rfl)
            rw [f0] at e19
            have f1 : vs 1 = .int .i64 (k : Int) := hd 1 (by kernel_rfl)
            have e20 : A'.tmps[20]?.getD undef = vs 1 := slot_is hA (by kernel_rfl) (Nat.le_of_ble_eq_true (by kernel_rfl)) (by kernel_rfl)
            rw [f1] at e20
            have h0 : 0 ≤ (k : Int) := by omega
            have h1 : (k : Int) < n := by omega
            go_step
            exact hK _ _ (Kp.refl _ _) rfl
          · intro vs A' W hA hW hd K hK
            refine wpOp_free _ rfl rfl ?_
            have f2 : vs 2 = .pointer (some (ad.add (k * 33))) := hd 2 (by kernel_rfl)
            have e21 : A'.tmps[21]?.getD undef = vs 2 := slot_is hA (by kernel_rfl) (Nat.le_of_ble_eq_true (by kernel_rfl)) (by kernel_rfl)
            rw [f2] at e21
            refine op_runs (v := .agg (ptA q.1 q.2)) (w' := W) (exec_load rfl (by simpa [Act.eval] using e21) (run_loadAt_agg W (ad.add (k * 33)) 25 (ptA q.1 q.2).toList _ (HQ.out W ((Kp.refl [] _).drew.trans hW (by simp))) Tryd.underlying25 rfl (by rw [Array.length_toList, ptA_size HGq.out]; exact Tryd.infoPointP))) ?_
            exact hK _ _ (Kp.refl _ _) rfl
          · intro vs A' W hA hW hd K hK
            refine wpOp_free _ rfl rfl ?_
            have e4 : A'.tmps[4]?.getD undef = .pointer (some ⟨g4, 0, none⟩) := slot_is hA (by kernel_rfl) (Nat.le_of_ble_eq_true (by kernel_rfl)) (by kernel_rfl)
            refine op_runs (v := .agg (ptA b.1 b.2)) (w' := W) (exec_load rfl (by simpa [Act.eval] using e4) (run_pt_load (Blk.kp (HS.out.at_ (l1 := [])).drew hW (by simp)) HGb.out)) ?_
            exact hK _ _ (Kp.refl _ _) rfl
          · intro vs A' W hA hW hd K hK
            refine wpOp_free _ rfl rfl ?_
            have f3 : vs 3 = .agg (ptA q.1 q.2) := hd 3 (by kernel_rfl)
            have e22 : A'.tmps[22]?.getD undef = vs 3 := slot_is hA (by kernel_rfl) (Nat.le_of_ble_eq_true (by kernel_rfl)) (by kernel_rfl)
            rw [f3] at e22
            have f4 : vs 4 = .agg (ptA b.1 b.2) := hd 4 (by kernel_rfl)
            have e23 : A'.tmps[23]?.getD undef = vs 4 := slot_is hA (by kernel_rfl) (Nat.le_of_ble_eq_true (by kernel_rfl)) (by kernel_rfl)
            rw [f4] at e23
            go_step
            refine (rcmp_any q.1 q.2 HGq.out b.1 b.2 HGb.out W).mono ?_
            rintro e w' ⟨rfl, k'⟩
            exact hK _ _ k' rfl
          · intro vs A' W hA hW hd K hK
            refine wpOp_free _ rfl rfl ?_
            have f5 : vs 5 = .int .i64 (cmpP q.1 q.2 b.1 b.2) := hd 5 (by kernel_rfl)
            have e24 : A'.tmps[24]?.getD undef = vs 5 := slot_is hA (by kernel_rfl) (Nat.le_of_ble_eq_true (by kernel_rfl)) (by kernel_rfl)
            rw [f5] at e24
            go_step
            exact hK _ _ (Kp.refl _ _) rfl
        · intro vs W hW hp
          have p6 : vs 6 = .bool (decide (0 < cmpP q.1 q.2 b.1 b.2)) := hp 6 (Nat.le_of_ble_eq_true rfl)
          clear hp
          have HS1 := Lib.hid (HS.out.kp ((Kp.refl [] _).drew.trans hW (by simp)))
          have HQ1 := Lib.hid (fun V (kk : Kp [] W V) => HQ.out V ((Kp.refl [] _).drew.trans (hW.trans kk (by simp)) (by simp)))
          simp only [putAll, p6, Act.put, List.setIfInBounds_toArray, List.set_cons_succ, List.set_cons_zero]
          clear p6 hW HS HQ
        -- END plast_r
          by_cases hgt : 0 < cmpP q.1 q.2 b.1 b.2
          · have HSt : Hid (stepP b q = q) := Lib.hid (if_pos hgt)
            go_wp2_with (first
              | (refine wpList_runF rfl (exec_load rfl rfl (run_loadAt_agg _ (ad.add (k * 33)) 25 (ptA q.1 q.2).toList _ (HQ1.out _ (Kp.refl [] _)) Tryd.underlying25 rfl (by rw [Array.length_toList, ptA_size HGq.out]; exact Tryd.infoPointP))) ?_)
              | (refine wpList_store_blk rfl 25 (.tmp 4) (.tmp 29) rfl g4 rfl (ptA q.1 q.2) rfl 25 _ (HS1.out.at_ (l1 := [])) (by rw [ptA_size HGq.out]; exact Tryd.infoPointP) (by rw [ptA_size HGb.out, ptA_size HGq.out]) (ptA_one _ _) ?_; intro w7 b7 k7; have HS2 := Lib.hid (Held.setBlk (l1 := []) HS1.out b7 k7); clear b7 k7))
            go_roundw
            case rel => exact ⟨k + 1, q, by omega, by go_num, HS2.out, by rw [HTk.out, HSt.out]⟩
            case measure => simp [intOf]; omega
          · have HSt : Hid (stepP b q = b) := Lib.hid (if_neg hgt)
            go_wp2
            go_roundw
            case rel => exact ⟨k + 1, b, by omega, by go_num, HS1.out, by rw [HTk.out, HSt.out]⟩
            case measure => simp [intOf]; omega
      · obtain rfl : k = n := by omega
        have HBl : Hid (b = lastP ps) := Lib.hid (by rw [← HB.out, ← HL.out, List.take_of_length_le (by rw [Hn.out]; omega)])
        go_wp2_with (first
          | (refine wpList_load_blk rfl 25 (.tmp 4) rfl g4 rfl 25 _ (HS.out.at_ (l1 := [])) _ Tryd.underlying25 rfl (by rw [ptA_size HGb.out]; exact Tryd.infoPointP) ?_)
          | (refine wpList_store_blk rfl 25 (.tmp 2) (.tmp 30) rfl g2 rfl (ptA b.1 b.2) rfl 25 _ (HS.out.at_ (l1 := [_])) (by rw [ptA_size HGb.out]; exact Tryd.infoPointP) (by rw [ptA_size HGb.out, HZ.out]) (ptA_one _ _) ?_; intro w7 b7 k7; have HS2 := Lib.hid (Held.setBlk (l1 := [_]) HS.out b7 k7); clear b7 k7))
        try rw [Exit.noGoto_ret]
        refine bodyPost_ret (results_cell_tmp (by rfl) rfl (HS2.out.at_ (l1 := [_])) Tryd.underlying25 rfl (by rw [ptA_size HGb.out]; exact Tryd.infoPointP)) rfl ?_
        refine ⟨?_, HS2.out.k⟩
        rw [← HBl.out, decide_eq_true (by rw [Hn.out]; exact hn0)]
        rfl
end Go.Proofs.YtolfckhjfadhdaaDoor
/- Last of point; slices.MaxFunc. -/
namespace Go.Proofs.YtolfckhjfadhdaaDoor
open Go.RowKit
theorem results_cellP {P : Program} {fn : Func} {w : World} {tmps : Array Value} {a t g : Nat} {t' : TypeId} {cs : Array Value} {d : TypeDesc} (h : fn.results = #[.cell a t]) (ha : tmps.getD a undef = .pointer (some ⟨g, 0, none⟩)) (hb : Blk w g t' cs)
    (hu : P.underlying t = some d) (hd : aggB d = true) (hi : (P.info? t).map (·.size) = some cs.size) : (results fn tmps).run P w = .ok (.agg cs) w := by
  have hl : (loadCells ⟨g, 0, none⟩ cs.size).run P w = .ok cs w := by
    have := run_loadCells_list (P := P) w ⟨g, 0, none⟩ cs.toList hb.agg
    simpa using this
  cases hq : P.info? t with
  | none => simp [hq] at hi
  | some i =>
    have hs : i.size = cs.size := by simpa [hq] using hi
    simp only [Array.getD_eq_getD_getElem?] at ha
    simp [results, h, ha, loadVar, asAddr, Sem.run_bind, run_isAgg hu hd, sizeOf, typeInfo, hq, hs, hl]
set_option maxRecDepth 100000 in
set_option maxHeartbeats 4000000 in
theorem maxf_any (x : Value) (ps : List Pt) (hok : PtsOk ps) (hn : ps.length ≤ 140737488355328) (hne : 0 < ps.length) (w : World) (hx : Rd w 33 x ps.length (ptsC ps)) : Calls Tryd.prog 36 #[x, .func (.func 19) #[] #[]] w fun e w' => e = .returned (.agg (ptA (lastP ps).1 (lastP ps).2)) ∧ Kp [] w w' := by
  have HZ : Hid (zeroP.size = 33) := Lib.hid rfl
  have HZO := Lib.hid (ptA_one 0 (List.replicate 32 0))
  have HX := Lib.hid hx
  have S0 := Lib.hid ((Held.start w).newBlk 25 zeroP)
  obtain ⟨A, c, rfl⟩ := rd_form hx
  clear hx
  cases ps with
  | nil => simp at hne
  | cons p l =>
    obtain ⟨ad, rfl⟩ : ∃ ad, A = some ad := by
      obtain ⟨_, A', c', hv, _, _, hA, _⟩ := HX.out
      cases hv
      cases A with
      | none => have := hA rfl; simp at this
      | some ad => exact ⟨ad, rfl⟩
    obtain ⟨ps, Hps⟩ : ∃ ps, Hid (p :: l = ps) := ⟨_, Lib.hid rfl⟩
    have HL : Hid (ps.foldl stepP p = lastP ps) := Lib.hid (by rw [← Hps.out]; show (l.foldl stepP (stepP p p)) = l.foldl stepP p; rw [stepP_self])
    have HT1 : Hid ((ps.take 1).foldl stepP p = p) := Lib.hid (by rw [← Hps.out]; show stepP p p = p; exact stepP_self p)
    have hp0 : ps[0]? = some p := by rw [← Hps.out]; rfl
    rw [Hps.out] at hok hn hne HX ⊢
    have HOk := Lib.hid hok
    have HGp := Lib.hid (hok p (List.mem_of_getElem? hp0)).2
    have HAt := Lib.hid (fun V (kk : Kp [] w V) (k : Nat) (q : Pt) (hk : ps[k]? = some q) => pts_at (rd_old HX.out kk) HOk.out hk)
    have HP00 : Hid (∀ V, Kp [] w V → ∀ j u, (ptA p.1 p.2).toList[j]? = some u → V.cell? (ad.add j) = some u) := Lib.hid (fun V kk j u hu => by have := HAt.out V kk 0 p hp0 j u hu; simpa [Addr.add] using this)
    obtain ⟨n, Hn⟩ : ∃ n, Hid (ps.length = n) := ⟨_, Lib.hid rfl⟩
    rw [Hn.out] at hn hne HX ⊢
    have hnz : ¬ (n : Int) < 1 := by omega
    have hnz2 : ¬ n < 1 := by omega
    clear hok hp0
    go_enter Tryd.func36, Tryd.ntmps36
    go_wp2_with (first
      | (refine wpList_runF rfl (exec_load rfl rfl (run_loadAt_agg _ ad 25 (ptA p.1 p.2).toList _ (HP00.out _ ((Kp.refl [] w).alloc _)) Tryd.underlying25 rfl (by rw [Array.length_toList, ptA_size HGp.out]; exact Tryd.infoPointP))) ?_)
      | (refine wpList_store_blk rfl 25 (.tmp 5) (.tmp 13) rfl (w.heap.size + 1) rfl (ptA p.1 p.2) rfl 25 _ (by have := Blk.new (w.alloc (.cells zeroP 25)) 25 zeroP; rwa [World.size_alloc] at this) (by rw [ptA_size HGp.out]; exact Tryd.infoPointP) (by rw [ptA_size HGp.out]; rfl) (ptA_one _ _) ?_; intro w1 b1 k1; have S1 := Lib.hid (Held.setBlk (l1 := []) (by have := S0.out.newBlk 25 zeroP; rwa [World.size_alloc] at this) b1 k1); clear b1 k1))
    generalize hg4 : w.heap.size + 1 = g4 at *
    generalize hg2 : w.heap.size = g2 at *
    go_loopw [6] (fun t wr => ∃ (k : Nat) (b : Pt), 1 ≤ k ∧ k ≤ n ∧ t = .int .i64 (k : Int) ∧ Held w wr [blkR g4 25 (ptA b.1 b.2), blkR g2 25 zeroP] ∧ (ps.take k).foldl stepP p = b) (fun t _ => n - (intOf t).toNat)
    case atStart => exact ⟨1, p, by omega, by omega, rfl, S1.out, HT1.out⟩
    case round =>
      obtain ⟨k, b, hk1, hk, rfl, S, hb⟩ := hrel
      have HS := Lib.hid S
      have HB := Lib.hid hb
      have HGb : Hid (b.2.length = 32) := Lib.hid (by rw [← hb]; exact fold_ok HGp.out (fun q hq => HOk.out q (List.mem_of_mem_take hq)))
      clear S S1 hb
      by_cases hlt : k < n
      · obtain ⟨q, hq⟩ : ∃ q, ps[k]? = some q := ⟨_, List.getElem?_eq_getElem (by rw [Hn.out]; exact hlt)⟩
        have HGq := Lib.hid (HOk.out q (List.mem_of_getElem? hq)).2
        have HQ : Hid (∀ V, Kp [] wr V → ∀ j u, (ptA q.1 q.2).toList[j]? = some u → V.cell? ((ad.add (k * 33)).add j) = some u) := Lib.hid (fun V kk => HAt.out V (HS.out.k.trans kk (by simp)) k q hq)
        have HTk := Lib.hid (take_fold p hq)
        clear hq
        rw [HB.out] at HTk
        go_wp2_with fail
        -- SEP plast_m
        refine wp_region_invG (fun i v W => match i with | 0 => v = .func (.func 19) #[] #[] | 1 => v = .slice (some ad) n c | 2 => v = .int .i64 (k : Int) | 3 => v = .pointer (some (ad.add (k * 33))) | 4 => v = .agg (ptA q.1 q.2) | 5 => v = .agg (ptA b.1 b.2) | 6 => v = .int .i64 (cmpP q.1 q.2 b.1 b.2) | 7 => v = .bool (decide (0 < cmpP q.1 q.2 b.1 b.2)) | _ => True) (by kernel_rfl) (by kernel_rfl) (by kernel_rfl) ?_ ?_ ?_
        · intro i v W W' h _
          iterate 8 (rcases i with _ | i; · exact h)
          exact h
        · refine ⟨?_, ?_, ?_, ?_, ?_, ?_, ?_, ?_, trivial⟩
          · intro vs A' W hA hW hd K hK
            refine wpOp_free _ rfl rfl ?_
            have e1 : A'.tmps[1]?.getD undef = .func (.func 19) #[] #[] := slot_is hA (by kernel_rfl) (Nat.le_of_ble_eq_true (by kernel_rfl)) (by kernel_rfl)
            go_step
            exact hK _ _ (Kp.refl _ _) rfl
          · intro vs A' W hA hW hd K hK
            refine wpOp_free _ rfl rfl ?_
            have e0 : A'.tmps[0]?.getD undef = .slice (some ad) n c := slot_is hA (by kernel_rfl) (Nat.le_of_ble_eq_true (by kernel_rfl)) (by kernel_rfl)
            go_step
            exact hK _ _ (Kp.refl _ _) rfl
          · intro vs A' W hA hW hd K hK
            refine wpOp_free _ rfl rfl ?_
            have e6 : A'.tmps[6]?.getD undef = .int .i64 (k : Int) := slot_is hA (by kernel_rfl) (Nat.le_of_ble_eq_true (by kernel_rfl)) (by kernel_rfl)
            go_step
            exact hK _ _ (Kp.refl _ _) rfl
          · intro vs A' W hA hW hd K hK
            refine wpOp_free _ rfl rfl ?_
            have f1 : vs 1 = .slice (some ad) n c := hd 1 (by kernel_rfl)
            have e21 : A'.tmps[21]?.getD undef = vs 1 := slot_is hA (by kernel_rfl) (Nat.le_of_ble_eq_true (by kernel_rfl)) (by kernel_rfl)
            rw [f1] at e21
            have f2 : vs 2 = .int .i64 (k : Int) := hd 2 (by kernel_rfl)
            have e22 : A'.tmps[22]?.getD undef = vs 2 := slot_is hA (by kernel_rfl) (Nat.le_of_ble_eq_true (by kernel_rfl)) (by kernel_rfl)
            rw [f2] at e22
            have h0 : 0 ≤ (k : Int) := by omega
            have h1 : (k : Int) < n := by omega
            go_step
            exact hK _ _ (Kp.refl _ _) rfl
          · intro vs A' W hA hW hd K hK
            refine wpOp_free _ rfl rfl ?_
            have f3 : vs 3 = .pointer (some (ad.add (k * 33))) := hd 3 (by kernel_rfl)
            have e23 : A'.tmps[23]?.getD undef = vs 3 := slot_is hA (by kernel_rfl) (Nat.le_of_ble_eq_true (by kernel_rfl)) (by kernel_rfl)
            rw [f3] at e23
            refine op_runs (v := .agg (ptA q.1 q.2)) (w' := W) (exec_load rfl (by simpa [Act.eval] using e23) (run_loadAt_agg W (ad.add (k * 33)) 25 (ptA q.1 q.2).toList _ (HQ.out W ((Kp.refl [] _).drew.trans hW (by simp))) Tryd.underlying25 rfl (by rw [Array.length_toList, ptA_size HGq.out]; exact Tryd.infoPointP))) ?_
            exact hK _ _ (Kp.refl _ _) rfl
          · intro vs A' W hA hW hd K hK
            refine wpOp_free _ rfl rfl ?_
            have e5 : A'.tmps[5]?.getD undef = .pointer (some ⟨g4, 0, none⟩) := slot_is hA (by kernel_rfl) (Nat.le_of_ble_eq_true (by kernel_rfl)) (by kernel_rfl)
            refine op_runs (v := .agg (ptA b.1 b.2)) (w' := W) (exec_load rfl (by simpa [Act.eval] using e5) (run_pt_load (Blk.kp (HS.out.at_ (l1 := [])).drew hW (by simp)) HGb.out)) ?_
            exact hK _ _ (Kp.refl _ _) rfl
          · intro vs A' W hA hW hd K hK
            refine wpOp_free _ rfl rfl ?_
            have f0 : vs 0 = .func (.func 19) #[] #[] := hd 0 (by kernel_rfl)
            have e20 : A'.tmps[20]?.getD undef = vs 0 := slot_is hA (by kernel_rfl) (Nat.le_of_ble_eq_true (by kernel_rfl)) (by kernel_rfl)
            rw [f0] at e20
            have f4 : vs 4 = .agg (ptA q.1 q.2) := hd 4 (by kernel_rfl)
            have e24 : A'.tmps[24]?.getD undef = vs 4 := slot_is hA (by kernel_rfl) (Nat.le_of_ble_eq_true (by kernel_rfl)) (by kernel_rfl)
            rw [f4] at e24
            have f5 : vs 5 = .agg (ptA b.1 b.2) := hd 5 (by kernel_rfl)
            have e25 : A'.tmps[25]?.getD undef = vs 5 := slot_is hA (by kernel_rfl) (Nat.le_of_ble_eq_true (by kernel_rfl)) (by kernel_rfl)
            rw [f5] at e25
            go_step
            refine (pcmp_any q.1 q.2 HGq.out b.1 b.2 HGb.out W).mono ?_
            rintro e w' ⟨rfl, k'⟩
            exact hK _ _ k' rfl
          · intro vs A' W hA hW hd K hK
            refine wpOp_free _ rfl rfl ?_
            have f6 : vs 6 = .int .i64 (cmpP q.1 q.2 b.1 b.2) := hd 6 (by kernel_rfl)
            have e26 : A'.tmps[26]?.getD undef = vs 6 := slot_is hA (by kernel_rfl) (Nat.le_of_ble_eq_true (by kernel_rfl)) (by kernel_rfl)
            rw [f6] at e26
            go_step
            exact hK _ _ (Kp.refl _ _) rfl
        · intro vs W hW hp
          have p7 : vs 7 = .bool (decide (0 < cmpP q.1 q.2 b.1 b.2)) := hp 7 (Nat.le_of_ble_eq_true rfl)
          clear hp
          have HS1 := Lib.hid (HS.out.kp ((Kp.refl [] _).drew.trans hW (by simp)))
          have HQ1 := Lib.hid (fun V (kk : Kp [] W V) => HQ.out V ((Kp.refl [] _).drew.trans (hW.trans kk (by simp)) (by simp)))
          simp only [putAll, p7, Act.put, List.setIfInBounds_toArray, List.set_cons_succ, List.set_cons_zero]
          clear p7 hW HS HQ
        -- END plast_m
          by_cases hgt : 0 < cmpP q.1 q.2 b.1 b.2
          · have HSt : Hid (stepP b q = q) := Lib.hid (if_pos hgt)
            go_wp2_with (first
              | (refine wpList_runF rfl (exec_load rfl rfl (run_loadAt_agg _ (ad.add (k * 33)) 25 (ptA q.1 q.2).toList _ (HQ1.out _ (Kp.refl [] _)) Tryd.underlying25 rfl (by rw [Array.length_toList, ptA_size HGq.out]; exact Tryd.infoPointP))) ?_)
              | (refine wpList_store_blk rfl 25 (.tmp 5) (.tmp 31) rfl g4 rfl (ptA q.1 q.2) rfl 25 _ (HS1.out.at_ (l1 := [])) (by rw [ptA_size HGq.out]; exact Tryd.infoPointP) (by rw [ptA_size HGb.out, ptA_size HGq.out]) (ptA_one _ _) ?_; intro w7 b7 k7; have HS2 := Lib.hid (Held.setBlk (l1 := []) HS1.out b7 k7); clear b7 k7))
            go_roundw
            case rel => exact ⟨k + 1, q, by omega, by omega, by go_num, HS2.out, by rw [HTk.out, HSt.out]⟩
            case measure => simp [intOf]; omega
          · have HSt : Hid (stepP b q = b) := Lib.hid (if_neg hgt)
            go_wp2
            go_roundw
            case rel => exact ⟨k + 1, b, by omega, by omega, by go_num, HS1.out, by rw [HTk.out, HSt.out]⟩
            case measure => simp [intOf]; omega
      · obtain rfl : k = n := by omega
        have HBl : Hid (b = lastP ps) := Lib.hid (by rw [← HB.out, ← HL.out, List.take_of_length_le (by rw [Hn.out]; omega)])
        go_wp2_with (first
          | (refine wpList_load_blk rfl 25 (.tmp 5) rfl g4 rfl 25 _ (HS.out.at_ (l1 := [])) _ Tryd.underlying25 rfl (by rw [ptA_size HGb.out]; exact Tryd.infoPointP) ?_)
          | (refine wpList_store_blk rfl 25 (.tmp 4) (.tmp 32) rfl g2 rfl (ptA b.1 b.2) rfl 25 _ (HS.out.at_ (l1 := [_])) (by rw [ptA_size HGb.out]; exact Tryd.infoPointP) (by rw [ptA_size HGb.out, HZ.out]) (ptA_one _ _) ?_; intro w7 b7 k7; have HS2 := Lib.hid (Held.setBlk (l1 := [_]) HS.out b7 k7); clear b7 k7))
        try rw [Exit.noGoto_ret]
        refine bodyPost_ret (results_cellP (by rfl) rfl (HS2.out.at_ (l1 := [_])) Tryd.underlying25 rfl (by rw [ptA_size HGb.out]; exact Tryd.infoPointP)) rfl ?_
        exact ⟨by rw [← HBl.out], HS2.out.k⟩
set_option maxRecDepth 100000 in
set_option maxHeartbeats 4000000 in
theorem plast_any (x : Value) (ps : List Pt) (hok : PtsOk ps) (hn : ps.length ≤ 140737488355328) (w : World) (hx : Rd w 33 x ps.length (ptsC ps)) : Calls Tryd.prog 17 #[x] w (LastPost ps w) := by
  have HZ : Hid (zeroP.size = 33) := Lib.hid rfl
  have HZO := Lib.hid (ptA_one 0 (List.replicate 32 0))
  have HX := Lib.hid hx
  have S0 := Lib.hid ((Held.start w).newBlk 25 zeroP)
  obtain ⟨A, c, rfl⟩ := rd_form hx
  clear hx
  by_cases h0 : ps.length = 0
  · obtain rfl := List.eq_nil_of_length_eq_zero h0
    clear h0
    go_enter Tryd.func17, Tryd.ntmps17
    go_wp2_with (refine wpList_store_blk rfl 25 (.tmp 2) (.tmp 7) rfl w.heap.size rfl zeroP (by kernel_rfl) 25 _ (S0.out.at_ (l1 := [])) (by rw [HZ.out]; exact Tryd.infoPointP) rfl HZO.out ?_; intro w9 b9 k9; have S9 := Lib.hid (Held.setBlk (l1 := []) S0.out b9 k9); clear b9 k9)
    refine bodyPost_ret (results_cell_tmp (by rfl) rfl (S9.out.at_ (l1 := [])) Tryd.underlying25 rfl (by rw [HZ.out]; exact Tryd.infoPointP)) rfl ?_
    exact ⟨rfl, S9.out.k⟩
  · have HM := Lib.hid (fun V (kk : Kp [] w V) => maxf_any _ ps hok hn (by omega) V (rd_old HX.out kk))
    have HGl := Lib.hid (lastP_ok hok)
    have HD : Hid (decide (0 < ps.length) = true) := Lib.hid (decide_eq_true (by omega))
    have hnz : ((ps.length : Int) == 0) = false := by rw [beq_eq_false_iff_ne]; omega
    unfold LastPost
    obtain ⟨n, Hn⟩ : ∃ n, Hid (ps.length = n) := ⟨_, Lib.hid rfl⟩
    rw [Hn.out] at hnz HX HM ⊢
    rw [Hn.out] at HD
    generalize lastP ps = b at *
    go_enter Tryd.func17, Tryd.ntmps17
    go_wp2_with fail
    refine (HM.out _ S0.out.k).mono ?_
    rintro e w2 ⟨rfl, k2⟩
    have S2 := Lib.hid (S0.out.kp k2)
    clear k2
    go_wp2_with (refine wpList_store_blk rfl 25 (.tmp 2) (.tmp 9) rfl w.heap.size rfl (ptA b.1 b.2) rfl 25 _ (S2.out.at_ (l1 := [])) (by rw [ptA_size HGl.out]; exact Tryd.infoPointP) (by rw [ptA_size HGl.out, HZ.out]) (ptA_one _ _) ?_; intro w9 b9 k9; have S9 := Lib.hid (Held.setBlk (l1 := []) S2.out b9 k9); clear b9 k9)
    refine bodyPost_ret (results_cell_tmp (by rfl) rfl (S9.out.at_ (l1 := [])) Tryd.underlying25 rfl (by rw [ptA_size HGl.out]; exact Tryd.infoPointP)) rfl ?_
    exact ⟨by rw [HD.out]; rfl, S9.out.k⟩
end Go.Proofs.YtolfckhjfadhdaaDoor
/- PointOrders: the walk of the law. -/
namespace Go.Proofs.YtolfckhjfadhdaaDoor
open Go.RowKit
theorem Tryd.infoPt : (Tryd.prog.info? 25).map (fun i => (i.zero, i.size, i.bytes)) = some (some (.agg zeroP), 33, 40) := by kernel_rfl
def p771 : Array Value := ptA 771 (List.replicate 32 0)
theorem fill771 : Instr.fill (fun i => some (i * 33, 33)) ((Array.range (1 * 33)).map (zeroP[· % zeroP.size]!)) [(0, .agg p771)] = some p771 := by kernel_rfl
theorem ptsC_one {ps : List Pt} : ∀ u, u ∈ ptsC ps → u.oneCell' = true := by
  intro u hu
  obtain ⟨p, _, h⟩ := List.mem_flatMap.1 hu
  exact ptA_one p.1 p.2 u h
theorem fold_top {ps : List Pt} : ∀ (l : List Pt) (b : Pt), b.2.length = 32 → PtsOk l → (cmpP b.1 b.2 (l.foldl stepP b).1 (l.foldl stepP b).2 ≤ 0 ∧ ∀ q, q ∈ l → cmpP q.1 q.2 (l.foldl stepP b).1 (l.foldl stepP b).2 ≤ 0)
  | [], b, _, _ => ⟨Int.le_of_eq (cmpP_zero.2 ⟨rfl, rfl⟩), fun q hq => by cases hq⟩
  | p :: l, b, hb, hok => by
    have hp := (hok p (by simp)).2
    have hs : (stepP b p).2.length = 32 := by rcases stepP_mem b p with e | e <;> rw [e] <;> assumption
    obtain ⟨i1, i2⟩ := fold_top (ps := ps) l (stepP b p) hs (fun q hq => hok q (by simp [hq]))
    have hf : (l.foldl stepP (stepP b p)).2.length = 32 := fold_ok hs (fun q hq => hok q (by simp [hq]))
    rw [List.foldl_cons]
    have hbp : cmpP b.1 b.2 (stepP b p).1 (stepP b p).2 ≤ 0 ∧ cmpP p.1 p.2 (stepP b p).1 (stepP b p).2 ≤ 0 := by
      unfold stepP
      by_cases h : 0 < cmpP p.1 p.2 b.1 b.2
      · rw [if_pos h]
        exact ⟨by rw [cmpP_neg p.1 p.2 b.1 b.2]; omega, by rw [cmpP_zero.2 ⟨rfl, rfl⟩]; exact Int.le_refl _⟩
      · rw [if_neg h]
        exact ⟨by rw [cmpP_zero.2 ⟨rfl, rfl⟩]; exact Int.le_refl _, by omega⟩
    refine ⟨cmpP_trans (by rw [hb, hs]) (by rw [hs, hf]) hbp.1 i1, fun q hq => ?_⟩
    rcases List.mem_cons.1 hq with rfl | hq
    · exact cmpP_trans (by rw [hp, hs]) (by rw [hs, hf]) hbp.2 i1
    · exact i2 q hq
theorem lastP_top {ps : List Pt} (hok : PtsOk ps) {q : Pt} (hq : q ∈ ps) : cmpP q.1 q.2 (lastP ps).1 (lastP ps).2 ≤ 0 := by
  cases ps with
  | nil => cases hq
  | cons p l =>
    obtain ⟨i1, i2⟩ := fold_top (ps := l) l p (hok p (by simp)).2 (fun q hq => hok q (by simp [hq]))
    rcases List.mem_cons.1 hq with rfl | hq
    · exact i1
    · exact i2 q hq
set_option maxRecDepth 100000 in
set_option maxHeartbeats 16000000 in
theorem pointorders_any (w : World) (x : Value) (ps : List Pt) (hx : Rd w 33 x ps.length (ptsC ps)) (hok : PtsOk ps) (hn : (ps.length + 1) * 40 ≤ 140737488355328)
    (z1 : Int) (_hz1 : -9223372036854775808 ≤ z1 ∧ z1 ≤ 9223372036854775807) (h1 : List UInt8) (hl1 : h1.length = 32) (z2 : Int) (_hz2 : -9223372036854775808 ≤ z2 ∧ z2 ≤ 9223372036854775807) (h2 : List UInt8) (hl2 : h2.length = 32) (z3 : Int) (_hz3 : -9223372036854775808 ≤ z3 ∧ z3 ≤ 9223372036854775807) (h3 : List UInt8) (hl3 : h3.length = 32) (L : LD w) :
    Calls Tryd.prog 5 #[x, .agg (ptA z1 h1), .agg (ptA z2 h2), .agg (ptA z3 h3)] w fun e w' => e = .returned (.bool true) ∧ Kp [] w w' := by
  have HL := Lib.hid L
  have H1 := Lib.hid hl1
  have H2 := Lib.hid hl2
  have H3 := Lib.hid hl3
  have HX := Lib.hid hx
  have HOk := Lib.hid hok
  obtain ⟨i0, hi, hy0, hy1, hy2⟩ := info_parts Tryd.infoPt
  obtain ⟨A, c, rfl⟩ := rd_form hx
  have S0 := Lib.hid ((((Held.start w).newBlk 25 (ptA z1 h1)).newBlk 25 (ptA z2 h2)).newBlk 25 (ptA z3 h3))
  rw [World.size_alloc, World.size_alloc] at S0
  have HGb := Lib.hid (lastP_ok hok)
  have HTop := Lib.hid (fun q (hq : q ∈ ps) => lastP_top hok hq)
  have HLp := Lib.hid (fun V y (r : Rd V 33 y ps.length (ptsC ps)) => plast_any y ps hok (by omega) V r)
  have HLr := Lib.hid (fun V y (r : Rd V 33 y ps.length (ptsC ps)) => rlast_any y ps hok (by omega) V r)
  unfold LastPost at HLp HLr
  obtain ⟨ok, Hokk⟩ : ∃ ok, Hid (decide (0 < ps.length) = ok) := ⟨_, Lib.hid rfl⟩
  rw [Hokk.out] at HLp HLr
  have HAt := Lib.hid (fun V ad (c : Nat) (r : Rd V 33 (.slice (some ad) ps.length c) ps.length (ptsC ps)) (k : Nat) (q : Pt) (hk : ps[k]? = some q) => pts_at r hok hk)
  have HLen := Lib.hid (ptsC_length hok)
  have HMem := Lib.hid (fun (k : Nat) (q : Pt) (hk : ps[k]? = some q) => List.mem_of_getElem? hk)
  have HGet : Hid (∀ k, k < ps.length → ∃ q, ps[k]? = some q) := Lib.hid (fun k hk => ⟨_, List.getElem?_eq_getElem hk⟩)
  obtain ⟨n, Hn⟩ : ∃ n, Hid (ps.length = n) := ⟨_, Lib.hid rfl⟩
  rw [Hn.out] at hn HX HLp HLr HAt HLen HGet ⊢
  obtain ⟨a1, HA1⟩ : ∃ cs, Hid (ptA z1 h1 = cs) := ⟨_, Lib.hid rfl⟩
  obtain ⟨a2, HA2⟩ : ∃ cs, Hid (ptA z2 h2 = cs) := ⟨_, Lib.hid rfl⟩
  obtain ⟨a3, HA3⟩ : ∃ cs, Hid (ptA z3 h3 = cs) := ⟨_, Lib.hid rfl⟩
  rw [HA1.out, HA2.out, HA3.out] at S0 ⊢
  clear hx hok L hl1 hl2 hl3
  go_enter Tryd.func5, Tryd.ntmps5
  go_wp2_with (at_builtin; go_loud (refine wpList_app _ rfl (.const (.slice none 0 0)) (.tmp 17) _ rfl 25 i0 _ 33 40 Tryd.underlying39 hi hy0 hy1 hy2 rfl (by decide) _ 0 [] rfl (World.ownsRow_nil _ _ _ _) (.slice A n c) n (ptsC ps) rfl (rd_old HX.out S0.out.k) ptsC_one (by unfold maxLen; omega) (by omega) ?_))
  intro v1 w1 hown1 hg1 hat1
  have hown1 : Ow w1 25 33 v1 n (ptsC ps) := by simpa using hown1
  have S1 := Lib.hid (S0.out.rownew hown1 ((Kp.refl [] _).grown hg1 (by simp [Value.ownBlock])) (by
    intro b hb
    rcases hat1 with h | h
    · rw [h] at hb; cases hb
    · rw [h] at hb; cases hb; rw [World.size_alloc, World.size_alloc, World.size_alloc]; exact Nat.le_refl _))
  clear hown1 hg1 hat1
  generalize hg5 : w.heap.size = g5 at *
  obtain ⟨g6, hg6⟩ : ∃ g, g5 + 1 = g := ⟨_, rfl⟩
  obtain ⟨g7, hg7⟩ : ∃ g, g5 + 1 + 1 = g := ⟨_, rfl⟩
  rw [hg7, hg6] at S1
  simp only [Nat.add_assoc, Nat.reduceAdd] at hg7
  try rw [hg7]
  try rw [hg6]
  clear S0
  go_wp2_with (first
    | (refine wpList_build1 rfl 25 (.const (.int .i64 771)) rfl (.int .i64 771) rfl p771 (Tryd.built_sz 771) ?_)
    | (refine wpList_buildSlice rfl 39 25 1 #[(0, .tmp 19)] rfl p771 i0 (.agg zeroP) Tryd.underlying39 hi hy0 (by rw [hy1]; decide) (by rw [hy1]; decide) (by rw [hy1]; exact fill771) ?_)
    | (at_builtin; go_loud (refine wpList_app _ rfl (.tmp 18) (.tmp 20) _ rfl 25 i0 _ 33 40 Tryd.underlying39 hi hy0 hy1 hy2 rfl (by decide) v1 n (ptsC ps) rfl ((S1.out.at_ (l1 := [])).alloc _) (.slice (some ⟨w1.heap.size, 0, none⟩) 1 1) 1 p771.toList rfl (Rd.of_own (ow_new w1 25 33 1 p771 rfl (by decide))) (ptA_one _ _) (by unfold maxLen; omega) (by omega) ?_)))
  intro v2 w2 hown2 hg2 hat2
  have S2 := Lib.hid ((S1.out.alloc (.cells p771 25)).grow (l1 := []) hown2 hg2 (by rw [World.size_alloc]; exact hat2))
  obtain ⟨g, c2, rfl, hc2, hc3⟩ := ow_some hown2 (by omega)
  have hc4 : c2 ≤ 9223372036854775807 := by unfold maxLen at hc3; omega
  clear hown2 hg2 hat2 S1
  have HF : Hid (∀ V, Ow V 25 33 (.slice (some ⟨g, 0, none⟩) (n + 1) c2) (n + 1) (ptsC ps ++ p771.toList) → Rd V 33 (.slice (some ⟨g, 0, none⟩) n c2) n (ptsC ps)) := Lib.hid (fun V o => by
    have := ow_take o (m := n) (by omega) (by omega)
    rw [List.take_left' HLen.out] at this
    exact Rd.of_own this)
  have HC7 : Hid (∀ V, Ow V 25 33 (.slice (some ⟨g, 0, none⟩) (n + 1) c2) (n + 1) (ptsC ps ++ p771.toList) → V.cell? ⟨g, n * 33, none⟩ = some (.int .i64 771)) := Lib.hid (fun V o => by
    rw [o.cellAt (g := g) (n * 33) (by omega), List.getElem?_append_right (by rw [HLen.out]; omega), HLen.out, Nat.sub_self]
    rfl)
  go_wp2_with fail
  refine (HLp.out w2 _ (HF.out _ (S2.out.at_ (l1 := [])))).mono ?_
  rintro e w3 ⟨rfl, k3⟩
  have S3 := Lib.hid (S2.out.kp k3)
  clear k3 S2
  obtain ⟨b, Hbb⟩ : ∃ b, Hid (lastP ps = b) := ⟨_, Lib.hid rfl⟩
  rw [Hbb.out] at HLr HGb HTop ⊢
  have hq := fun V => neq_pt V b.1 b.1 b.2 b.2 HGb.out HGb.out
  simp only [decide_true, beq_self_eq_true, Bool.and_self, Bool.not_true] at hq
  have hok2 : (ok != ok) = false := bne_self_eq_false ok
  go_wp2_with (refine wpList_store_blk rfl 25 (.tmp 10) (.tmp 28) rfl w3.heap.size rfl (ptA b.1 b.2) rfl 25 _ (Blk.new w3 25 _) (by rw [ptA_size HGb.out]; exact Tryd.infoPointP) (by rw [ptA_size HGb.out]; rfl) (ptA_one _ _) ?_; intro w4 b4 k4; have S4 := Lib.hid (Held.setBlk (l1 := []) (S3.out.newBlk 25 _) b4 k4); clear b4 k4)
  generalize hg10 : w3.heap.size = g10 at *
  refine (HLr.out w4 _ (rd_old HX.out S4.out.k)).mono ?_
  rintro e w5 ⟨rfl, k5⟩
  have S5 := Lib.hid (S4.out.kp k5)
  clear k5 S4
  go_wp2_with (first
    | (refine wpList_store_blk rfl 25 (.tmp 12) (.tmp 33) rfl w5.heap.size rfl (ptA b.1 b.2) rfl 25 _ (Blk.new w5 25 _) (by rw [ptA_size HGb.out]; exact Tryd.infoPointP) (by rw [ptA_size HGb.out]; rfl) (ptA_one _ _) ?_; intro w6 b6 k6; have S6 := Lib.hid (Held.setBlk (l1 := []) (S5.out.newBlk 25 _) b6 k6); clear b6 k6; have hc7 := HC7.out w6 (S6.out.at_ (l1 := [_, _])))
    | (refine wpList_load_blk rfl 25 (.tmp 10) rfl g10 rfl 25 _ (S6.out.at_ (l1 := [_])) _ Tryd.underlying25 rfl (by rw [ptA_size HGb.out]; exact Tryd.infoPointP) ?_)
    | (refine wpList_load_blk rfl 25 (.tmp 12) rfl w5.heap.size rfl 25 _ (S6.out.at_ (l1 := [])) _ Tryd.underlying25 rfl (by rw [ptA_size HGb.out]; exact Tryd.infoPointP) ?_))
  generalize hg12 : w5.heap.size = g12 at *
  go_loopw [14] (fun t wr => ∃ k : Nat, k ≤ n ∧ t = .int .i64 (k : Int) ∧ Held w wr [blkR g12 25 (ptA b.1 b.2), blkR g10 25 (ptA b.1 b.2), rowR 25 33 (.slice (some ⟨g, 0, none⟩) (n + 1) c2) (n + 1) (ptsC ps ++ p771.toList), blkR g7 25 a3, blkR g6 25 a2, blkR g5 25 a1]) (fun t _ => n - (intOf t).toNat)
  case atStart => exact ⟨0, by omega, rfl, S6.out⟩
  case round =>
    obtain ⟨k, hk, rfl, S⟩ := hrel
    have HS := Lib.hid S
    clear S S6
    by_cases hlt : k < n
    · obtain ⟨q, hqk⟩ := HGet.out k hlt
      have HGq := Lib.hid (HOk.out q (HMem.out k q hqk)).2
      have HGt : Hid (¬ 0 < cmpP q.1 q.2 b.1 b.2) := Lib.hid (by have := HTop.out q (HMem.out k q hqk); omega)
      have HNq := Lib.hid (fun V => neq_pt V q.1 q.1 q.2 q.2 HGq.out HGq.out)
      simp only [decide_true, beq_self_eq_true, Bool.and_self, Bool.not_true] at HNq
      obtain ⟨ad, rfl⟩ : ∃ ad, A = some ad := by
        obtain ⟨_, A', c', hv, _, _, hA, _⟩ := HX.out
        cases hv
        cases A with
        | none => have := (hA rfl).1; omega
        | some ad => exact ⟨ad, rfl⟩
      have HQ : Hid (∀ V, Kp [] wr V → ∀ j u, (ptA q.1 q.2).toList[j]? = some u → V.cell? ((ad.add (k * 33)).add j) = some u) := Lib.hid (fun V kk => HAt.out V ad c (rd_old HX.out (HS.out.k.trans kk (by simp))) k q hqk)
      have HM : Hid (∀ V, Kp [] wr V → ∀ j u, (ptA q.1 q.2).toList[j]? = some u → V.cell? ((⟨g, k * 33, none⟩ : Addr).add j) = some u) := Lib.hid (fun V kk j u hu => by
        have := HAt.out V ⟨g, 0, none⟩ c2 (HF.out V (ow_kp (HS.out.at_ (l1 := [_, _])) kk (by simp))) k q hqk j u hu
        rw [add_of_add] at this
        rw [show ((⟨g, k * 33, none⟩ : Addr).add j) = (⟨g, 0, none⟩ : Addr).add (k * 33 + j) from by unfold Addr.add; split <;> split <;> simp <;> omega]
        exact this)
      clear hqk
      go_wp2_with fail
      -- SEP pord9
      refine wp_region_invG (fun i v W => match i with | 0 => v = .slice (some ⟨g, 0, none⟩) (n + 1) c2 | 1 => v = .int .i64 (k : Int) | 2 => v = .pointer (some ⟨g, k * 33, none⟩) | 3 => v = .agg (ptA q.1 q.2) | 4 => v = .slice (some ad) n c | 5 => v = .int .i64 (k : Int) | 6 => v = .pointer (some (ad.add (k * 33))) | 7 => v = .agg (ptA q.1 q.2) | 8 => v = .bool false | 9 => v = .bool false | 10 => v = .slice (some ad) n c | 11 => v = .int .i64 (k : Int) | 12 => v = .pointer (some (ad.add (k * 33))) | 13 => v = .agg (ptA q.1 q.2) | 14 => v = .agg (ptA b.1 b.2) | 15 => v = .int .i64 (cmpP q.1 q.2 b.1 b.2) | 16 => v = .bool false | 17 => v = .bool false | _ => True) (by kernel_rfl) (by kernel_rfl) (by kernel_rfl) ?_ ?_ ?_
      · intro i v W W' h _
        iterate 18 (rcases i with _ | i; · exact h)
        exact h
      · refine ⟨?_, ?_, ?_, ?_, ?_, ?_, ?_, ?_, ?_, ?_, ?_, ?_, ?_, ?_, ?_, ?_, ?_, ?_, trivial⟩
        · intro vs A' W hA hW hd K hK
          refine wpOp_free _ rfl rfl ?_
          have e9 : A'.tmps[9]?.getD undef = .slice (some ⟨g, 0, none⟩) (n + 1) c2 := slot_is hA (by kernel_rfl) (Nat.le_of_ble_eq_true (by kernel_rfl)) (by kernel_rfl)
          go_step
          exact hK _ _ (Kp.refl _ _) rfl
        · intro vs A' W hA hW hd K hK
          refine wpOp_free _ rfl rfl ?_
          have e14 : A'.tmps[14]?.getD undef = .int .i64 (k : Int) := slot_is hA (by kernel_rfl) (Nat.le_of_ble_eq_true (by kernel_rfl)) (by kernel_rfl)
          go_step
          exact hK _ _ (Kp.refl _ _) rfl
        · intro vs A' W hA hW hd K hK
          refine wpOp_free _ rfl rfl ?_
          have f0 : vs 0 = .slice (some ⟨g, 0, none⟩) (n + 1) c2 := hd 0 (by kernel_rfl)
          have e58 : A'.tmps[58]?.getD undef = vs 0 := slot_is hA (by kernel_rfl) (Nat.le_of_ble_eq_true (by kernel_rfl)) (by kernel_rfl)
          rw [f0] at e58
          have f1 : vs 1 = .int .i64 (k : Int) := hd 1 (by kernel_rfl)
          have e59 : A'.tmps[59]?.getD undef = vs 1 := slot_is hA (by kernel_rfl) (Nat.le_of_ble_eq_true (by kernel_rfl)) (by kernel_rfl)
          rw [f1] at e59
          have h0 : 0 ≤ (k : Int) := by omega
          have h1 : (k : Int) < n + 1 := by omega
          go_step
          exact hK _ _ (Kp.refl _ _) rfl
        · intro vs A' W hA hW hd K hK
          refine wpOp_free _ rfl rfl ?_
          have f2 : vs 2 = .pointer (some ⟨g, k * 33, none⟩) := hd 2 (by kernel_rfl)
          have e60 : A'.tmps[60]?.getD undef = vs 2 := slot_is hA (by kernel_rfl) (Nat.le_of_ble_eq_true (by kernel_rfl)) (by kernel_rfl)
          rw [f2] at e60
          refine op_runs (v := .agg (ptA q.1 q.2)) (w' := W) (exec_load rfl (by simpa [Act.eval] using e60) (run_loadAt_agg W (⟨g, k * 33, none⟩) 25 (ptA q.1 q.2).toList _ (HM.out W ((Kp.refl [] _).drew.trans hW (by simp))) Tryd.underlying25 rfl (by rw [Array.length_toList, ptA_size HGq.out]; exact Tryd.infoPointP))) ?_
          exact hK _ _ (Kp.refl _ _) rfl
        · intro vs A' W hA hW hd K hK
          refine wpOp_free _ rfl rfl ?_
          have e0 : A'.tmps[0]?.getD undef = .slice (some ad) n c := slot_is hA (by kernel_rfl) (Nat.le_of_ble_eq_true (by kernel_rfl)) (by kernel_rfl)
          go_step
          exact hK _ _ (Kp.refl _ _) rfl
        · intro vs A' W hA hW hd K hK
          refine wpOp_free _ rfl rfl ?_
          have e14 : A'.tmps[14]?.getD undef = .int .i64 (k : Int) := slot_is hA (by kernel_rfl) (Nat.le_of_ble_eq_true (by kernel_rfl)) (by kernel_rfl)
          go_step
          exact hK _ _ (Kp.refl _ _) rfl
        · intro vs A' W hA hW hd K hK
          refine wpOp_free _ rfl rfl ?_
          have f4 : vs 4 = .slice (some ad) n c := hd 4 (by kernel_rfl)
          have e62 : A'.tmps[62]?.getD undef = vs 4 := slot_is hA (by kernel_rfl) (Nat.le_of_ble_eq_true (by kernel_rfl)) (by kernel_rfl)
          rw [f4] at e62
          have f5 : vs 5 = .int .i64 (k : Int) := hd 5 (by kernel_rfl)
          have e63 : A'.tmps[63]?.getD undef = vs 5 := slot_is hA (by kernel_rfl) (Nat.le_of_ble_eq_true (by kernel_rfl)) (by kernel_rfl)
          rw [f5] at e63
          have h0 : 0 ≤ (k : Int) := by omega
          have h1 : (k : Int) < n := by omega
          go_step
          exact hK _ _ (Kp.refl _ _) rfl
        · intro vs A' W hA hW hd K hK
          refine wpOp_free _ rfl rfl ?_
          have f6 : vs 6 = .pointer (some (ad.add (k * 33))) := hd 6 (by kernel_rfl)
          have e64 : A'.tmps[64]?.getD undef = vs 6 := slot_is hA (by kernel_rfl) (Nat.le_of_ble_eq_true (by kernel_rfl)) (by kernel_rfl)
          rw [f6] at e64
          refine op_runs (v := .agg (ptA q.1 q.2)) (w' := W) (exec_load rfl (by simpa [Act.eval] using e64) (run_loadAt_agg W (ad.add (k * 33)) 25 (ptA q.1 q.2).toList _ (HQ.out W ((Kp.refl [] _).drew.trans hW (by simp))) Tryd.underlying25 rfl (by rw [Array.length_toList, ptA_size HGq.out]; exact Tryd.infoPointP))) ?_
          exact hK _ _ (Kp.refl _ _) rfl
        · intro vs A' W hA hW hd K hK
          refine wpOp_free _ rfl rfl ?_
          have f3 : vs 3 = .agg (ptA q.1 q.2) := hd 3 (by kernel_rfl)
          have e61 : A'.tmps[61]?.getD undef = vs 3 := slot_is hA (by kernel_rfl) (Nat.le_of_ble_eq_true (by kernel_rfl)) (by kernel_rfl)
          rw [f3] at e61
          have f7 : vs 7 = .agg (ptA q.1 q.2) := hd 7 (by kernel_rfl)
          have e65 : A'.tmps[65]?.getD undef = vs 7 := slot_is hA (by kernel_rfl) (Nat.le_of_ble_eq_true (by kernel_rfl)) (by kernel_rfl)
          rw [f7] at e65
          refine op_runs (v := .bool false) (w' := W) (exec_bin_agg rfl (by simpa [Act.eval] using e61) (by simpa [Act.eval] using e65) Tryd.eqGuardType25 (HNq.out W)) ?_
          exact hK _ _ (Kp.refl _ _) rfl
        · intro vs A' W hA hW hd K hK
          refine wpOp_free _ rfl rfl ?_
          have f8 : vs 8 = .bool false := hd 8 (by kernel_rfl)
          have e66 : A'.tmps[66]?.getD undef = vs 8 := slot_is hA (by kernel_rfl) (Nat.le_of_ble_eq_true (by kernel_rfl)) (by kernel_rfl)
          rw [f8] at e66
          go_step
          exact hK _ _ (Kp.refl _ _) rfl
        · intro vs A' W hA hW hd K hK
          have f9 : vs 9 = .bool false := hd 9 (by kernel_rfl)
          have e67 : A'.tmps[67]?.getD undef = vs 9 := slot_is hA (by kernel_rfl) (Nat.le_of_ble_eq_true (by kernel_rfl)) (by kernel_rfl)
          rw [f9] at e67
          refine wpOp_go _ rfl 9 67 false rfl rfl e67 ?_
          have e0 : A'.tmps[0]?.getD undef = .slice (some ad) n c := slot_is hA (by kernel_rfl) (Nat.le_of_ble_eq_true (by kernel_rfl)) (by kernel_rfl)
          go_step
          exact hK _ _ (Kp.refl _ _) rfl
        · intro vs A' W hA hW hd K hK
          have f9 : vs 9 = .bool false := hd 9 (by kernel_rfl)
          have e67 : A'.tmps[67]?.getD undef = vs 9 := slot_is hA (by kernel_rfl) (Nat.le_of_ble_eq_true (by kernel_rfl)) (by kernel_rfl)
          rw [f9] at e67
          refine wpOp_go _ rfl 9 67 false rfl rfl e67 ?_
          have e14 : A'.tmps[14]?.getD undef = .int .i64 (k : Int) := slot_is hA (by kernel_rfl) (Nat.le_of_ble_eq_true (by kernel_rfl)) (by kernel_rfl)
          go_step
          exact hK _ _ (Kp.refl _ _) rfl
        · intro vs A' W hA hW hd K hK
          have f9 : vs 9 = .bool false := hd 9 (by kernel_rfl)
          have e67 : A'.tmps[67]?.getD undef = vs 9 := slot_is hA (by kernel_rfl) (Nat.le_of_ble_eq_true (by kernel_rfl)) (by kernel_rfl)
          rw [f9] at e67
          refine wpOp_go _ rfl 9 67 false rfl rfl e67 ?_
          have f10 : vs 10 = .slice (some ad) n c := hd 10 (by kernel_rfl)
          have e68 : A'.tmps[68]?.getD undef = vs 10 := slot_is hA (by kernel_rfl) (Nat.le_of_ble_eq_true (by kernel_rfl)) (by kernel_rfl)
          rw [f10] at e68
          have f11 : vs 11 = .int .i64 (k : Int) := hd 11 (by kernel_rfl)
          have e69 : A'.tmps[69]?.getD undef = vs 11 := slot_is hA (by kernel_rfl) (Nat.le_of_ble_eq_true (by kernel_rfl)) (by kernel_rfl)
          rw [f11] at e69
          have h0 : 0 ≤ (k : Int) := by omega
          have h1 : (k : Int) < n := by omega
          go_step
          exact hK _ _ (Kp.refl _ _) rfl
        · intro vs A' W hA hW hd K hK
          have f9 : vs 9 = .bool false := hd 9 (by kernel_rfl)
          have e67 : A'.tmps[67]?.getD undef = vs 9 := slot_is hA (by kernel_rfl) (Nat.le_of_ble_eq_true (by kernel_rfl)) (by kernel_rfl)
          rw [f9] at e67
          refine wpOp_go _ rfl 9 67 false rfl rfl e67 ?_
          have f12 : vs 12 = .pointer (some (ad.add (k * 33))) := hd 12 (by kernel_rfl)
          have e70 : A'.tmps[70]?.getD undef = vs 12 := slot_is hA (by kernel_rfl) (Nat.le_of_ble_eq_true (by kernel_rfl)) (by kernel_rfl)
          rw [f12] at e70
          refine op_runs (v := .agg (ptA q.1 q.2)) (w' := W) (exec_load rfl (by simpa [Act.eval] using e70) (run_loadAt_agg W (ad.add (k * 33)) 25 (ptA q.1 q.2).toList _ (HQ.out W ((Kp.refl [] _).drew.trans hW (by simp))) Tryd.underlying25 rfl (by rw [Array.length_toList, ptA_size HGq.out]; exact Tryd.infoPointP))) ?_
          exact hK _ _ (Kp.refl _ _) rfl
        · intro vs A' W hA hW hd K hK
          have f9 : vs 9 = .bool false := hd 9 (by kernel_rfl)
          have e67 : A'.tmps[67]?.getD undef = vs 9 := slot_is hA (by kernel_rfl) (Nat.le_of_ble_eq_true (by kernel_rfl)) (by kernel_rfl)
          rw [f9] at e67
          refine wpOp_go _ rfl 9 67 false rfl rfl e67 ?_
          have e10 : A'.tmps[10]?.getD undef = .pointer (some ⟨g10, 0, none⟩) := slot_is hA (by kernel_rfl) (Nat.le_of_ble_eq_true (by kernel_rfl)) (by kernel_rfl)
          refine op_runs (v := .agg (ptA b.1 b.2)) (w' := W) (exec_load rfl (by simpa [Act.eval] using e10) (run_pt_load (Blk.kp (HS.out.at_ (l1 := [_])).drew hW (by simp)) HGb.out)) ?_
          exact hK _ _ (Kp.refl _ _) rfl
        · intro vs A' W hA hW hd K hK
          have f9 : vs 9 = .bool false := hd 9 (by kernel_rfl)
          have e67 : A'.tmps[67]?.getD undef = vs 9 := slot_is hA (by kernel_rfl) (Nat.le_of_ble_eq_true (by kernel_rfl)) (by kernel_rfl)
          rw [f9] at e67
          refine wpOp_go _ rfl 9 67 false rfl rfl e67 ?_
          have f13 : vs 13 = .agg (ptA q.1 q.2) := hd 13 (by kernel_rfl)
          have e71 : A'.tmps[71]?.getD undef = vs 13 := slot_is hA (by kernel_rfl) (Nat.le_of_ble_eq_true (by kernel_rfl)) (by kernel_rfl)
          rw [f13] at e71
          have f14 : vs 14 = .agg (ptA b.1 b.2) := hd 14 (by kernel_rfl)
          have e72 : A'.tmps[72]?.getD undef = vs 14 := slot_is hA (by kernel_rfl) (Nat.le_of_ble_eq_true (by kernel_rfl)) (by kernel_rfl)
          rw [f14] at e72
          go_step
          refine (pcmp_any q.1 q.2 HGq.out b.1 b.2 HGb.out W).mono ?_
          rintro e w' ⟨rfl, k'⟩
          exact hK _ _ k' rfl
        · intro vs A' W hA hW hd K hK
          have f9 : vs 9 = .bool false := hd 9 (by kernel_rfl)
          have e67 : A'.tmps[67]?.getD undef = vs 9 := slot_is hA (by kernel_rfl) (Nat.le_of_ble_eq_true (by kernel_rfl)) (by kernel_rfl)
          rw [f9] at e67
          refine wpOp_go _ rfl 9 67 false rfl rfl e67 ?_
          have f15 : vs 15 = .int .i64 (cmpP q.1 q.2 b.1 b.2) := hd 15 (by kernel_rfl)
          have e73 : A'.tmps[73]?.getD undef = vs 15 := slot_is hA (by kernel_rfl) (Nat.le_of_ble_eq_true (by kernel_rfl)) (by kernel_rfl)
          rw [f15] at e73
          have q : decide (0 < cmpP q.1 q.2 b.1 b.2) = false := decide_eq_false (by have := HGt.out; omega)
          go_step
          exact hK _ _ (Kp.refl _ _) rfl
        · intro vs A' W hA hW hd K hK
          refine wpOp_free _ rfl rfl ?_
          have f9 : vs 9 = .bool false := hd 9 (by kernel_rfl)
          have e67 : A'.tmps[67]?.getD undef = vs 9 := slot_is hA (by kernel_rfl) (Nat.le_of_ble_eq_true (by kernel_rfl)) (by kernel_rfl)
          rw [f9] at e67
          have f16 : vs 16 = .bool false := hd 16 (by kernel_rfl)
          have e74 : A'.tmps[74]?.getD undef = vs 16 := slot_is hA (by kernel_rfl) (Nat.le_of_ble_eq_true (by kernel_rfl)) (by kernel_rfl)
          rw [f16] at e74
          go_step
          exact hK _ _ (Kp.refl _ _) rfl
      · intro vs W hW hp
        have p17 : vs 17 = .bool false := hp 17 (Nat.le_of_ble_eq_true rfl)
        clear hp
        have HS1 := Lib.hid (HS.out.kp ((Kp.refl [] _).drew.trans hW (by simp)))
        simp only [putAll, p17, Act.put, List.setIfInBounds_toArray, List.set_cons_succ, List.set_cons_zero]
        clear p17 hW HS HQ HM
      -- END pord9
        go_wp2
        go_roundw
        case rel => exact ⟨k + 1, by omega, by go_num, HS1.out⟩
        case measure => simp [intOf]; omega
    · obtain rfl : k = n := by omega
      go_wp2_with fail
      rw [← HA1.out, ← HA2.out, ← HA3.out] at HS
      -- SEP pord11
      refine wp_region_invG (fun i v W => match i with | 0 => v = .agg (ptA z1 h1) | 1 => v = .agg (ptA z2 h2) | 2 => v = .int .i64 (cmpP z1 h1 z2 h2) | 3 => v = .agg (ptA z2 h2) | 4 => v = .agg (ptA z3 h3) | 5 => v = .int .i64 (cmpP z2 h2 z3 h3) | 6 => v = .int .i64 (cmpP z1 h1 z2 h2) | 7 => v = .int .i64 (cmpP z2 h2 z3 h3) | _ => True) (by kernel_rfl) (by kernel_rfl) (by kernel_rfl) ?_ ?_ ?_
      · intro i v W W' h _
        iterate 8 (rcases i with _ | i; · exact h)
        exact h
      · refine ⟨?_, ?_, ?_, ?_, ?_, ?_, ?_, ?_, trivial⟩
        · intro vs A' W hA hW hd K hK
          refine wpOp_free _ rfl rfl ?_
          have e5 : A'.tmps[5]?.getD undef = .pointer (some ⟨g5, 0, none⟩) := slot_is hA (by kernel_rfl) (Nat.le_of_ble_eq_true (by kernel_rfl)) (by kernel_rfl)
          refine op_runs (v := .agg (ptA z1 h1)) (w' := W) (exec_load rfl (by simpa [Act.eval] using e5) (run_pt_load (Blk.kp (HS.out.at_ (l1 := [_, _, _, _, _])).drew hW (by simp)) H1.out)) ?_
          exact hK _ _ (Kp.refl _ _) rfl
        · intro vs A' W hA hW hd K hK
          refine wpOp_free _ rfl rfl ?_
          have e6 : A'.tmps[6]?.getD undef = .pointer (some ⟨g6, 0, none⟩) := slot_is hA (by kernel_rfl) (Nat.le_of_ble_eq_true (by kernel_rfl)) (by kernel_rfl)
          refine op_runs (v := .agg (ptA z2 h2)) (w' := W) (exec_load rfl (by simpa [Act.eval] using e6) (run_pt_load (Blk.kp (HS.out.at_ (l1 := [_, _, _, _])).drew hW (by simp)) H2.out)) ?_
          exact hK _ _ (Kp.refl _ _) rfl
        · intro vs A' W hA hW hd K hK
          refine wpOp_free _ rfl rfl ?_
          have f0 : vs 0 = .agg (ptA z1 h1) := hd 0 (by kernel_rfl)
          have e76 : A'.tmps[76]?.getD undef = vs 0 := slot_is hA (by kernel_rfl) (Nat.le_of_ble_eq_true (by kernel_rfl)) (by kernel_rfl)
          rw [f0] at e76
          have f1 : vs 1 = .agg (ptA z2 h2) := hd 1 (by kernel_rfl)
          have e77 : A'.tmps[77]?.getD undef = vs 1 := slot_is hA (by kernel_rfl) (Nat.le_of_ble_eq_true (by kernel_rfl)) (by kernel_rfl)
          rw [f1] at e77
          go_step
          refine (pcmp_any z1 h1 H1.out z2 h2 H2.out W).mono ?_
          rintro e w' ⟨rfl, k'⟩
          exact hK _ _ k' rfl
        · intro vs A' W hA hW hd K hK
          refine wpOp_free _ rfl rfl ?_
          have e6 : A'.tmps[6]?.getD undef = .pointer (some ⟨g6, 0, none⟩) := slot_is hA (by kernel_rfl) (Nat.le_of_ble_eq_true (by kernel_rfl)) (by kernel_rfl)
          refine op_runs (v := .agg (ptA z2 h2)) (w' := W) (exec_load rfl (by simpa [Act.eval] using e6) (run_pt_load (Blk.kp (HS.out.at_ (l1 := [_, _, _, _])).drew hW (by simp)) H2.out)) ?_
          exact hK _ _ (Kp.refl _ _) rfl
        · intro vs A' W hA hW hd K hK
          refine wpOp_free _ rfl rfl ?_
          have e7 : A'.tmps[7]?.getD undef = .pointer (some ⟨g7, 0, none⟩) := slot_is hA (by kernel_rfl) (Nat.le_of_ble_eq_true (by kernel_rfl)) (by kernel_rfl)
          refine op_runs (v := .agg (ptA z3 h3)) (w' := W) (exec_load rfl (by simpa [Act.eval] using e7) (run_pt_load (Blk.kp (HS.out.at_ (l1 := [_, _, _])).drew hW (by simp)) H3.out)) ?_
          exact hK _ _ (Kp.refl _ _) rfl
        · intro vs A' W hA hW hd K hK
          refine wpOp_free _ rfl rfl ?_
          have f3 : vs 3 = .agg (ptA z2 h2) := hd 3 (by kernel_rfl)
          have e79 : A'.tmps[79]?.getD undef = vs 3 := slot_is hA (by kernel_rfl) (Nat.le_of_ble_eq_true (by kernel_rfl)) (by kernel_rfl)
          rw [f3] at e79
          have f4 : vs 4 = .agg (ptA z3 h3) := hd 4 (by kernel_rfl)
          have e80 : A'.tmps[80]?.getD undef = vs 4 := slot_is hA (by kernel_rfl) (Nat.le_of_ble_eq_true (by kernel_rfl)) (by kernel_rfl)
          rw [f4] at e80
          go_step
          refine (pcmp_any z2 h2 H2.out z3 h3 H3.out W).mono ?_
          rintro e w' ⟨rfl, k'⟩
          exact hK _ _ k' rfl
        · intro vs A' W hA hW hd K hK
          refine wpOp_free _ rfl rfl ?_
          have f2 : vs 2 = .int .i64 (cmpP z1 h1 z2 h2) := hd 2 (by kernel_rfl)
          have e78 : A'.tmps[78]?.getD undef = vs 2 := slot_is hA (by kernel_rfl) (Nat.le_of_ble_eq_true (by kernel_rfl)) (by kernel_rfl)
          rw [f2] at e78
          go_step
          exact hK _ _ (Kp.refl _ _) rfl
        · intro vs A' W hA hW hd K hK
          refine wpOp_free _ rfl rfl ?_
          have f5 : vs 5 = .int .i64 (cmpP z2 h2 z3 h3) := hd 5 (by kernel_rfl)
          have e81 : A'.tmps[81]?.getD undef = vs 5 := slot_is hA (by kernel_rfl) (Nat.le_of_ble_eq_true (by kernel_rfl)) (by kernel_rfl)
          rw [f5] at e81
          go_step
          exact hK _ _ (Kp.refl _ _) rfl
      · intro vs W hW hp
        have p0 : vs 0 = .agg (ptA z1 h1) := hp 0 (Nat.le_of_ble_eq_true rfl)
        have p1 : vs 1 = .agg (ptA z2 h2) := hp 1 (Nat.le_of_ble_eq_true rfl)
        have p2 : vs 2 = .int .i64 (cmpP z1 h1 z2 h2) := hp 2 (Nat.le_of_ble_eq_true rfl)
        have p3 : vs 3 = .agg (ptA z2 h2) := hp 3 (Nat.le_of_ble_eq_true rfl)
        have p4 : vs 4 = .agg (ptA z3 h3) := hp 4 (Nat.le_of_ble_eq_true rfl)
        have p5 : vs 5 = .int .i64 (cmpP z2 h2 z3 h3) := hp 5 (Nat.le_of_ble_eq_true rfl)
        have p6 : vs 6 = .int .i64 (cmpP z1 h1 z2 h2) := hp 6 (Nat.le_of_ble_eq_true rfl)
        have p7 : vs 7 = .int .i64 (cmpP z2 h2 z3 h3) := hp 7 (Nat.le_of_ble_eq_true rfl)
        clear hp
        have HS1 := Lib.hid (HS.out.kp ((Kp.refl [] _).drew.trans hW (by simp)))
        simp only [putAll, p0, p1, p2, p3, p4, p5, p6, p7, Act.put, List.setIfInBounds_toArray, List.set_cons_succ, List.set_cons_zero]
        clear p0 p1 p2 p3 p4 p5 p6 p7 hW HS
      -- END pord11
        obtain ⟨X, hX⟩ : ∃ X, cmpP z1 h1 z2 h2 = X := ⟨_, rfl⟩
        obtain ⟨Y, hY⟩ : ∃ Y, cmpP z2 h2 z3 h3 = Y := ⟨_, rfl⟩
        obtain ⟨Z, hZ⟩ : ∃ Z, cmpP z1 h1 z3 h3 = Z := ⟨_, rfl⟩
        have hT : X ≤ 0 → Y ≤ 0 → Z ≤ 0 := by rw [← hX, ← hY, ← hZ]; exact cmpP_trans (by rw [H1.out, H2.out]) (by rw [H2.out, H3.out])
        have hr := cmpP_range z1 h1 z2 h2
        have hpq := cmpP_zero (z := z1) (h := h1) (y := z2) (g := h2)
        have HR12 := Lib.hid (fun V => rcmp_any z1 h1 H1.out z2 h2 H2.out V)
        have HP21 := Lib.hid (fun V => pcmp_any z2 h2 H2.out z1 h1 H1.out V)
        have HP13 := Lib.hid (fun V => pcmp_any z1 h1 H1.out z3 h3 H3.out V)
        have HQ12 := Lib.hid (fun V => eql_pt V z1 z2 h1 h2 H1.out H2.out)
        rw [cmpP_neg z1 h1 z2 h2, hX] at HP21
        rw [hX] at HR12 hr hpq
        rw [hZ] at HP13
        rw [hX, hY]
        obtain ⟨pq, hpq2⟩ : ∃ pq, (decide (z1 = z2) && (h1 == h2)) = pq := ⟨_, rfl⟩
        rw [hpq2] at HQ12
        have hX0 : (X == 0) = pq := by
          rw [← hpq2]
          by_cases h : X = 0
          · obtain ⟨e1, e2⟩ := hpq.1 h
            rw [h, decide_eq_true e1, e2]
            simp
          · have h' : ¬ (z1 = z2 ∧ h1 = h2) := fun e => h (hpq.2 e)
            rw [beq_eq_false_iff_ne.2 h]
            symm
            rw [Bool.and_eq_false_iff]
            by_cases e1 : z1 = z2
            · exact .inr (by rw [beq_eq_false_iff_ne]; exact fun e2 => h' ⟨e1, e2⟩)
            · exact .inl (decide_eq_false e1)
        have hxx : (X == X) = true := beq_self_eq_true X
        have hxn : (-X == -X) = true := beq_self_eq_true (-X)
        have hwr : wrap64 (-X) = -X := wrap64_of (by omega)
        have hpp : (pq == pq) = true := beq_self_eq_true pq
        have hq12 := HQ12.out
        obtain ⟨bx, hbx⟩ : ∃ bx, decide (0 < X) = bx := ⟨_, rfl⟩
        obtain ⟨bY, hbY⟩ : ∃ bY, decide (0 < Y) = bY := ⟨_, rfl⟩
        have hcases : bx = true ∨ (bx = false ∧ bY = true) ∨ (bx = false ∧ bY = false ∧ Z ≤ 0) := by
          by_cases c1 : 0 < X
          · exact .inl (by rw [← hbx]; exact decide_eq_true c1)
          · by_cases c2 : 0 < Y
            · exact .inr (.inl ⟨by rw [← hbx]; exact decide_eq_false c1, by rw [← hbY]; exact decide_eq_true c2⟩)
            · exact .inr (.inr ⟨by rw [← hbx]; exact decide_eq_false c1, by rw [← hbY]; exact decide_eq_false c2, hT (by omega) (by omega)⟩)
        clear hX hY hZ hT hr hpq hpq2 HQ12 hq
        rcases hcases with hc | ⟨hc1, hc2⟩ | ⟨hc1, hc2, hc3⟩
        all_goals
          go_wp2_with (first
            | (go_at_call 14; (first | (refine (known_any _ (HL.out.kp SC.out.k)).mono ?_; rintro e wD ⟨rfl, kD⟩; have KD := Lib.hid (SC.out.k.trans kD (by simp)); clear kD) | (refine (known_any _ (HL.out.kp SB.out.k)).mono ?_; rintro e wD ⟨rfl, kD⟩; have KD := Lib.hid (SB.out.k.trans kD (by simp)); clear kD)))
            | (go_at_call 20; (with_reducible refine (HR12.out _).mono ?_); rintro e wA ⟨rfl, kA⟩; have SA := Lib.hid (HS1.out.kp kA); clear kA)
            | (go_at_call 19; (with_reducible refine (HP21.out _).mono ?_); rintro e wB ⟨rfl, kB⟩; have SB := Lib.hid (SA.out.kp kB); clear kB)
            | (go_at_call 19; (with_reducible refine (HP13.out _).mono ?_); rintro e wC ⟨rfl, kC⟩; have SC := Lib.hid (SB.out.kp kC); clear kC)
            | (refine wpList_load_blk rfl 25 (.tmp 5) rfl g5 rfl 25 _ (HS1.out.at_ (l1 := [_, _, _, _, _])) _ Tryd.underlying25 rfl (by rw [ptA_size H1.out]; exact Tryd.infoPointP) ?_)
            | (refine wpList_load_blk rfl 25 (.tmp 6) rfl g6 rfl 25 _ (HS1.out.at_ (l1 := [_, _, _, _])) _ Tryd.underlying25 rfl (by rw [ptA_size H2.out]; exact Tryd.infoPointP) ?_)
            | (refine wpList_load_blkG 5 87 true rfl rfl rfl 25 (.tmp 6) rfl g6 rfl 25 _ (SA.out.at_ (l1 := [_, _, _, _])) _ Tryd.underlying25 rfl (by rw [ptA_size H2.out]; exact Tryd.infoPointP) ?_)
            | (refine wpList_load_blkG 5 87 true rfl rfl rfl 25 (.tmp 5) rfl g5 rfl 25 _ (SA.out.at_ (l1 := [_, _, _, _, _])) _ Tryd.underlying25 rfl (by rw [ptA_size H1.out]; exact Tryd.infoPointP) ?_)
            | (refine wpList_load_blkG 13 95 true rfl rfl rfl 25 (.tmp 5) rfl g5 rfl 25 _ (SB.out.at_ (l1 := [_, _, _, _, _])) _ Tryd.underlying25 rfl (by rw [ptA_size H1.out]; exact Tryd.infoPointP) ?_)
            | (refine wpList_load_blkG 13 95 true rfl rfl rfl 25 (.tmp 6) rfl g6 rfl 25 _ (SB.out.at_ (l1 := [_, _, _, _])) _ Tryd.underlying25 rfl (by rw [ptA_size H2.out]; exact Tryd.infoPointP) ?_)
            | (refine wpList_load_blkG 28 110 false rfl rfl rfl 25 (.tmp 5) rfl g5 rfl 25 _ (SB.out.at_ (l1 := [_, _, _, _, _])) _ Tryd.underlying25 rfl (by rw [ptA_size H1.out]; exact Tryd.infoPointP) ?_)
            | (refine wpList_load_blkG 28 110 false rfl rfl rfl 25 (.tmp 7) rfl g7 rfl 25 _ (SB.out.at_ (l1 := [_, _, _])) _ Tryd.underlying25 rfl (by rw [ptA_size H3.out]; exact Tryd.infoPointP) ?_))
          go_ret
          exact ⟨rfl, KD.out⟩
end Go.Proofs.YtolfckhjfadhdaaDoor
/- Lists of points that came in, opened. -/
namespace Go.Proofs.YtolfckhjfadhdaaDoor
open Go.RowKit Go.WideShapes Go.ChangeShapes
section
variable {H : Type} {enc : TypeId × Value → H}
theorem ptsC_inv {ps : List Pt} (hok : PtsOk ps) {j : Nat} {u : Value} (h : (ptsC ps)[j]? = some u) : ∃ q, ps[j / 33]? = some q ∧ (ptA q.1 q.2).toList[j % 33]? = some u := by
  have hl := ptsC_length hok
  have hj := (List.getElem?_eq_some_iff.1 h).1
  obtain ⟨q, hq⟩ : ∃ q, ps[j / 33]? = some q := ⟨_, List.getElem?_eq_getElem (by omega)⟩
  have hs := ptA_size (s := q.1) (hok q (List.mem_of_getElem? hq)).2
  obtain ⟨v, hv⟩ : ∃ v, (ptA q.1 q.2).toList[j % 33]? = some v := ⟨_, List.getElem?_eq_getElem (by rw [Array.length_toList, hs]; omega)⟩
  have := ptsC_at hok hq _ _ hv
  rw [show j / 33 * 33 + j % 33 = j from by omega, h] at this
  exact ⟨q, hq, by rw [hv, ← this]⟩
theorem open_pts {W : World} {n : Nat} {v : Value} {x : DataW H × List MemPlace} (h : DataW.trod enc Tryd.prog W 0 (fun _ => true) true n 39 [v] = some x) :
    ∃ ps, Rd W 33 v ps.length (ptsC ps) ∧ PtsOk ps ∧ (ps = [] ∨ ∃ elems spare, x.1 = .slice elems spare ∧ elems.length = ps.length) := by
  rcases Deep.open_slice Tryd.underlying39 h with ⟨hv, rfl⟩ | ⟨a, len, cap, m, k, D, Pl, hv, _, hl, hm, hmm, rfl, hel⟩
  · cases hv
    exact ⟨[], Rd.nil _ _, (fun _ h => by cases h), .inl rfl⟩
  · cases hv
    simp only [if_true] at hmm
    obtain ⟨G, hG⟩ := Deep.choose_lt (α := Pt) (n := len) (p := fun i q => (∀ j u, (ptA q.1 q.2).toList[j]? = some u → W.cell? ((a.add (i * 33)).add j) = some u) ∧ (-9223372036854775808 ≤ q.1 ∧ q.1 ≤ 9223372036854775807) ∧ q.2.length = 32) (fun i hi => by
      obtain ⟨cs, h1, h2⟩ := hel i (by omega)
      rw [Tryd.cellsPoint] at h1
      obtain ⟨z, hh, rfl, hz, hhl⟩ := open_pt h2
      obtain ⟨_, hlen, hcell⟩ := World.cells?_some h1
      exact ⟨(z, hh), (fun j u hu => by rw [hcell j (by have := (List.getElem?_eq_some_iff.1 hu).1; rw [Array.length_toList, ptA_size hhl] at this; omega)]; exact hu), hz, hhl⟩)
    have hget : ∀ i q, ((List.range len).map G)[i]? = some q → i < len ∧ q = G i := fun i q h => by
      rw [List.getElem?_map] at h
      by_cases hi : i < len
      · rw [List.getElem?_range hi] at h
        exact ⟨hi, (Option.some.inj h).symm⟩
      · rw [List.getElem?_eq_none (by simp; omega)] at h; cases h
    have hok : PtsOk ((List.range len).map G) := fun q hq => by
      obtain ⟨i, hi, rfl⟩ := List.mem_map.1 hq
      exact (hG i (List.mem_range.1 hi)).2
    refine ⟨(List.range len).map G, ?_, hok, .inr ⟨_, _, rfl, by simp⟩⟩
    have hlen : ((List.range len).map G).length = len := by simp
    have hC := ptsC_length hok
    rw [hlen] at hC ⊢
    refine rd_some hC hl hm (fun ad had j u hu => ?_)
    cases had
    obtain ⟨q, hq, hqu⟩ := ptsC_inv hok hu
    obtain ⟨hi, rfl⟩ := hget _ _ hq
    have := (hG _ hi).1 _ _ hqu
    rw [add_of_add, show j / 33 * 33 + j % 33 = j from by omega] at this
    exact this
theorem bytes_of_pt : Tryd.prog.bytesOf 25 = 40 := by kernel_rfl
theorem sized_pts {ts : List TypeId} {ds : List (DataW H)} (h : (DataW.weightsEach Tryd.prog ts ds).all (· ≤ reachBytes) = true) (j : Nat) {d : DataW H} {ps : List Pt} (ht : ts[j]? = some 39) (hd : ds[j]? = some d)
    (hb : ps = [] ∨ ∃ elems spare, d = .slice elems spare ∧ elems.length = ps.length) : (ps.length + 1) * 40 ≤ 140737488355328 := by
  rcases hb with rfl | ⟨elems, spare, rfl, hl⟩
  · simp
  · have := sized_slice h ht hd Tryd.underlying39
    rw [bytes_of_pt] at this
    unfold reachBytes at this
    omega
end
end Go.Proofs.YtolfckhjfadhdaaDoor
