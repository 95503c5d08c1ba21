/- Walks of package crc: moves; bytes gone through; sums. -/
import Derived.Test.YtgldgkdnnimglaaCrcA
import Derived.Test.YtgldgkdnnimglaaBase
namespace Go.Proofs.Ytgldgkdnnimglaa
open Go.RowKit

/-- The cells of moves. -/
def movA (L : List Nat) : Array Value := (L.map fun n : Nat => Value.int .u32 (n : Int)).toArray
theorem movA_size (L : List Nat) : (movA L).size = L.length := by simp [movA]
theorem movA_get (L : List Nat) (i : Nat) (h : i < L.length) : (movA L)[i]? = some (.int .u32 (L[i] : Int)) := by simp [movA, h]
/-- Moves: 32 numbers of 32 bits. -/
def Mov (L : List Nat) : Prop := L.length = 32 ∧ ∀ i, (h : i < L.length) → L[i] < 4294967296
theorem matOf_length (f : Nat → Nat) : (matOf f).length = 32 := by simp [matOf]
theorem matOf_mov {f : Nat → Nat} (hf : ∀ x, x < 4294967296 → f x < 4294967296) : Mov (matOf f) := ⟨matOf_length f, fun i h => by
  rw [matOf_length] at h
  simp only [matOf, List.getElem_map, List.getElem_range]
  exact hf _ (Nat.pow_lt_pow_right (by omega) h)⟩
theorem ofL_zero (L : List Nat) : ofL L 0 = 0 := by
  induction L with
  | nil => rfl
  | cons m ms ih => rw [ofL, ih]; simp
theorem ofL_drop (L : List Nat) (k x : Nat) (h : k < L.length) : ofL (L.drop k) x = (x % 2 * L[k]) ^^^ ofL (L.drop (k + 1)) (x / 2) := by
  rw [List.drop_eq_getElem_cons h]; rfl
/-- One bit. -/
theorem of_step {L : List Nat} {x y t k : Nat} (hk : k < L.length) (h : y ^^^ ofL (L.drop k) (x / 2 ^ k) = t) : (y ^^^ (x / 2 ^ k % 2 * L[k])) ^^^ ofL (L.drop (k + 1)) (x / 2 ^ (k + 1)) = t := by
  rw [ofL_drop L k _ hk, ← Nat.xor_assoc] at h
  rw [← h, Nat.pow_succ, Nat.div_div_eq_div_mul]
theorem div_pow_lt {x k : Nat} (h : x < 4294967296) (h0 : x / 2 ^ k ≠ 0) : k < 32 := by
  rcases Nat.lt_or_ge k 32 with hk | hk
  · exact hk
  · exfalso
    apply h0
    apply Nat.div_eq_of_lt
    exact Nat.lt_of_lt_of_le h (Nat.pow_le_pow_right (n := 2) (by omega) hk)
set_option maxHeartbeats 800000 in
theorem of_any (g : Nat) (L : List Nat) (hL : Mov L) (x : Nat) (hx : x < 4294967296) (w : World) (hb : Blk w g 71 (movA L)) :
    Calls Try.prog 44 #[.pointer (some ⟨g, 0, none⟩), .int .u32 x] w fun e w' => e = .returned (.int .u32 (ofL L x)) ∧ w = w' := by
  have Hc := Lib.hid hb.cell
  have HL := Lib.hid hL
  clear hb hL
  go_enter Try.func44, Try.ntmps44
  go_wp2
  go_loop [1, 5, 6] (fun u v i => ∃ k y : Nat, k ≤ 32 ∧ i = .int .i64 k ∧ u = .int .u32 ((x / 2 ^ k : Nat) : Int) ∧ v = .int .u32 (y : Int) ∧ y < 4294967296 ∧ y ^^^ ofL (L.drop k) (x / 2 ^ k) = ofL L x) (fun _ _ i => 32 - (intOf i).toNat)
  case atStart => exact ⟨0, 0, by omega, rfl, by simp, rfl, by omega, by simp⟩
  case round =>
    obtain ⟨k, y, hk, rfl, rfl, rfl, hy, hrest⟩ := hrel
    have Hrest := Lib.hid hrest
    clear hrest
    by_cases h0 : x / 2 ^ k = 0
    · rw [h0]
      go_wp2
      go_ret
      have := Hrest.out
      rw [h0, ofL_zero, Nat.xor_zero] at this
      subst this
      exact ⟨rfl, rfl⟩
    · have hk32 := div_pow_lt hx h0
      have hkl : k < L.length := by rw [HL.out.1]; exact hk32
      have hc := Hc.out k
      rw [movA_get L k hkl] at hc
      have hmb := HL.out.2 k hkl
      have hst := of_step hkl Hrest.out
      have hlt : x / 2 ^ k < 4294967296 := Nat.lt_of_le_of_lt (Nat.div_le_self _ _) hx
      have hnx : x / 2 ^ (k + 1) = x / 2 ^ k / 2 := by rw [Nat.pow_succ, Nat.div_div_eq_div_mul]
      rw [hnx] at hst
      have Hnx := Lib.hid hnx
      clear hnx
      generalize L[k] = m at *
      generalize x / 2 ^ k = X at *
      have Hst := Lib.hid hst
      have Hx := Lib.hid (u32_xor_nat y m hy hmb)
      clear hst
      go_wp2
      · have c := and1 hlt _ (by assumption)
        have h1 : X % 2 = 1 := by have : (X : Int) % 2 = 1 := by simpa using c
                                  omega
        go_round
        case rel =>
          have h2 := Hst.out
          rw [h1, Nat.one_mul] at h2
          exact ⟨k + 1, y ^^^ m, by omega, by go_num, by rw [Hnx.out]; rfl, by rw [Hx.out], Nat.xor_lt_two_pow (n := 32) hy hmb, by rw [Hnx.out]; exact h2⟩
        case measure => simp [intOf]; omega
      · have c := and1 hlt _ (by assumption)
        have h1 : X % 2 = 0 := by have : ¬ (X : Int) % 2 = 1 := by simpa using c
                                  omega
        go_round
        case rel =>
          have h2 := Hst.out
          rw [h1, Nat.zero_mul, Nat.xor_zero] at h2
          exact ⟨k + 1, y, by omega, by go_num, by rw [Hnx.out]; rfl, rfl, hy, by rw [Hnx.out]; exact h2⟩
        case measure => simp [intOf]; omega

/-! ### Bytes -/
theorem xor_u8_lt {x : Nat} (b : UInt8) (h : x < 4294967296) : x ^^^ b.toNat < 4294967296 := Nat.xor_lt_two_pow (n := 32) h (u8_lt32 b)
theorem thru_take {x : Nat} {bs : List UInt8} {k : Nat} (h : k < bs.length) : thru x (bs.take (k + 1)) = eight (thru x (bs.take k) ^^^ bs[k].toNat) := by
  rw [List.take_succ_eq_append_getElem h, thru_snoc]
theorem rd_get {w : World} {v : Value} {n : Nat} {bs : List UInt8} (h : Rd w 1 v n (bv bs)) : ∃ A c, v = .slice A n c ∧ n = bs.length ∧ n ≤ maxLen ∧ (A = none → n = 0) ∧ ∀ ad, A = some ad → ∀ j (hj : j < bs.length), w.cell? (ad.add j) = some (.int .u8 (bs[j].toNat : Int)) := by
  obtain ⟨hl, A, c, rfl, h1, h2, h3, h4⟩ := h
  rw [bv_length] at hl
  exact ⟨A, c, rfl, by omega, by omega, fun h => (h3 h).1, fun ad had j hj => h4 ad had j _ (by rw [bv_get, List.getElem?_eq_getElem hj]; rfl)⟩
set_option maxHeartbeats 800000 in
theorem through_any (x : Nat) (hx : x < 4294967296) (v : Value) (n : Nat) (bs : List UInt8) (w : World) (hv : Rd w 1 v n (bv bs)) :
    Calls Try.prog 41 #[.int .u32 x, v] w fun e w' => e = .returned (.int .u32 (thru x bs)) ∧ w = w' := by
  obtain ⟨A, c, rfl, rfl, hn, hA, hc⟩ := rd_get hv
  have Hc := Lib.hid hc
  have HA := Lib.hid hA
  clear hc hA hv
  unfold maxLen at hn
  go_enter Try.func41, Try.ntmps41
  go_wp2
  go_loop [0, 6, 9] (fun u _ i => ∃ k : Nat, k ≤ bs.length ∧ i = .int .i64 k ∧ u = .int .u32 ((thru x (bs.take k) : Nat) : Int)) (fun _ _ i => bs.length - (intOf i).toNat)
  case atStart => exact ⟨0, by omega, rfl, by simp [thru]⟩
  case round =>
    obtain ⟨k, hk, rfl, rfl⟩ := hrel
    by_cases hlt : k < bs.length
    · obtain ⟨ad, rfl⟩ : ∃ ad, A = some ad := by
        cases A with
        | none => have := HA.out rfl; omega
        | some ad => exact ⟨ad, rfl⟩
      have hcell := Hc.out ad rfl k hlt
      have Ht := Lib.hid (thru_take (x := x) hlt)
      have hT : thru x (bs.take k) < 4294967296 := thru_lt _ hx
      have hY := xor_u8_lt bs[k] hT
      have hq := bs[k].toNat_lt
      generalize thru x (bs.take k) = T at *
      generalize bs[k].toNat = q at *
      have Hx := Lib.hid (u32_xor_nat T q hT (by omega))
      go_wp2
      rw [Hx.out]
      go_loop [0, 17] (fun u i => ∃ j : Nat, j ≤ 8 ∧ i = .int .i64 j ∧ u = .int .u32 ((itn stp j (T ^^^ q) : Nat) : Int)) (fun _ i => 8 - (intOf i).toNat)
      case atStart => exact ⟨0, by omega, rfl, rfl⟩
      case round =>
        obtain ⟨j, hj, rfl, rfl⟩ := hrel
        have hb : itn stp j (T ^^^ q) < 4294967296 := itn_stp_lt j hY
        by_cases hl8 : j < 8
        · go_wp2_with (go_at_call 50; refine (step_any _ hb _).mono ?_; rintro e w' ⟨rfl, rfl⟩)
          go_round
          case rel => exact ⟨j + 1, by omega, by go_num, by rw [itn_succ]⟩
          case measure => simp [intOf]; omega
        · obtain rfl : j = 8 := by omega
          go_wp2
          go_round
          case rel => exact ⟨k + 1, by omega, by go_num, by rw [Ht.out]; rfl⟩
          case measure => simp [intOf]; omega
    · obtain rfl : k = bs.length := by omega
      go_wp2
      go_ret
      exact ⟨rfl, rfl⟩
end Go.Proofs.Ytgldgkdnnimglaa
