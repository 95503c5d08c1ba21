/- Walks of package crc: Sums. -/
import Derived.Test.YtgldgkdnnimglaaCrcG
namespace Go.Proofs.Ytgldgkdnnimglaa
open Go.RowKit

/-- The sums of a text's beginnings. -/
def smv (bs : List UInt8) : List Value := (List.range bs.length).map fun i => Value.int .u32 ((crc (bs.take (i + 1)) : Nat) : Int)
theorem smv_length (bs : List UInt8) : (smv bs).length = bs.length := by simp [smv]
theorem smv_get (bs : List UInt8) (i : Nat) (h : i < bs.length) : (smv bs)[i]? = some (.int .u32 ((crc (bs.take (i + 1)) : Nat) : Int)) := by simp [smv, h]
theorem smv_one (bs : List UInt8) : ∀ u ∈ smv bs, u.oneCell' = true := by
  intro u hu
  simp only [smv, List.mem_map] at hu
  obtain ⟨_, _, rfl⟩ := hu
  rfl
theorem smv_snoc (bs : List UInt8) (b : UInt8) : smv (bs ++ [b]) = smv bs ++ [.int .u32 ((more (crc bs) [b] : Nat) : Int)] := by
  unfold smv
  rw [List.length_append, List.length_singleton, List.range_succ, List.map_append, List.map_singleton]
  congr 1
  · apply List.map_congr_left
    intro i hi
    have := List.mem_range.1 hi
    rw [List.take_append_of_le_length (by omega)]
  · rw [List.take_of_length_le (by simp), crc_append]
/-- A Sums: its block p, the row v, the text. -/
def Sm (w : World) (p : Nat) (v : Value) (bs : List UInt8) : Prop := Blk w p 66 #[.int .i64 bs.length, v] ∧ Ow w 23 1 v bs.length (smv bs)
theorem Sm.ne {w : World} {p : Nat} {v : Value} {bs : List UInt8} (h : Sm w p v bs) : v.ownBlock ≠ some p := ow_blk_ne h.2 h.1 (by decide)
theorem Sm.kp {w w' : World} {S : List Nat} {p : Nat} {v : Value} {bs : List UInt8} (h : Sm w p v bs) (hk : Kp S w w') (hp : p ∉ S) (hv : ∀ g, v.ownBlock = some g → g ∉ S) : Sm w' p v bs := ⟨h.1.kp hk hp, ow_kp h.2 hk hv⟩
theorem Sm.kp0 {w w' : World} {p : Nat} {v : Value} {bs : List UInt8} (h : Sm w p v bs) (hk : Kp [] w w') : Sm w' p v bs := h.kp hk (by simp) (by simp)
theorem crc_lt (l : List UInt8) : crc l < 4294967296 := more_lt 0 l

set_option maxHeartbeats 400000 in
theorem sum_any (p : Nat) (v : Value) (bs : List UInt8) (n : Nat) (hn : n ≤ bs.length) (hb : bs.length ≤ 1073741824) (w : World) (h : Sm w p v bs) :
    Calls Try.prog 49 #[.pointer (some ⟨p, 0, none⟩), .int .i64 n] w fun e w' => e = .returned (.int .u32 ((crc (bs.take n) : Nat) : Int)) ∧ w = w' := by
  have hc := h.1.cell 1
  simp at hc
  rcases n with _ | m
  · rw [List.take_zero, crc_nil]
    go_enter Try.func49, Try.ntmps49
    go_wp2
    go_ret
    exact ⟨rfl, rfl⟩
  · obtain ⟨g, c, rfl, hgc, hcm⟩ := ow_some h.2 (by omega)
    have hcell := h.2.cellAt m (by omega)
    rw [smv_get bs m (by omega)] at hcell
    generalize crc (bs.take (m + 1)) = t at *
    have Hh := Lib.hid h
    clear h
    go_enter Try.func49, Try.ntmps49
    go_wp2
    go_ret
    exact ⟨rfl, rfl⟩
set_option maxHeartbeats 400000 in
theorem s_len (p : Nat) (v : Value) (bs : List UInt8) (w : World) (h : Sm w p v bs) :
    Calls Try.prog 39 #[.pointer (some ⟨p, 0, none⟩)] w fun e w' => e = .returned (.int .i64 bs.length) ∧ w = w' := by
  have hc := h.1.cell 0
  simp at hc
  go_enter Try.func39, Try.ntmps39
  go_wp2
  go_ret
  exact ⟨rfl, rfl⟩
/-! ### A part's sum -/
theorem xor_cancel (a b : Nat) : a ^^^ (a ^^^ b) = b := by rw [← Nat.xor_assoc, Nat.xor_self, Nat.zero_xor]
theorem crc_join (a b : List UInt8) : crc (a ++ b) = join (crc a) (crc b) b.length := by
  have h0 : crc a = not32 0 ^^^ thru (not32 0) a := by
    show not32 (thru (not32 0) a) = _
    rw [not32_xor (thru_lt a (not32_lt 0)), Nat.xor_comm]
    rfl
  have h1 : thru (not32 0) (a ++ b) = thru (not32 0) b ^^^ carry (crc a) b.length := by
    rw [thru_append]
    have e : thru (not32 0) a = not32 0 ^^^ crc a := by rw [h0, xor_cancel]
    conv => lhs; rw [e]
    rw [thru_xor]; rfl
  show not32 (thru (not32 0) (a ++ b)) = carry (crc a) b.length ^^^ not32 (thru (not32 0) b)
  rw [not32_xor (thru_lt _ (not32_lt 0)), not32_xor (thru_lt _ (not32_lt 0)), h1, Nat.xor_comm (thru (not32 0) b), Nat.xor_assoc]
theorem crc_part (a b : List UInt8) : join (crc a) (crc (a ++ b)) b.length = crc b := by
  rw [crc_join]; unfold join; rw [xor_cancel]
theorem crc_range (bs : List UInt8) (i j : Nat) (h : i ≤ j) (hj : j ≤ bs.length) : join (crc (bs.take i)) (crc (bs.take j)) (j - i) = crc ((bs.drop i).take (j - i)) := by
  have e : bs.take j = bs.take i ++ (bs.drop i).take (j - i) := by
    conv => lhs; rw [show j = i + (j - i) from by omega, List.take_add]
  have hl : ((bs.drop i).take (j - i)).length = j - i := by rw [List.length_take, List.length_drop]; omega
  have h1 := crc_part (bs.take i) ((bs.drop i).take (j - i))
  rw [hl] at h1
  rw [e]
  exact h1
set_option maxHeartbeats 400000 in
theorem s_range_no (p : Nat) (v : Value) (bs : List UInt8) (i j : Int) (hij : i < 0 ∨ j < i ∨ (bs.length : Int) < j) (w : World) (h : Sm w p v bs) :
    Calls Try.prog 36 #[.pointer (some ⟨p, 0, none⟩), .int .i64 i, .int .i64 j] w fun e w' => e = .returned (.tuple #[.int .u32 0, .bool false]) ∧ w = w' := by
  have hc := h.1.cell 0
  simp at hc
  by_cases h1 : i < 0
  · go_enter Try.func36, Try.ntmps36
    go_wp2
    go_ret2
    exact ⟨rfl, rfl⟩
  · by_cases h2 : j < i
    · go_enter Try.func36, Try.ntmps36
      go_wp2
      go_ret2
      exact ⟨rfl, rfl⟩
    · have h3 : (bs.length : Int) < j := by omega
      clear hij
      go_enter Try.func36, Try.ntmps36
      go_wp2
      go_ret2
      exact ⟨rfl, rfl⟩
set_option maxHeartbeats 800000 in
theorem s_range (p : Nat) (v : Value) (bs : List UInt8) (i j : Nat) (hij : i ≤ j) (hj : j ≤ bs.length) (hb : bs.length ≤ 1073741824) (w : World) (h : Sm w p v bs) :
    Calls Try.prog 36 #[.pointer (some ⟨p, 0, none⟩), .int .i64 i, .int .i64 j] w fun e w' => e = .returned (.tuple #[.int .u32 ((crc ((bs.drop i).take (j - i)) : Nat) : Int), .bool true]) ∧ Kp [] w w' := by
  have hc := h.1.cell 0
  simp at hc
  have H1 := Lib.hid (sum_any p v bs i (by omega) hb w h)
  have H2 := Lib.hid (sum_any p v bs j hj hb w h)
  have H3 := part_any (crc (bs.take j)) (crc (bs.take i)) (crc_lt _) (crc_lt _) ((j : Int) - (i : Int)) (by omega) w
  rw [show ((j : Int) - (i : Int)).toNat = j - i from by omega, crc_range bs i j hij hj] at H3
  have H3' := Lib.hid H3
  clear H3 h
  generalize crc (bs.take i) = a at *
  generalize crc (bs.take j) = b at *
  generalize crc ((bs.drop i).take (j - i)) = c at *
  go_enter Try.func36, Try.ntmps36
  go_wp2_with (first
    | (go_at_call 49; ((with_reducible refine H2.out.mono ?_); rintro e w1 ⟨rfl, rfl⟩))
    | (go_at_call 49; ((with_reducible refine H1.out.mono ?_); rintro e w1 ⟨rfl, rfl⟩))
    | (go_at_call 23; ((with_reducible refine H3'.out.mono ?_); rintro e w1 ⟨rfl, k1⟩)))
  go_ret2
  exact ⟨rfl, k1⟩
end Go.Proofs.Ytgldgkdnnimglaa
