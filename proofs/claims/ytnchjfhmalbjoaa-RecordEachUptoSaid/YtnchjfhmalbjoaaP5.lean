/- Several texts in one: RecV, RecW, RecX, RecY, RecZ. -/
import Derived.Lib.SmallJoins
import Derived.SizedLaws
import Derived.Test.YtnchjfhmalbjoaaP4
/- A frame in which bits are turned: mathematics. -/
namespace Go.Proofs.Ytnchjfhmalbjoaa
open Go.RowKit
/-- Bytes as one number, the first the lowest. -/
def le : List UInt8 → Nat
  | [] => 0
  | c :: l => c.toNat ^^^ (le l * 2 ^ 8)
theorem xor_mul_pow (a b n : Nat) : (a ^^^ b) * 2 ^ n = (a * 2 ^ n) ^^^ (b * 2 ^ n) := by rw [← Nat.shiftLeft_eq, ← Nat.shiftLeft_eq, ← Nat.shiftLeft_eq, Nat.shiftLeft_xor_distrib]
theorem itn8_up (m : Nat) : eight (m * 2 ^ 8) = m := itn_even 8 m
theorem thru_le (l : List UInt8) : ∀ x, thru x l = itn stp (8 * l.length) (x ^^^ le l) := by
  induction l with
  | nil => intro x; simp [thru, le, itn]
  | cons c l ih =>
    intro x
    rw [thru_cons, ih, List.length_cons, Nat.mul_add, Nat.add_comm, itn_add]
    congr 1
    show eight (x ^^^ c.toNat) ^^^ le l = eight (x ^^^ (c.toNat ^^^ (le l * 2 ^ 8)))
    rw [← Nat.xor_assoc, eight_lin (x ^^^ c.toNat), itn8_up]
theorem itn_ne {n m : Nat} (h : m < 2 ^ 32) (h0 : m ≠ 0) : itn stp n m ≠ 0 := fun e => h0 (itn_inj (n := n) h (by decide) (by rw [e, (stp_lin.itn n).zero]))
theorem thru_turned {x : Nat} {y b : List UInt8} {m s : Nat} (hl : y.length = b.length) (h : le y = le b ^^^ (m * 2 ^ s)) (hm : m < 2 ^ 32) (h0 : m ≠ 0) (hs : s ≤ 8 * b.length) : thru x y ≠ thru x b := by
  rw [thru_le, thru_le, hl, h, ← Nat.xor_assoc, (stp_lin.itn _)]
  intro e
  have h2 : itn stp (8 * b.length) (m * 2 ^ s) = 0 := by
    have := congrArg (fun t => itn stp (8 * b.length) (x ^^^ le b) ^^^ t) e
    simp only [← Nat.xor_assoc, Nat.xor_self, Nat.zero_xor] at this
    exact this
  rw [show 8 * b.length = s + (8 * b.length - s) from by omega, itn_add, itn_even] at h2
  exact itn_ne hm h0 h2
/-- A row of bytes with its own sum behind. -/
theorem thru_residue (h : List UInt8) : thru (not32 0) (h ++ le4 (crc h)) = itn stp 32 4294967295 := by
  have h1 : thru (not32 0) h < 2 ^ 32 := thru_lt h (by decide)
  rw [thru_append, thru_le4 _ _ (crc32_lt h)]
  congr 1
  show thru (not32 0) h ^^^ not32 (thru (not32 0) h) = _
  rw [not32_xor h1, ← Nat.xor_assoc, Nat.xor_self, Nat.zero_xor]
theorem sum_turned {b y : List UInt8} {n m s : Nat} (hb : (b.drop (n + 5)).take 4 = le4 (crc (b.take (n + 5)))) (hbl : b.length = n + 9) (hl : y.length = b.length) (h : le y = le b ^^^ (m * 2 ^ s)) (hm : m < 2 ^ 32) (h0 : m ≠ 0) (hs : s ≤ 8 * b.length) :
    ((y.drop (n + 5)).take 4 == le4 (crc (y.take (n + 5)))) = false := by
  rw [beq_eq_false_iff_ne]
  intro hy
  have e : ∀ l : List UInt8, l.length = n + 9 → (l.drop (n + 5)).take 4 = le4 (crc (l.take (n + 5))) → thru (not32 0) l = itn stp 32 4294967295 := by
    intro l hl h
    rw [List.take_of_length_le (by rw [List.length_drop]; omega)] at h
    have := thru_residue (l.take (n + 5))
    rw [← h, List.take_append_drop] at this
    exact this
  exact thru_turned hl h hm h0 hs ((e y (by omega) hy).trans (e b hbl hb).symm)
theorem two_xor_low {a r : Nat} : a ^^^ (1 * 2 ^ r) = a ^^^ 2 ^ r := by rw [Nat.one_mul]
theorem le_inj : ∀ {a b : List UInt8}, a.length = b.length → le a = le b → a = b
  | [], [], _, _ => rfl
  | x :: a, y :: b, hl, h => by
    have e1 : ∀ (c : UInt8) (l : List UInt8), le (c :: l) % 256 = c.toNat := fun c l => by
      show (c.toNat ^^^ (le l * 2 ^ 8)) % 2 ^ 8 = _
      rw [Nat.xor_mod_two_pow, Nat.mul_mod_left, Nat.xor_zero]
      exact Nat.mod_eq_of_lt c.toNat_lt
    have e2 : ∀ (c : UInt8) (l : List UInt8), le (c :: l) / 256 = le l := fun c l => by
      show (c.toNat ^^^ (le l * 2 ^ 8)) / 2 ^ 8 = _
      rw [Nat.xor_div_two_pow, Nat.mul_div_cancel _ (by decide), Nat.div_eq_of_lt c.toNat_lt, Nat.zero_xor]
    have h1 : x = y := UInt8.toNat_inj.1 (by rw [← e1 x a, ← e1 y b, h])
    have h2 : le a = le b := by rw [← e2 x a, ← e2 y b, h]
    rw [h1, le_inj (by simpa using hl) h2]
/-- One bit of one byte. -/
theorem le_set : ∀ (l : List UInt8) (j : Nat) (c d : UInt8) (e : Nat), l[j]? = some c → d.toNat = c.toNat ^^^ e → le (l.set j d) = le l ^^^ (e * 2 ^ (8 * j))
  | c0 :: l, 0, c, d, e, h, hd => by
    cases h
    show d.toNat ^^^ (le l * 2 ^ 8) = (c0.toNat ^^^ (le l * 2 ^ 8)) ^^^ (e * 2 ^ (8 * 0))
    rw [hd]
    simp only [Nat.mul_zero, Nat.pow_zero, Nat.mul_one]
    rw [Nat.xor_assoc, Nat.xor_assoc, Nat.xor_comm e]
  | c0 :: l, j + 1, c, d, e, h, hd => by
    have ih := le_set l j c d e h hd
    show c0.toNat ^^^ (le (l.set j d) * 2 ^ 8) = (c0.toNat ^^^ (le l * 2 ^ 8)) ^^^ (e * 2 ^ (8 * (j + 1)))
    rw [ih, Nat.xor_assoc]
    congr 1
    rw [Nat.mul_add, Nat.mul_one, Nat.pow_add, ← Nat.mul_assoc, xor_mul_pow]
  | [], _, _, _, _, h, _ => by simp at h
/-- The reference's Turn, k bits of the mask looked at. -/
def turnN (b : List UInt8) (s mask : Nat) : Nat → List UInt8
  | 0 => b
  | k + 1 =>
    let y := turnN b s mask k
    if mask / 2 ^ k % 2 = 1 ∧ (s + k) / 8 < b.length then y.set ((s + k) / 8) (y.getD ((s + k) / 8) 0 ^^^ UInt8.ofNat (2 ^ ((s + k) % 8))) else y
theorem turnN_yes {b : List UInt8} {s mask k : Nat} (h : mask / 2 ^ k % 2 = 1 ∧ (s + k) / 8 < b.length) : turnN b s mask (k + 1) = (turnN b s mask k).set ((s + k) / 8) ((turnN b s mask k).getD ((s + k) / 8) 0 ^^^ UInt8.ofNat (2 ^ ((s + k) % 8))) := if_pos h
theorem turnN_no {b : List UInt8} {s mask k : Nat} (h : ¬ (mask / 2 ^ k % 2 = 1 ∧ (s + k) / 8 < b.length)) : turnN b s mask (k + 1) = turnN b s mask k := if_neg h
theorem turnN_length (b : List UInt8) (s mask : Nat) : ∀ k, (turnN b s mask k).length = b.length
  | 0 => rfl
  | k + 1 => by
    by_cases h : mask / 2 ^ k % 2 = 1 ∧ (s + k) / 8 < b.length
    · rw [turnN_yes h, List.length_set, turnN_length b s mask k]
    · rw [turnN_no h, turnN_length b s mask k]
theorem turnN_take (b : List UInt8) (s mask j : Nat) (hj : 8 * j ≤ s) : ∀ k, (turnN b s mask k).take j = b.take j
  | 0 => rfl
  | k + 1 => by
    by_cases h : mask / 2 ^ k % 2 = 1 ∧ (s + k) / 8 < b.length
    · rw [turnN_yes h, List.take_set_of_le (by omega), turnN_take b s mask j hj k]
    · rw [turnN_no h, turnN_take b s mask j hj k]
theorem turnN_le (b : List UInt8) (s mask : Nat) : ∀ k, k ≤ 32 → ∃ m, m < 2 ^ k ∧ le (turnN b s mask k) = le b ^^^ (m * 2 ^ s)
  | 0, _ => ⟨0, by decide, by simp [turnN]⟩
  | k + 1, hk => by
    obtain ⟨m, hm, h1⟩ := turnN_le b s mask k (by omega)
    by_cases h : mask / 2 ^ k % 2 = 1 ∧ (s + k) / 8 < b.length
    · refine ⟨m ^^^ 2 ^ k, Nat.xor_lt_two_pow (Nat.lt_of_lt_of_le hm (Nat.pow_le_pow_right (by decide) (by omega))) (Nat.pow_lt_pow_right (by decide) (by omega)), ?_⟩
      rw [turnN_yes h]
      have hlt : (s + k) / 8 < (turnN b s mask k).length := by rw [turnN_length]; exact h.2
      have hr : (s + k) % 8 < 8 := Nat.mod_lt _ (by decide)
      have hp : 2 ^ ((s + k) % 8) < 256 := Nat.lt_of_lt_of_le (Nat.pow_lt_pow_right (by decide) hr) (by decide)
      rw [le_set _ _ _ _ (2 ^ ((s + k) % 8)) (List.getElem?_eq_getElem hlt) ?_, h1, Nat.xor_assoc]
      · congr 1
        rw [← Nat.pow_add, show (s + k) % 8 + 8 * ((s + k) / 8) = k + s from by omega, Nat.pow_add, xor_mul_pow]
      · rw [List.getD_eq_getElem?_getD, List.getElem?_eq_getElem hlt, Option.getD_some, UInt8.toNat_xor, UInt8.toNat_ofNat', Nat.mod_eq_of_lt hp]
    · refine ⟨m, Nat.lt_of_lt_of_le hm (Nat.pow_le_pow_right (by decide) (by omega)), ?_⟩
      rw [turnN_no h, h1]
end Go.Proofs.Ytnchjfhmalbjoaa
/- The reference's Turn. -/
namespace Go.Proofs.Ytnchjfhmalbjoaa
open Go.RowKit
theorem u32_and_one (a : Nat) (ha : a < 4294967296) : bits .and .u32 (a : Int) 1 = ((a % 2 : Nat) : Int) := by
  show IntKind.u32.wrap ((BitVec.ofInt 32 (a : Int) &&& BitVec.ofInt 32 1).toNat : Int) = _
  have h1 : (BitVec.ofInt 32 (a : Int)).toNat = a := by rw [BitVec.ofInt_natCast, BitVec.toNat_ofNat]; exact Nat.mod_eq_of_lt (by omega)
  rw [BitVec.toNat_and, h1, show (BitVec.ofInt 32 1).toNat = 1 from rfl, Nat.and_one_is_mod, wrap_u32_nat]
  congr 1
  omega
theorem u8_xor_nat' (a b : Nat) (ha : a < 256) (hb : b < 256) : bits .xor .u8 (a : Int) (b : Int) = ((a ^^^ b : Nat) : Int) := by
  show IntKind.u8.wrap ((BitVec.ofInt 8 (a : Int) ^^^ BitVec.ofInt 8 (b : Int)).toNat : Int) = _
  have h : ∀ x : Nat, x < 256 → (BitVec.ofInt 8 (x : Int)).toNat = x := fun x hx => by rw [BitVec.ofInt_natCast, BitVec.toNat_ofNat]; exact Nat.mod_eq_of_lt (by omega)
  rw [BitVec.toNat_xor, h a ha, h b hb, wrap_u8_nat, Nat.mod_eq_of_lt (show a ^^^ b < 256 from Nat.xor_lt_two_pow (n := 8) ha hb)]
theorem turn_byte (c : UInt8) (r : Nat) (hr : r < 8) : bits .xor .u8 (c.toNat : Int) (2 ^ r % 256) = ((c ^^^ UInt8.ofNat (2 ^ r)).toNat : Int) := by
  have hp : 2 ^ r < 256 := Nat.lt_of_lt_of_le (Nat.pow_lt_pow_right (by decide) hr) (by decide)
  have h1 : ((2 : Int) ^ r % 256) = ((2 ^ r : Nat) : Int) := by
    have : ((2 : Int) ^ r) = ((2 ^ r : Nat) : Int) := by push_cast; rfl
    rw [this]; exact Int.emod_eq_of_lt (Int.natCast_nonneg _) (Int.ofNat_lt.2 hp)
  rw [h1, u8_xor_nat' _ _ c.toNat_lt hp, UInt8.toNat_xor, UInt8.toNat_ofNat', Nat.mod_eq_of_lt hp]
theorem bv_set (l : List UInt8) (j : Nat) (c : UInt8) : bv (l.set j c) = (bv l).set j (.int .u8 (c.toNat : Int)) := List.map_set
theorem mask_bit (mask k : Nat) (hm : mask < 4294967296) : bits .and .u32 ((mask : Int) / 2 ^ k) 1 = ((mask / 2 ^ k % 2 : Nat) : Int) := by
  have h : (mask : Int) / 2 ^ k = ((mask / 2 ^ k : Nat) : Int) := by push_cast; rfl
  rw [h]
  exact u32_and_one _ (Nat.lt_of_le_of_lt (Nat.div_le_self _ _) hm)
set_option maxRecDepth 100000 in
set_option maxHeartbeats 2000000 in
theorem turn_any (x : Value) (b : List UInt8) (s mask : Nat) (hs : s ≤ 1125899906842624) (hm : mask < 4294967296) (w : World) (hx : Rd w 1 x b.length (bv b)) (hbl : b.length ≤ 140737488355328) :
    Calls Try.prog 21 #[x, .int .i64 s, .int .u32 mask] w (NewRow (turnN b s mask 32) w) := by
  obtain ⟨A, c, rfl⟩ := rd_form hx
  have S0 := Held.start w
  go_enter Try.func21, Try.ntmps21
  go_wp2_with (at_builtin; refine app_new rfl (.const (.slice none 0 0)) (.tmp 10) rfl rfl S0 (.slice A b.length c) b rfl hx hbl ?_)
  intro v1 w1 S1
  obtain ⟨A1, c1, rfl, _, _⟩ := ow_form (S1.at_ (l1 := []))
  have S1' := Lib.hid S1
  clear S1 S0
  go_wp2
  go_loopw [8] (fun i wr => ∃ k : Nat, k ≤ 32 ∧ i = .int .i64 k ∧ Held w wr [rowR 5 1 (.slice A1 b.length c1) b.length (bv (turnN b s mask k))]) (fun i _ => 32 - (intOf i).toNat)
  case atStart => exact ⟨0, by omega, rfl, S1'.out⟩
  case round =>
    clear S1'
    obtain ⟨k, hk, rfl, S⟩ := hrel
    by_cases hlt : k < 32
    · by_cases hc : mask / 2 ^ k % 2 = 1 ∧ (s + k) / 8 < b.length
      · have hbit : bits .and .u32 ((mask : Int) / 2 ^ k) 1 = 1 := by rw [mask_bit mask k hm, hc.1]; rfl
        have hst := Lib.hid (turnN_yes hc)
        obtain ⟨q, hq⟩ : ∃ q, (s + k) / 8 = q := ⟨_, rfl⟩
        obtain ⟨r, hr⟩ : ∃ r, (s + k) % 8 = r := ⟨_, rfl⟩
        rw [hq, hr] at hst
        have hqb : q < b.length := by rw [← hq]; exact hc.2
        have hqi : ((s : Int) + (k : Int)) / 8 = (q : Int) := by omega
        have hri : ((s : Int) + (k : Int)) % 8 = (r : Int) := by omega
        have hr8 : r < 8 := by omega
        obtain ⟨g, c', hv, hc2, hc3⟩ := ow_some (S.at_ (l1 := [])) (by omega)
        cases hv
        have S2 := Lib.hid S
        have hlen := turnN_length b s mask k
        have hcell := (S.at_ (l1 := [])).cellAt q (by omega)
        have hfz := (S.at_ (l1 := [])).frozenAt q
        have hlw := ow_lt (S.at_ (l1 := [])) (g := g) rfl
        have hy : (turnN b s mask k)[q]? = some ((turnN b s mask k)[q]'(by omega)) := List.getElem?_eq_getElem _
        rw [bv_get, hy, Option.map_some] at hcell
        have Hy := Lib.hid hy
        have HQ := Lib.hid (And.intro hq hr)
        generalize (turnN b s mask k)[q]'_ = cq at *
        clear S hc hy hq hr hqb
        have hcq := cq.toNat_lt
        have hqb1 : q < b.length := by have := HQ.out.1; have := (List.getElem?_eq_some_iff.1 Hy.out).1; omega
        have hqb2 : (q : Int) < (b.length : Int) := by omega
        go_wp2
        go_roundw
        case rel =>
          refine ⟨k + 1, by omega, by go_num, ?_⟩
          have hset := S2.out.rowset (l1 := []) ((S2.out.at_ (l1 := [])).stored (g := g) q (.int .u8 ((cq ^^^ UInt8.ofNat (2 ^ r)).toNat : Int))).1 ((Kp.refl [g] wr).setCell (p := ⟨g, q, none⟩) (.inl (by simp)) (.int .u8 ((cq ^^^ UInt8.ofNat (2 ^ r)).toNat : Int)))
          rw [turn_byte cq r hr8, hst.out]
          have hg : (turnN b s mask k).getD q 0 = cq := by rw [List.getD_eq_getElem?_getD, Hy.out]; rfl
          rw [hg, bv_set]
          exact hset
        case measure => simp [intOf]; omega
      · have hbit : ¬ (bits .and .u32 ((mask : Int) / 2 ^ k) 1 = 1 ∧ ((s : Int) + (k : Int)) / 8 < (b.length : Int)) := by rw [mask_bit mask k hm]; omega
        have hst := Lib.hid (turnN_no hc)
        have S2 := Lib.hid S
        clear S hc
        go_wp2
        all_goals
          go_roundw
          case rel => exact ⟨k + 1, by omega, by go_num, by rw [hst.out]; exact S2.out⟩
          case measure => simp [intOf]; omega
    · obtain rfl : k = 32 := by omega
      go_wp2
      go_ret
      exact ⟨_, rfl, by rw [turnN_length]; exact S.at_ (l1 := []), S.k, fun g hg => S.base _ (List.mem_singleton.2 rfl) g (by simp only [rowR, Option.mem_toList]; exact hg)⟩
end Go.Proofs.Ytnchjfhmalbjoaa
/- RecordTurned: what turned frames read as. -/
namespace Go.Proofs.Ytnchjfhmalbjoaa
open Go.RowKit
theorem frame_parts (kd : UInt8) (body : List UInt8) (hn : body.length < 4294967296) : num ((frame kd body).take 1) = kd.toNat ∧ rn (frame kd body) = body.length ∧ ((frame kd body).drop (body.length + 5)).take 4 = le4 (crc ((frame kd body).take (body.length + 5))) := by
  have hl := heads_length kd body
  refine ⟨?_, ?_, ?_⟩
  · rw [frame_def]; simp [heads, num]
  · unfold rn
    rw [frame_def]
    have h : ((heads kd body ++ le4 (crc (heads kd body))).drop 1).take 4 = be 4 body.length := by
      unfold heads
      simp only [List.cons_append, List.drop_succ_cons, List.drop_zero, List.append_assoc]
      exact List.take_left' (be_length ..)
    rw [h]
    exact num_be_lt (k := 4) (by omega)
  · rw [frame_def, List.drop_left' hl, List.take_left' hl]
    rfl
theorem frame_head (kd : UInt8) (body : List UInt8) : (frame kd body)[0]? = some kd := rfl
theorem y_turned (kd : UInt8) (body : List UInt8) (hk : kd.toNat ≠ 0) (hn : body.length ≤ 8388608) (s mask : Nat) (hs : 40 ≤ s) (hs2 : s ≤ 8 * (body.length + 9)) :
    (turnN (frame kd body) s mask 32 == frame kd body) = true ∨ ((turnN (frame kd body) s mask 32 == frame kd body) = false ∧ rE (turnN (frame kd body) s mask 32) = 172 ∧ rS (turnN (frame kd body) s mask 32) = 0) := by
  obtain ⟨p1, p2, p3⟩ := frame_parts kd body (by omega)
  have hfl := frame_length kd body
  have hyl := turnN_length (frame kd body) s mask 32
  obtain ⟨m, hm, hle⟩ := turnN_le (frame kd body) s mask 32 (Nat.le_refl _)
  have h5 := turnN_take (frame kd body) s mask 5 (by omega) 32
  generalize frame kd body = fr at *
  generalize turnN fr s mask 32 = y at *
  by_cases h0 : m = 0
  · subst h0
    left
    rw [Nat.zero_mul, Nat.xor_zero] at hle
    rw [le_inj hyl hle]
    exact beq_self_eq_true _
  · by_cases hyf : y = fr
    · left; rw [hyf]; exact beq_self_eq_true _
    · right
      have h1 : y.take 1 = fr.take 1 := by
        have := congrArg (List.take 1) h5
        rwa [List.take_take, List.take_take] at this
      have h2 : rn y = body.length := by
        rw [← p2]
        unfold rn
        have := congrArg (List.drop 1) h5
        rw [List.drop_take, List.drop_take] at this
        rw [this]
      have hE : rE y = 172 := rE_6 (by rw [h1, p1]; exact hk) (by omega) (by omega) (by rw [h2]; exact sum_turned p3 hfl hyl hle (by omega) h0 (by omega))
      exact ⟨by rw [beq_eq_false_iff_ne]; exact hyf, hE, (rKBS_no hE (by decide)).2.2⟩
theorem z_turned (kd : UInt8) (body : List UInt8) (hn : body.length ≤ 8388608) (m : Nat) (hm : m < 256) (h0 : m ≠ 0) :
    (rE ((frame kd body).set 0 (kd ^^^ UInt8.ofNat m)) = 171 ∨ rE ((frame kd body).set 0 (kd ^^^ UInt8.ofNat m)) = 172) ∧ rS ((frame kd body).set 0 (kd ^^^ UInt8.ofNat m)) = 0 := by
  obtain ⟨p1, p2, p3⟩ := frame_parts kd body (by omega)
  have hfl := frame_length kd body
  have hle := le_set (frame kd body) 0 kd (kd ^^^ UInt8.ofNat m) m (frame_head kd body) (by rw [UInt8.toNat_xor, UInt8.toNat_ofNat', Nat.mod_eq_of_lt hm])
  have hzl : ((frame kd body).set 0 (kd ^^^ UInt8.ofNat m)).length = (frame kd body).length := List.length_set ..
  have hd : ((frame kd body).set 0 (kd ^^^ UInt8.ofNat m)).drop 1 = (frame kd body).drop 1 := by
    cases frame kd body with
    | nil => rfl
    | cons a l => rfl
  have hE : rE ((frame kd body).set 0 (kd ^^^ UInt8.ofNat m)) = 171 ∨ rE ((frame kd body).set 0 (kd ^^^ UInt8.ofNat m)) = 172 := by
    generalize (frame kd body).set 0 (kd ^^^ UInt8.ofNat m) = z at *
    generalize frame kd body = fr at *
    have h2 : rn z = body.length := by rw [← p2]; unfold rn; rw [hd]
    by_cases hk : num (z.take 1) = 0
    · exact .inl (rE_2 (by omega) hk)
    · exact .inr (rE_6 hk (by omega) (by omega) (by rw [h2]; exact sum_turned p3 hfl hzl hle (by omega) h0 (by omega)))
  refine ⟨hE, ?_⟩
  rcases hE with h | h
  · exact (rKBS_no h (by decide)).2.2
  · exact (rKBS_no h (by decide)).2.2
end Go.Proofs.Ytnchjfhmalbjoaa
/- RecordTurned: the walk. -/
namespace Go.Proofs.Ytnchjfhmalbjoaa
open Go.RowKit
theorem put_single {W : World} {g : Nat} (kd : UInt8) (x : Value) (body : List UInt8) (hb : Blk W g 25 #[.int .u8 (kd.toNat : Int), x]) (hx : Rd W 1 x body.length (bv body)) (hl : body.length + 128 ≤ 140737488355328) :
    Calls Try.prog 10 #[.slice (some ⟨g, 0, none⟩) 1 1] W (PutsPost .i64 [(kd, body)] W) :=
  put_any _ _ W (recsIn_one hb hx) (by simp [frames, frame_length]; omega)
theorem rerr_one (r : Rec) : rerr [r] = bad r := by
  unfold rerr
  by_cases h : bad r = 0
  · rw [if_pos h, h]; rfl
  · rw [if_neg h]
theorem bad_zero {r : Rec} (h : bad r = 0) : r.1.toNat ≠ 0 ∧ r.2.length ≤ 8388608 := by
  unfold bad at h
  split at h; · cases h
  split at h; · cases h
  exact ⟨by assumption, by omega⟩
theorem out_one {r : Rec} (h : bad r = 0) : outOf [r] = frame r.1 r.2 := by
  unfold outOf
  rw [rerr_one, if_pos h]
  simp [frames]
/-- What is to be known of the turned frames. -/
structure TurnD (fr y z : List UInt8) (m8 : Nat) : Prop where
  ly : y.length = fr.length
  lz : z.length = fr.length
  hy : (y == fr) = true ∨ ((y == fr) = false ∧ rE y = 172 ∧ rS y = 0)
  hz : m8 = 0 ∨ (m8 ≠ 0 ∧ (rE z = 171 ∨ rE z = 172) ∧ rS z = 0)
theorem turnD (kd : UInt8) (body : List UInt8) (hk : kd.toNat ≠ 0) (hn : body.length ≤ 8388608) (s mask : Nat) (hs : 40 ≤ s) (hs2 : s ≤ 8 * (body.length + 9)) (m8 : Nat) (hm : m8 < 256) :
    TurnD (frame kd body) (turnN (frame kd body) s mask 32) ((frame kd body).set 0 (kd ^^^ UInt8.ofNat m8)) m8 :=
  ⟨turnN_length _ _ _ _, List.length_set .., y_turned kd body hk hn s mask hs hs2, by
    by_cases h : m8 = 0
    · exact .inl h
    · exact .inr ⟨h, z_turned kd body hn m8 hm h⟩⟩
set_option maxRecDepth 100000 in
set_option maxHeartbeats 1000000 in
theorem turned_bad (w : World) (kd : UInt8) (B : Value) (body : List UInt8) (hB : Rd w 1 B body.length (bv body)) (hl : body.length ≤ 140737488351232) (bit : Int) (mask : Nat) (he : bad (kd, body) ≠ 0) :
    Calls Try.prog 5 #[.agg #[.int .u8 (kd.toNat : Int), B], .int .i64 bit, .int .u32 mask] w fun e w' => e = .returned (.bool true) ∧ Kp [] w w' := by
  obtain ⟨A, c, rfl⟩ := rd_form hB
  have hq := kd.toNat_lt
  have HB := Lib.hid hB
  have ho : outOf [(kd, body)] = [] := by unfold outOf; rw [rerr_one, if_neg he]
  have hee : ¬ ((rerr [(kd, body)] : Nat) : Int) = 0 := by rw [rerr_one]; omega
  have HP := Lib.hid (fun (W : World) (g : Nat) (hb : Blk W g 25 #[.int .u8 (kd.toNat : Int), .slice A body.length c]) (hx : Rd W 1 (.slice A body.length c) body.length (bv body)) => put_single kd _ body hb hx (by omega))
  unfold PutsPost at HP
  rw [ho] at HP
  generalize rerr [(kd, body)] = er at *
  clear hB he ho
  go_enter Try.func5, Try.ntmps5
  go_wp2_with (go_at_call 18; (with_reducible refine (known07_true _).mono ?_); rintro e w1 ⟨rfl, k1⟩; obtain ⟨c1, c2, c3, c4, c5⟩ := ((Blk.new w 25 #[.int .u8 (kd.toNat : Int), .slice A body.length c]).kp k1 (by simp)).c2; have K1 := Lib.hid (((Kp.refl [] w).alloc (.cells #[.int .u8 (kd.toNat : Int), .slice A body.length c] 25)).trans k1 (by simp)); clear k1)
  refine (HP.out _ _ (Blk.new w1 _ _) (HB.out.kp (K1.out.alloc _) (by simp))).mono ?_
  rintro e w2 ⟨u, rfl, o2, k2, f2⟩
  obtain ⟨Au, cu, hu, _, _⟩ := ow_form o2
  subst hu
  have K2 := Lib.hid ((K1.out.alloc (.cells #[.int .u8 (kd.toNat : Int), .slice A body.length c] 25)).trans k2 (by simp))
  clear o2 k2 f2 c1 c2 c3 c4 c5
  go_wp2_with (go_at_call 12; (with_reducible refine (num07_any _ _).mono ?_); rintro e w' ⟨rfl, rfl⟩)
  go_ret
  exact ⟨rfl, K2.out⟩

set_option maxRecDepth 100000 in
set_option maxHeartbeats 4000000 in
theorem turned_neg (w : World) (kd : UInt8) (B : Value) (body : List UInt8) (hB : Rd w 1 B body.length (bv body)) (hl : body.length ≤ 140737488351232) (bit : Int) (hbit : -9223372036854775808 ≤ bit ∧ bit ≤ 9223372036854775807) (mask : Nat) (hm : mask < 4294967296) (he : bad (kd, body) = 0)
    (a0 : Int) (ha : Int.tmod bit (8 * (((frame kd body).length : Int) - 5)) = a0) (hs : a0 < 0) :
    Calls Try.prog 5 #[.agg #[.int .u8 (kd.toNat : Int), B], .int .i64 bit, .int .u32 mask] w fun e w' => e = .returned (.bool true) ∧ Kp [] w w' := by
  obtain ⟨A, c, rfl⟩ := rd_form hB
  obtain ⟨hk, hn⟩ := bad_zero he
  dsimp only at hk hn
  have hq := kd.toNat_lt
  have HB := Lib.hid hB
  have HP := Lib.hid (fun (W : World) (g : Nat) (hb : Blk W g 25 #[.int .u8 (kd.toNat : Int), .slice A body.length c]) (hx : Rd W 1 (.slice A body.length c) body.length (bv body)) => put_single kd _ body hb hx (by omega))
  unfold PutsPost at HP
  rw [rerr_one, he, out_one he] at HP
  have hfl := frame_length kd body
  have hf0 := frame_head kd body
  have hbd : -(8 * (((frame kd body).length : Int) - 5)) < a0 ∧ a0 < 8 * (((frame kd body).length : Int) - 5) := by
    rw [← ha]
    have h1 := Int.tmod_lt_of_pos bit (show (0 : Int) < 8 * (((frame kd body).length : Int) - 5) by omega)
    have h2 := Int.lt_tmod_of_pos bit (show (0 : Int) < 8 * (((frame kd body).length : Int) - 5) by omega)
    exact ⟨h2, h1⟩
  obtain ⟨s, hsv⟩ : ∃ s : Nat, (40 : Int) + (a0 + 8 * (((frame kd body).length : Int) - 5)) = (s : Int) := ⟨(40 + (a0 + 8 * (((frame kd body).length : Int) - 5))).toNat, by omega⟩
  obtain ⟨m8, hm8⟩ : ∃ m8 : Nat, (mask : Int) % 256 = (m8 : Int) := ⟨mask % 256, by omega⟩
  have hm8b : m8 < 256 := by omega
  have hsb : s ≤ 8 * (body.length + 9) := by omega
  have hs40 : 40 ≤ s := by omega
  have D := turnD kd body hk hn s mask hs40 hsb m8 hm8b
  have HT := Lib.hid (fun (W : World) (x : Value) (h : Rd W 1 x (frame kd body).length (bv (frame kd body))) => turn_any x (frame kd body) s mask (by omega) hm W h (by omega))
  rw [← hsv] at HT
  have hflb : (frame kd body).length ≤ 8388617 := by omega
  have hflb2 : 9 ≤ (frame kd body).length := by omega
  have Hfl := Lib.hid hfl
  have Hx8 := Lib.hid (u8_xor_nat' kd.toNat m8 (by omega) hm8b)
  have Hxz : Hid (((kd ^^^ UInt8.ofNat m8).toNat : Int) = ((kd.toNat ^^^ m8 : Nat) : Int)) := Lib.hid (by rw [UInt8.toNat_xor, UInt8.toNat_ofNat', Nat.mod_eq_of_lt hm8b])
  unfold NewRow at HT
  clear hfl hB hs40 hsb hsv he
  generalize frame kd body = fr at *
  generalize turnN fr s mask 32 = y at *
  have hly := D.ly
  have hlz := D.lz
  have HRy := Lib.hid (fun (W : World) (A : Option Addr) (c : Nat) (h : Rd W 1 (.slice A y.length c) y.length (bv y)) => pread_any A c y W h (by omega))
  have HRz := Lib.hid (fun (W : World) (A : Option Addr) (c : Nat) (h : Rd W 1 (.slice A (fr.set 0 (kd ^^^ UInt8.ofNat m8)).length c) (fr.set 0 (kd ^^^ UInt8.ofNat m8)).length (bv (fr.set 0 (kd ^^^ UInt8.ofNat m8)))) => pread_any A c _ W h (by omega))
  have HSa := Lib.hid (fun (W : World) (x1 x2 : Value) (h1 : Rd W 1 x1 fr.length (bv y)) (h2 : Rd W 1 x2 fr.length (bv fr)) => same_any x1 x2 y fr fr.length fr.length W h1 h2)
  rw [hly] at HRy
  rw [hlz] at HRz
  unfold Read3 at HRy HRz
  have HY := Lib.hid D.hy
  have HZ := Lib.hid D.hz
  have Hly := Lib.hid hly
  clear D hly hlz
  generalize hzz : fr.set 0 (kd ^^^ UInt8.ofNat m8) = z at *
  have Hzz := Lib.hid hzz
  clear hzz
  generalize rE y = ey at *
  generalize rS y = sy at *
  generalize rK y = ky at *
  generalize rB y = by_ at *
  generalize rE z = ez at *
  generalize rS z = sz at *
  generalize rK z = kz at *
  generalize rB z = bz at *
  generalize (y == fr) = yb at *
  go_enter Try.func5, Try.ntmps5
  go_wp2_with (go_at_call 18; (with_reducible refine (known07_true _).mono ?_); rintro e w1 ⟨rfl, k1⟩; obtain ⟨c1, c2, c3, c4, c5⟩ := ((Blk.new w 25 #[.int .u8 (kd.toNat : Int), .slice A body.length c]).kp k1 (by simp)).c2; have K1 := Lib.hid (((Kp.refl [] w).alloc (.cells #[.int .u8 (kd.toNat : Int), .slice A body.length c] 25)).trans k1 (by simp)); clear k1)
  refine (HP.out _ _ (Blk.new w1 _ _) (HB.out.kp (K1.out.alloc _) (by simp))).mono ?_
  rintro e w2 ⟨u, rfl, o2, k2, f2⟩
  obtain ⟨gu, cu, hu, _, _⟩ := ow_some o2 (by omega)
  subst hu
  have K2 := Lib.hid ((K1.out.alloc (.cells #[.int .u8 (kd.toNat : Int), .slice A body.length c] 25)).trans k2 (by simp))
  have S2 : Hid (Held w w2 [rowR 5 1 (.slice (some ⟨gu, 0, none⟩) fr.length cu) fr.length (bv fr)]) := Lib.hid (((Held.start w).kp (K1.out.alloc (.cells #[.int .u8 (kd.toNat : Int), .slice A body.length c] 25))).rownew o2 k2 f2)
  clear o2 k2 f2 c1 c2 c3 c4 c5
  go_wp2_with (go_at_call 12; (with_reducible refine (num07_any _ _).mono ?_); rintro e w' ⟨rfl, rfl⟩)
  refine (HT.out _ _ (Rd.of_own (S2.out.at_ (l1 := [])))).mono ?_
  rintro e w3 ⟨v3, rfl, o3, k3, f3⟩
  rw [Hly.out] at o3
  obtain ⟨A3, c3, rfl, _, _⟩ := ow_form o3
  have S3 := Lib.hid (S2.out.rownew o3 k3 f3)
  clear o3 k3 f3
  go_wp2_with (at_builtin; refine app_new rfl (.const (.slice none 0 0)) (.tmp 50) rfl rfl S3.out (.slice (some ⟨gu, 0, none⟩) fr.length cu) fr rfl (Rd.of_own (S3.out.at_ (l1 := [_]))) (by omega) ?_)
  intro v4 w4 S4'
  obtain ⟨g4, c4, hv4, _, _⟩ := ow_some (S4'.at_ (l1 := [])) (by omega)
  subst hv4
  have S4 := Lib.hid S4'
  have hcell := (S4'.at_ (l1 := [])).cellAt 0 (by omega)
  rw [bv_get, hf0, Option.map_some] at hcell
  have hfz := (S4'.at_ (l1 := [])).frozenAt 0
  have hlw := ow_lt (S4'.at_ (l1 := [])) (g := g4) rfl
  have hlt0 : 0 < fr.length := by omega
  have hx8 := Hx8.out
  clear S4'
  go_wp2_with fail
  have S5 : Hid (Held w (w4.setCell ⟨g4, 0, none⟩ (.int .u8 ((kd.toNat ^^^ m8 : Nat) : Int))) _) := Lib.hid (S4.out.rowset (l1 := []) ((S4.out.at_ (l1 := [])).stored (g := g4) 0 (.int .u8 ((kd.toNat ^^^ m8 : Nat) : Int))).1 ((Kp.refl [g4] w4).setCell (p := ⟨g4, 0, none⟩) (.inl (by simp)) (.int .u8 ((kd.toNat ^^^ m8 : Nat) : Int))))
  rw [← Hxz.out, ← bv_set, Hzz.out] at S5
  rw [← Hxz.out]
  generalize w4.setCell ⟨g4, 0, none⟩ (.int .u8 ((kd ^^^ UInt8.ofNat m8).toNat : Int)) = w5 at *
  clear hcell hfz hlw hx8
  refine (HRy.out _ _ _ (Rd.of_own (S5.out.at_ (l1 := [_])))).mono ?_
  rintro e w6 ⟨u6, rfl, o6, k6, f6⟩
  obtain ⟨A6, c6, hu6, _, _⟩ := ow_form o6
  subst hu6
  have S6 := Lib.hid ((S5.out.kp k6).alloc (.cells #[.int .u8 ky, .slice A6 by_.length c6] 25))
  clear o6 k6 f6
  go_wp2_with fail
  refine (HRz.out _ _ _ (Rd.of_own (S6.out.at_ (l1 := [])))).mono ?_
  rintro e w7 ⟨u7, rfl, o7, k7, f7⟩
  obtain ⟨A7, c7, hu7, _, _⟩ := ow_form o7
  subst hu7
  have S7 := Lib.hid ((S6.out.kp k7).alloc (.cells #[.int .u8 kz, .slice A7 bz.length c7] 25))
  clear o7 k7 f7
  rcases HY.out with hy | ⟨hy, rfl, rfl⟩ <;> rcases HZ.out with hz | ⟨hz, hz2, rfl⟩
  all_goals
    subst hy
    first
      | subst hz
      | (have hz3 : ((m8 : Int) == 0) = false := by simp; omega)
    first
      | (rcases hz2 with rfl | rfl)
      | skip
  all_goals
    go_wp2_with (first
      | (go_at_call 12; (with_reducible refine (num07_any _ _).mono ?_); rintro e w' ⟨rfl, rfl⟩)
      | (go_at_call 13; (with_reducible refine (HSa.out _ _ _ (Rd.of_own (S7.out.at_ (l1 := [_]))) (Rd.of_own (S7.out.at_ (l1 := [_, _])))).mono ?_); rintro e w' ⟨rfl, rfl⟩))
    all_goals
      go_ret
      exact ⟨rfl, S7.out.k⟩

set_option maxRecDepth 100000 in
set_option maxHeartbeats 4000000 in
theorem turned_pos (w : World) (kd : UInt8) (B : Value) (body : List UInt8) (hB : Rd w 1 B body.length (bv body)) (hl : body.length ≤ 140737488351232) (bit : Int) (hbit : -9223372036854775808 ≤ bit ∧ bit ≤ 9223372036854775807) (mask : Nat) (hm : mask < 4294967296) (he : bad (kd, body) = 0)
    (a0 : Int) (ha : Int.tmod bit (8 * (((frame kd body).length : Int) - 5)) = a0) (hs : ¬ a0 < 0) :
    Calls Try.prog 5 #[.agg #[.int .u8 (kd.toNat : Int), B], .int .i64 bit, .int .u32 mask] w fun e w' => e = .returned (.bool true) ∧ Kp [] w w' := by
  obtain ⟨A, c, rfl⟩ := rd_form hB
  obtain ⟨hk, hn⟩ := bad_zero he
  dsimp only at hk hn
  have hq := kd.toNat_lt
  have HB := Lib.hid hB
  have HP := Lib.hid (fun (W : World) (g : Nat) (hb : Blk W g 25 #[.int .u8 (kd.toNat : Int), .slice A body.length c]) (hx : Rd W 1 (.slice A body.length c) body.length (bv body)) => put_single kd _ body hb hx (by omega))
  unfold PutsPost at HP
  rw [rerr_one, he, out_one he] at HP
  have hfl := frame_length kd body
  have hf0 := frame_head kd body
  have hbd : -(8 * (((frame kd body).length : Int) - 5)) < a0 ∧ a0 < 8 * (((frame kd body).length : Int) - 5) := by
    rw [← ha]
    have h1 := Int.tmod_lt_of_pos bit (show (0 : Int) < 8 * (((frame kd body).length : Int) - 5) by omega)
    have h2 := Int.lt_tmod_of_pos bit (show (0 : Int) < 8 * (((frame kd body).length : Int) - 5) by omega)
    exact ⟨h2, h1⟩
  obtain ⟨s, hsv⟩ : ∃ s : Nat, (40 : Int) + a0 = (s : Int) := ⟨(40 + a0).toNat, by omega⟩
  obtain ⟨m8, hm8⟩ : ∃ m8 : Nat, (mask : Int) % 256 = (m8 : Int) := ⟨mask % 256, by omega⟩
  have hm8b : m8 < 256 := by omega
  have hsb : s ≤ 8 * (body.length + 9) := by omega
  have hs40 : 40 ≤ s := by omega
  have D := turnD kd body hk hn s mask hs40 hsb m8 hm8b
  have HT := Lib.hid (fun (W : World) (x : Value) (h : Rd W 1 x (frame kd body).length (bv (frame kd body))) => turn_any x (frame kd body) s mask (by omega) hm W h (by omega))
  rw [← hsv] at HT
  have hflb : (frame kd body).length ≤ 8388617 := by omega
  have hflb2 : 9 ≤ (frame kd body).length := by omega
  have Hfl := Lib.hid hfl
  have Hx8 := Lib.hid (u8_xor_nat' kd.toNat m8 (by omega) hm8b)
  have Hxz : Hid (((kd ^^^ UInt8.ofNat m8).toNat : Int) = ((kd.toNat ^^^ m8 : Nat) : Int)) := Lib.hid (by rw [UInt8.toNat_xor, UInt8.toNat_ofNat', Nat.mod_eq_of_lt hm8b])
  unfold NewRow at HT
  clear hfl hB hs40 hsb hsv he
  generalize frame kd body = fr at *
  generalize turnN fr s mask 32 = y at *
  have hly := D.ly
  have hlz := D.lz
  have HRy := Lib.hid (fun (W : World) (A : Option Addr) (c : Nat) (h : Rd W 1 (.slice A y.length c) y.length (bv y)) => pread_any A c y W h (by omega))
  have HRz := Lib.hid (fun (W : World) (A : Option Addr) (c : Nat) (h : Rd W 1 (.slice A (fr.set 0 (kd ^^^ UInt8.ofNat m8)).length c) (fr.set 0 (kd ^^^ UInt8.ofNat m8)).length (bv (fr.set 0 (kd ^^^ UInt8.ofNat m8)))) => pread_any A c _ W h (by omega))
  have HSa := Lib.hid (fun (W : World) (x1 x2 : Value) (h1 : Rd W 1 x1 fr.length (bv y)) (h2 : Rd W 1 x2 fr.length (bv fr)) => same_any x1 x2 y fr fr.length fr.length W h1 h2)
  rw [hly] at HRy
  rw [hlz] at HRz
  unfold Read3 at HRy HRz
  have HY := Lib.hid D.hy
  have HZ := Lib.hid D.hz
  have Hly := Lib.hid hly
  clear D hly hlz
  generalize hzz : fr.set 0 (kd ^^^ UInt8.ofNat m8) = z at *
  have Hzz := Lib.hid hzz
  clear hzz
  generalize rE y = ey at *
  generalize rS y = sy at *
  generalize rK y = ky at *
  generalize rB y = by_ at *
  generalize rE z = ez at *
  generalize rS z = sz at *
  generalize rK z = kz at *
  generalize rB z = bz at *
  generalize (y == fr) = yb at *
  go_enter Try.func5, Try.ntmps5
  go_wp2_with (go_at_call 18; (with_reducible refine (known07_true _).mono ?_); rintro e w1 ⟨rfl, k1⟩; obtain ⟨c1, c2, c3, c4, c5⟩ := ((Blk.new w 25 #[.int .u8 (kd.toNat : Int), .slice A body.length c]).kp k1 (by simp)).c2; have K1 := Lib.hid (((Kp.refl [] w).alloc (.cells #[.int .u8 (kd.toNat : Int), .slice A body.length c] 25)).trans k1 (by simp)); clear k1)
  refine (HP.out _ _ (Blk.new w1 _ _) (HB.out.kp (K1.out.alloc _) (by simp))).mono ?_
  rintro e w2 ⟨u, rfl, o2, k2, f2⟩
  obtain ⟨gu, cu, hu, _, _⟩ := ow_some o2 (by omega)
  subst hu
  have K2 := Lib.hid ((K1.out.alloc (.cells #[.int .u8 (kd.toNat : Int), .slice A body.length c] 25)).trans k2 (by simp))
  have S2 : Hid (Held w w2 [rowR 5 1 (.slice (some ⟨gu, 0, none⟩) fr.length cu) fr.length (bv fr)]) := Lib.hid (((Held.start w).kp (K1.out.alloc (.cells #[.int .u8 (kd.toNat : Int), .slice A body.length c] 25))).rownew o2 k2 f2)
  clear o2 k2 f2 c1 c2 c3 c4 c5
  go_wp2_with (go_at_call 12; (with_reducible refine (num07_any _ _).mono ?_); rintro e w' ⟨rfl, rfl⟩)
  refine (HT.out _ _ (Rd.of_own (S2.out.at_ (l1 := [])))).mono ?_
  rintro e w3 ⟨v3, rfl, o3, k3, f3⟩
  rw [Hly.out] at o3
  obtain ⟨A3, c3, rfl, _, _⟩ := ow_form o3
  have S3 := Lib.hid (S2.out.rownew o3 k3 f3)
  clear o3 k3 f3
  go_wp2_with (at_builtin; refine app_new rfl (.const (.slice none 0 0)) (.tmp 50) rfl rfl S3.out (.slice (some ⟨gu, 0, none⟩) fr.length cu) fr rfl (Rd.of_own (S3.out.at_ (l1 := [_]))) (by omega) ?_)
  intro v4 w4 S4'
  obtain ⟨g4, c4, hv4, _, _⟩ := ow_some (S4'.at_ (l1 := [])) (by omega)
  subst hv4
  have S4 := Lib.hid S4'
  have hcell := (S4'.at_ (l1 := [])).cellAt 0 (by omega)
  rw [bv_get, hf0, Option.map_some] at hcell
  have hfz := (S4'.at_ (l1 := [])).frozenAt 0
  have hlw := ow_lt (S4'.at_ (l1 := [])) (g := g4) rfl
  have hlt0 : 0 < fr.length := by omega
  have hx8 := Hx8.out
  clear S4'
  go_wp2_with fail
  have S5 : Hid (Held w (w4.setCell ⟨g4, 0, none⟩ (.int .u8 ((kd.toNat ^^^ m8 : Nat) : Int))) _) := Lib.hid (S4.out.rowset (l1 := []) ((S4.out.at_ (l1 := [])).stored (g := g4) 0 (.int .u8 ((kd.toNat ^^^ m8 : Nat) : Int))).1 ((Kp.refl [g4] w4).setCell (p := ⟨g4, 0, none⟩) (.inl (by simp)) (.int .u8 ((kd.toNat ^^^ m8 : Nat) : Int))))
  rw [← Hxz.out, ← bv_set, Hzz.out] at S5
  rw [← Hxz.out]
  generalize w4.setCell ⟨g4, 0, none⟩ (.int .u8 ((kd ^^^ UInt8.ofNat m8).toNat : Int)) = w5 at *
  clear hcell hfz hlw hx8
  refine (HRy.out _ _ _ (Rd.of_own (S5.out.at_ (l1 := [_])))).mono ?_
  rintro e w6 ⟨u6, rfl, o6, k6, f6⟩
  obtain ⟨A6, c6, hu6, _, _⟩ := ow_form o6
  subst hu6
  have S6 := Lib.hid ((S5.out.kp k6).alloc (.cells #[.int .u8 ky, .slice A6 by_.length c6] 25))
  clear o6 k6 f6
  go_wp2_with fail
  refine (HRz.out _ _ _ (Rd.of_own (S6.out.at_ (l1 := [])))).mono ?_
  rintro e w7 ⟨u7, rfl, o7, k7, f7⟩
  obtain ⟨A7, c7, hu7, _, _⟩ := ow_form o7
  subst hu7
  have S7 := Lib.hid ((S6.out.kp k7).alloc (.cells #[.int .u8 kz, .slice A7 bz.length c7] 25))
  clear o7 k7 f7
  rcases HY.out with hy | ⟨hy, rfl, rfl⟩ <;> rcases HZ.out with hz | ⟨hz, hz2, rfl⟩
  all_goals
    subst hy
    first
      | subst hz
      | (have hz3 : ((m8 : Int) == 0) = false := by simp; omega)
    first
      | (rcases hz2 with rfl | rfl)
      | skip
  all_goals
    go_wp2_with (first
      | (go_at_call 12; (with_reducible refine (num07_any _ _).mono ?_); rintro e w' ⟨rfl, rfl⟩)
      | (go_at_call 13; (with_reducible refine (HSa.out _ _ _ (Rd.of_own (S7.out.at_ (l1 := [_]))) (Rd.of_own (S7.out.at_ (l1 := [_, _])))).mono ?_); rintro e w' ⟨rfl, rfl⟩))
    all_goals
      go_ret
      exact ⟨rfl, S7.out.k⟩

theorem turned_true (w : World) (kd : UInt8) (B : Value) (body : List UInt8) (hB : Rd w 1 B body.length (bv body)) (hl : body.length ≤ 140737488351232) (bit : Int) (hbit : -9223372036854775808 ≤ bit ∧ bit ≤ 9223372036854775807) (mask : Nat) (hm : mask < 4294967296) :
    Calls Try.prog 5 #[.agg #[.int .u8 (kd.toNat : Int), B], .int .i64 bit, .int .u32 mask] w fun e w' => e = .returned (.bool true) ∧ Kp [] w w' := by
  by_cases he : bad (kd, body) = 0
  · by_cases h : Int.tmod bit (8 * (((frame kd body).length : Int) - 5)) < 0
    · exact turned_neg w kd B body hB hl bit hbit mask hm he _ rfl h
    · exact turned_pos w kd B body hB hl bit hbit mask hm he _ rfl h
  · exact turned_bad w kd B body hB hl bit mask he
end Go.Proofs.Ytnchjfhmalbjoaa
/- A record that comes in by value, opened. -/
namespace Go.Proofs.Ytnchjfhmalbjoaa
open Go.RowKit Go.WideShapes Go.ChangeShapes
section
variable {H : Type} {enc : TypeId × Value → H}
theorem bytes_of_u8' : Try.prog.bytesOf 5 = 1 := by kernel_rfl
theorem sized_bytes' {ts : List TypeId} {ds : List (DataW H)} (h : (DataW.weightsEach Try.prog ts ds).all (· ≤ reachBytes) = true) (j : Nat) {d : DataW H} {bs : List UInt8} (ht : ts[j]? = some 23) (hd : ds[j]? = some d)
    (hb : bs = [] ∨ ∃ elems spare, d = .slice elems spare ∧ elems.length = bs.length) : bs.length ≤ 140737488351232 := by
  rcases hb with rfl | ⟨elems, spare, rfl, hl⟩
  · simp
  · have := sized_slice h ht hd Try.underlying23
    rw [bytes_of_u8'] at this
    unfold reachBytes at this
    omega
theorem open_rec_arg {W : World} {b0 : Nat} {v : Value} {d : DataW H} {pl : List MemPlace} {ts : List TypeId} {ds : List (DataW H)} (j : Nat) (hsz : (DataW.weightsEach Try.prog ts ds).all (· ≤ reachBytes) = true) (ht : ts[j]? = some 25) (hd : ds[j]? = some d)
    (hv : Value.okWide Try.prog W .any b0 25 v) (h : DataW.Trod enc Try.prog W 0 (fun _ => true) true 25 v d pl) :
    ∃ (kd : UInt8) (B : Value) (bd : List UInt8), v = .agg #[.int .u8 (kd.toNat : Int), B] ∧ Rd W 1 B bd.length (bv bd) ∧ bd.length ≤ 140737488351232 := by
  obtain ⟨v0, v1, y0, y1, n, rfl, rfl, _, t0, t1⟩ := Joins.open_agg2 Try.underlying25 (by kernel_rfl) Try.cellsRec hv h
  obtain ⟨a, e0, _, w0⟩ := DataW.trod_int Try.underlying5 t0
  obtain ⟨B1, p, e1, r1, _, l1⟩ := open_bytes_len Try.underlying23 Try.underlying5 Try.cellsU8 t1
  obtain rfl := (List.cons.inj e0).1
  obtain rfl := (List.cons.inj e1).1
  have w0 := u8_lit w0
  have hsub : (DataW.weightsEach Try.prog [5, 23] [y0.1, y1.1]).all (· ≤ reachBytes) = true := by
    refine List.all_eq_true.2 fun x hx => List.all_eq_true.1 hsz x (DataW.weights_mem_each ht hd x ?_)
    simp only [DataW.weights, Try.underlying25]
    exact hx
  refine ⟨UInt8.ofNat a.toNat, v1, p, ?_, r1, sized_bytes' hsub 1 rfl rfl l1⟩
  simp only [UInt8.toNat_ofNat', Nat.mod_eq_of_lt (show a.toNat < 2 ^ 8 by omega)]
  rw [Int.toNat_of_nonneg w0.1]
end
end Go.Proofs.Ytnchjfhmalbjoaa
