/- Several texts in one: RecV, RecW, PtTurned. -/
import Derived.Test.YtolfckhjfadhdaaDoorP7
/- A frame in which bits are turned: mathematics. -/
namespace Go.Proofs.YtolfckhjfadhdaaDoor
open Go.RowKit
/-- Bytes as one number, the first the lowest. -/
def le : List UInt8 → Nat
  | [] => 0
  | c :: l => c.toNat ^^^ (le l * 2 ^ 8)
theorem xor_mul_pow (a b n : Nat) : (a ^^^ b) * 2 ^ n = (a * 2 ^ n) ^^^ (b * 2 ^ n) := by rw [← Nat.shiftLeft_eq, ← Nat.shiftLeft_eq, ← Nat.shiftLeft_eq, Nat.shiftLeft_xor_distrib]
theorem itn8_up (m : Nat) : eight (m * 2 ^ 8) = m := itn_even 8 m
theorem thru_le (l : List UInt8) : ∀ x, thru x l = itn stp (8 * l.length) (x ^^^ le l) := by
  induction l with
  | nil => intro x; simp [thru, le, itn]
  | cons c l ih =>
    intro x
    rw [thru_cons, ih, List.length_cons, Nat.mul_add, Nat.add_comm, itn_add]
    congr 1
    show eight (x ^^^ c.toNat) ^^^ le l = eight (x ^^^ (c.toNat ^^^ (le l * 2 ^ 8)))
    rw [← Nat.xor_assoc, eight_lin (x ^^^ c.toNat), itn8_up]
theorem itn_ne {n m : Nat} (h : m < 2 ^ 32) (h0 : m ≠ 0) : itn stp n m ≠ 0 := fun e => h0 (itn_inj (n := n) h (by decide) (by rw [e, (stp_lin.itn n).zero]))
theorem thru_turned {x : Nat} {y b : List UInt8} {m s : Nat} (hl : y.length = b.length) (h : le y = le b ^^^ (m * 2 ^ s)) (hm : m < 2 ^ 32) (h0 : m ≠ 0) (hs : s ≤ 8 * b.length) : thru x y ≠ thru x b := by
  rw [thru_le, thru_le, hl, h, ← Nat.xor_assoc, (stp_lin.itn _)]
  intro e
  have h2 : itn stp (8 * b.length) (m * 2 ^ s) = 0 := by
    have := congrArg (fun t => itn stp (8 * b.length) (x ^^^ le b) ^^^ t) e
    simp only [← Nat.xor_assoc, Nat.xor_self, Nat.zero_xor] at this
    exact this
  rw [show 8 * b.length = s + (8 * b.length - s) from by omega, itn_add, itn_even] at h2
  exact itn_ne hm h0 h2
/-- A row of bytes with its own sum behind. -/
theorem thru_residue (h : List UInt8) : thru (not32 0) (h ++ le4 (crc h)) = itn stp 32 4294967295 := by
  have h1 : thru (not32 0) h < 2 ^ 32 := thru_lt h (by decide)
  rw [thru_append, thru_le4 _ _ (crc32_lt h)]
  congr 1
  show thru (not32 0) h ^^^ not32 (thru (not32 0) h) = _
  rw [not32_xor h1, ← Nat.xor_assoc, Nat.xor_self, Nat.zero_xor]
theorem sum_turned {b y : List UInt8} {n m s : Nat} (hb : (b.drop (n + 5)).take 4 = le4 (crc (b.take (n + 5)))) (hbl : b.length = n + 9) (hl : y.length = b.length) (h : le y = le b ^^^ (m * 2 ^ s)) (hm : m < 2 ^ 32) (h0 : m ≠ 0) (hs : s ≤ 8 * b.length) :
    ((y.drop (n + 5)).take 4 == le4 (crc (y.take (n + 5)))) = false := by
  rw [beq_eq_false_iff_ne]
  intro hy
  have e : ∀ l : List UInt8, l.length = n + 9 → (l.drop (n + 5)).take 4 = le4 (crc (l.take (n + 5))) → thru (not32 0) l = itn stp 32 4294967295 := by
    intro l hl h
    rw [List.take_of_length_le (by rw [List.length_drop]; omega)] at h
    have := thru_residue (l.take (n + 5))
    rw [← h, List.take_append_drop] at this
    exact this
  exact thru_turned hl h hm h0 hs ((e y (by omega) hy).trans (e b hbl hb).symm)
theorem two_xor_low {a r : Nat} : a ^^^ (1 * 2 ^ r) = a ^^^ 2 ^ r := by rw [Nat.one_mul]
theorem le_inj : ∀ {a b : List UInt8}, a.length = b.length → le a = le b → a = b
  | [], [], _, _ => rfl
  | x :: a, y :: b, hl, h => by
    have e1 : ∀ (c : UInt8) (l : List UInt8), le (c :: l) % 256 = c.toNat := fun c l => by
      show (c.toNat ^^^ (le l * 2 ^ 8)) % 2 ^ 8 = _
      rw [Nat.xor_mod_two_pow, Nat.mul_mod_left, Nat.xor_zero]
      exact Nat.mod_eq_of_lt c.toNat_lt
    have e2 : ∀ (c : UInt8) (l : List UInt8), le (c :: l) / 256 = le l := fun c l => by
      show (c.toNat ^^^ (le l * 2 ^ 8)) / 2 ^ 8 = _
      rw [Nat.xor_div_two_pow, Nat.mul_div_cancel _ (by decide), Nat.div_eq_of_lt c.toNat_lt, Nat.zero_xor]
    have h1 : x = y := UInt8.toNat_inj.1 (by rw [← e1 x a, ← e1 y b, h])
    have h2 : le a = le b := by rw [← e2 x a, ← e2 y b, h]
    rw [h1, le_inj (by simpa using hl) h2]
/-- One bit of one byte. -/
theorem le_set : ∀ (l : List UInt8) (j : Nat) (c d : UInt8) (e : Nat), l[j]? = some c → d.toNat = c.toNat ^^^ e → le (l.set j d) = le l ^^^ (e * 2 ^ (8 * j))
  | c0 :: l, 0, c, d, e, h, hd => by
    cases h
    show d.toNat ^^^ (le l * 2 ^ 8) = (c0.toNat ^^^ (le l * 2 ^ 8)) ^^^ (e * 2 ^ (8 * 0))
    rw [hd]
    simp only [Nat.mul_zero, Nat.pow_zero, Nat.mul_one]
    rw [Nat.xor_assoc, Nat.xor_assoc, Nat.xor_comm e]
  | c0 :: l, j + 1, c, d, e, h, hd => by
    have ih := le_set l j c d e h hd
    show c0.toNat ^^^ (le (l.set j d) * 2 ^ 8) = (c0.toNat ^^^ (le l * 2 ^ 8)) ^^^ (e * 2 ^ (8 * (j + 1)))
    rw [ih, Nat.xor_assoc]
    congr 1
    rw [Nat.mul_add, Nat.mul_one, Nat.pow_add, ← Nat.mul_assoc, xor_mul_pow]
  | [], _, _, _, _, h, _ => by simp at h
/-- The reference's Turn, k bits of the mask looked at. -/
def turnN (b : List UInt8) (s mask : Nat) : Nat → List UInt8
  | 0 => b
  | k + 1 =>
    let y := turnN b s mask k
    if mask / 2 ^ k % 2 = 1 ∧ (s + k) / 8 < b.length then y.set ((s + k) / 8) (y.getD ((s + k) / 8) 0 ^^^ UInt8.ofNat (2 ^ ((s + k) % 8))) else y
theorem turnN_yes {b : List UInt8} {s mask k : Nat} (h : mask / 2 ^ k % 2 = 1 ∧ (s + k) / 8 < b.length) : turnN b s mask (k + 1) = (turnN b s mask k).set ((s + k) / 8) ((turnN b s mask k).getD ((s + k) / 8) 0 ^^^ UInt8.ofNat (2 ^ ((s + k) % 8))) := if_pos h
theorem turnN_no {b : List UInt8} {s mask k : Nat} (h : ¬ (mask / 2 ^ k % 2 = 1 ∧ (s + k) / 8 < b.length)) : turnN b s mask (k + 1) = turnN b s mask k := if_neg h
theorem turnN_length (b : List UInt8) (s mask : Nat) : ∀ k, (turnN b s mask k).length = b.length
  | 0 => rfl
  | k + 1 => by
    by_cases h : mask / 2 ^ k % 2 = 1 ∧ (s + k) / 8 < b.length
    · rw [turnN_yes h, List.length_set, turnN_length b s mask k]
    · rw [turnN_no h, turnN_length b s mask k]
theorem turnN_take (b : List UInt8) (s mask j : Nat) (hj : 8 * j ≤ s) : ∀ k, (turnN b s mask k).take j = b.take j
  | 0 => rfl
  | k + 1 => by
    by_cases h : mask / 2 ^ k % 2 = 1 ∧ (s + k) / 8 < b.length
    · rw [turnN_yes h, List.take_set_of_le (by omega), turnN_take b s mask j hj k]
    · rw [turnN_no h, turnN_take b s mask j hj k]
theorem turnN_le (b : List UInt8) (s mask : Nat) : ∀ k, k ≤ 32 → ∃ m, m < 2 ^ k ∧ le (turnN b s mask k) = le b ^^^ (m * 2 ^ s)
  | 0, _ => ⟨0, by decide, by simp [turnN]⟩
  | k + 1, hk => by
    obtain ⟨m, hm, h1⟩ := turnN_le b s mask k (by omega)
    by_cases h : mask / 2 ^ k % 2 = 1 ∧ (s + k) / 8 < b.length
    · refine ⟨m ^^^ 2 ^ k, Nat.xor_lt_two_pow (Nat.lt_of_lt_of_le hm (Nat.pow_le_pow_right (by decide) (by omega))) (Nat.pow_lt_pow_right (by decide) (by omega)), ?_⟩
      rw [turnN_yes h]
      have hlt : (s + k) / 8 < (turnN b s mask k).length := by rw [turnN_length]; exact h.2
      have hr : (s + k) % 8 < 8 := Nat.mod_lt _ (by decide)
      have hp : 2 ^ ((s + k) % 8) < 256 := Nat.lt_of_lt_of_le (Nat.pow_lt_pow_right (by decide) hr) (by decide)
      rw [le_set _ _ _ _ (2 ^ ((s + k) % 8)) (List.getElem?_eq_getElem hlt) ?_, h1, Nat.xor_assoc]
      · congr 1
        rw [← Nat.pow_add, show (s + k) % 8 + 8 * ((s + k) / 8) = k + s from by omega, Nat.pow_add, xor_mul_pow]
      · rw [List.getD_eq_getElem?_getD, List.getElem?_eq_getElem hlt, Option.getD_some, UInt8.toNat_xor, UInt8.toNat_ofNat', Nat.mod_eq_of_lt hp]
    · refine ⟨m, Nat.lt_of_lt_of_le hm (Nat.pow_le_pow_right (by decide) (by omega)), ?_⟩
      rw [turnN_no h, h1]
end Go.Proofs.YtolfckhjfadhdaaDoor
/- The reference's Turn. -/
namespace Go.Proofs.YtolfckhjfadhdaaDoor
open Go.RowKit
theorem u32_and_one (a : Nat) (ha : a < 4294967296) : bits .and .u32 (a : Int) 1 = ((a % 2 : Nat) : Int) := by
  show IntKind.u32.wrap ((BitVec.ofInt 32 (a : Int) &&& BitVec.ofInt 32 1).toNat : Int) = _
  have h1 : (BitVec.ofInt 32 (a : Int)).toNat = a := by rw [BitVec.ofInt_natCast, BitVec.toNat_ofNat]; exact Nat.mod_eq_of_lt (by omega)
  rw [BitVec.toNat_and, h1, show (BitVec.ofInt 32 1).toNat = 1 from rfl, Nat.and_one_is_mod, wrap_u32_nat]
  congr 1
  omega
theorem u8_xor_nat' (a b : Nat) (ha : a < 256) (hb : b < 256) : bits .xor .u8 (a : Int) (b : Int) = ((a ^^^ b : Nat) : Int) := by
  show IntKind.u8.wrap ((BitVec.ofInt 8 (a : Int) ^^^ BitVec.ofInt 8 (b : Int)).toNat : Int) = _
  have h : ∀ x : Nat, x < 256 → (BitVec.ofInt 8 (x : Int)).toNat = x := fun x hx => by rw [BitVec.ofInt_natCast, BitVec.toNat_ofNat]; exact Nat.mod_eq_of_lt (by omega)
  rw [BitVec.toNat_xor, h a ha, h b hb, wrap_u8_nat, Nat.mod_eq_of_lt (show a ^^^ b < 256 from Nat.xor_lt_two_pow (n := 8) ha hb)]
theorem turn_byte (c : UInt8) (r : Nat) (hr : r < 8) : bits .xor .u8 (c.toNat : Int) (2 ^ r % 256) = ((c ^^^ UInt8.ofNat (2 ^ r)).toNat : Int) := by
  have hp : 2 ^ r < 256 := Nat.lt_of_lt_of_le (Nat.pow_lt_pow_right (by decide) hr) (by decide)
  have h1 : ((2 : Int) ^ r % 256) = ((2 ^ r : Nat) : Int) := by
    have : ((2 : Int) ^ r) = ((2 ^ r : Nat) : Int) := by push_cast; rfl
    rw [this]; exact Int.emod_eq_of_lt (Int.natCast_nonneg _) (Int.ofNat_lt.2 hp)
  rw [h1, u8_xor_nat' _ _ c.toNat_lt hp, UInt8.toNat_xor, UInt8.toNat_ofNat', Nat.mod_eq_of_lt hp]
theorem bv_set (l : List UInt8) (j : Nat) (c : UInt8) : bv (l.set j c) = (bv l).set j (.int .u8 (c.toNat : Int)) := List.map_set
theorem mask_bit (mask k : Nat) (hm : mask < 4294967296) : bits .and .u32 ((mask : Int) / 2 ^ k) 1 = ((mask / 2 ^ k % 2 : Nat) : Int) := by
  have h : (mask : Int) / 2 ^ k = ((mask / 2 ^ k : Nat) : Int) := by push_cast; rfl
  rw [h]
  exact u32_and_one _ (Nat.lt_of_le_of_lt (Nat.div_le_self _ _) hm)
set_option maxRecDepth 100000 in
set_option maxHeartbeats 2000000 in
theorem turn_any (x : Value) (b : List UInt8) (s mask : Nat) (hs : s ≤ 1125899906842624) (hm : mask < 4294967296) (w : World) (hx : Rd w 1 x b.length (bv b)) (hbl : b.length ≤ 140737488355328) :
    Calls Tryd.prog 28 #[x, .int .i64 s, .int .u32 mask] w (NewRow (turnN b s mask 32) w) := by
  obtain ⟨A, c, rfl⟩ := rd_form hx
  have S0 := Held.start w
  go_enter Tryd.func28, Tryd.ntmps28
  go_wp2_with (at_builtin; refine app_new rfl (.const (.slice none 0 0)) (.tmp 10) rfl rfl S0 (.slice A b.length c) b rfl hx hbl ?_)
  intro v1 w1 S1
  obtain ⟨A1, c1, rfl, _, _⟩ := ow_form (S1.at_ (l1 := []))
  have S1' := Lib.hid S1
  clear S1 S0
  go_wp2
  go_loopw [8] (fun i wr => ∃ k : Nat, k ≤ 32 ∧ i = .int .i64 k ∧ Held w wr [rowR 5 1 (.slice A1 b.length c1) b.length (bv (turnN b s mask k))]) (fun i _ => 32 - (intOf i).toNat)
  case atStart => exact ⟨0, by omega, rfl, S1'.out⟩
  case round =>
    clear S1'
    obtain ⟨k, hk, rfl, S⟩ := hrel
    by_cases hlt : k < 32
    · by_cases hc : mask / 2 ^ k % 2 = 1 ∧ (s + k) / 8 < b.length
      · have hbit : bits .and .u32 ((mask : Int) / 2 ^ k) 1 = 1 := by rw [mask_bit mask k hm, hc.1]; rfl
        have hst := Lib.hid (turnN_yes hc)
        obtain ⟨q, hq⟩ : ∃ q, (s + k) / 8 = q := ⟨_, rfl⟩
        obtain ⟨r, hr⟩ : ∃ r, (s + k) % 8 = r := ⟨_, rfl⟩
        rw [hq, hr] at hst
        have hqb : q < b.length := by rw [← hq]; exact hc.2
        have hqi : ((s : Int) + (k : Int)) / 8 = (q : Int) := by omega
        have hri : ((s : Int) + (k : Int)) % 8 = (r : Int) := by omega
        have hr8 : r < 8 := by omega
        obtain ⟨g, c', hv, hc2, hc3⟩ := ow_some (S.at_ (l1 := [])) (by omega)
        cases hv
        have S2 := Lib.hid S
        have hlen := turnN_length b s mask k
        have hcell := (S.at_ (l1 := [])).cellAt q (by omega)
        have hfz := (S.at_ (l1 := [])).frozenAt q
        have hlw := ow_lt (S.at_ (l1 := [])) (g := g) rfl
        have hy : (turnN b s mask k)[q]? = some ((turnN b s mask k)[q]'(by omega)) := List.getElem?_eq_getElem _
        rw [bv_get, hy, Option.map_some] at hcell
        have Hy := Lib.hid hy
        have HQ := Lib.hid (And.intro hq hr)
        generalize (turnN b s mask k)[q]'_ = cq at *
        clear S hc hy hq hr hqb
        have hcq := cq.toNat_lt
        have hqb1 : q < b.length := by have := HQ.out.1; have := (List.getElem?_eq_some_iff.1 Hy.out).1; omega
        have hqb2 : (q : Int) < (b.length : Int) := by omega
        go_wp2
        go_roundw
        case rel =>
          refine ⟨k + 1, by omega, by go_num, ?_⟩
          have hset := S2.out.rowset (l1 := []) ((S2.out.at_ (l1 := [])).stored (g := g) q (.int .u8 ((cq ^^^ UInt8.ofNat (2 ^ r)).toNat : Int))).1 ((Kp.refl [g] wr).setCell (p := ⟨g, q, none⟩) (.inl (by simp)) (.int .u8 ((cq ^^^ UInt8.ofNat (2 ^ r)).toNat : Int)))
          rw [turn_byte cq r hr8, hst.out]
          have hg : (turnN b s mask k).getD q 0 = cq := by rw [List.getD_eq_getElem?_getD, Hy.out]; rfl
          rw [hg, bv_set]
          exact hset
        case measure => simp [intOf]; omega
      · have hbit : ¬ (bits .and .u32 ((mask : Int) / 2 ^ k) 1 = 1 ∧ ((s : Int) + (k : Int)) / 8 < (b.length : Int)) := by rw [mask_bit mask k hm]; omega
        have hst := Lib.hid (turnN_no hc)
        have S2 := Lib.hid S
        clear S hc
        go_wp2
        all_goals
          go_roundw
          case rel => exact ⟨k + 1, by omega, by go_num, by rw [hst.out]; exact S2.out⟩
          case measure => simp [intOf]; omega
    · obtain rfl : k = 32 := by omega
      go_wp2
      go_ret
      exact ⟨_, rfl, by rw [turnN_length]; exact S.at_ (l1 := []), S.k, fun g hg => S.base _ (List.mem_singleton.2 rfl) g (by simp only [rowR, Option.mem_toList]; exact hg)⟩
end Go.Proofs.YtolfckhjfadhdaaDoor
/- PointTurned: the walk of the law. -/
namespace Go.Proofs.YtolfckhjfadhdaaDoor
open Go.RowKit
theorem exec_bin_agg {P : Program} {w : World} {ρ : Operand → Value} {o : Oper} {op : BinOp} {t t2 : TypeId} {x y : Operand} {xs ys : Array Value} {r : Value} (ho : o.op = .binOp op t x y t2) (hx : ρ x = .agg xs) (hy : ρ y = .agg ys) (hm : P.eqGuardType P.depth t = false) (h : (binOp op t (.agg xs) (.agg ys)).run P w = .ok r w) : (execOp ρ o).run P w = .ok (.value r) w := by
  unfold execOp
  simp only [ho, hx, hy, Sem.run_bind, run_eqGuard_agg w op t x y xs ys hm, h, Result.andThen_ok, Sem.run_pure]
theorem RVs_len (bs : List UInt8) : (RVs bs).2.length = 32 := by
  obtain ⟨z, h, E, h1, -, h3, -⟩ := RV_cases bs
  rw [h1]
  exact h3
theorem form_residue (z : Int) (h : List UInt8) : thru (not32 0) (formL z h) = itn stp 32 4294967295 := thru_residue _
theorem form_turned {z : Int} {h : List UInt8} (hh : h.length = 32) (s mask : Nat) (hs : s ≤ 384) (hne : turnN (formL z h) s mask 32 ≠ formL z h) : ¬ RVok (turnN (formL z h) s mask 32) := by
  intro hok
  have hl := turnN_length (formL z h) s mask 32
  obtain ⟨m, hm, hle⟩ := turnN_le (formL z h) s mask 32 (Nat.le_refl _)
  have h1 := form_residue (rdS (turnN (formL z h) s mask 32)) (rdH (turnN (formL z h) s mask 32))
  rw [hok.2.2] at h1
  by_cases h0 : m = 0
  · subst h0
    rw [Nat.zero_mul, Nat.xor_zero] at hle
    exact hne (le_inj hl hle)
  · exact thru_turned (x := not32 0) hl hle hm h0 (by rw [formL_length hh]; omega) (h1.trans (form_residue z h).symm)
theorem form_inj {z y : Int} {h g : List UInt8} (h0 : 0 ≤ z) (h1 : z ≤ 9223372036854775807) (y0 : 0 ≤ y) (y1 : y ≤ 9223372036854775807) (hh : h.length = 32) (hg : g.length = 32) (e : formL z h = formL y g) : z = y ∧ h = g := by
  have a := rdS_form (h := h) h0 h1
  have b := rdS_form (h := g) y0 y1
  have c := rdH_form (z := z) hh
  have d := rdH_form (z := y) hg
  rw [e] at a c
  exact ⟨a.symm.trans b, c.symm.trans d⟩
theorem told_pre {n m : Nat} {g h : List UInt8} (hn : n < 9223372036854775808) (hm : m < 9223372036854775808) (hg : g.length = 32) (hh : h.length = 32) (k : Nat) (hk : k = min (told n g).length (told m h).length) (e : (told n g).take k = (told m h).take k) : n = m ∧ g = h := by
  by_cases hle : (told n g).length ≤ (told m h).length
  · have hk' : k = (told n g).length := by omega
    rw [hk', List.take_length] at e
    have : told n g ++ (told m h).drop (told n g).length = told m h ++ [] := by
      rw [List.append_nil]
      conv => lhs; lhs; rw [e]
      exact List.take_append_drop _ _
    obtain ⟨a, b, _⟩ := told_inj hn hm hg hh this
    exact ⟨a, b⟩
  · have hk' : k = (told m h).length := by omega
    rw [hk', List.take_length] at e
    have : told n g ++ [] = told m h ++ (told n g).drop (told m h).length := by
      rw [List.append_nil]
      conv => rhs; lhs; rw [← e]
      exact (List.take_append_drop _ _).symm
    obtain ⟨a, b, _⟩ := told_inj hn hm hg hh this
    exact ⟨a, b⟩
theorem bool_of_iff {p q : Prop} [Decidable p] {b : Bool} (h : b = true ↔ q) (h2 : p ↔ q) : b = decide p := by
  by_cases hp : p
  · rw [decide_eq_true hp]; exact h.2 (h2.1 hp)
  · rw [decide_eq_false hp]; cases hb : b with
    | false => rfl
    | true => exact absurd (h2.2 (h.1 hb)) hp
theorem place384 (a : Int) : ∃ s : Nat, s < 384 ∧ ((a.tmod 384 < 0 ∧ a.tmod 384 + 384 = s ∨ 0 ≤ a.tmod 384 ∧ a.tmod 384 = s)) := by
  have h1 := Int.lt_tmod_of_pos a (show (0 : Int) < 384 by omega)
  have h2 := Int.tmod_lt_of_pos a (show (0 : Int) < 384 by omega)
  by_cases h : a.tmod 384 < 0
  · exact ⟨(a.tmod 384 + 384).toNat, by omega, .inl ⟨h, by omega⟩⟩
  · exact ⟨(a.tmod 384).toNat, by omega, .inr ⟨by omega, by omega⟩⟩
set_option maxRecDepth 100000 in
set_option maxHeartbeats 16000000 in
theorem pointturned_any (w : World) (z : Int) (hz : -9223372036854775808 ≤ z ∧ z ≤ 9223372036854775807) (hh : List UInt8) (hhl : hh.length = 32) (y : Int) (hy : -9223372036854775808 ≤ y ∧ y ≤ 9223372036854775807) (gg : List UInt8) (hgl : gg.length = 32) (bit : Int) (hbit : -9223372036854775808 ≤ bit ∧ bit ≤ 9223372036854775807) (mask : Nat) (hmask : mask < 4294967296) (L : LD w) : Calls Tryd.prog 8 #[.agg (ptA z hh), .agg (ptA y gg), .int .i64 bit, .int .u32 (mask : Int)] w fun e w' => e = .returned (.bool true) ∧ Kp [] w w' := by
  have HL := Lib.hid L
  have HH := Lib.hid hhl
  have HG := Lib.hid hgl
  have HPsz := Lib.hid (ptA_size (s := z) hhl)
  have HQsz := Lib.hid (ptA_size (s := y) hgl)
  have HB1 := Lib.hid (fun V => pbytes_any z hh hhl V)
  have HB2 := Lib.hid (fun V => pbytes_any y gg hgl V)
  have HT1 := Lib.hid (fun V (l : LD V) => ptext_any z hz hh hhl V l)
  have HT2 := Lib.hid (fun V (l : LD V) => ptext_any y hy gg hgl V l)
  unfold BytesPost at HB1 HB2
  unfold TextPost at HT1 HT2
  have HE1 : Hid (txE z = 0 ∧ 0 ≤ z ∨ txE z = 2 ∧ z < 0) := Lib.hid ((Decidable.em (z < 0)).elim (fun h => .inr ⟨if_pos h, h⟩) (fun h => .inl ⟨if_neg h, by omega⟩))
  have HE2 : Hid (txE y = 0 ∧ 0 ≤ y ∨ txE y = 2 ∧ y < 0) := Lib.hid ((Decidable.em (y < 0)).elim (fun h => .inr ⟨if_pos h, h⟩) (fun h => .inl ⟨if_neg h, by omega⟩))
  have S0 := Lib.hid (((Held.start w).newBlk 25 (ptA z hh)).newBlk 25 (ptA y gg))
  rw [World.size_alloc] at S0
  obtain ⟨cs, HC⟩ : ∃ cs, Hid (ptA z hh = cs) := ⟨_, Lib.hid rfl⟩
  obtain ⟨ds, HD⟩ : ∃ ds, Hid (ptA y gg = ds) := ⟨_, Lib.hid rfl⟩
  rw [HC.out] at HPsz HB1 HT1 S0 ⊢
  rw [HD.out] at HQsz HB2 HT2 S0 ⊢
  clear L hhl hgl
  go_enter Tryd.func8, Tryd.ntmps8
  go_wp2_with fail
  generalize hW1 : (w.alloc (.cells cs 25)).alloc (.cells ds 25) = w1 at *
  generalize hg4 : w.heap.size = g4 at *
  generalize hg5 : g4 + 1 = g5 at *
  refine (known_any w1 (HL.out.kp S0.out.k)).mono ?_
  rintro e w2 ⟨rfl, k2⟩
  have S1 := Lib.hid (S0.out.kp k2)
  clear k2 S0
  go_wp2_with (refine wpList_load_blk rfl 25 (.tmp 4) rfl g4 rfl 25 _ (S1.out.at_ (l1 := [_])) _ Tryd.underlying25 rfl (by rw [HPsz.out]; exact Tryd.infoPointP) ?_)
  refine (HB1.out w2).mono ?_
  rintro e w3 ⟨v1, rfl, o3, k3, f3⟩
  have S2 := Lib.hid (S1.out.rownew o3 k3 f3)
  obtain ⟨Ab, cb, rfl, _, _⟩ := ow_form o3
  clear o3 k3 f3 S1
  go_wp2_with (refine wpList_load_blk rfl 25 (.tmp 5) rfl g5 rfl 25 _ (S2.out.at_ (l1 := [_])) _ Tryd.underlying25 rfl (by rw [HQsz.out]; exact Tryd.infoPointP) ?_)
  refine (HB2.out w3).mono ?_
  rintro e w4 ⟨v2, rfl, o4, k4, f4⟩
  have S3 := Lib.hid (S2.out.rownew o4 k4 f4)
  obtain ⟨Ac, c3, rfl, _, _⟩ := ow_form o4
  clear o4 k4 f4 S2
  by_cases hneg : z < 0 ∨ y < 0
  · have hsum : txE z + txE y > 0 ∧ (txE z ≠ 0 ∨ txE y ≠ 0) ∧ txE z + txE y ≤ 4 ∧ 0 ≤ txE z + txE y := by
      rcases HE1.out with ⟨a, a'⟩ | ⟨a, a'⟩ <;> rcases HE2.out with ⟨b, b'⟩ | ⟨b, b'⟩ <;> omega
    obtain ⟨E1, h1⟩ : ∃ E1, txE z = E1 := ⟨_, rfl⟩
    obtain ⟨E2, h2⟩ : ∃ E2, txE y = E2 := ⟨_, rfl⟩
    rw [h1, h2] at hsum
    rw [h1, h2]
    clear hneg h1 h2
    by_cases hE1 : E1 = 0
    · subst hE1
      have hE2 : (E2 != 0) = true := by simp; omega
      have hE3 : (0 : Int) < E2 := by omega
      have hE4 : wrap64 E2 = E2 := wrap64_of (by omega)
      clear hsum
      go_wp2_with (go_at_call 13; refine (num19_any _ _).mono ?_; rintro e w' ⟨rfl, rfl⟩)
      go_ret
      exact ⟨rfl, S3.out.k⟩
    · have hE2 : (E1 != 0) = true := by simp; omega
      have hE3 : (0 : Int) < E1 + E2 := by omega
      have hE4 : wrap64 (E1 + E2) = E1 + E2 := wrap64_of (by omega)
      clear hsum
      go_wp2_with (go_at_call 13; refine (num19_any _ _).mono ?_; rintro e w' ⟨rfl, rfl⟩)
      go_ret
      exact ⟨rfl, S3.out.k⟩
  · have hz0 : 0 ≤ z := by omega
    have hy0 : 0 ≤ y := by omega
    obtain ⟨np, rfl⟩ : ∃ n : Nat, z = n := ⟨z.toNat, by omega⟩
    obtain ⟨nq, rfl⟩ : ∃ n : Nat, y = n := ⟨y.toNat, by omega⟩
    clear hneg
    have hB1 : ptB np hh = formL np hh := if_neg (by omega)
    have hB2 : ptB nq gg = formL nq gg := if_neg (by omega)
    have hE1 : txE np = 0 := if_neg (by omega)
    have hE2 : txE nq = 0 := if_neg (by omega)
    have hT1 : txt np hh = told np hh := (if_neg (by omega)).trans (by rw [Int.toNat_natCast])
    have hT2 : txt nq gg = told nq gg := (if_neg (by omega)).trans (by rw [Int.toNat_natCast])
    rw [hB1, hB2] at S3
    rw [hB1, hB2, hE1, hE2]
    rw [hT1, hE1] at HT1
    rw [hT2, hE2] at HT2
    clear hB1 hB2 hE1 hE2 hT1 hT2 HB1 HB2 HE1 HE2
    obtain ⟨sa, hsa, hcase⟩ := place384 bit
    have HTn := Lib.hid (fun V x (r : Rd V 1 x (formL np hh).length (bv (formL np hh))) => turn_any x (formL np hh) sa mask (by omega) hmask V r (by rw [formL_length HH.out]; omega))
    unfold NewRow at HTn
    have HTd := form_turned (z := np) HH.out sa mask (by omega)
    have HFi := form_inj (z := np) (y := nq) hz0 hz.2 hy0 hy.2 HH.out HG.out
    have HTp := told_pre (n := np) (m := nq) (g := hh) (h := gg) (by omega) (by omega) HH.out HG.out
    have hRb := (RV_form hz0 hz.2 HH.out).2
    have hl1 : (told np hh).length ≤ 200 := by have := dec_19 (n := np) (by omega); have := hexS_length hh; rw [told_length, HH.out] at *; omega
    have hl2 : (told nq gg).length ≤ 200 := by have := dec_19 (n := nq) (by omega); have := hexS_length gg; rw [told_length, HG.out] at *; omega
    have hxl := turnN_length (formL np hh) sa mask 32
    have hbl := formL_length (s := np) HH.out
    have hcl := formL_length (s := nq) HG.out
    obtain ⟨pq, hpq⟩ : ∃ pq, (decide ((np : Int) = nq) && (hh == gg)) = pq := ⟨_, rfl⟩
    have hpqT : pq = true ↔ (np = nq ∧ hh = gg) := by rw [← hpq]; simp; omega
    have HPQ := Lib.hid (fun V => eql_pt V np nq hh gg HH.out HG.out)
    rw [hpq, HC.out, HD.out] at HPQ
    have HBC : Hid ((formL np hh == formL nq gg) = pq) := Lib.hid (by
      cases hp : pq with
      | true => obtain ⟨a, b⟩ := hpqT.1 hp; rw [a, b]; exact beq_self_eq_true _
      | false => rw [beq_eq_false_iff_ne]; intro e; obtain ⟨a, b⟩ := HFi e; rw [hpqT.2 ⟨by omega, b⟩] at hp; cases hp)
    obtain ⟨k, hk⟩ : ∃ k : Nat, k = min (told np hh).length (told nq gg).length := ⟨_, rfl⟩
    have HTK : Hid (((told np hh).take k == (told nq gg).take k) = pq) := Lib.hid (by
      cases hp : pq with
      | true => obtain ⟨a, b⟩ := hpqT.1 hp; rw [a, b]; exact beq_self_eq_true _
      | false => rw [beq_eq_false_iff_ne]; intro e; rw [hpqT.2 (HTp k hk e)] at hp; cases hp)
    have HX1 := Lib.hid (ext_take ⟨(told np hh).toArray⟩ k)
    have HX2 := Lib.hid (ext_take ⟨(told nq gg).toArray⟩ k)
    rw [show (⟨(told np hh).toArray⟩ : ByteArray).data.toList = told np hh from rfl] at HX1
    rw [show (⟨(told nq gg).toArray⟩ : ByteArray).data.toList = told nq gg from rfl] at HX2
    have HN : Hid (k ≤ (told np hh).length ∧ k ≤ (told nq gg).length) := Lib.hid (by omega)
    obtain ⟨yb, hyb⟩ : ∃ yb, (turnN (formL np hh) sa mask 32 == formL np hh) = yb := ⟨_, rfl⟩
    have HYB := Lib.hid hyb
    have HE290 : Hid ((REs (turnN (formL np hh) sa mask 32) == 290) = !yb) := Lib.hid (by
      cases hy : yb with
      | true => rw [hy] at hyb; rw [eq_of_beq hyb, hRb]; rfl
      | false => rw [hy] at hyb; rw [(RV_no (HTd (by simpa using hyb))).2]; rfl)
    have HR := Lib.hid (fun V x (r : Rd V 1 x (turnN (formL np hh) sa mask 32).length (bv (turnN (formL np hh) sa mask 32))) => ptread_any x (turnN (formL np hh) sa mask 32) (by omega) V r)
    unfold PtRdPost at HR
    rw [hxl] at HTn HR
    clear HTd HFi HTp hRb hpqT hyb
    have HRsz := Lib.hid (ptA_size (s := (RVs (turnN (formL np hh) sa mask 32)).1) (RVs_len (turnN (formL np hh) sa mask 32)))
    have HRO := Lib.hid (ptA_one (RVs (turnN (formL np hh) sa mask 32)).1 (RVs (turnN (formL np hh) sa mask 32)).2)
    generalize ptA (RVs (turnN (formL np hh) sa mask 32)).1 (RVs (turnN (formL np hh) sa mask 32)).2 = rp at *
    generalize REs (turnN (formL np hh) sa mask 32) = E at *
    generalize turnN (formL np hh) sa mask 32 = x at *
    generalize formL np hh = b at *
    generalize formL nq gg = cc at *
    generalize told np hh = sp at *
    generalize told nq gg = sq at *
    have Hbl := Lib.hid hbl
    clear hxl hbl hcl
    obtain ⟨tm, htm⟩ : ∃ tm, bit.tmod 384 = tm := ⟨_, rfl⟩
    rw [htm] at hcase
    rcases hcase with hc | hc
    all_goals
      obtain ⟨h1, h2⟩ := hc
      have hw : wrap64 (tm + 384) = tm + 384 := wrap64_of (by omega)
      have h3 : tm < 0 ∨ ¬ tm < 0 := by omega
      go_wp2_with (first
        | (go_at_call 13; refine (num19_any _ _).mono ?_; rintro e w' ⟨rfl, rfl⟩))
      first | rw [h2] | skip
      refine (HTn.out _ _ (Rd.of_own (S3.out.at_ (l1 := [_])))).mono ?_
      rintro e w5 ⟨v3, rfl, o5, k5, f5⟩
      have S4 := Lib.hid (S3.out.rownew o5 k5 f5)
      obtain ⟨Ax, cx, rfl, _, _⟩ := ow_form o5
      clear o5 k5 f5
      go_wp2_with fail
      refine (HR.out w5 _ (Rd.of_own (S4.out.at_ (l1 := [])))).mono ?_
      rintro e w6 ⟨rfl, k6⟩
      have S5 := Lib.hid (S4.out.kp k6)
      clear k6 S4
      go_wp2_with (first
        | (refine wpList_store_blk rfl 25 (.tmp 15) (.tmp 61) rfl w6.heap.size rfl rp rfl 25 _ (Blk.new w6 25 _) (by rw [HRsz.out]; exact Tryd.infoPointP) (by rw [HRsz.out]; rfl) HRO.out ?_; intro w7 b7 k7; have S6 := Lib.hid (Held.setBlk (l1 := []) (S5.out.newBlk 25 _) b7 k7); clear b7 k7)
        | (refine wpList_load_blk rfl 25 (.tmp 4) rfl g4 rfl 25 _ (S6.out.at_ (l1 := [_, _, _, _, _])) _ Tryd.underlying25 rfl (by rw [HPsz.out]; exact Tryd.infoPointP) ?_))
      refine (HT1.out w7 (HL.out.kp S6.out.k)).mono ?_
      rintro e w8 ⟨rfl, k8⟩
      have S7 := Lib.hid (S6.out.drop.kp k8)
      clear k8 S6
      go_wp2_with (refine wpList_load_blk rfl 25 (.tmp 5) rfl g5 rfl 25 _ (S7.out.at_ (l1 := [_, _, _])) _ Tryd.underlying25 rfl (by rw [HQsz.out]; exact Tryd.infoPointP) ?_)
      refine (HT2.out w8 (HL.out.kp S7.out.k)).mono ?_
      rintro e w9 ⟨rfl, k9⟩
      have SR := Lib.hid (S7.out.kp k9)
      clear k9 S7
      go_wp2_with fail
      have hmin : min (sp.length : Int) (sq.length : Int) = (k : Int) := by omega
      rw [hmin]
      clear hk hmin
      -- SEP pturned15
      refine wp_region_invG (fun i v W => match i with | 0 => v = .int .i64 E | 1 => v = .int .i64 E | 2 => v = .bool (!yb) | 3 => v = .slice Ax b.length cx | 4 => v = .slice Ab b.length cb | 5 => v = .bool yb | 6 => v = .bool true | 7 => v = .bool true | 8 => v = .slice Ab b.length cb | 9 => v = .slice Ac cc.length c3 | 10 => v = .bool pq | 11 => v = .agg cs | 12 => v = .agg ds | 13 => v = .bool pq | 14 => v = .bool true | 15 => v = .bool true | 16 => v = .bool true | 17 => v = .string ⟨sp.toArray⟩ | 18 => v = .int .i64 (k : Int) | 19 => v = .string ⟨(sp.take k).toArray⟩ | 20 => v = .string ⟨sq.toArray⟩ | 21 => v = .int .i64 (k : Int) | 22 => v = .string ⟨(sq.take k).toArray⟩ | 23 => v = .bool pq | 24 => v = .agg cs | 25 => v = .agg ds | 26 => v = .bool pq | 27 => v = .bool true | 28 => v = .bool true | 29 => v = .bool true | _ => True) (by kernel_rfl) (by kernel_rfl) (by kernel_rfl) ?_ ?_ ?_
      · intro i v W W' h _
        iterate 30 (rcases i with _ | i; · exact h)
        exact h
      · refine ⟨?_, ?_, ?_, ?_, ?_, ?_, ?_, ?_, ?_, ?_, ?_, ?_, ?_, ?_, ?_, ?_, ?_, ?_, ?_, ?_, ?_, ?_, ?_, ?_, ?_, ?_, ?_, ?_, ?_, ?_, trivial⟩
        · intro vs A' W hA hW hd K hK
          refine wpOp_free _ rfl rfl ?_
          have e16 : A'.tmps[16]?.getD undef = .int .i64 E := slot_is hA (by kernel_rfl) (Nat.le_of_ble_eq_true (by kernel_rfl)) (by kernel_rfl)
          go_step
          exact hK _ _ (Kp.refl _ _) rfl
        · intro vs A' W hA hW hd K hK
          refine wpOp_free _ rfl rfl ?_
          have f0 : vs 0 = .int .i64 E := hd 0 (by kernel_rfl)
          have e78 : A'.tmps[78]?.getD undef = vs 0 := slot_is hA (by kernel_rfl) (Nat.le_of_ble_eq_true (by kernel_rfl)) (by kernel_rfl)
          rw [f0] at e78
          go_step
          refine (num19_any _ _).mono ?_
          rintro e w' ⟨rfl, rfl⟩
          exact hK _ _ (Kp.refl _ _) rfl
        · intro vs A' W hA hW hd K hK
          refine wpOp_free _ rfl rfl ?_
          have f1 : vs 1 = .int .i64 E := hd 1 (by kernel_rfl)
          have e79 : A'.tmps[79]?.getD undef = vs 1 := slot_is hA (by kernel_rfl) (Nat.le_of_ble_eq_true (by kernel_rfl)) (by kernel_rfl)
          rw [f1] at e79
          have q := HE290.out
          go_step
          exact hK _ _ (Kp.refl _ _) rfl
        · intro vs A' W hA hW hd K hK
          refine wpOp_free _ rfl rfl ?_
          have e14 : A'.tmps[14]?.getD undef = .slice Ax b.length cx := slot_is hA (by kernel_rfl) (Nat.le_of_ble_eq_true (by kernel_rfl)) (by kernel_rfl)
          go_step
          exact hK _ _ (Kp.refl _ _) rfl
        · intro vs A' W hA hW hd K hK
          refine wpOp_free _ rfl rfl ?_
          have e9 : A'.tmps[9]?.getD undef = .slice Ab b.length cb := slot_is hA (by kernel_rfl) (Nat.le_of_ble_eq_true (by kernel_rfl)) (by kernel_rfl)
          go_step
          exact hK _ _ (Kp.refl _ _) rfl
        · intro vs A' W hA hW hd K hK
          refine wpOp_free _ rfl rfl ?_
          have f3 : vs 3 = .slice Ax b.length cx := hd 3 (by kernel_rfl)
          have e81 : A'.tmps[81]?.getD undef = vs 3 := slot_is hA (by kernel_rfl) (Nat.le_of_ble_eq_true (by kernel_rfl)) (by kernel_rfl)
          rw [f3] at e81
          have f4 : vs 4 = .slice Ab b.length cb := hd 4 (by kernel_rfl)
          have e82 : A'.tmps[82]?.getD undef = vs 4 := slot_is hA (by kernel_rfl) (Nat.le_of_ble_eq_true (by kernel_rfl)) (by kernel_rfl)
          rw [f4] at e82
          go_step
          refine (same_any _ _ x b b.length b.length W (Rd.of_own (ow_kp (SR.out.at_ (l1 := [])) ((Kp.refl [] _).drew.trans hW (by simp)) (by simp))) (Rd.of_own (ow_kp (SR.out.at_ (l1 := [_, _])) ((Kp.refl [] _).drew.trans hW (by simp)) (by simp)))).mono ?_
          rintro e w' ⟨rfl, rfl⟩
          rw [HYB.out]
          exact hK _ _ (Kp.refl _ _) rfl
        · intro vs A' W hA hW hd K hK
          refine wpOp_free _ rfl rfl ?_
          have f2 : vs 2 = .bool (!yb) := hd 2 (by kernel_rfl)
          have e80 : A'.tmps[80]?.getD undef = vs 2 := slot_is hA (by kernel_rfl) (Nat.le_of_ble_eq_true (by kernel_rfl)) (by kernel_rfl)
          rw [f2] at e80
          have f5 : vs 5 = .bool yb := hd 5 (by kernel_rfl)
          have e83 : A'.tmps[83]?.getD undef = vs 5 := slot_is hA (by kernel_rfl) (Nat.le_of_ble_eq_true (by kernel_rfl)) (by kernel_rfl)
          rw [f5] at e83
          have q : ((!yb) != yb) = true := by cases yb <;> rfl
          go_step
          exact hK _ _ (Kp.refl _ _) rfl
        · intro vs A' W hA hW hd K hK
          refine wpOp_free _ rfl rfl ?_
          have f6 : vs 6 = .bool true := hd 6 (by kernel_rfl)
          have e84 : A'.tmps[84]?.getD undef = vs 6 := slot_is hA (by kernel_rfl) (Nat.le_of_ble_eq_true (by kernel_rfl)) (by kernel_rfl)
          rw [f6] at e84
          go_step
          exact hK _ _ (Kp.refl _ _) rfl
        · intro vs A' W hA hW hd K hK
          have f7 : vs 7 = .bool true := hd 7 (by kernel_rfl)
          have e85 : A'.tmps[85]?.getD undef = vs 7 := slot_is hA (by kernel_rfl) (Nat.le_of_ble_eq_true (by kernel_rfl)) (by kernel_rfl)
          rw [f7] at e85
          refine wpOp_go _ rfl 7 85 true rfl rfl e85 ?_
          have e9 : A'.tmps[9]?.getD undef = .slice Ab b.length cb := slot_is hA (by kernel_rfl) (Nat.le_of_ble_eq_true (by kernel_rfl)) (by kernel_rfl)
          go_step
          exact hK _ _ (Kp.refl _ _) rfl
        · intro vs A' W hA hW hd K hK
          have f7 : vs 7 = .bool true := hd 7 (by kernel_rfl)
          have e85 : A'.tmps[85]?.getD undef = vs 7 := slot_is hA (by kernel_rfl) (Nat.le_of_ble_eq_true (by kernel_rfl)) (by kernel_rfl)
          rw [f7] at e85
          refine wpOp_go _ rfl 7 85 true rfl rfl e85 ?_
          have e11 : A'.tmps[11]?.getD undef = .slice Ac cc.length c3 := slot_is hA (by kernel_rfl) (Nat.le_of_ble_eq_true (by kernel_rfl)) (by kernel_rfl)
          go_step
          exact hK _ _ (Kp.refl _ _) rfl
        · intro vs A' W hA hW hd K hK
          have f7 : vs 7 = .bool true := hd 7 (by kernel_rfl)
          have e85 : A'.tmps[85]?.getD undef = vs 7 := slot_is hA (by kernel_rfl) (Nat.le_of_ble_eq_true (by kernel_rfl)) (by kernel_rfl)
          rw [f7] at e85
          refine wpOp_go _ rfl 7 85 true rfl rfl e85 ?_
          have f8 : vs 8 = .slice Ab b.length cb := hd 8 (by kernel_rfl)
          have e86 : A'.tmps[86]?.getD undef = vs 8 := slot_is hA (by kernel_rfl) (Nat.le_of_ble_eq_true (by kernel_rfl)) (by kernel_rfl)
          rw [f8] at e86
          have f9 : vs 9 = .slice Ac cc.length c3 := hd 9 (by kernel_rfl)
          have e87 : A'.tmps[87]?.getD undef = vs 9 := slot_is hA (by kernel_rfl) (Nat.le_of_ble_eq_true (by kernel_rfl)) (by kernel_rfl)
          rw [f9] at e87
          go_step
          refine (same_any _ _ b cc b.length cc.length W (Rd.of_own (ow_kp (SR.out.at_ (l1 := [_, _])) ((Kp.refl [] _).drew.trans hW (by simp)) (by simp))) (Rd.of_own (ow_kp (SR.out.at_ (l1 := [_])) ((Kp.refl [] _).drew.trans hW (by simp)) (by simp)))).mono ?_
          rintro e w' ⟨rfl, rfl⟩
          rw [HBC.out]
          exact hK _ _ (Kp.refl _ _) rfl
        · intro vs A' W hA hW hd K hK
          have f7 : vs 7 = .bool true := hd 7 (by kernel_rfl)
          have e85 : A'.tmps[85]?.getD undef = vs 7 := slot_is hA (by kernel_rfl) (Nat.le_of_ble_eq_true (by kernel_rfl)) (by kernel_rfl)
          rw [f7] at e85
          refine wpOp_go _ rfl 7 85 true rfl rfl e85 ?_
          have e4 : A'.tmps[4]?.getD undef = .pointer (some ⟨g4, 0, none⟩) := slot_is hA (by kernel_rfl) (Nat.le_of_ble_eq_true (by kernel_rfl)) (by kernel_rfl)
          refine op_runs (v := .agg cs) (w' := W) (exec_load rfl (by simpa [Act.eval] using e4) (run_loadAt_agg W ⟨g4, 0, none⟩ 25 (cs).toList _ (Blk.agg (Blk.kp (SR.out.at_ (l1 := [_, _, _, _])).drew hW (by simp))) Tryd.underlying25 rfl (by rw [Array.length_toList, HPsz.out]; exact Tryd.infoPointP))) ?_
          exact hK _ _ (Kp.refl _ _) rfl
        · intro vs A' W hA hW hd K hK
          have f7 : vs 7 = .bool true := hd 7 (by kernel_rfl)
          have e85 : A'.tmps[85]?.getD undef = vs 7 := slot_is hA (by kernel_rfl) (Nat.le_of_ble_eq_true (by kernel_rfl)) (by kernel_rfl)
          rw [f7] at e85
          refine wpOp_go _ rfl 7 85 true rfl rfl e85 ?_
          have e5 : A'.tmps[5]?.getD undef = .pointer (some ⟨g5, 0, none⟩) := slot_is hA (by kernel_rfl) (Nat.le_of_ble_eq_true (by kernel_rfl)) (by kernel_rfl)
          refine op_runs (v := .agg ds) (w' := W) (exec_load rfl (by simpa [Act.eval] using e5) (run_loadAt_agg W ⟨g5, 0, none⟩ 25 (ds).toList _ (Blk.agg (Blk.kp (SR.out.at_ (l1 := [_, _, _])).drew hW (by simp))) Tryd.underlying25 rfl (by rw [Array.length_toList, HQsz.out]; exact Tryd.infoPointP))) ?_
          exact hK _ _ (Kp.refl _ _) rfl
        · intro vs A' W hA hW hd K hK
          have f7 : vs 7 = .bool true := hd 7 (by kernel_rfl)
          have e85 : A'.tmps[85]?.getD undef = vs 7 := slot_is hA (by kernel_rfl) (Nat.le_of_ble_eq_true (by kernel_rfl)) (by kernel_rfl)
          rw [f7] at e85
          refine wpOp_go _ rfl 7 85 true rfl rfl e85 ?_
          have f11 : vs 11 = .agg cs := hd 11 (by kernel_rfl)
          have e89 : A'.tmps[89]?.getD undef = vs 11 := slot_is hA (by kernel_rfl) (Nat.le_of_ble_eq_true (by kernel_rfl)) (by kernel_rfl)
          rw [f11] at e89
          have f12 : vs 12 = .agg ds := hd 12 (by kernel_rfl)
          have e90 : A'.tmps[90]?.getD undef = vs 12 := slot_is hA (by kernel_rfl) (Nat.le_of_ble_eq_true (by kernel_rfl)) (by kernel_rfl)
          rw [f12] at e90
          refine op_runs (v := .bool pq) (w' := W) (exec_bin_agg rfl (by simpa [Act.eval] using e89) (by simpa [Act.eval] using e90) Tryd.eqGuardType25 (HPQ.out W)) ?_
          exact hK _ _ (Kp.refl _ _) rfl
        · intro vs A' W hA hW hd K hK
          have f7 : vs 7 = .bool true := hd 7 (by kernel_rfl)
          have e85 : A'.tmps[85]?.getD undef = vs 7 := slot_is hA (by kernel_rfl) (Nat.le_of_ble_eq_true (by kernel_rfl)) (by kernel_rfl)
          rw [f7] at e85
          refine wpOp_go _ rfl 7 85 true rfl rfl e85 ?_
          have f10 : vs 10 = .bool pq := hd 10 (by kernel_rfl)
          have e88 : A'.tmps[88]?.getD undef = vs 10 := slot_is hA (by kernel_rfl) (Nat.le_of_ble_eq_true (by kernel_rfl)) (by kernel_rfl)
          rw [f10] at e88
          have f13 : vs 13 = .bool pq := hd 13 (by kernel_rfl)
          have e91 : A'.tmps[91]?.getD undef = vs 13 := slot_is hA (by kernel_rfl) (Nat.le_of_ble_eq_true (by kernel_rfl)) (by kernel_rfl)
          rw [f13] at e91
          have q : (pq == pq) = true := beq_self_eq_true pq
          go_step
          exact hK _ _ (Kp.refl _ _) rfl
        · intro vs A' W hA hW hd K hK
          refine wpOp_free _ rfl rfl ?_
          have f7 : vs 7 = .bool true := hd 7 (by kernel_rfl)
          have e85 : A'.tmps[85]?.getD undef = vs 7 := slot_is hA (by kernel_rfl) (Nat.le_of_ble_eq_true (by kernel_rfl)) (by kernel_rfl)
          rw [f7] at e85
          have f14 : vs 14 = .bool true := hd 14 (by kernel_rfl)
          have e92 : A'.tmps[92]?.getD undef = vs 14 := slot_is hA (by kernel_rfl) (Nat.le_of_ble_eq_true (by kernel_rfl)) (by kernel_rfl)
          rw [f14] at e92
          go_step
          exact hK _ _ (Kp.refl _ _) rfl
        · intro vs A' W hA hW hd K hK
          refine wpOp_free _ rfl rfl ?_
          have f15 : vs 15 = .bool true := hd 15 (by kernel_rfl)
          have e93 : A'.tmps[93]?.getD undef = vs 15 := slot_is hA (by kernel_rfl) (Nat.le_of_ble_eq_true (by kernel_rfl)) (by kernel_rfl)
          rw [f15] at e93
          go_step
          exact hK _ _ (Kp.refl _ _) rfl
        · intro vs A' W hA hW hd K hK
          have f16 : vs 16 = .bool true := hd 16 (by kernel_rfl)
          have e94 : A'.tmps[94]?.getD undef = vs 16 := slot_is hA (by kernel_rfl) (Nat.le_of_ble_eq_true (by kernel_rfl)) (by kernel_rfl)
          rw [f16] at e94
          refine wpOp_go _ rfl 16 94 true rfl rfl e94 ?_
          have e17 : A'.tmps[17]?.getD undef = .string ⟨sp.toArray⟩ := slot_is hA (by kernel_rfl) (Nat.le_of_ble_eq_true (by kernel_rfl)) (by kernel_rfl)
          go_step
          exact hK _ _ (Kp.refl _ _) rfl
        · intro vs A' W hA hW hd K hK
          have f16 : vs 16 = .bool true := hd 16 (by kernel_rfl)
          have e94 : A'.tmps[94]?.getD undef = vs 16 := slot_is hA (by kernel_rfl) (Nat.le_of_ble_eq_true (by kernel_rfl)) (by kernel_rfl)
          rw [f16] at e94
          refine wpOp_go _ rfl 16 94 true rfl rfl e94 ?_
          have e21 : A'.tmps[21]?.getD undef = .int .i64 (k : Int) := slot_is hA (by kernel_rfl) (Nat.le_of_ble_eq_true (by kernel_rfl)) (by kernel_rfl)
          go_step
          exact hK _ _ (Kp.refl _ _) rfl
        · intro vs A' W hA hW hd K hK
          have f16 : vs 16 = .bool true := hd 16 (by kernel_rfl)
          have e94 : A'.tmps[94]?.getD undef = vs 16 := slot_is hA (by kernel_rfl) (Nat.le_of_ble_eq_true (by kernel_rfl)) (by kernel_rfl)
          rw [f16] at e94
          refine wpOp_go _ rfl 16 94 true rfl rfl e94 ?_
          have f17 : vs 17 = .string ⟨sp.toArray⟩ := hd 17 (by kernel_rfl)
          have e95 : A'.tmps[95]?.getD undef = vs 17 := slot_is hA (by kernel_rfl) (Nat.le_of_ble_eq_true (by kernel_rfl)) (by kernel_rfl)
          rw [f17] at e95
          have f18 : vs 18 = .int .i64 (k : Int) := hd 18 (by kernel_rfl)
          have e96 : A'.tmps[96]?.getD undef = vs 18 := slot_is hA (by kernel_rfl) (Nat.le_of_ble_eq_true (by kernel_rfl)) (by kernel_rfl)
          rw [f18] at e96
          have q1 := HN.out.1
          have q := HX1.out
          have q0 : 0 ≤ (k : Int) := by omega
          go_step
          exact hK _ _ (Kp.refl _ _) rfl
        · intro vs A' W hA hW hd K hK
          have f16 : vs 16 = .bool true := hd 16 (by kernel_rfl)
          have e94 : A'.tmps[94]?.getD undef = vs 16 := slot_is hA (by kernel_rfl) (Nat.le_of_ble_eq_true (by kernel_rfl)) (by kernel_rfl)
          rw [f16] at e94
          refine wpOp_go _ rfl 16 94 true rfl rfl e94 ?_
          have e19 : A'.tmps[19]?.getD undef = .string ⟨sq.toArray⟩ := slot_is hA (by kernel_rfl) (Nat.le_of_ble_eq_true (by kernel_rfl)) (by kernel_rfl)
          go_step
          exact hK _ _ (Kp.refl _ _) rfl
        · intro vs A' W hA hW hd K hK
          have f16 : vs 16 = .bool true := hd 16 (by kernel_rfl)
          have e94 : A'.tmps[94]?.getD undef = vs 16 := slot_is hA (by kernel_rfl) (Nat.le_of_ble_eq_true (by kernel_rfl)) (by kernel_rfl)
          rw [f16] at e94
          refine wpOp_go _ rfl 16 94 true rfl rfl e94 ?_
          have e21 : A'.tmps[21]?.getD undef = .int .i64 (k : Int) := slot_is hA (by kernel_rfl) (Nat.le_of_ble_eq_true (by kernel_rfl)) (by kernel_rfl)
          go_step
          exact hK _ _ (Kp.refl _ _) rfl
        · intro vs A' W hA hW hd K hK
          have f16 : vs 16 = .bool true := hd 16 (by kernel_rfl)
          have e94 : A'.tmps[94]?.getD undef = vs 16 := slot_is hA (by kernel_rfl) (Nat.le_of_ble_eq_true (by kernel_rfl)) (by kernel_rfl)
          rw [f16] at e94
          refine wpOp_go _ rfl 16 94 true rfl rfl e94 ?_
          have f20 : vs 20 = .string ⟨sq.toArray⟩ := hd 20 (by kernel_rfl)
          have e98 : A'.tmps[98]?.getD undef = vs 20 := slot_is hA (by kernel_rfl) (Nat.le_of_ble_eq_true (by kernel_rfl)) (by kernel_rfl)
          rw [f20] at e98
          have f21 : vs 21 = .int .i64 (k : Int) := hd 21 (by kernel_rfl)
          have e99 : A'.tmps[99]?.getD undef = vs 21 := slot_is hA (by kernel_rfl) (Nat.le_of_ble_eq_true (by kernel_rfl)) (by kernel_rfl)
          rw [f21] at e99
          have q1 := HN.out.2
          have q := HX2.out
          have q0 : 0 ≤ (k : Int) := by omega
          go_step
          exact hK _ _ (Kp.refl _ _) rfl
        · intro vs A' W hA hW hd K hK
          have f16 : vs 16 = .bool true := hd 16 (by kernel_rfl)
          have e94 : A'.tmps[94]?.getD undef = vs 16 := slot_is hA (by kernel_rfl) (Nat.le_of_ble_eq_true (by kernel_rfl)) (by kernel_rfl)
          rw [f16] at e94
          refine wpOp_go _ rfl 16 94 true rfl rfl e94 ?_
          have f19 : vs 19 = .string ⟨(sp.take k).toArray⟩ := hd 19 (by kernel_rfl)
          have e97 : A'.tmps[97]?.getD undef = vs 19 := slot_is hA (by kernel_rfl) (Nat.le_of_ble_eq_true (by kernel_rfl)) (by kernel_rfl)
          rw [f19] at e97
          have f22 : vs 22 = .string ⟨(sq.take k).toArray⟩ := hd 22 (by kernel_rfl)
          have e100 : A'.tmps[100]?.getD undef = vs 22 := slot_is hA (by kernel_rfl) (Nat.le_of_ble_eq_true (by kernel_rfl)) (by kernel_rfl)
          rw [f22] at e100
          go_step
          exact hK _ _ (Kp.refl _ _) (congrArg Value.bool HTK.out)
        · intro vs A' W hA hW hd K hK
          have f16 : vs 16 = .bool true := hd 16 (by kernel_rfl)
          have e94 : A'.tmps[94]?.getD undef = vs 16 := slot_is hA (by kernel_rfl) (Nat.le_of_ble_eq_true (by kernel_rfl)) (by kernel_rfl)
          rw [f16] at e94
          refine wpOp_go _ rfl 16 94 true rfl rfl e94 ?_
          have e4 : A'.tmps[4]?.getD undef = .pointer (some ⟨g4, 0, none⟩) := slot_is hA (by kernel_rfl) (Nat.le_of_ble_eq_true (by kernel_rfl)) (by kernel_rfl)
          refine op_runs (v := .agg cs) (w' := W) (exec_load rfl (by simpa [Act.eval] using e4) (run_loadAt_agg W ⟨g4, 0, none⟩ 25 (cs).toList _ (Blk.agg (Blk.kp (SR.out.at_ (l1 := [_, _, _, _])).drew hW (by simp))) Tryd.underlying25 rfl (by rw [Array.length_toList, HPsz.out]; exact Tryd.infoPointP))) ?_
          exact hK _ _ (Kp.refl _ _) rfl
        · intro vs A' W hA hW hd K hK
          have f16 : vs 16 = .bool true := hd 16 (by kernel_rfl)
          have e94 : A'.tmps[94]?.getD undef = vs 16 := slot_is hA (by kernel_rfl) (Nat.le_of_ble_eq_true (by kernel_rfl)) (by kernel_rfl)
          rw [f16] at e94
          refine wpOp_go _ rfl 16 94 true rfl rfl e94 ?_
          have e5 : A'.tmps[5]?.getD undef = .pointer (some ⟨g5, 0, none⟩) := slot_is hA (by kernel_rfl) (Nat.le_of_ble_eq_true (by kernel_rfl)) (by kernel_rfl)
          refine op_runs (v := .agg ds) (w' := W) (exec_load rfl (by simpa [Act.eval] using e5) (run_loadAt_agg W ⟨g5, 0, none⟩ 25 (ds).toList _ (Blk.agg (Blk.kp (SR.out.at_ (l1 := [_, _, _])).drew hW (by simp))) Tryd.underlying25 rfl (by rw [Array.length_toList, HQsz.out]; exact Tryd.infoPointP))) ?_
          exact hK _ _ (Kp.refl _ _) rfl
        · intro vs A' W hA hW hd K hK
          have f16 : vs 16 = .bool true := hd 16 (by kernel_rfl)
          have e94 : A'.tmps[94]?.getD undef = vs 16 := slot_is hA (by kernel_rfl) (Nat.le_of_ble_eq_true (by kernel_rfl)) (by kernel_rfl)
          rw [f16] at e94
          refine wpOp_go _ rfl 16 94 true rfl rfl e94 ?_
          have f24 : vs 24 = .agg cs := hd 24 (by kernel_rfl)
          have e102 : A'.tmps[102]?.getD undef = vs 24 := slot_is hA (by kernel_rfl) (Nat.le_of_ble_eq_true (by kernel_rfl)) (by kernel_rfl)
          rw [f24] at e102
          have f25 : vs 25 = .agg ds := hd 25 (by kernel_rfl)
          have e103 : A'.tmps[103]?.getD undef = vs 25 := slot_is hA (by kernel_rfl) (Nat.le_of_ble_eq_true (by kernel_rfl)) (by kernel_rfl)
          rw [f25] at e103
          refine op_runs (v := .bool pq) (w' := W) (exec_bin_agg rfl (by simpa [Act.eval] using e102) (by simpa [Act.eval] using e103) Tryd.eqGuardType25 (HPQ.out W)) ?_
          exact hK _ _ (Kp.refl _ _) rfl
        · intro vs A' W hA hW hd K hK
          have f16 : vs 16 = .bool true := hd 16 (by kernel_rfl)
          have e94 : A'.tmps[94]?.getD undef = vs 16 := slot_is hA (by kernel_rfl) (Nat.le_of_ble_eq_true (by kernel_rfl)) (by kernel_rfl)
          rw [f16] at e94
          refine wpOp_go _ rfl 16 94 true rfl rfl e94 ?_
          have f23 : vs 23 = .bool pq := hd 23 (by kernel_rfl)
          have e101 : A'.tmps[101]?.getD undef = vs 23 := slot_is hA (by kernel_rfl) (Nat.le_of_ble_eq_true (by kernel_rfl)) (by kernel_rfl)
          rw [f23] at e101
          have f26 : vs 26 = .bool pq := hd 26 (by kernel_rfl)
          have e104 : A'.tmps[104]?.getD undef = vs 26 := slot_is hA (by kernel_rfl) (Nat.le_of_ble_eq_true (by kernel_rfl)) (by kernel_rfl)
          rw [f26] at e104
          have q : (pq == pq) = true := beq_self_eq_true pq
          go_step
          exact hK _ _ (Kp.refl _ _) rfl
        · intro vs A' W hA hW hd K hK
          refine wpOp_free _ rfl rfl ?_
          have f16 : vs 16 = .bool true := hd 16 (by kernel_rfl)
          have e94 : A'.tmps[94]?.getD undef = vs 16 := slot_is hA (by kernel_rfl) (Nat.le_of_ble_eq_true (by kernel_rfl)) (by kernel_rfl)
          rw [f16] at e94
          have f27 : vs 27 = .bool true := hd 27 (by kernel_rfl)
          have e105 : A'.tmps[105]?.getD undef = vs 27 := slot_is hA (by kernel_rfl) (Nat.le_of_ble_eq_true (by kernel_rfl)) (by kernel_rfl)
          rw [f27] at e105
          go_step
          exact hK _ _ (Kp.refl _ _) rfl
        · intro vs A' W hA hW hd K hK
          refine wpOp_free _ rfl rfl ?_
          have f28 : vs 28 = .bool true := hd 28 (by kernel_rfl)
          have e106 : A'.tmps[106]?.getD undef = vs 28 := slot_is hA (by kernel_rfl) (Nat.le_of_ble_eq_true (by kernel_rfl)) (by kernel_rfl)
          rw [f28] at e106
          go_step
          exact hK _ _ (Kp.refl _ _) rfl
      · intro vs W hW hp
        have p29 : vs 29 = .bool true := hp 29 (Nat.le_of_ble_eq_true rfl)
        clear hp
        have S15 := Lib.hid (SR.out.kp ((Kp.refl [] _).drew.trans hW (by simp)))
        simp only [putAll, p29, Act.put, List.setIfInBounds_toArray, List.set_cons_succ, List.set_cons_zero]
        clear p29 hW SR
      -- END pturned15
        go_wp2_with fail
        go_ret
        exact ⟨rfl, S15.out.k⟩
end Go.Proofs.YtolfckhjfadhdaaDoor
