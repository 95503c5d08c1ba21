/- Crc: the plain mathematics: texts xored; four bytes. -/
import Derived.Test.YtgldgkdnnimglaaCrcM
namespace Go.Proofs.Ytgldgkdnnimglaa

/-- Two texts, byte by byte. -/
def xorl (a b : List UInt8) : List UInt8 := List.zipWith (· ^^^ ·) a b
theorem xorl_length {a b : List UInt8} (h : a.length = b.length) : (xorl a b).length = a.length := by simp [xorl, h]
theorem thru_xorl : ∀ (a b : List UInt8) (x y : Nat), a.length = b.length → thru (x ^^^ y) (xorl a b) = thru x a ^^^ thru y b
  | [], [], _, _, _ => rfl
  | [], _ :: _, _, _, h => by cases h
  | _ :: _, [], _, _, h => by cases h
  | c :: a, d :: b, x, y, h => by
    show thru (eight ((x ^^^ y) ^^^ (c ^^^ d).toNat)) (xorl a b) = thru (eight (x ^^^ c.toNat)) a ^^^ thru (eight (y ^^^ d.toNat)) b
    rw [UInt8.toNat_xor, xor4, eight_lin, thru_xorl a b _ _ (by simpa using h)]
/-- A text some of whose bytes are xored. -/
theorem thru_mid (x : Nat) (a m p b : List UInt8) (h : m.length = p.length) : thru x (a ++ xorl m p ++ b) = thru x (a ++ m ++ b) ^^^ carry (thru 0 p) b.length := by
  rw [thru_append, thru_append, thru_append, thru_append]
  have h1 := thru_xorl m p (thru x a) 0 h
  rw [Nat.xor_zero] at h1
  rw [h1, thru_xor]
  rfl
theorem crc_mid (a m p b : List UInt8) (h : m.length = p.length) : crc (a ++ xorl m p ++ b) = crc (a ++ m ++ b) ^^^ carry (thru 0 p) b.length := by
  show not32 (thru (not32 0) _) = not32 (thru (not32 0) _) ^^^ _
  have l := thru_lt (x := not32 0) (a ++ xorl m p ++ b) (not32_lt 0)
  have l2 := thru_lt (x := not32 0) (a ++ m ++ b) (not32_lt 0)
  rw [not32_xor l, not32_xor l2, thru_mid _ _ _ _ _ h, Nat.xor_assoc, Nat.xor_comm (carry _ _), ← Nat.xor_assoc]
/-! ### Four bytes -/
/-- The bytes of a number, the lowest first. -/
def le4 (y : Nat) : List UInt8 := [UInt8.ofNat y, UInt8.ofNat (y / 256), UInt8.ofNat (y / 65536), UInt8.ofNat (y / 16777216)]
theorem itn_even : ∀ (n z : Nat), itn stp n (z * 2 ^ n) = z
  | 0, z => by simp [itn]
  | n + 1, z => by
    show itn stp n (stp (z * 2 ^ (n + 1))) = z
    have : stp (z * 2 ^ (n + 1)) = z * 2 ^ n := by
      unfold stp
      rw [Nat.pow_succ, ← Nat.mul_assoc, Nat.mul_mod_left, Nat.zero_mul, Nat.xor_zero, Nat.mul_div_cancel _ (by omega)]
    rw [this, itn_even n z]
theorem low_high (y : Nat) : y = (y % 256) ^^^ (y / 256 * 2 ^ 8) := by
  have h1 : y % 256 < 2 ^ 8 := Nat.mod_lt _ (by omega)
  have h2 := Nat.shiftLeft_add_eq_or_of_lt h1 (y / 256)
  rw [Nat.shiftLeft_eq] at h2
  have h3 : (y % 256) ^^^ (y / 256 * 2 ^ 8) = (y / 256 * 2 ^ 8) ||| (y % 256) := by
    apply Nat.eq_of_testBit_eq
    intro i
    rw [Nat.testBit_or, Nat.testBit_xor, Nat.testBit_mul_two_pow]
    by_cases hi : i < 8
    · simp [show ¬ 8 ≤ i by omega]
    · have : (y % 256).testBit i = false := Nat.testBit_lt_two_pow (Nat.lt_of_lt_of_le h1 (Nat.pow_le_pow_right (by omega) (by omega)))
      simp [this]
  rw [h3, ← h2]
  omega
theorem eight_low (x y : Nat) : eight (x ^^^ y) = eight (x ^^^ (y % 256)) ^^^ (y / 256) := by
  conv => lhs; rw [low_high y, ← Nat.xor_assoc, eight_lin]
  rw [show eight (y / 256 * 2 ^ 8) = y / 256 from itn_even 8 _]
theorem itn32 (x : Nat) : itn stp 32 x = eight (eight (eight (eight x))) := by
  show itn stp (8 + (8 + (8 + 8))) x = _
  rw [itn_add, itn_add, itn_add]; rfl
theorem thru_le4 (x y : Nat) (h : y < 2 ^ 32) : thru x (le4 y) = itn stp 32 (x ^^^ y) := by
  rw [itn32, eight_low x y, eight_low _ (y / 256), eight_low _ (y / 256 / 256), eight_low _ (y / 256 / 256 / 256)]
  have h0 : y / 256 / 256 / 256 / 256 = 0 := by omega
  rw [h0, Nat.xor_zero]
  unfold le4
  rw [thru_cons, thru_cons, thru_cons, thru_cons, thru_nil]
  simp only [UInt8.toNat_ofNat']
  rw [show y / 256 / 256 = y / 65536 from by omega, show y / 65536 / 256 = y / 16777216 from by omega]
theorem thru0_le4 (y : Nat) (h : y < 2 ^ 32) : thru 0 (le4 y) = itn stp 32 y := by rw [thru_le4 0 y h, Nat.zero_xor]
/-- Four bytes otherwise: another sum. -/
theorem crc_four (a m b : List UInt8) (y : Nat) (hy : y < 2 ^ 32) (h0 : y ≠ 0) (hm : m.length = 4) : crc (a ++ xorl m (le4 y) ++ b) ≠ crc (a ++ m ++ b) := by
  rw [crc_mid a m (le4 y) b hm, thru0_le4 y hy]
  intro h
  have h1 : carry (itn stp 32 y) b.length = 0 := by
    have := congrArg (crc (a ++ m ++ b) ^^^ ·) h
    simp only [← Nat.xor_assoc, Nat.xor_self, Nat.zero_xor] at this
    exact this
  unfold carry at h1
  rw [← itn_add] at h1
  exact h0 (itn_inj hy (by decide) (h1.trans ((stp_lin.itn _).zero).symm))
/-! ### Solved -/
/-- Back over a text. -/
def unthru (x : Nat) (l : List UInt8) : Nat := l.foldr (fun c x => itn unstp 8 x ^^^ c.toNat) x
theorem unthru_lt {x : Nat} (h : x < 2 ^ 32) : ∀ l, unthru x l < 2 ^ 32
  | [] => h
  | c :: l => Nat.xor_lt_two_pow (itn_unstp_lt 8 (unthru_lt h l)) (u8_lt32 c)
theorem thru_unthru {x : Nat} (h : x < 2 ^ 32) : ∀ l, thru (unthru x l) l = x
  | [] => rfl
  | c :: l => by
    rw [thru_cons]
    show thru (eight ((itn unstp 8 (unthru x l) ^^^ c.toNat) ^^^ c.toNat)) l = x
    rw [Nat.xor_assoc, Nat.xor_self, Nat.xor_zero]
    unfold eight
    rw [itn_un (unthru_lt h l)]
    exact thru_unthru h l
/-- The four bytes, as a number: a before them, b behind. -/
def solveN (a b : List UInt8) (want : Nat) : Nat := itn unstp 32 (unthru (not32 want) b) ^^^ not32 (crc a)
theorem solveN_lt (a b : List UInt8) (want : Nat) : solveN a b want < 2 ^ 32 := Nat.xor_lt_two_pow (itn_unstp_lt 32 (unthru_lt (not32_lt want) b)) (not32_lt _)
theorem not_crc (a : List UInt8) : not32 (crc a) = thru (not32 0) a := by
  show not32 (not32 _) = _
  rw [not32_not32 (thru_lt a (not32_lt 0))]
theorem crc_solved (a b : List UInt8) (want : Nat) (hw : want < 2 ^ 32) : crc (a ++ le4 (solveN a b want) ++ b) = want := by
  show not32 (thru (not32 0) _) = want
  rw [thru_append, thru_append, thru_le4 _ _ (solveN_lt a b want), ← not_crc a]
  unfold solveN
  rw [Nat.xor_comm, Nat.xor_assoc, Nat.xor_self, Nat.xor_zero, itn_un (unthru_lt (not32_lt want) b), thru_unthru (not32_lt want), not32_not32 hw]
theorem xorl_zero (l : List UInt8) : ∀ z : List UInt8, z = List.replicate l.length 0 → xorl z l = l := by
  induction l with
  | nil => intro z hz; subst hz; rfl
  | cons c l ih =>
    intro z hz
    subst hz
    rw [List.length_cons, List.replicate_succ]
    show (0 ^^^ c) :: xorl (List.replicate l.length 0) l = _
    rw [ih _ rfl, UInt8.zero_xor]
/-- The program's way. -/
theorem solve_way (a b : List UInt8) (want : Nat) (hw : want < 2 ^ 32) :
    carry (carry (crc (a ++ [0, 0, 0, 0] ++ b) ^^^ want) (ord - b.length % ord)) (ord - 4) = solveN a b want := by
  have hx := solveN_lt a b want
  have h1 := crc_mid a [0, 0, 0, 0] (le4 (solveN a b want)) b rfl
  rw [xorl_zero (le4 (solveN a b want)) [0, 0, 0, 0] rfl, crc_solved a b want hw, thru0_le4 _ hx] at h1
  have h2 : crc (a ++ [0, 0, 0, 0] ++ b) ^^^ want = itn stp (32 + 8 * b.length) (solveN a b want) := by
    conv => lhs; rw [h1]
    rw [← Nat.xor_assoc, Nat.xor_self, Nat.zero_xor, itn_add]
    rfl
  rw [h2]
  unfold carry
  rw [← itn_add, ← itn_add]
  have hm : b.length % ord < ord := Nat.mod_lt _ (by decide)
  have e : 32 + 8 * b.length + (8 * (ord - b.length % ord) + 8 * (ord - 4)) = 8 * (ord * (b.length / ord + 2)) := by
    have := Nat.div_add_mod b.length ord
    rw [Nat.mul_add ord]
    have h4 : 4 ≤ ord := by decide
    generalize ord * (b.length / ord) = q at *
    omega
  rw [e, way_ords _ hx]
end Go.Proofs.Ytgldgkdnnimglaa
