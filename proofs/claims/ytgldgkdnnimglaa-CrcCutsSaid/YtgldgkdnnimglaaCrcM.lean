/- Crc: the plain mathematics: steps, moves, sums; nothing of the program. -/
import Derived.Test.YtgldgkdnnimglaaMem
namespace Go.Proofs.Ytgldgkdnnimglaa

/-- n times. -/
def itn {α : Type} (f : α → α) : Nat → α → α
  | 0, x => x
  | n + 1, x => itn f n (f x)
theorem itn_add {α : Type} (f : α → α) (m n : Nat) (x : α) : itn f (m + n) x = itn f n (itn f m x) := by
  induction m generalizing x with
  | zero => rw [Nat.zero_add]; rfl
  | succ m ih => rw [Nat.succ_add]; exact ih (f x)
theorem itn_succ {α : Type} (f : α → α) (n : Nat) (x : α) : itn f (n + 1) x = f (itn f n x) := itn_add f n 1 x
theorem itn_mul {α : Type} (f : α → α) (m n : Nat) (x : α) : itn f (m * n) x = itn (itn f m) n x := by
  induction n generalizing x with
  | zero => rfl
  | succ n ih => rw [Nat.mul_succ, Nat.add_comm, itn_add, ih]; rfl

def P32 : Nat := 2197175160
/-- The step. -/
def stp (x : Nat) : Nat := (x / 2) ^^^ (x % 2 * P32)
theorem xor_div2 (a b : Nat) : (a ^^^ b) / 2 = a / 2 ^^^ b / 2 := by
  have := Nat.shiftRight_xor_distrib (a := a) (b := b) (i := 1)
  simpa [Nat.shiftRight_succ] using this
theorem xor_mod2 (a b : Nat) : (a ^^^ b) % 2 = (a % 2) ^^^ (b % 2) := by
  have := Nat.xor_mod_two_pow (a := a) (b := b) (n := 1)
  simpa using this
theorem bit_cases (a : Nat) : a % 2 = 0 ∨ a % 2 = 1 := by omega
theorem bit_mul (a b m : Nat) : ((a % 2) ^^^ (b % 2)) * m = (a % 2 * m) ^^^ (b % 2 * m) := by
  rcases bit_cases a with h | h <;> rcases bit_cases b with h' | h' <;> rw [h, h'] <;> simp
theorem xor4 (a b c d : Nat) : (a ^^^ b) ^^^ (c ^^^ d) = (a ^^^ c) ^^^ (b ^^^ d) := by
  rw [Nat.xor_assoc, Nat.xor_assoc, ← Nat.xor_assoc b c d, Nat.xor_comm b c, Nat.xor_assoc c b d]
/-- Additive: bit by bit. -/
def Lin (f : Nat → Nat) : Prop := ∀ a b, f (a ^^^ b) = f a ^^^ f b
theorem Lin.zero {f : Nat → Nat} (h : Lin f) : f 0 = 0 := by
  have := h 0 0
  rw [Nat.xor_self, Nat.xor_self] at this
  exact this
theorem Lin.comp {f g : Nat → Nat} (hf : Lin f) (hg : Lin g) : Lin fun x => f (g x) := fun a b => by simp only [hg a b, hf _ _]
theorem Lin.itn {f : Nat → Nat} (h : Lin f) (n : Nat) : Lin (itn f n) := by
  induction n with
  | zero => intro a b; rfl
  | succ n ih =>
    intro a b
    show Proofs.Ytgldgkdnnimglaa.itn f n (f (a ^^^ b)) = _
    rw [h a b]; exact ih _ _
theorem stp_lin : Lin stp := by
  intro a b
  unfold stp
  rw [xor_div2, xor_mod2, bit_mul, xor4]
theorem P32_lt : P32 < 2 ^ 32 := by decide
theorem stp_lt {x : Nat} (h : x < 2 ^ 32) : stp x < 2 ^ 32 := by
  unfold stp
  refine Nat.xor_lt_two_pow (by omega) ?_
  rcases bit_cases x with h' | h' <;> rw [h']
  · simp
  · rw [Nat.one_mul]; exact P32_lt
theorem itn_stp_lt {x : Nat} (n : Nat) (h : x < 2 ^ 32) : itn stp n x < 2 ^ 32 := by
  induction n generalizing x with
  | zero => exact h
  | succ n ih => exact ih (stp_lt h)
/-- A byte's way. -/
def eight (x : Nat) : Nat := itn stp 8 x
theorem eight_lin : Lin eight := stp_lin.itn 8
theorem eight_lt {x : Nat} (h : x < 2 ^ 32) : eight x < 2 ^ 32 := itn_stp_lt 8 h
/-- A number behind some bytes. -/
def thru (x : Nat) (l : List UInt8) : Nat := l.foldl (fun x c => eight (x ^^^ c.toNat)) x
theorem thru_nil (x : Nat) : thru x [] = x := rfl
theorem thru_cons (x : Nat) (c : UInt8) (l : List UInt8) : thru x (c :: l) = thru (eight (x ^^^ c.toNat)) l := rfl
theorem thru_append (x : Nat) (a b : List UInt8) : thru x (a ++ b) = thru (thru x a) b := by simp [thru]
theorem thru_snoc (x : Nat) (a : List UInt8) (c : UInt8) : thru x (a ++ [c]) = eight (thru x a ^^^ c.toNat) := by rw [thru_append]; rfl
theorem u8_lt32 (c : UInt8) : c.toNat < 2 ^ 32 := Nat.lt_trans c.toNat_lt (by decide)
theorem thru_lt {x : Nat} (l : List UInt8) (h : x < 2 ^ 32) : thru x l < 2 ^ 32 := by
  induction l generalizing x with
  | nil => exact h
  | cons c l ih => exact ih (eight_lt (Nat.xor_lt_two_pow h (u8_lt32 c)))
/-- Two numbers behind the same bytes. -/
theorem thru_xor (x y : Nat) (l : List UInt8) : thru (x ^^^ y) l = thru x l ^^^ itn stp (8 * l.length) y := by
  induction l generalizing x y with
  | nil => rfl
  | cons c l ih =>
    rw [thru_cons, thru_cons, List.length_cons, Nat.mul_succ, Nat.add_comm, itn_add]
    have e : x ^^^ y ^^^ c.toNat = (x ^^^ c.toNat) ^^^ y := by rw [Nat.xor_assoc, Nat.xor_comm y, ← Nat.xor_assoc]
    rw [e, eight_lin, ih]
    rfl
def not32 (x : Nat) : Nat := 4294967295 - x
theorem not32_xor {x : Nat} (h : x < 2 ^ 32) : not32 x = x ^^^ 4294967295 := by
  have h1 : (2 ^ 32 - 1 : Nat) = 4294967295 := by decide
  apply Nat.eq_of_testBit_eq
  intro i
  unfold not32
  rw [Nat.testBit_xor, ← h1, Nat.testBit_two_pow_sub_one]
  have h2 := Nat.testBit_two_pow_sub_succ (x := x) (n := 32) h i
  rw [show 2 ^ 32 - 1 - x = 2 ^ 32 - (x + 1) from by omega, h2]
  by_cases hi : i < 32
  · simp [hi]
  · have : x.testBit i = false := Nat.testBit_lt_two_pow (Nat.lt_of_lt_of_le h (Nat.pow_le_pow_right (by omega) (by omega)))
    simp [hi, this]
theorem not32_lt (x : Nat) : not32 x < 2 ^ 32 := by unfold not32; omega
theorem not32_not32 {x : Nat} (h : x < 2 ^ 32) : not32 (not32 x) = x := by unfold not32; omega
/-- The sum of a text that goes on. -/
def more (s : Nat) (l : List UInt8) : Nat := not32 (thru (not32 s) l)
def crc (l : List UInt8) : Nat := more 0 l
theorem more_lt (s : Nat) (l : List UInt8) : more s l < 2 ^ 32 := not32_lt _
theorem more_nil {s : Nat} (h : s < 2 ^ 32) : more s [] = s := not32_not32 h
theorem more_append (s : Nat) (a b : List UInt8) : more s (a ++ b) = more (more s a) b := by
  unfold more
  rw [thru_append, not32_not32 (thru_lt a (not32_lt s))]
theorem crc_append (a b : List UInt8) : crc (a ++ b) = more (crc a) b := more_append 0 a b
theorem crc_nil : crc [] = 0 := more_nil (by decide)

/-! ### Moves -/
/-- A number moved by a list of moves, a bit each. -/
def ofL : List Nat → Nat → Nat
  | [], _ => 0
  | m :: ms, x => (x % 2 * m) ^^^ ofL ms (x / 2)
def matOf (f : Nat → Nat) : List Nat := (List.range 32).map fun i => f (2 ^ i)
theorem two_parts (x k : Nat) : x * 2 ^ k = (x % 2 * 2 ^ k) ^^^ (x / 2 * 2 ^ (k + 1)) := by
  have h1 : (x / 2) <<< (k + 1) + x % 2 * 2 ^ k = (x / 2) <<< (k + 1) ||| x % 2 * 2 ^ k := Nat.shiftLeft_add_eq_or_of_lt (by
    have : x % 2 * 2 ^ k ≤ 1 * 2 ^ k := Nat.mul_le_mul_right _ (by omega)
    have h2 : (2 : Nat) ^ (k + 1) = 2 * 2 ^ k := by rw [Nat.pow_succ, Nat.mul_comm]
    have h3 : 0 < 2 ^ k := Nat.pow_pos (by omega)
    omega) _
  have h2 : (x / 2) <<< (k + 1) ||| x % 2 * 2 ^ k = (x % 2 * 2 ^ k) ^^^ (x / 2 * 2 ^ (k + 1)) := by
    rw [Nat.shiftLeft_eq]
    apply Nat.eq_of_testBit_eq
    intro i
    rw [Nat.testBit_or, Nat.testBit_xor]
    by_cases hi : i ≤ k
    · have : (x / 2 * 2 ^ (k + 1)).testBit i = false := by rw [Nat.testBit_mul_two_pow]; simp; intro h; omega
      simp [this]
    · have : (x % 2 * 2 ^ k).testBit i = false := by
        refine Nat.testBit_lt_two_pow ?_
        have h3 : x % 2 * 2 ^ k ≤ 1 * 2 ^ k := Nat.mul_le_mul_right _ (by omega)
        have h4 : (2 : Nat) ^ (k + 1) ≤ 2 ^ i := Nat.pow_le_pow_right (by omega) (by omega)
        have h5 : (2 : Nat) ^ (k + 1) = 2 * 2 ^ k := by rw [Nat.pow_succ, Nat.mul_comm]
        have h6 : 0 < 2 ^ k := Nat.pow_pos (by omega)
        omega
      simp [this]
  rw [← h2, ← h1, Nat.shiftLeft_eq]
  have h5 : (2 : Nat) ^ (k + 1) = 2 * 2 ^ k := by rw [Nat.pow_succ, Nat.mul_comm]
  rw [h5, ← Nat.mul_assoc, ← Nat.add_mul]
  congr 1
  omega
theorem ofL_range {f : Nat → Nat} (h : Lin f) : ∀ (n k x : Nat), x < 2 ^ n → ofL ((List.range' k n).map fun i => f (2 ^ i)) x = f (x * 2 ^ k)
  | 0, k, x, hx => by
    have : x = 0 := by simpa using hx
    subst this
    rw [Nat.zero_mul, h.zero]; rfl
  | n + 1, k, x, hx => by
    rw [List.range'_succ, List.map_cons, ofL, ofL_range h n (k + 1) (x / 2) (by rw [Nat.pow_succ] at hx; omega)]
    rw [two_parts x k, h]
    congr 1
    rcases bit_cases x with h' | h' <;> rw [h']
    · rw [Nat.zero_mul, Nat.zero_mul, h.zero]
    · rw [Nat.one_mul, Nat.one_mul]
theorem ofL_mat {f : Nat → Nat} (h : Lin f) {x : Nat} (hx : x < 2 ^ 32) : ofL (matOf f) x = f x := by
  have := ofL_range h 32 0 x hx
  rw [Nat.pow_zero, Nat.mul_one] at this
  rw [← this, matOf, List.range_eq_range']
def sqM (m : List Nat) : List Nat := m.map (ofL m)
theorem sqM_mat {f : Nat → Nat} (h : Lin f) (hf : ∀ x, x < 2 ^ 32 → f x < 2 ^ 32) : sqM (matOf f) = matOf fun x => f (f x) := by
  unfold sqM
  conv => lhs; arg 2; unfold matOf
  rw [List.map_map]
  unfold matOf
  apply List.map_congr_left
  intro i hi
  have hi' : i < 32 := List.mem_range.1 hi
  show ofL (matOf f) (f (2 ^ i)) = f (f (2 ^ i))
  exact ofL_mat h (hf _ (Nat.pow_lt_pow_right (by omega) hi'))
theorem matOf_inj {f g : Nat → Nat} (hf : Lin f) (hg : Lin g) (h : matOf f = matOf g) {x : Nat} (hx : x < 2 ^ 32) : f x = g x := by
  rw [← ofL_mat hf hx, ← ofL_mat hg hx, h]
/-- A byte's way, 2^k times. -/
def far (k : Nat) : Nat → Nat := itn stp (8 * 2 ^ k)
theorem far_lin (k : Nat) : Lin (far k) := stp_lin.itn _
theorem far_lt (k : Nat) {x : Nat} (h : x < 2 ^ 32) : far k x < 2 ^ 32 := itn_stp_lt _ h
theorem far_succ (k x : Nat) : far (k + 1) x = far k (far k x) := by
  unfold far
  rw [← itn_add]
  congr 1
  rw [Nat.pow_succ]; omega
theorem far_mat (k : Nat) : itn sqM k (matOf eight) = matOf (far k) := by
  induction k with
  | zero => rfl
  | succ k ih =>
    rw [itn_succ, ih, sqM_mat (far_lin k) (fun x hx => far_lt k hx)]
    congr 1
    funext x
    exact (far_succ k x).symm
set_option maxRecDepth 100000 in
theorem turn31 : itn sqM 31 (matOf eight) = matOf eight := by decide +kernel
/-- So many bytes far everything is where it was. -/
theorem far31 {x : Nat} (hx : x < 2 ^ 32) : far 31 x = eight x :=
  matOf_inj (far_lin 31) eight_lin ((far_mat 31).symm.trans turn31) hx
theorem mat31 : matOf (far 31) = matOf eight := (far_mat 31).symm.trans turn31

/-! ### Back -/
def unstp (y : Nat) : Nat := if 2147483648 ≤ y then (y ^^^ P32) * 2 + 1 else y * 2
theorem half_lt {x : Nat} (h : x < 2 ^ 32) : x / 2 < 2 ^ 31 := by omega
theorem xor_top {a : Nat} (h : a < 2 ^ 31) : 2147483648 ≤ a ^^^ P32 := by
  have h1 : (a ^^^ P32).testBit 31 = true := by
    rw [Nat.testBit_xor, Nat.testBit_lt_two_pow h]
    decide
  exact Nat.ge_two_pow_of_testBit h1
theorem unstp_stp {x : Nat} (h : x < 2 ^ 32) : unstp (stp x) = x := by
  unfold unstp stp
  have hh := half_lt h
  rcases bit_cases x with h' | h' <;> rw [h']
  · rw [Nat.zero_mul, Nat.xor_zero, if_neg (by omega)]; omega
  · rw [Nat.one_mul, if_pos (xor_top hh), Nat.xor_assoc, Nat.xor_self, Nat.xor_zero]; omega
theorem stp_unstp {y : Nat} (h : y < 2 ^ 32) : stp (unstp y) = y := by
  unfold unstp
  split
  · rename_i h1
    unfold stp
    have h2 : ((y ^^^ P32) * 2 + 1) % 2 = 1 := by omega
    have h3 : ((y ^^^ P32) * 2 + 1) / 2 = y ^^^ P32 := by omega
    rw [h2, h3, Nat.one_mul, Nat.xor_assoc, Nat.xor_self, Nat.xor_zero]
  · unfold stp
    have h2 : y * 2 % 2 = 0 := by omega
    have h3 : y * 2 / 2 = y := by omega
    rw [h2, h3, Nat.zero_mul, Nat.xor_zero]
theorem xor_bit31 {y : Nat} (h : y < 2 ^ 32) (h1 : 2147483648 ≤ y) : y ^^^ P32 < 2 ^ 31 := by
  refine Nat.lt_pow_two_of_testBit _ fun i hi => ?_
  rw [Nat.testBit_xor]
  by_cases e : i = 31
  · subst e
    have h2 : y.testBit 31 = true := by
      rw [Nat.testBit_eq_decide_div_mod_eq]
      simp
      omega
    rw [h2]; decide
  · have h2 : y.testBit i = false := Nat.testBit_lt_two_pow (Nat.lt_of_lt_of_le h (Nat.pow_le_pow_right (by omega) (by omega)))
    have h3 : P32.testBit i = false := Nat.testBit_lt_two_pow (Nat.lt_of_lt_of_le P32_lt (Nat.pow_le_pow_right (by omega) (by omega)))
    rw [h2, h3]; rfl
theorem unstp_lt {y : Nat} (h : y < 2 ^ 32) : unstp y < 2 ^ 32 := by
  unfold unstp
  split
  · rename_i h1
    have := xor_bit31 h h1
    omega
  · omega
theorem stp_inj {x y : Nat} (hx : x < 2 ^ 32) (hy : y < 2 ^ 32) (h : stp x = stp y) : x = y := by rw [← unstp_stp hx, ← unstp_stp hy, h]
theorem itn_inj {n x y : Nat} (hx : x < 2 ^ 32) (hy : y < 2 ^ 32) (h : itn stp n x = itn stp n y) : x = y := by
  induction n generalizing x y with
  | zero => exact h
  | succ n ih => exact stp_inj hx hy (ih (stp_lt hx) (stp_lt hy) h)
theorem itn_un {n x : Nat} (h : x < 2 ^ 32) : itn stp n (itn unstp n x) = x := by
  induction n generalizing x with
  | zero => rfl
  | succ n ih =>
    rw [itn_succ stp, show itn unstp (n + 1) x = itn unstp n (unstp x) from rfl, ih (unstp_lt h)]
    exact stp_unstp h
theorem itn_unstp_lt {x : Nat} (n : Nat) (h : x < 2 ^ 32) : itn unstp n x < 2 ^ 32 := by
  induction n generalizing x with
  | zero => exact h
  | succ n ih => exact ih (unstp_lt h)
theorem thru_inj {x y : Nat} (l : List UInt8) (hx : x < 2 ^ 32) (hy : y < 2 ^ 32) (h : thru x l = thru y l) : x = y := by
  have e : y = x ^^^ (x ^^^ y) := by rw [← Nat.xor_assoc, Nat.xor_self, Nat.zero_xor]
  rw [e, thru_xor] at h
  have h0 : itn stp (8 * l.length) (x ^^^ y) = 0 := by
    have := congrArg (thru x l ^^^ ·) h
    simp only [← Nat.xor_assoc, Nat.xor_self, Nat.zero_xor] at this
    exact this.symm
  have hxy : x ^^^ y < 2 ^ 32 := Nat.xor_lt_two_pow hx hy
  have := itn_inj hxy (by decide) (h0.trans ((stp_lin.itn (8 * l.length)).zero).symm)
  rw [e, this, Nat.xor_zero]
/-- The order: a byte's way, so many times, is none. -/
def ord : Nat := 2147483647
theorem way_ord {x : Nat} (hx : x < 2 ^ 32) : itn stp (8 * ord) x = x := by
  have h1 := far31 hx
  unfold far at h1
  rw [show 8 * 2 ^ 31 = 8 * ord + 8 from by decide, Nat.add_comm, itn_add] at h1
  have h2 : itn stp 8 (itn stp (8 * ord) x) = itn stp 8 x := by
    rw [← itn_add, Nat.add_comm, itn_add]; exact h1
  exact itn_inj (itn_stp_lt _ hx) hx h2
theorem way_ords {x : Nat} (k : Nat) (hx : x < 2 ^ 32) : itn stp (8 * (ord * k)) x = x := by
  induction k with
  | zero => rfl
  | succ k ih => rw [Nat.mul_succ, Nat.mul_add, itn_add, ih, way_ord hx]
/-- Carried over n bytes. -/
def carry (x n : Nat) : Nat := itn stp (8 * n) x
theorem carry_lt {x : Nat} (n : Nat) (h : x < 2 ^ 32) : carry x n < 2 ^ 32 := itn_stp_lt _ h
theorem carry_lin (n : Nat) : Lin fun x => carry x n := stp_lin.itn _
theorem carry_add (x m n : Nat) : carry x (m + n) = carry (carry x m) n := by unfold carry; rw [Nat.mul_add, itn_add]

/-! ### Polynomials: the document's way -/
/-- p behind n bits of a, from the bit 2^k down; b is stepped. -/
def timesL (a : Nat) : Nat → Nat → Nat → Nat
  | 0, _, p => p
  | n + 1, b, p => timesL a n (stp b) (p ^^^ (a / 2 ^ n % 2 * b))
def times (a b : Nat) : Nat := timesL a 32 b 0
theorem timesL_xor (a : Nat) : ∀ (n b p : Nat), timesL a n b p = p ^^^ timesL a n b 0
  | 0, b, p => (Nat.xor_zero p).symm
  | n + 1, b, p => by
    rw [timesL, timesL_xor a n (stp b) (p ^^^ _), timesL, timesL_xor a n (stp b) (0 ^^^ _), Nat.zero_xor, Nat.xor_assoc]
theorem timesL_stp (a : Nat) : ∀ (n b : Nat), timesL a n (stp b) 0 = stp (timesL a n b 0)
  | 0, b => by show 0 = stp 0; decide
  | n + 1, b => by
    rw [timesL, timesL, timesL_xor, timesL_xor a n (stp b), timesL_stp a n (stp b), stp_lin, Nat.zero_xor, Nat.zero_xor]
    congr 1
    rcases bit_cases (a / 2 ^ n) with h | h <;> rw [h]
    · rw [Nat.zero_mul, Nat.zero_mul]; decide
    · rw [Nat.one_mul, Nat.one_mul]
theorem times_stp (a b : Nat) : times a (stp b) = stp (times a b) := timesL_stp a 32 b
theorem times_itn (a b n : Nat) : times a (itn stp n b) = itn stp n (times a b) := by
  induction n with
  | zero => rfl
  | succ n ih => rw [itn_succ, itn_succ, times_stp, ih]
theorem stp_pow (n : Nat) : stp (2 ^ (n + 1)) = 2 ^ n := by
  unfold stp
  rw [Nat.pow_succ, Nat.mul_mod_left, Nat.zero_mul, Nat.xor_zero, Nat.mul_div_cancel _ (by omega)]
theorem timesL_one (a : Nat) : ∀ n, timesL a (n + 1) (2 ^ n) 0 = a % 2 ^ (n + 1)
  | 0 => by simp [timesL]
  | n + 1 => by
    rw [timesL, Nat.zero_xor, stp_pow, timesL_xor, timesL_one a n]
    have h1 : a % 2 ^ (n + 1) < 2 ^ (n + 1) := Nat.mod_lt _ (Nat.pow_pos (by omega))
    have h2 := Nat.shiftLeft_add_eq_or_of_lt h1 (a / 2 ^ (n + 1) % 2)
    rw [Nat.shiftLeft_eq] at h2
    have h3 : a / 2 ^ (n + 1) % 2 * 2 ^ (n + 1) ^^^ a % 2 ^ (n + 1) = a / 2 ^ (n + 1) % 2 * 2 ^ (n + 1) ||| a % 2 ^ (n + 1) := by
      apply Nat.eq_of_testBit_eq
      intro i
      rw [Nat.testBit_or, Nat.testBit_xor]
      by_cases hi : i < n + 1
      · have : (a / 2 ^ (n + 1) % 2 * 2 ^ (n + 1)).testBit i = false := by rw [Nat.testBit_mul_two_pow]; simp; intro h; omega
        simp [this]
      · have : (a % 2 ^ (n + 1)).testBit i = false := Nat.testBit_lt_two_pow (Nat.lt_of_lt_of_le h1 (Nat.pow_le_pow_right (by omega) (by omega)))
        simp [this]
    rw [h3, ← h2, Nat.pow_succ 2 (n + 1), Nat.mod_mul, Nat.add_comm, Nat.mul_comm]
theorem times_one {a : Nat} (h : a < 2 ^ 32) : times a (2 ^ 31) = a := by
  have := timesL_one a 31
  rw [Nat.mod_eq_of_lt h] at this
  exact this
/-- The power 8·2^k. -/
def powr (k : Nat) : Nat := itn stp (8 * 2 ^ k) (2 ^ 31)
theorem powr_zero : powr 0 = 8388608 := by decide +kernel
theorem powr_lt (k : Nat) : powr k < 2 ^ 32 := itn_stp_lt _ (by decide)
theorem times_powr {a : Nat} (k : Nat) (h : a < 2 ^ 32) : times a (powr k) = far k a := by
  unfold powr far
  rw [times_itn, times_one h]
theorem powr_succ (k : Nat) : powr (k + 1) = times (powr k) (powr k) := by
  rw [times_powr k (powr_lt k)]
  unfold powr far
  rw [← itn_add]
  congr 1
  rw [Nat.pow_succ]; omega
theorem timesL_lt {a : Nat} : ∀ (n b p : Nat), b < 2 ^ 32 → p < 2 ^ 32 → timesL a n b p < 2 ^ 32
  | 0, b, p, _, hp => hp
  | n + 1, b, p, hb, hp => by
    refine timesL_lt n (stp b) _ (stp_lt hb) (Nat.xor_lt_two_pow hp ?_)
    rcases bit_cases (a / 2 ^ n) with h | h <;> rw [h]
    · rw [Nat.zero_mul]; decide
    · rw [Nat.one_mul]; exact hb
theorem times_lt {a b : Nat} (hb : b < 2 ^ 32) : times a b < 2 ^ 32 := timesL_lt 32 b 0 hb (by decide)
/-- One bit of the count. -/
theorem carry_bit (x n k : Nat) : carry x (n % 2 ^ (k + 1)) = (if n / 2 ^ k % 2 = 1 then far k (carry x (n % 2 ^ k)) else carry x (n % 2 ^ k)) := by
  have h := Nat.mod_mul (x := n) (a := 2 ^ k) (b := 2)
  rw [← Nat.pow_succ] at h
  rw [h]
  rcases bit_cases (n / 2 ^ k) with h' | h' <;> rw [h']
  · rw [if_neg (by omega), Nat.mul_zero, Nat.add_zero]
  · rw [if_pos rfl, Nat.mul_one, carry_add]
    rfl
end Go.Proofs.Ytgldgkdnnimglaa
