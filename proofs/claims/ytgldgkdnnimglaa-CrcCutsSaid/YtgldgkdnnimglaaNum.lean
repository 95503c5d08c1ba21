/- Numbers as bytes: the plain mathematics; nothing of the program. -/
import Derived.Test.YtgldgkdnnimglaaMem
namespace Go.Proofs.Ytgldgkdnnimglaa

/-- The form of a number in so many bytes, the highest first. -/
def be : Nat → Nat → List UInt8
  | 0, _ => []
  | k + 1, x => UInt8.ofNat (x / 256 ^ k) :: be k x
@[simp] theorem be_zero (x : Nat) : be 0 x = [] := rfl
theorem be_succ (k x : Nat) : be (k + 1) x = UInt8.ofNat (x / 256 ^ k) :: be k x := rfl
@[simp] theorem be_length (k x : Nat) : (be k x).length = k := by
  induction k with
  | zero => rfl
  | succ k ih => rw [be_succ, List.length_cons, ih]
/-- The first bytes of the form. -/
theorem be_take_succ (k x j : Nat) (h : j < k) : (be k x).take (k - j) = (be k x).take (k - j - 1) ++ [UInt8.ofNat (x / 256 ^ j)] := by
  induction k with
  | zero => omega
  | succ k ih =>
    rcases Nat.lt_or_ge j k with hj | hj
    · have := ih hj
      rw [be_succ, show k + 1 - j = (k - j) + 1 from by omega, List.take_succ_cons, this, show k - j + 1 - 1 = (k - j - 1) + 1 from by omega, List.take_succ_cons, List.cons_append]
    · obtain rfl : j = k := by omega
      rw [be_succ, show j + 1 - j = 1 from by omega]
      simp
/-- The number that bytes are. -/
def num (l : List UInt8) : Nat := l.foldl (fun a b => 256 * a + b.toNat) 0
theorem num_snoc (l : List UInt8) (b : UInt8) : num (l ++ [b]) = 256 * num l + b.toNat := by simp [num]
@[simp] theorem num_nil : num [] = 0 := rfl
theorem num_take (l : List UInt8) (i : Nat) (h : i < l.length) : num (l.take (i + 1)) = 256 * num (l.take i) + l[i].toNat := by
  rw [List.take_succ_eq_append_getElem h, num_snoc]
theorem num_from (b : List UInt8) : ∀ x : Nat, b.foldl (fun a b => 256 * a + b.toNat) x = x * 256 ^ b.length + num b := by
  induction b with
  | nil => intro x; simp
  | cons y b ih =>
    intro x
    have h1 : num (y :: b) = y.toNat * 256 ^ b.length + num b := by
      show (y :: b).foldl (fun a b => 256 * a + b.toNat) 0 = _
      rw [List.foldl_cons, ih]; simp
    rw [List.foldl_cons, ih, h1, List.length_cons, Nat.pow_succ, Nat.add_mul, Nat.mul_comm 256 x, Nat.mul_assoc, Nat.mul_comm 256, Nat.add_assoc]
theorem num_append (a b : List UInt8) : num (a ++ b) = num a * 256 ^ b.length + num b := by
  unfold num
  rw [List.foldl_append]
  exact num_from b _
theorem num_cons (y : UInt8) (b : List UInt8) : num (y :: b) = y.toNat * 256 ^ b.length + num b := by
  have := num_append [y] b
  simpa [num] using this
theorem num_lt (l : List UInt8) : num l < 256 ^ l.length := by
  induction l with
  | nil => simp
  | cons x b ih =>
    rw [num_cons, List.length_cons, Nat.pow_succ]
    have h1 := x.toNat_lt
    have h2 : x.toNat * 256 ^ b.length ≤ 255 * 256 ^ b.length := Nat.mul_le_mul_right _ (by omega)
    omega
theorem num_be (k x : Nat) : num (be k x) = x % 256 ^ k := by
  induction k with
  | zero => simp [Nat.mod_one]
  | succ k ih =>
    rw [be_succ, ← List.singleton_append, num_append, ih, be_length]
    have : num [UInt8.ofNat (x / 256 ^ k)] = x / 256 ^ k % 256 := by simp [num, UInt8.toNat_ofNat']
    rw [this, Nat.mod_pow_succ, Nat.mul_comm, Nat.add_comm]
theorem num_be_lt {k x : Nat} (h : x < 256 ^ k) : num (be k x) = x := by rw [num_be, Nat.mod_eq_of_lt h]
end Go.Proofs.Ytgldgkdnnimglaa
