/- Several texts in one: CrcM2, WireA, WireB, WireC, WireD, WireR, WireS, WireT, RecA, RecB, Inv, WireV, RecC, WireU, WireW, WireX, WireY, WireZ, WireAA, WireAB, RecD, RecE, RecL, App, RecF, RecM, Equal, Cut. -/
import Derived.ArgAppend
import Derived.Test.YtnchjfhmalbjoaaP1
/- Crc: the plain mathematics: texts xored; four bytes. -/
namespace Go.Proofs.Ytnchjfhmalbjoaa

/-- Two texts, byte by byte. -/
def xorl (a b : List UInt8) : List UInt8 := List.zipWith (· ^^^ ·) a b
theorem xorl_length {a b : List UInt8} (h : a.length = b.length) : (xorl a b).length = a.length := by simp [xorl, h]
theorem thru_xorl : ∀ (a b : List UInt8) (x y : Nat), a.length = b.length → thru (x ^^^ y) (xorl a b) = thru x a ^^^ thru y b
  | [], [], _, _, _ => rfl
  | [], _ :: _, _, _, h => by cases h
  | _ :: _, [], _, _, h => by cases h
  | c :: a, d :: b, x, y, h => by
    show thru (eight ((x ^^^ y) ^^^ (c ^^^ d).toNat)) (xorl a b) = thru (eight (x ^^^ c.toNat)) a ^^^ thru (eight (y ^^^ d.toNat)) b
    rw [UInt8.toNat_xor, xor4, eight_lin, thru_xorl a b _ _ (by simpa using h)]
/-- A text some of whose bytes are xored. -/
theorem thru_mid (x : Nat) (a m p b : List UInt8) (h : m.length = p.length) : thru x (a ++ xorl m p ++ b) = thru x (a ++ m ++ b) ^^^ carry (thru 0 p) b.length := by
  rw [thru_append, thru_append, thru_append, thru_append]
  have h1 := thru_xorl m p (thru x a) 0 h
  rw [Nat.xor_zero] at h1
  rw [h1, thru_xor]
  rfl
theorem crc_mid (a m p b : List UInt8) (h : m.length = p.length) : crc (a ++ xorl m p ++ b) = crc (a ++ m ++ b) ^^^ carry (thru 0 p) b.length := by
  show not32 (thru (not32 0) _) = not32 (thru (not32 0) _) ^^^ _
  have l := thru_lt (x := not32 0) (a ++ xorl m p ++ b) (not32_lt 0)
  have l2 := thru_lt (x := not32 0) (a ++ m ++ b) (not32_lt 0)
  rw [not32_xor l, not32_xor l2, thru_mid _ _ _ _ _ h, Nat.xor_assoc, Nat.xor_comm (carry _ _), ← Nat.xor_assoc]
/-! ### Four bytes -/
/-- The bytes of a number, the lowest first. -/
def le4 (y : Nat) : List UInt8 := [UInt8.ofNat y, UInt8.ofNat (y / 256), UInt8.ofNat (y / 65536), UInt8.ofNat (y / 16777216)]
theorem itn_even : ∀ (n z : Nat), itn stp n (z * 2 ^ n) = z
  | 0, z => by simp [itn]
  | n + 1, z => by
    show itn stp n (stp (z * 2 ^ (n + 1))) = z
    have : stp (z * 2 ^ (n + 1)) = z * 2 ^ n := by
      unfold stp
      rw [Nat.pow_succ, ← Nat.mul_assoc, Nat.mul_mod_left, Nat.zero_mul, Nat.xor_zero, Nat.mul_div_cancel _ (by omega)]
    rw [this, itn_even n z]
theorem low_high (y : Nat) : y = (y % 256) ^^^ (y / 256 * 2 ^ 8) := by
  have h1 : y % 256 < 2 ^ 8 := Nat.mod_lt _ (by omega)
  have h2 := Nat.shiftLeft_add_eq_or_of_lt h1 (y / 256)
  rw [Nat.shiftLeft_eq] at h2
  have h3 : (y % 256) ^^^ (y / 256 * 2 ^ 8) = (y / 256 * 2 ^ 8) ||| (y % 256) := by
    apply Nat.eq_of_testBit_eq
    intro i
    rw [Nat.testBit_or, Nat.testBit_xor, Nat.testBit_mul_two_pow]
    by_cases hi : i < 8
    · simp [show ¬ 8 ≤ i by omega]
    · have : (y % 256).testBit i = false := Nat.testBit_lt_two_pow (Nat.lt_of_lt_of_le h1 (Nat.pow_le_pow_right (by omega) (by omega)))
      simp [this]
  rw [h3, ← h2]
  omega
theorem eight_low (x y : Nat) : eight (x ^^^ y) = eight (x ^^^ (y % 256)) ^^^ (y / 256) := by
  conv => lhs; rw [low_high y, ← Nat.xor_assoc, eight_lin]
  rw [show eight (y / 256 * 2 ^ 8) = y / 256 from itn_even 8 _]
theorem itn32 (x : Nat) : itn stp 32 x = eight (eight (eight (eight x))) := by
  show itn stp (8 + (8 + (8 + 8))) x = _
  rw [itn_add, itn_add, itn_add]; rfl
theorem thru_le4 (x y : Nat) (h : y < 2 ^ 32) : thru x (le4 y) = itn stp 32 (x ^^^ y) := by
  rw [itn32, eight_low x y, eight_low _ (y / 256), eight_low _ (y / 256 / 256), eight_low _ (y / 256 / 256 / 256)]
  have h0 : y / 256 / 256 / 256 / 256 = 0 := by omega
  rw [h0, Nat.xor_zero]
  unfold le4
  rw [thru_cons, thru_cons, thru_cons, thru_cons, thru_nil]
  simp only [UInt8.toNat_ofNat']
  rw [show y / 256 / 256 = y / 65536 from by omega, show y / 65536 / 256 = y / 16777216 from by omega]
theorem thru0_le4 (y : Nat) (h : y < 2 ^ 32) : thru 0 (le4 y) = itn stp 32 y := by rw [thru_le4 0 y h, Nat.zero_xor]
/-- Four bytes otherwise: another sum. -/
theorem crc_four (a m b : List UInt8) (y : Nat) (hy : y < 2 ^ 32) (h0 : y ≠ 0) (hm : m.length = 4) : crc (a ++ xorl m (le4 y) ++ b) ≠ crc (a ++ m ++ b) := by
  rw [crc_mid a m (le4 y) b hm, thru0_le4 y hy]
  intro h
  have h1 : carry (itn stp 32 y) b.length = 0 := by
    have := congrArg (crc (a ++ m ++ b) ^^^ ·) h
    simp only [← Nat.xor_assoc, Nat.xor_self, Nat.zero_xor] at this
    exact this
  unfold carry at h1
  rw [← itn_add] at h1
  exact h0 (itn_inj hy (by decide) (h1.trans ((stp_lin.itn _).zero).symm))
/-! ### Solved -/
/-- Back over a text. -/
def unthru (x : Nat) (l : List UInt8) : Nat := l.foldr (fun c x => itn unstp 8 x ^^^ c.toNat) x
theorem unthru_lt {x : Nat} (h : x < 2 ^ 32) : ∀ l, unthru x l < 2 ^ 32
  | [] => h
  | c :: l => Nat.xor_lt_two_pow (itn_unstp_lt 8 (unthru_lt h l)) (u8_lt32 c)
theorem thru_unthru {x : Nat} (h : x < 2 ^ 32) : ∀ l, thru (unthru x l) l = x
  | [] => rfl
  | c :: l => by
    rw [thru_cons]
    show thru (eight ((itn unstp 8 (unthru x l) ^^^ c.toNat) ^^^ c.toNat)) l = x
    rw [Nat.xor_assoc, Nat.xor_self, Nat.xor_zero]
    unfold eight
    rw [itn_un (unthru_lt h l)]
    exact thru_unthru h l
/-- The four bytes, as a number: a before them, b behind. -/
def solveN (a b : List UInt8) (want : Nat) : Nat := itn unstp 32 (unthru (not32 want) b) ^^^ not32 (crc a)
theorem solveN_lt (a b : List UInt8) (want : Nat) : solveN a b want < 2 ^ 32 := Nat.xor_lt_two_pow (itn_unstp_lt 32 (unthru_lt (not32_lt want) b)) (not32_lt _)
theorem not_crc (a : List UInt8) : not32 (crc a) = thru (not32 0) a := by
  show not32 (not32 _) = _
  rw [not32_not32 (thru_lt a (not32_lt 0))]
theorem crc_solved (a b : List UInt8) (want : Nat) (hw : want < 2 ^ 32) : crc (a ++ le4 (solveN a b want) ++ b) = want := by
  show not32 (thru (not32 0) _) = want
  rw [thru_append, thru_append, thru_le4 _ _ (solveN_lt a b want), ← not_crc a]
  unfold solveN
  rw [Nat.xor_comm, Nat.xor_assoc, Nat.xor_self, Nat.xor_zero, itn_un (unthru_lt (not32_lt want) b), thru_unthru (not32_lt want), not32_not32 hw]
theorem xorl_zero (l : List UInt8) : ∀ z : List UInt8, z = List.replicate l.length 0 → xorl z l = l := by
  induction l with
  | nil => intro z hz; subst hz; rfl
  | cons c l ih =>
    intro z hz
    subst hz
    rw [List.length_cons, List.replicate_succ]
    show (0 ^^^ c) :: xorl (List.replicate l.length 0) l = _
    rw [ih _ rfl, UInt8.zero_xor]
/-- The program's way. -/
theorem solve_way (a b : List UInt8) (want : Nat) (hw : want < 2 ^ 32) :
    carry (carry (crc (a ++ [0, 0, 0, 0] ++ b) ^^^ want) (ord - b.length % ord)) (ord - 4) = solveN a b want := by
  have hx := solveN_lt a b want
  have h1 := crc_mid a [0, 0, 0, 0] (le4 (solveN a b want)) b rfl
  rw [xorl_zero (le4 (solveN a b want)) [0, 0, 0, 0] rfl, crc_solved a b want hw, thru0_le4 _ hx] at h1
  have h2 : crc (a ++ [0, 0, 0, 0] ++ b) ^^^ want = itn stp (32 + 8 * b.length) (solveN a b want) := by
    conv => lhs; rw [h1]
    rw [← Nat.xor_assoc, Nat.xor_self, Nat.zero_xor, itn_add]
    rfl
  rw [h2]
  unfold carry
  rw [← itn_add, ← itn_add]
  have hm : b.length % ord < ord := Nat.mod_lt _ (by decide)
  have e : 32 + 8 * b.length + (8 * (ord - b.length % ord) + 8 * (ord - 4)) = 8 * (ord * (b.length / ord + 2)) := by
    have := Nat.div_add_mod b.length ord
    rw [Nat.mul_add ord]
    have h4 : 4 ≤ ord := by decide
    generalize ord * (b.length / ord) = q at *
    omega
  rw [e, way_ords _ hx]
end Go.Proofs.Ytnchjfhmalbjoaa
/- Walks of package wire: numbers. -/
namespace Go.Proofs.Ytnchjfhmalbjoaa
open Go.RowKit

theorem nat_le8 {k : Nat} (h : k ≤ 8) : k = 0 ∨ k = 1 ∨ k = 2 ∨ k = 3 ∨ k = 4 ∨ k = 5 ∨ k = 6 ∨ k = 7 ∨ k = 8 := by omega

theorem two_pow8 (i : Nat) : (2 : Int) ^ (8 * i) = ((256 ^ i : Nat) : Int) := by
  have h : (2 : Nat) ^ (8 * i) = 256 ^ i := by rw [Nat.pow_mul]
  rw [← h, Int.natCast_pow]
  rfl
theorem byte_of (x i : Nat) : Value.int .u8 ((x : Int) / 2 ^ (8 * i) % 256) = Value.int .u8 ((UInt8.ofNat (x / 256 ^ i)).toNat : Int) := by
  rw [UInt8.toNat_ofNat', two_pow8, Int.natCast_emod, Int.natCast_ediv]
  rfl
theorem form_step {w wr w1 : World} {v u v' : Value} {n k i x : Nat} {xs : List UInt8} {o : Obj} (hj : i + 1 ≤ k)
    (hown1 : Ow w1 5 1 v' (n + (k - (i + 1)) + 1) (bv (xs ++ (be k x).take (k - (i + 1))) ++ [Value.int .u8 ((x : Int) / 2 ^ (8 * i) % 256)]))
    (hkp : Kp v.ownBlock.toList w wr) (hat : u.ownBlock = v.ownBlock ∨ ∃ g, u.ownBlock = some g ∧ w.heap.size ≤ g)
    (hg1 : (wr.alloc o).grownBy w1 u.ownBlock) (hat1 : v'.ownBlock = u.ownBlock ∨ v'.ownBlock = some (wr.heap.size + 1)) :
    ∃ j : Nat, j ≤ k ∧ (Value.int .i64 ((i : Int) - 1)) = .int .i64 ((j : Int) - 1) ∧ Ow w1 5 1 v' (n + (k - j)) (bv (xs ++ (be k x).take (k - j))) ∧ Kp v.ownBlock.toList w w1 ∧
      (v'.ownBlock = v.ownBlock ∨ ∃ g, v'.ownBlock = some g ∧ w.heap.size ≤ g) := by
  refine ⟨i, by omega, rfl, ?_, (hkp.alloc o).grown hg1 ?_, ?_⟩
  · rw [be_take_succ k x i (by omega), ← List.append_assoc, bv_append (xs ++ _), show n + (k - i) = n + (k - (i + 1)) + 1 from by omega, show k - i - 1 = k - (i + 1) from by omega]
    rw [byte_of] at hown1
    exact hown1
  · intro g hg
    rcases hat with h | ⟨g', h, hlt⟩
    · rw [h] at hg; left; rw [hg]; simp
    · rw [h] at hg; cases hg; right; exact hlt
  · rcases hat1 with h | h
    · rw [h]; exact hat
    · right; exact ⟨_, h, by have := hkp.size; omega⟩

set_option maxHeartbeats 400000 in
theorem form_any (v : Value) (n : Nat) (xs : List UInt8) (k : Nat) (hk : k ≤ 8) (x : Nat) (_hx : x < 18446744073709551616) (w : World) (hown : Ow w 5 1 v n (bv xs)) (hn : n + k ≤ 140737488355328) :
   Calls Try.prog 42 #[v, .int .i64 k, .int .u64 x] w fun e w' => ∃ v', e = .returned v' ∧ Ow w' 5 1 v' (n + k) (bv (xs ++ be k x)) ∧ Kp v.ownBlock.toList w w' ∧
      (v'.ownBlock = v.ownBlock ∨ ∃ g, v'.ownBlock = some g ∧ w.heap.size ≤ g) := by
  obtain ⟨i0, hi, hz0, hz1, hz2⟩ := info_parts Try.infoU8
  go_enter Try.func42, Try.ntmps42
  go_wp2
  go_loopw [0, 7] (fun u t wr => ∃ j : Nat, j ≤ k ∧ t = .int .i64 ((j : Int) - 1) ∧ Ow wr 5 1 u (n + (k - j)) (bv (xs ++ (be k x).take (k - j))) ∧ Kp v.ownBlock.toList w wr ∧
      (u.ownBlock = v.ownBlock ∨ ∃ g, u.ownBlock = some g ∧ w.heap.size ≤ g)) (fun _ n _ => ((intOf n) + 1).toNat)
  case atStart => exact ⟨k, by omega, rfl, by simpa using hown, Kp.refl _ _, .inl rfl⟩
  case round =>
    obtain ⟨j, hj, rfl, hown', hkp, hat⟩ := hrel
    by_cases h0 : j = 0
    · subst h0
      go_wp2
      go_ret
      refine ⟨_, rfl, ?_, hkp, hat⟩
      rw [Nat.sub_zero, List.take_of_length_le (by simp)] at hown'
      exact hown'
    · obtain ⟨i, rfl⟩ : ∃ i, j = i + 1 := ⟨j - 1, by omega⟩
      clear h0
      go_wp2_with (at_builtin; go_loud (refine wpList_app _ rfl (.tmp 14) (.tmp 20) _ rfl 5 i0 _ 1 1 Try.underlying23 hi hz0 hz1 hz2 rfl (by decide) _ _ _ rfl (hown'.alloc _) (.slice (some ⟨wr.heap.size, 0, none⟩) 1 1) 1 [Value.int .u8 ((x : Int) / 2 ^ (8 * i) % 256)] rfl (rd_new _ _ _) (one_bv _ rfl) (by unfold maxLen; omega) (by omega) ?_))
      intro v' w1 hown1 hg1 hat1
      go_wp2
      go_roundw
      case rel => exact form_step hj hown1 hkp hat hg1 hat1
      case measure => simp [intOf]

set_option maxHeartbeats 400000 in
theorem width_u8 (w : World) : Calls Try.prog 43 #[] w fun e w' => e = .returned (.int .i64 1) ∧ w = w' := by
  go_enter Try.func43, Try.ntmps43
  go_wp2
  go_loop [1, 2] (fun n t => ∃ k : Nat, k ≤ 1 ∧ n = .int .i64 k ∧ t = .int .u64 (2 ^ (8 - 8 * k) - 1)) (fun n _ => 1 - (intOf n).toNat)
  case atStart => exact ⟨0, by omega, rfl, rfl⟩
  case round =>
    obtain ⟨k, hk, rfl, rfl⟩ := hrel
    rcases (show k = 0 ∨ k = 1 from by omega) with rfl | rfl
    all_goals simp only [Nat.reduceMul, Nat.reduceSub, Int.reducePow, Int.reduceSub]
    all_goals go_wp2
    all_goals first
      | (go_ret; exact ⟨rfl, rfl⟩)
      | (go_round
         case rel => first | exact ⟨1, by omega, rfl, rfl⟩
         case measure => simp [intOf])

set_option maxHeartbeats 400000 in
theorem width_u32 (w : World) : Calls Try.prog 55 #[] w fun e w' => e = .returned (.int .i64 4) ∧ w = w' := by
  go_enter Try.func55, Try.ntmps55
  go_wp2
  go_loop [1, 2] (fun n t => ∃ k : Nat, k ≤ 4 ∧ n = .int .i64 k ∧ t = .int .u64 (2 ^ (32 - 8 * k) - 1)) (fun n _ => 4 - (intOf n).toNat)
  case atStart => exact ⟨0, by omega, rfl, rfl⟩
  case round =>
    obtain ⟨k, hk, rfl, rfl⟩ := hrel
    rcases (show k = 0 ∨ k = 1 ∨ k = 2 ∨ k = 3 ∨ k = 4 from by omega) with rfl | rfl | rfl | rfl | rfl
    all_goals simp only [Nat.reduceMul, Nat.reduceSub, Int.reducePow, Int.reduceSub]
    all_goals go_wp2
    all_goals first
      | (go_ret; exact ⟨rfl, rfl⟩)
      | (go_round
         case rel => first | exact ⟨1, by omega, rfl, rfl⟩ | exact ⟨2, by omega, rfl, rfl⟩ | exact ⟨3, by omega, rfl, rfl⟩ | exact ⟨4, by omega, rfl, rfl⟩
         case measure => simp [intOf])

end Go.Proofs.Ytnchjfhmalbjoaa
/- Walks of package wire: the writer. -/
namespace Go.Proofs.Ytnchjfhmalbjoaa
open Go.RowKit

/-- A writer: its block p, the bytes' slice v, the bytes. -/
def Wr (w : World) (p : Nat) (v : Value) (bs : List UInt8) : Prop := Blk w p 78 #[v] ∧ Ow w 5 1 v bs.length (bv bs)
/-- What a call that writes leaves: v' is where v was, or new. -/
def WSt (p : Nat) (v v' : Value) (w w' : World) : Prop := Kp (p :: v.ownBlock.toList) w w' ∧ (v'.ownBlock = v.ownBlock ∨ ∃ g, v'.ownBlock = some g ∧ w.heap.size ≤ g)

theorem Wr.ne {w : World} {p : Nat} {v : Value} {bs : List UInt8} (h : Wr w p v bs) : v.ownBlock ≠ some p := ow_blk_ne h.2 h.1 (by decide)

theorem wr_kept {w w' : World} {p : Nat} {v : Value} {bs : List UInt8} (h : Wr w p v bs) (hk : Kp v.ownBlock.toList w w') : w'.cell? ⟨p, 0, none⟩ = some v ∧ w'.frozen? ⟨p, 0, none⟩ = false ∧ p < w'.heap.size := by
  have hb : Blk w' p 78 #[v] := h.1.kp hk (fun hm => h.ne (by simpa using hm))
  exact ⟨by simpa using hb.cell 0, hb.frozen 0, hb.lt⟩
theorem wr_step {w w' : World} {p : Nat} {v v' : Value} {bs bs' : List UInt8} {n : Nat} (h : Wr w p v bs) (ho : Ow w' 5 1 v' n (bv bs')) (hk : Kp v.ownBlock.toList w w') (hat : v'.ownBlock = v.ownBlock ∨ ∃ g, v'.ownBlock = some g ∧ w.heap.size ≤ g) :
    Wr (w'.setCell ⟨p, 0, none⟩ v') p v' bs' ∧ WSt p v v' w (w'.setCell ⟨p, 0, none⟩ v') := by
  have hb : Blk w' p 78 #[v] := h.1.kp hk (fun hm => h.ne (by simpa using hm))
  have hn : n = bs'.length := by have := ho.1; simpa [bv_length] using this.symm
  subst hn
  have hne := ow_blk_ne ho hb (by decide)
  refine ⟨⟨by simpa using hb.set_ 0 v', ow_kp ho ((Kp.refl [p] w').setCell (.inl (by simp)) v') ?_⟩, ?_, hat⟩
  · intro g hg hm
    simp at hm
    subst hm
    exact hne hg
  · exact (hk.more (T := p :: v.ownBlock.toList) (fun g hg => .inl (List.mem_cons_of_mem _ hg))).setCell (.inl (by simp)) v'

set_option maxRecDepth 100000 in
set_option maxHeartbeats 400000 in
theorem put_u8 (p : Nat) (v : Value) (bs : List UInt8) (x : Nat) (hx : x < 256) (w : World) (hw : Wr w p v bs) (hn : bs.length + 1 ≤ 140737488355328) :
    Calls Try.prog 32 #[.pointer (some ⟨p, 0, none⟩), .int .u8 x] w fun e w' => e = .returned (.int .i64 0) ∧ ∃ v', Wr w' p v' (bs ++ be 1 x) ∧ WSt p v v' w w' := by
  have hc := hw.1.cell 0
  simp at hc
  have hx' : x < 18446744073709551616 := by omega
  go_enter Try.func32, Try.ntmps32
  go_wp2
  refine wp_region_lexf [5, 8, 11] [11] (fun W => W.cell? ⟨p, 0, none⟩ = some v) (by kernel_rfl) (by kernel_rfl) (show w.drew.cell? _ = _ from hc) (fun σ hne f hf hsur => ?_); have Hsur := Lib.hid hsur; clear hsur
  go_wp2_with (first
    | (refine lex_qq Hsur.out rfl rfl rfl ?_; intro K hK; go_big_quiet_op; go_big_quiet_on) | (refine lex_skipk rfl ?_; intro K hK; go_simp; refine hK _ _ ?_; clear hK K) | (refine lex_e rfl rfl ?_; intro K hK; go_step) | (refine lex_nil ?_)
    | ((with_reducible apply And.intro); · (intro hl; first | (exact ls_absurd hl rfl) | assumption))
    | (go_at_call 43; refine (width_u8 _).mono ?_; rintro e w' ⟨rfl, rfl⟩; have c1 : w.drew.cell? ⟨p, 0, none⟩ = some v := hc)
    | (go_at_call 42; refine (form_any v bs.length bs 1 (by decide) x hx' _ (show Ow w.drew _ _ _ _ _ from hw.2) hn).mono ?_; rintro e w' ⟨v', rfl, h1, h2, h3⟩; obtain ⟨A', c', rfl, _, _⟩ := ow_form h1; obtain ⟨c1, c2, c3⟩ := wr_kept (w := w.drew) (show Wr w.drew p v bs from hw) h2))
  go_ret
  exact ⟨rfl, _, wr_step (w := w) hw h1 (Kp.of_drew h2) h3⟩
end Go.Proofs.Ytnchjfhmalbjoaa
/- Walks of package wire: the writer's other methods; slices.Clone; the reference's Same. -/
namespace Go.Proofs.Ytnchjfhmalbjoaa
open Go.RowKit

/-- A number in two's complement. -/
def tou64 (x : Int) : Nat := (x % 18446744073709551616).toNat
theorem tou64_lt (x : Int) : tou64 x < 18446744073709551616 := by unfold tou64; omega
theorem wrap_u64_nat (x : Int) : IntKind.u64.wrap x = (tou64 x : Int) := by
  rw [IntKind.wrap_u64]; unfold tou64; omega

set_option maxRecDepth 100000 in
set_option maxHeartbeats 400000 in
theorem clone_any (x : Value) (bs : List UInt8) (n : Nat) (w : World) (hx : Rd w 1 x n (bv bs)) (hn : n ≤ 140737488355328) :
    Calls Try.prog 38 #[x] w fun e w' => ∃ v', e = .returned v' ∧ Ow w' 5 1 v' n (bv bs) ∧ Kp [] w w' ∧ ∀ g, v'.ownBlock = some g → w.heap.size ≤ g := by
  obtain ⟨i0, hi, hz0, hz1, hz2⟩ := info_parts Try.infoU8
  obtain ⟨hl, A, c, rfl, hc1, hc2, hA, hcells⟩ := hx
  rcases A with _ | ad
  · obtain ⟨rfl, rfl⟩ := hA rfl
    go_enter Try.func38, Try.ntmps38
    go_wp2_with fail
    go_ret
    refine ⟨_, rfl, ?_, Kp.refl _ _, by simp [Value.ownBlock]⟩
    rw [show bv bs = [] from List.eq_nil_of_length_eq_zero (by simpa using hl)]; exact World.ownsRow_nil _ _ _ _
  · have hr := rd_some hl hc1 hc2 hcells
    go_enter Try.func38, Try.ntmps38
    go_wp2_with (at_builtin; go_loud (refine wpList_app _ rfl (.tmp 5) (.tmp 6) _ rfl 5 i0 _ 1 1 Try.underlying23 hi hz0 hz1 hz2 rfl (by decide) _ 0 [] rfl (ow_new w 5 1 0 #[] rfl (by simp [maxLen])) (.slice (some ad) n c) n (bv bs) rfl (hr.alloc _) (bv_one _) (by unfold maxLen; omega) (by omega) ?_))
    intro v' w1 hown1 hg1 hat1
    go_wp2
    go_ret
    refine ⟨v', rfl, by simpa using hown1, ?_, ?_⟩
    · refine ((Kp.refl [] w).alloc _).grown hg1 ?_
      intro g hg
      simp [Value.ownBlock] at hg
      omega
    · intro g hg
      rcases hat1 with h | h
      · rw [h] at hg; simp [Value.ownBlock] at hg; omega
      · rw [h] at hg; simp at hg; omega

set_option maxHeartbeats 400000 in
theorem new_writer (w : World) : Calls Try.prog 31 #[] w fun e w' => e = .returned (.pointer (some ⟨w.heap.size, 0, none⟩)) ∧ Wr w' w.heap.size (.slice none 0 0) [] ∧ Kp [] w w' := by
  go_enter Try.func31, Try.ntmps31
  go_wp2
  go_ret
  exact ⟨rfl, ⟨Blk.new _ _ _, World.ownsRow_nil _ _ _ _⟩, (Kp.refl [] w).alloc _⟩

set_option maxHeartbeats 400000 in
theorem w_bytes (p : Nat) (v : Value) (bs : List UInt8) (w : World) (hw : Wr w p v bs) (hn : bs.length ≤ 140737488355328) :
    Calls Try.prog 34 #[.pointer (some ⟨p, 0, none⟩)] w fun e w' => ∃ v', e = .returned v' ∧ Ow w' 5 1 v' bs.length (bv bs) ∧ Kp [] w w' ∧ ∀ g, v'.ownBlock = some g → w.heap.size ≤ g := by
  have hc := hw.1.cell 0
  simp at hc
  go_enter Try.func34, Try.ntmps34
  go_wp2_with (go_at_call 38; refine (clone_any v bs bs.length w (Rd.of_own hw.2) hn).mono ?_; rintro e w' ⟨v', rfl, h1, h2, h3⟩)
  go_ret
  exact ⟨v', rfl, h1, h2, h3⟩

theorem wr_step2 {w w1 w2 : World} {p : Nat} {v v1 v' : Value} {bs b1 b2 : List UInt8} {n m : Nat} (h : Wr w p v bs) (_ho : Ow w1 5 1 v1 n (bv b1)) (hk : Kp v.ownBlock.toList w w1) (hat : v1.ownBlock = v.ownBlock ∨ ∃ g, v1.ownBlock = some g ∧ w.heap.size ≤ g)
    (ho2 : Ow w2 5 1 v' m (bv b2)) (hg : w1.grownBy w2 v1.ownBlock) (hat2 : v'.ownBlock = v1.ownBlock ∨ v'.ownBlock = some w1.heap.size) :
    Wr (w2.setCell ⟨p, 0, none⟩ v') p v' b2 ∧ WSt p v v' w (w2.setCell ⟨p, 0, none⟩ v') := by
  have hk2 : Kp v.ownBlock.toList w w2 := hk.grown hg (fun g hgg => by
    rcases hat with h1 | ⟨g', h1, h2⟩
    · left; rw [← h1, hgg]; simp
    · rw [h1] at hgg; cases hgg; exact .inr h2)
  refine wr_step h ho2 hk2 ?_
  rcases hat2 with h1 | h1
  · rw [h1]; exact hat
  · exact .inr ⟨_, h1, hk.size⟩
theorem w_list_arg (p : Nat) (x : Value) (k : Int) (n : Nat) (w : World) (hx : ∃ A c, x = .slice A n c) (hk : k < 1 ∨ 4 < k) :
    Calls Try.prog 33 #[.pointer (some ⟨p, 0, none⟩), .int .i64 k, x] w fun e w' => e = .returned (.int .i64 2) ∧ w = w' := by
  obtain ⟨A, c, rfl⟩ := hx
  rcases hk with hk | hk
  all_goals
    go_enter Try.func33, Try.ntmps33
    go_wp2
    go_ret
    exact ⟨rfl, rfl⟩

set_option maxRecDepth 100000 in
set_option maxHeartbeats 400000 in
theorem w_list (p : Nat) (v : Value) (bs : List UInt8) (x : Value) (ns : List UInt8) (k : Nat) (w : World) (hw : Wr w p v bs) (hx : Rd w 1 x ns.length (bv ns)) (hk : 1 ≤ k ∧ k ≤ 4) (hlt : ns.length < 256 ^ k) (hn : bs.length + 4 + ns.length ≤ 140737488355328) (hnb : ∀ g, x.ownBlock = some g → v.ownBlock ≠ some g) :
    Calls Try.prog 33 #[.pointer (some ⟨p, 0, none⟩), .int .i64 k, x] w fun e w' => e = .returned (.int .i64 0) ∧ ∃ v', Wr w' p v' (bs ++ be k ns.length ++ ns) ∧ WSt p v v' w w' := by
  obtain ⟨i0, hi, hz0, hz1, hz2⟩ := info_parts Try.infoU8
  have hc := hw.1.cell 0
  simp at hc
  have Hx := Lib.hid hx
  obtain ⟨A, c, rfl⟩ : ∃ A c, x = .slice A ns.length c := by obtain ⟨_, A, c, h, _⟩ := hx; exact ⟨A, c, h⟩
  clear hx
  have h2 : ns.length < 18446744073709551616 := by omega
  have H2 := Lib.hid h2
  clear h2
  have hS : bs.length + k ≤ 140737488355328 := by omega
  rcases (show k = 1 ∨ k = 2 ∨ k = 3 ∨ k = 4 from by omega) with rfl | rfl | rfl | rfl
  all_goals
    simp only [Nat.reducePow] at hlt
    clear hk
    go_enter Try.func33, Try.ntmps33
    go_wp2_with fail
    refine (form_any v bs.length bs _ (by omega) ns.length H2.out _ hw.2 hS).mono ?_
    rintro e w1 ⟨v1, rfl, h1, h2, h3⟩
    obtain ⟨A1, c1, rfl, _, _⟩ := ow_form h1
    obtain ⟨d1, d2, d3⟩ := wr_kept hw h2
    have hx1 : Rd w1 1 (.slice A ns.length c) ns.length (bv ns) := Hx.out.kp h2 (fun g hg hm => hnb g hg (by simpa using hm))
    have Hx1 := Lib.hid hx1; clear hx1
    go_wp2_with (at_builtin; go_loud (refine wpList_app _ rfl (.tmp 34) (.tmp 35) _ rfl 5 i0 _ 1 1 Try.underlying23 hi hz0 hz1 hz2 rfl (by decide) _ _ _ rfl h1 (.slice A ns.length c) ns.length (bv ns) rfl Hx1.out (bv_one _) (by unfold maxLen; omega) (by omega) ?_))
    intro v' w2 hown1 hg1 hat1
    obtain ⟨A2, c2, rfl, _, _⟩ := ow_form hown1
    have hb1 : Blk w1 p 78 #[v] := hw.1.kp h2 (fun hm => hw.ne (by simpa using hm))
    have hb2 := hb1.kp (Kp.of_grown hg1) (fun hm => (ow_blk_ne h1 hb1 (by decide)) (by simpa using hm))
    have d4 := hb2.cell 0
    have d5 := hb2.frozen 0
    have d6 := hb2.lt
    simp at d4
    go_wp2
    go_ret
    refine ⟨rfl, _, wr_step2 hw h1 h2 h3 (by rw [bv_append]; exact hown1) hg1 hat1⟩
end Go.Proofs.Ytnchjfhmalbjoaa
/- Walks of package wire: a hash is written; the reference's Same. -/
namespace Go.Proofs.Ytnchjfhmalbjoaa
open Go.RowKit

set_option maxRecDepth 100000 in
set_option maxHeartbeats 400000 in
theorem same_any (x y : Value) (a b : List UInt8) (n m : Nat) (w : World) (hx : Rd w 1 x n (bv a)) (hy : Rd w 1 y m (bv b)) :
    Calls Try.prog 13 #[x, y] w fun e w' => e = .returned (.bool (a == b)) ∧ w = w' := by
  have e1 := strB hx
  have e2 := strB hy
  obtain ⟨A, c, rfl⟩ := rd_form hx
  obtain ⟨A', c', rfl⟩ := rd_form hy
  clear hx hy
  go_enter Try.func13, Try.ntmps13
  go_wp2
  go_ret
  exact ⟨rfl, rfl⟩
end Go.Proofs.Ytnchjfhmalbjoaa
/- Walks of package wire: the reader. -/
namespace Go.Proofs.Ytnchjfhmalbjoaa
open Go.RowKit

/-- A reader: its block p, the bytes' slice v, the place, the bytes. -/
structure Rr (w : World) (p : Nat) (v : Value) (at_ : Nat) (bs : List UInt8) : Prop where
  blk : Blk w p 93 #[v, .int .i64 at_]
  rd : Rd w 1 v bs.length (bv bs)
  le : at_ ≤ bs.length
  len : bs.length ≤ 140737488355328
  ne : v.ownBlock ≠ some p
  vlt : ∀ g, v.ownBlock = some g → g < w.heap.size

theorem Rr.kp {w w' : World} {S : List Nat} {p : Nat} {v : Value} {at_ : Nat} {bs : List UInt8} (h : Rr w p v at_ bs) (hk : Kp S w w') (hp : p ∉ S) (hv : ∀ g, v.ownBlock = some g → g ∉ S) : Rr w' p v at_ bs :=
  ⟨h.blk.kp hk hp, h.rd.kp hk hv, h.le, h.len, h.ne, fun g hg => Nat.lt_of_lt_of_le (h.vlt g hg) hk.size⟩
theorem Rr.moved {w w' : World} {p : Nat} {v : Value} {a b : Nat} {bs : List UInt8} (h : Rr w p v a bs) (hk : Kp [p] w w') (hb : Blk w' p 93 #[v, .int .i64 b]) (hle : b ≤ bs.length) : Rr w' p v b bs :=
  ⟨hb, h.rd.kp hk (fun g hg hm => by simp at hm; subst hm; exact h.ne hg), hle, h.len, h.ne, fun g hg => Nat.lt_of_lt_of_le (h.vlt g hg) hk.size⟩

set_option maxHeartbeats 400000 in
theorem r_left (p : Nat) (v : Value) (a : Nat) (bs : List UInt8) (w : World) (h : Rr w p v a bs) :
    Calls Try.prog 58 #[.pointer (some ⟨p, 0, none⟩)] w fun e w' => e = .returned (.int .i64 ((bs.length : Int) - a)) ∧ ∃ n, w' = w.drewN n := by
  have hc0 := h.blk.cell 0
  have hc1 := h.blk.cell 1
  obtain ⟨A, c, rfl⟩ := rd_form h.rd
  simp at hc0 hc1
  have hle := h.le
  have hlen := h.len
  go_enter Try.func58, Try.ntmps58
  go_wp2
  go_quiet (fail)
  go_wp2
  go_ret
  exact ⟨rfl, _, rfl⟩

theorem setCell1 {w : World} {p : Nat} {v u x : Value} (h : Blk w p 93 #[v, u]) : Blk (w.setCell ⟨p, 1, none⟩ x) p 93 #[v, x] := by
  simpa using h.set_ 1 x

theorem Rr.alloc {w : World} {p : Nat} {v : Value} {at_ : Nat} {bs : List UInt8} (h : Rr w p v at_ bs) (o : Obj) : Rr (w.alloc o) p v at_ bs := h.kp ((Kp.refl [] w).alloc o) (by simp) (fun _ _ => by simp)
theorem Rr.kp' {w w' : World} {p : Nat} {v : Value} {at_ : Nat} {bs : List UInt8} (h : Rr w p v at_ bs) (hk : Kp [] w w') : Rr w' p v at_ bs := h.kp hk (by simp) (fun _ _ => by simp)
theorem Rr.set {w : World} {p g : Nat} {v : Value} {at_ : Nat} {bs : List UInt8} (h : Rr w p v at_ bs) (hg : g ≠ p) (hv : v.ownBlock ≠ some g) (i : Nat) (x : Value) : Rr (w.setCell ⟨g, i, none⟩ x) p v at_ bs :=
  h.kp ((Kp.refl [g] w).setCell (.inl (by simp)) x) (by simpa using Ne.symm hg) (fun k hk hm => by simp at hm; subst hm; exact hv hk)
theorem Rr.drewN {w : World} {p : Nat} {v : Value} {at_ : Nat} {bs : List UInt8} (h : Rr w p v at_ bs) (n : Nat) : Rr (w.drewN n) p v at_ bs := ⟨h.blk, h.rd, h.le, h.len, h.ne, h.vlt⟩

set_option maxHeartbeats 800000 in
/-- 'next', where there are enough bytes and what goes on answers OK. -/
theorem next_ok (p : Nat) (v : Value) (a : Nat) (bs : List UInt8) (k : Nat) (hk : a + k ≤ bs.length) (g : Nat) (lb : Array Value) (w : World) (h : Rr w p v a bs) (R : World → Prop)
    (eg : ∀ args w, (callFunc g args).run Try.prog w = .ok (.enter g args) w)
    (hcall : ∀ A c W, Kp [p] w W → Rr W p v (a + k) bs → Rd W 1 (.slice A k c) k (bv ((bs.drop a).take k)) →
      Calls Try.prog g (#[.slice A k c] ++ lb) W fun e w' => e = .returned (.int .i64 0) ∧ R w') :
    Calls Try.prog 52 #[.pointer (some ⟨p, 0, none⟩), .int .i64 k, .func (.func g) #[] lb] w fun e w' => e = .returned (.int .i64 0) ∧ R w' := by
  have hc0 := h.blk.cell 0
  have hc1 := h.blk.cell 1
  have hf1 := h.blk.frozen 1
  obtain ⟨A, c, hA⟩ := rd_form h.rd
  subst hA
  have hcc : bs.length ≤ c ∧ c ≤ 9223372036854775807 := by
    obtain ⟨_, A', c', hv, h1, h2, _⟩ := h.rd
    cases hv
    exact ⟨h1, by unfold maxLen at h2; omega⟩
  obtain ⟨hcc1, hcc2⟩ := hcc
  simp at hc0 hc1
  have hle := h.le
  have hlen := h.len
  have hmv : ∀ n, Kp [p] w ((w.setCell ⟨p, 1, none⟩ (.int .i64 ((a : Int) + k))).drewN n) ∧ Rr ((w.setCell ⟨p, 1, none⟩ (.int .i64 ((a : Int) + k))).drewN n) p (.slice A bs.length c) (a + k) bs := fun n => by
    have k1 : Kp [p] w (w.setCell ⟨p, 1, none⟩ (.int .i64 ((a : Int) + k))) := (Kp.refl [p] w).setCell (.inl (by simp)) _
    exact ⟨k1.drewN n, (h.moved k1 (by have := setCell1 (x := .int .i64 ((a : Int) + k)) h.blk; rw [Int.natCast_add]; exact this) hk).drewN n⟩
  have Hmv := Lib.hid hmv
  have Hcall := Lib.hid hcall
  clear hmv hcall
  have Hh := Lib.hid h
  clear h
  by_cases hca : c = a
  · have hk0 : k = 0 := by omega
    subst hk0
    have ha : a = bs.length := by omega
    have Ha := Lib.hid ha
    clear ha
    subst hca
    go_enter Try.func52, Try.ntmps52
    go_wp2_with (go_at_call 58; refine (r_left p _ c bs w Hh.out).mono ?_; rintro e w' ⟨rfl, nq, rfl⟩)
    obtain ⟨h1, h2⟩ := Hmv.out nq
    simp only [Int.natCast_zero, Int.add_zero, Nat.add_zero] at h1 h2
    have h3 := h2.rd.cut0 (a := c) (k := 0) hk rfl
    rw [Nat.sub_self, bv_drop] at h3
    refine (Hcall.out _ _ _ h1 h2 h3).mono ?_
    rintro e w' ⟨rfl, hR⟩
    go_wp2
    go_ret
    exact ⟨rfl, hR⟩
  · go_enter Try.func52, Try.ntmps52
    go_wp2_with (go_at_call 58; refine (r_left p _ a bs w Hh.out).mono ?_; rintro e w' ⟨rfl, nq, rfl⟩)
    obtain ⟨h1, h2⟩ := Hmv.out nq
    refine (Hcall.out _ _ _ h1 h2 (by rw [← bv_drop]; exact h2.rd.cut hk hca)).mono ?_
    rintro e w' ⟨rfl, hR⟩
    go_wp2
    go_ret
    exact ⟨rfl, hR⟩

set_option maxHeartbeats 800000 in
/-- 'next', where there are not enough bytes. -/
theorem next_end (p : Nat) (v : Value) (a : Nat) (bs : List UInt8) (k : Int) (hk : (bs.length : Int) - a < k) (f : Value) (w : World) (h : Rr w p v a bs) :
    Calls Try.prog 52 #[.pointer (some ⟨p, 0, none⟩), .int .i64 k, f] w fun e w' => e = .returned (.int .i64 110) ∧ ∃ n, w' = w.drewN n := by
  go_enter Try.func52, Try.ntmps52
  go_wp2_with (go_at_call 58; refine (r_left p _ a bs w h).mono ?_; rintro e w' ⟨rfl, nq, rfl⟩)
  go_ret
  exact ⟨rfl, nq, rfl⟩

set_option maxHeartbeats 800000 in
/-- 'next', where what goes on refuses: the place is as it was. -/
theorem next_no (p : Nat) (v : Value) (a : Nat) (bs : List UInt8) (k : Nat) (hk : a + k ≤ bs.length) (g : Nat) (lb : Array Value) (w : World) (h : Rr w p v a bs) (er : Int) (her : er ≠ 0) (R : World → Prop)
    (eg : ∀ args w, (callFunc g args).run Try.prog w = .ok (.enter g args) w)
    (hcall : ∀ A c W, Kp [p] w W → Rr W p v (a + k) bs → Rd W 1 (.slice A k c) k (bv ((bs.drop a).take k)) →
      Calls Try.prog g (#[.slice A k c] ++ lb) W fun e w' => e = .returned (.int .i64 er) ∧ Kp [p] w w' ∧ Blk w' p 93 #[v, .int .i64 ((a : Int) + k)] ∧ R (w'.setCell ⟨p, 1, none⟩ (.int .i64 a))) :
    Calls Try.prog 52 #[.pointer (some ⟨p, 0, none⟩), .int .i64 k, .func (.func g) #[] lb] w fun e w' => e = .returned (.int .i64 er) ∧ R w' := by
  have hc0 := h.blk.cell 0
  have hc1 := h.blk.cell 1
  have hf1 := h.blk.frozen 1
  obtain ⟨A, c, hA⟩ := rd_form h.rd
  subst hA
  have hcc : bs.length ≤ c ∧ c ≤ 9223372036854775807 := by
    obtain ⟨_, A', c', hv, h1, h2, _⟩ := h.rd
    cases hv
    exact ⟨h1, by unfold maxLen at h2; omega⟩
  obtain ⟨hcc1, hcc2⟩ := hcc
  simp at hc0 hc1
  have hle := h.le
  have hlen := h.len
  have hmv : ∀ n, Kp [p] w ((w.setCell ⟨p, 1, none⟩ (.int .i64 ((a : Int) + k))).drewN n) ∧ Rr ((w.setCell ⟨p, 1, none⟩ (.int .i64 ((a : Int) + k))).drewN n) p (.slice A bs.length c) (a + k) bs := fun n => by
    have k1 : Kp [p] w (w.setCell ⟨p, 1, none⟩ (.int .i64 ((a : Int) + k))) := (Kp.refl [p] w).setCell (.inl (by simp)) _
    exact ⟨k1.drewN n, (h.moved k1 (by have := setCell1 (x := .int .i64 ((a : Int) + k)) h.blk; rw [Int.natCast_add]; exact this) hk).drewN n⟩
  have Hmv := Lib.hid hmv
  have Hcall := Lib.hid hcall
  clear hmv hcall
  have Hh := Lib.hid h
  clear h
  have her' : (er == 0) = false := by simpa using her
  have her2 : (er != 0) = true := by simpa using her
  have Her := Lib.hid her
  clear her
  by_cases hca : c = a
  · have hk0 : k = 0 := by omega
    subst hk0
    have ha : a = bs.length := by omega
    have Ha := Lib.hid ha
    clear ha
    subst hca
    go_enter Try.func52, Try.ntmps52
    go_wp2_with (go_at_call 58; refine (r_left p _ c bs w Hh.out).mono ?_; rintro e w' ⟨rfl, nq, rfl⟩)
    obtain ⟨h1, h2⟩ := Hmv.out nq
    simp only [Int.natCast_zero, Int.add_zero, Nat.add_zero] at h1 h2
    have h3 := h2.rd.cut0 (a := c) (k := 0) hk rfl
    rw [Nat.sub_self, bv_drop] at h3
    refine (Hcall.out _ _ _ h1 h2 h3).mono ?_
    rintro e w' ⟨rfl, hkp, hb, hR⟩
    have g1 := hb.cell 1
    have g2 := hb.frozen 1
    have g3 := hb.lt
    simp at g1
    have HR := Lib.hid hR
    clear hR hb hkp h1 h2 h3
    go_wp2
    go_ret
    exact ⟨rfl, HR.out⟩
  · go_enter Try.func52, Try.ntmps52
    go_wp2_with (go_at_call 58; refine (r_left p _ a bs w Hh.out).mono ?_; rintro e w' ⟨rfl, nq, rfl⟩)
    obtain ⟨h1, h2⟩ := Hmv.out nq
    refine (Hcall.out _ _ _ h1 h2 (by rw [← bv_drop]; exact h2.rd.cut hk hca)).mono ?_
    rintro e w' ⟨rfl, hkp, hb, hR⟩
    have g1 := hb.cell 1
    have g2 := hb.frozen 1
    have g3 := hb.lt
    simp at g1
    have HR := Lib.hid hR
    clear hR hb hkp h1 h2
    go_wp2
    go_ret
    exact ⟨rfl, HR.out⟩
end Go.Proofs.Ytnchjfhmalbjoaa
/- Walks of package wire: what a reader reads. -/
namespace Go.Proofs.Ytnchjfhmalbjoaa
open Go.RowKit

theorem or_shift (n q : Nat) (hq : q < 256) (hn : n < 72057594037927936) : bits .or .u64 ((n : Int) * 256) (q : Int) = ((256 * n + q : Nat) : Int) := by
  have h1 : ((n : Int) * 256) = ((256 * n : Nat) : Int) := by omega
  rw [h1, u64_or_nat _ _ (by omega) (by omega)]
  have h2 : n <<< 8 + q = n <<< 8 ||| q := Nat.shiftLeft_add_eq_or_of_lt (by omega) n
  rw [Nat.shiftLeft_eq] at h2
  rw [show 256 * n = n * 2 ^ 8 from by omega, ← h2]

set_option maxHeartbeats 400000 in
theorem number_any (x : Value) (bs : List UInt8) (hb : bs.length ≤ 8) (w : World) (hx : Rd w 1 x bs.length (bv bs)) :
    Calls Try.prog 54 #[x] w fun e w' => e = .returned (.int .u64 (num bs)) ∧ w = w' := by
  obtain ⟨hl, A, c, rfl, hc1, hc2, hA, hcells⟩ := hx
  go_enter Try.func54, Try.ntmps54
  go_wp2
  go_loop [3, 8] (fun x t => ∃ i : Nat, i ≤ bs.length ∧ t = .int .i64 i ∧ x = .int .u64 (num (bs.take i))) (fun _ t => bs.length - (intOf t).toNat)
  case atStart => exact ⟨0, Nat.zero_le _, rfl, rfl⟩
  case round =>
    obtain ⟨i, hi, rfl, rfl⟩ := hrel
    by_cases hlt : i < bs.length
    · rcases A with _ | ad
      · have := (hA rfl).1; omega
      · obtain ⟨q, n, hq, hn, hcell, hnext, hnow⟩ : ∃ q n : Nat, q < 256 ∧ n < 72057594037927936 ∧ w.cell? (ad.add i) = some (.int .u8 (q : Int)) ∧ num (bs.take (i + 1)) = 256 * n + q ∧ num (bs.take i) = n := by
          refine ⟨bs[i].toNat, num (bs.take i), bs[i].toNat_lt, ?_, hcells ad rfl i _ (by rw [bv_get, List.getElem?_eq_getElem hlt]; rfl), num_take bs i hlt, rfl⟩
          have h1 := num_lt (bs.take i)
          rw [List.length_take, Nat.min_eq_left (by omega)] at h1
          have : 256 ^ i ≤ 256 ^ 7 := Nat.pow_le_pow_right (by omega) (by omega)
          omega
        rw [hnow]
        have Hnext := Lib.hid hnext
        clear hnext hnow hcells
        go_wp2
        go_round
        case rel => exact ⟨i + 1, by omega, by go_num, by rw [Hnext.out, or_shift n q hq hn]⟩
        case measure => simp [intOf]; omega
    · go_wp2
      go_ret
      rw [List.take_of_length_le (by omega)]
      exact ⟨rfl, rfl⟩

theorem eg_take_u8 : ∀ args w, (callFunc 53 args).run Try.prog w = .ok (.enter 53 args) w := fun _ _ => by kernel_rfl
set_option maxRecDepth 100000 in
set_option maxHeartbeats 800000 in
theorem take_u8_in (g : Nat) (x0 : Value) (A : Option Addr) (c : Nat) (bs : List UInt8) (hb : bs.length = 1) (w : World) (hx : Rd w 1 (.slice A 1 c) 1 (bv bs)) (hg : Blk w g 5 #[x0]) :
    Calls Try.prog 53 #[.slice A 1 c, .pointer (some ⟨g, 0, none⟩)] w fun e w' => e = .returned (.int .i64 0) ∧ (w.setCell ⟨g, 0, none⟩ (.int .u8 (num bs))) = w' := by
  have hc := hg.cell 0
  have hf := hg.frozen 0
  have hlt := hg.lt
  simp at hc
  have hnum := num_lt bs
  rw [hb] at hnum
  simp only [Nat.reducePow] at hnum
  have Hc := number_any (.slice A 1 c) bs (by omega) w (by rw [hb]; exact hx)
  have HC := Lib.hid Hc
  clear Hc
  generalize num bs = n at *
  go_enter Try.func53, Try.ntmps53
  go_wp2_with (go_at_call 54; refine HC.out.mono ?_; rintro e w' ⟨rfl, rfl⟩)
  go_ret
  exact ⟨rfl, rfl⟩

set_option maxRecDepth 100000 in
set_option maxHeartbeats 800000 in
theorem take_u8 (p : Nat) (v : Value) (a : Nat) (bs : List UInt8) (w : World) (h : Rr w p v a bs) (hk : a + 1 ≤ bs.length) :
    Calls Try.prog 47 #[.pointer (some ⟨p, 0, none⟩)] w fun e w' => e = .returned (.tuple #[.int .u8 (num ((bs.drop a).take 1)), .int .i64 0]) ∧ Kp [p] w w' ∧ Rr w' p v (a + 1) bs := by
  have hp := h.blk.lt
  have hnext : Calls Try.prog 52 #[.pointer (some ⟨p, 0, none⟩), .int .i64 1, .func (.func 53) #[] #[.pointer (some ⟨w.heap.size, 0, none⟩)]] (w.alloc (.cells #[.int .u8 0] 5))
      fun e w' => e = .returned (.int .i64 0) ∧ w'.cell? ⟨w.heap.size, 0, none⟩ = some (.int .u8 (num ((bs.drop a).take 1))) ∧ Kp [p] w w' ∧ Rr w' p v (a + 1) bs :=
    next_ok p v a bs 1 hk _ _ _ (h.alloc _) _ eg_take_u8 (fun A c W hkp hr hrd => by
      have hb : Blk W w.heap.size 5 #[.int .u8 0] := (Blk.new w _ _).kp hkp (by simp; omega)
      refine (take_u8_in w.heap.size _ A c _ (by rw [List.length_take, List.length_drop]; omega) W hrd hb).mono ?_
      rintro e w' ⟨rfl, rfl⟩
      refine ⟨rfl, by simpa using (hb.set_ 0 _).cell 0, ?_, hr.set (by omega) (fun hv => by have := h.vlt _ hv; omega) 0 _⟩
      have k1 : Kp [p] w W := ((Kp.refl [p] w).alloc _).trans hkp (fun g hg => .inl hg)
      exact k1.setCell (.inr (by simp)) _)
  have Hn := Lib.hid hnext
  clear hnext
  generalize num ((bs.drop a).take 1) = n at *
  go_enter Try.func47, Try.ntmps47
  go_wp2_with (first
    | (go_at_call 43; refine (width_u8 _).mono ?_; rintro e w' ⟨rfl, rfl⟩)
    | (go_at_call 52; refine Hn.out.mono ?_; rintro e w' ⟨rfl, hc, hkp, hr⟩))
  go_ret2
  exact ⟨rfl, hkp, hr⟩

set_option maxRecDepth 100000 in
set_option maxHeartbeats 800000 in
theorem take_u8_end (p : Nat) (v : Value) (a : Nat) (bs : List UInt8) (w : World) (h : Rr w p v a bs) (hk : bs.length < a + 1) :
    Calls Try.prog 47 #[.pointer (some ⟨p, 0, none⟩)] w fun e w' => e = .returned (.tuple #[.int .u8 0, .int .i64 110]) ∧ Kp [] w w' := by
  have hn := next_end p v a bs 1 (by omega) (.func (.func 53) #[] #[.pointer (some ⟨w.heap.size, 0, none⟩)]) _ (h.alloc (.cells #[.int .u8 0] 5))
  have Hn := Lib.hid hn
  clear hn
  go_enter Try.func47, Try.ntmps47
  go_wp2_with (first
    | (go_at_call 43; refine (width_u8 _).mono ?_; rintro e w' ⟨rfl, rfl⟩)
    | (go_at_call 52; refine Hn.out.mono ?_; rintro e w' ⟨rfl, nq, rfl⟩; have hc : ((w.alloc (.cells #[.int .u8 0] 5)).drewN nq).cell? ⟨w.heap.size, 0, none⟩ = some (.int .u8 0) := by simp))
  go_ret2
  exact ⟨rfl, ((Kp.refl [] w).alloc _).drewN _⟩

theorem eg_take_u32 : ∀ args w, (callFunc 56 args).run Try.prog w = .ok (.enter 56 args) w := fun _ _ => by kernel_rfl
set_option maxRecDepth 100000 in
set_option maxHeartbeats 800000 in
theorem take_u32_in (g : Nat) (x0 : Value) (A : Option Addr) (c : Nat) (bs : List UInt8) (hb : bs.length = 4) (w : World) (hx : Rd w 1 (.slice A 4 c) 4 (bv bs)) (hg : Blk w g 44 #[x0]) :
    Calls Try.prog 56 #[.slice A 4 c, .pointer (some ⟨g, 0, none⟩)] w fun e w' => e = .returned (.int .i64 0) ∧ (w.setCell ⟨g, 0, none⟩ (.int .u32 (num bs))) = w' := by
  have hc := hg.cell 0
  have hf := hg.frozen 0
  have hlt := hg.lt
  simp at hc
  have hnum := num_lt bs
  rw [hb] at hnum
  simp only [Nat.reducePow] at hnum
  have Hc := number_any (.slice A 4 c) bs (by omega) w (by rw [hb]; exact hx)
  have HC := Lib.hid Hc
  clear Hc
  generalize num bs = n at *
  go_enter Try.func56, Try.ntmps56
  go_wp2_with (go_at_call 54; refine HC.out.mono ?_; rintro e w' ⟨rfl, rfl⟩)
  go_ret
  exact ⟨rfl, rfl⟩

set_option maxRecDepth 100000 in
set_option maxHeartbeats 800000 in
theorem take_u32 (p : Nat) (v : Value) (a : Nat) (bs : List UInt8) (w : World) (h : Rr w p v a bs) (hk : a + 4 ≤ bs.length) :
    Calls Try.prog 48 #[.pointer (some ⟨p, 0, none⟩)] w fun e w' => e = .returned (.tuple #[.int .u32 (num ((bs.drop a).take 4)), .int .i64 0]) ∧ Kp [p] w w' ∧ Rr w' p v (a + 4) bs := by
  have hp := h.blk.lt
  have hnext : Calls Try.prog 52 #[.pointer (some ⟨p, 0, none⟩), .int .i64 4, .func (.func 56) #[] #[.pointer (some ⟨w.heap.size, 0, none⟩)]] (w.alloc (.cells #[.int .u32 0] 44))
      fun e w' => e = .returned (.int .i64 0) ∧ w'.cell? ⟨w.heap.size, 0, none⟩ = some (.int .u32 (num ((bs.drop a).take 4))) ∧ Kp [p] w w' ∧ Rr w' p v (a + 4) bs :=
    next_ok p v a bs 4 hk _ _ _ (h.alloc _) _ eg_take_u32 (fun A c W hkp hr hrd => by
      have hb : Blk W w.heap.size 44 #[.int .u32 0] := (Blk.new w _ _).kp hkp (by simp; omega)
      refine (take_u32_in w.heap.size _ A c _ (by rw [List.length_take, List.length_drop]; omega) W hrd hb).mono ?_
      rintro e w' ⟨rfl, rfl⟩
      refine ⟨rfl, by simpa using (hb.set_ 0 _).cell 0, ?_, hr.set (by omega) (fun hv => by have := h.vlt _ hv; omega) 0 _⟩
      have k1 : Kp [p] w W := ((Kp.refl [p] w).alloc _).trans hkp (fun g hg => .inl hg)
      exact k1.setCell (.inr (by simp)) _)
  have Hn := Lib.hid hnext
  clear hnext
  generalize num ((bs.drop a).take 4) = n at *
  go_enter Try.func48, Try.ntmps48
  go_wp2_with (first
    | (go_at_call 55; refine (width_u32 _).mono ?_; rintro e w' ⟨rfl, rfl⟩)
    | (go_at_call 52; refine Hn.out.mono ?_; rintro e w' ⟨rfl, hc, hkp, hr⟩))
  go_ret2
  exact ⟨rfl, hkp, hr⟩

set_option maxRecDepth 100000 in
set_option maxHeartbeats 800000 in
theorem take_u32_end (p : Nat) (v : Value) (a : Nat) (bs : List UInt8) (w : World) (h : Rr w p v a bs) (hk : bs.length < a + 4) :
    Calls Try.prog 48 #[.pointer (some ⟨p, 0, none⟩)] w fun e w' => e = .returned (.tuple #[.int .u32 0, .int .i64 110]) ∧ Kp [] w w' := by
  have hn := next_end p v a bs 4 (by omega) (.func (.func 56) #[] #[.pointer (some ⟨w.heap.size, 0, none⟩)]) _ (h.alloc (.cells #[.int .u32 0] 44))
  have Hn := Lib.hid hn
  clear hn
  go_enter Try.func48, Try.ntmps48
  go_wp2_with (first
    | (go_at_call 55; refine (width_u32 _).mono ?_; rintro e w' ⟨rfl, rfl⟩)
    | (go_at_call 52; refine Hn.out.mono ?_; rintro e w' ⟨rfl, nq, rfl⟩; have hc : ((w.alloc (.cells #[.int .u32 0] 44)).drewN nq).cell? ⟨w.heap.size, 0, none⟩ = some (.int .u32 0) := by simp))
  go_ret2
  exact ⟨rfl, ((Kp.refl [] w).alloc _).drewN _⟩

end Go.Proofs.Ytnchjfhmalbjoaa
/- Walks of package wire: a reader is made, its end; the law's 'known'. -/
namespace Go.Proofs.Ytnchjfhmalbjoaa
open Go.RowKit

set_option maxHeartbeats 400000 in
theorem new_reader (x : Value) (bs : List UInt8) (w : World) (hx : Rd w 1 x bs.length (bv bs)) (hn : bs.length ≤ 140737488355328) :
    Calls Try.prog 46 #[x] w fun e w' => ∃ p v, e = .returned (.pointer (some ⟨p, 0, none⟩)) ∧ w.heap.size ≤ p ∧ Rr w' p v 0 bs ∧ (∀ g, v.ownBlock = some g → w.heap.size ≤ g) ∧ Kp [] w w' := by
  go_enter Try.func46, Try.ntmps46
  go_wp2_with (go_at_call 38; refine (clone_any x bs bs.length w hx hn).mono ?_; rintro e w1 ⟨v1, rfl, h1, h2, h3⟩; obtain ⟨A1, c1, rfl, _, _⟩ := ow_form h1)
  go_ret
  have hb : Blk (w1.alloc (.cells #[.slice A1 bs.length c1, .int .i64 0] 93)) w1.heap.size 93 #[.slice A1 bs.length c1, .int .i64 ((0 : Nat) : Int)] := Blk.new _ _ _
  have ho := h1.alloc (.cells #[.slice A1 bs.length c1, .int .i64 0] 93)
  refine ⟨_, _, rfl, h2.size, ⟨hb, Rd.of_own ho, Nat.zero_le _, hn, ow_blk_ne ho hb (by decide), fun g hg => ow_lt ho hg⟩, h3, h2.alloc _⟩

theorem Wr.kp {w w' : World} {S : List Nat} {q : Nat} {u : Value} {bs : List UInt8} (h : Wr w q u bs) (hk : Kp S w w') (hq : q ∉ S) (hu : ∀ g, u.ownBlock = some g → g ∉ S) : Wr w' q u bs := ⟨h.1.kp hk hq, ow_kp h.2 hk hu⟩
/-- A writer and a reader beside each other, both made since w0. -/
structure WR (w0 w : World) (q : Nat) (u : Value) (bs : List UInt8) (p : Nat) (v : Value) (a : Nat) (rs : List UInt8) : Prop where
  wr : Wr w q u bs
  rr : Rr w p v a rs
  ne : ∀ g, v.ownBlock = some g → u.ownBlock ≠ some g
  nq : v.ownBlock ≠ some q
  np : u.ownBlock ≠ some p
  pq : p ≠ q
  k : Kp [] w0 w
  qb : w0.heap.size ≤ q
  pb : w0.heap.size ≤ p
  ub : ∀ g, u.ownBlock = some g → w0.heap.size ≤ g
theorem WR.wstep {w0 w w' : World} {q p a : Nat} {u u' v : Value} {bs bs' rs : List UInt8} (h : WR w0 w q u bs p v a rs) (hw : Wr w' q u' bs') (hs : WSt q u u' w w') : WR w0 w' q u' bs' p v a rs := by
  refine ⟨hw, h.rr.kp hs.1 ?_ ?_, ?_, h.nq, ?_, h.pq, h.k.trans hs.1 ?_, h.qb, h.pb, ?_⟩
  · intro hm
    rcases List.mem_cons.1 hm with hm | hm
    · exact h.pq hm
    · exact h.np (by simpa using hm)
  · intro g hg hm
    rcases List.mem_cons.1 hm with hm | hm
    · subst hm; exact h.nq hg
    · exact h.ne g hg (by simpa using hm)
  · intro g hg
    rcases hs.2 with e | ⟨k, e, hk⟩
    · rw [e]; exact h.ne g hg
    · rw [e]; have := h.rr.vlt g hg; simp; omega
  · rcases hs.2 with e | ⟨k, e, hk⟩
    · rw [e]; exact h.np
    · rw [e]; have := h.rr.blk.lt; simp; omega
  · intro g hm
    rcases List.mem_cons.1 hm with hm | hm
    · subst hm; exact .inr h.qb
    · exact .inr (h.ub g (by simpa using hm))
  · intro g hg
    rcases hs.2 with e | ⟨k, e, hk⟩
    · exact h.ub g (by rw [← e]; exact hg)
    · rw [e] at hg; cases hg; have := h.k.size; omega
theorem WR.rstep {w0 w w' : World} {q p a a' : Nat} {u v : Value} {bs rs : List UInt8} (h : WR w0 w q u bs p v a rs) (hr : Rr w' p v a' rs) (hk : Kp [p] w w') : WR w0 w' q u bs p v a' rs :=
  ⟨h.wr.kp hk (by simpa using Ne.symm h.pq) (fun g hg hm => by simp at hm; subst hm; exact h.np hg), hr, h.ne, h.nq, h.np, h.pq, h.k.trans hk (fun g hg => by simp at hg; subst hg; exact .inr h.pb), h.qb, h.pb, h.ub⟩
theorem WR.kp {w0 w w' : World} {q p a : Nat} {u v : Value} {bs rs : List UInt8} (h : WR w0 w q u bs p v a rs) (hk : Kp [] w w') : WR w0 w' q u bs p v a rs :=
  ⟨h.wr.kp hk (by simp) (fun _ _ => by simp), h.rr.kp' hk, h.ne, h.nq, h.np, h.pq, h.k.trans hk (by simp), h.qb, h.pb, h.ub⟩
theorem WR.alloc {w0 w : World} {q p a : Nat} {u v : Value} {bs rs : List UInt8} (h : WR w0 w q u bs p v a rs) (o : Obj) : WR w0 (w.alloc o) q u bs p v a rs := h.kp ((Kp.refl [] w).alloc o)

end Go.Proofs.Ytnchjfhmalbjoaa
/- Walks of package record and of its reference: sizes, the sum's bytes. -/
namespace Go.Proofs.Ytnchjfhmalbjoaa
open Go.RowKit

def fsize (n : Int) : Int := if n < 0 ∨ 8388608 < n then 0 else n + 9
theorem fsize_no {n : Int} (h : n < 0 ∨ 8388608 < n) : fsize n = 0 := if_pos h
theorem fsize_yes {n : Int} (h : ¬ (n < 0 ∨ 8388608 < n)) : fsize n = n + 9 := if_neg h
set_option maxHeartbeats 400000 in
theorem size_any (n : Int) (hn : -9223372036854775808 ≤ n ∧ n ≤ 9223372036854775807) (w : World) : Calls Try.prog 14 #[.int .i64 n] w fun e w' => e = .returned (.int .i64 (fsize n)) ∧ w = w' := by
  by_cases h : n < 0 ∨ 8388608 < n
  · rw [fsize_no h]
    rcases h with h | h
    all_goals
      go_enter Try.func14, Try.ntmps14
      go_wp2
      go_ret
      exact ⟨rfl, rfl⟩
  · rw [fsize_yes h]
    go_enter Try.func14, Try.ntmps14
    go_wp2
    go_ret
    exact ⟨rfl, rfl⟩
set_option maxHeartbeats 400000 in
theorem rsize_any (n : Int) (hn : -9223372036854775808 ≤ n ∧ n ≤ 9223372036854775807) (w : World) : Calls Try.prog 15 #[.int .i64 n] w fun e w' => e = .returned (.int .i64 (fsize n)) ∧ w = w' := by
  by_cases h : n < 0 ∨ 8388608 < n
  · rw [fsize_no h]
    rcases h with h | h
    all_goals
      go_enter Try.func15, Try.ntmps15
      go_wp2
      go_ret
      exact ⟨rfl, rfl⟩
  · rw [fsize_yes h]
    go_enter Try.func15, Try.ntmps15
    go_wp2
    go_ret
    exact ⟨rfl, rfl⟩

theorem le4_cells (x : Nat) (h : x < 4294967296) : [Value.int .u8 ((x : Int) % 256), .int .u8 ((x : Int) / 256 % 256), .int .u8 ((x : Int) / 65536 % 256), .int .u8 ((x : Int) / 16777216)] = bv (le4 x) := by
  unfold le4 bv
  simp only [List.map_cons, List.map_nil, UInt8.toNat_ofNat']
  rw [Nat.mod_eq_of_lt (show x / 16777216 < 2 ^ 8 by omega)]
  rfl
/-- What a maker of bytes leaves: a new row. -/
def NewRow (bs : List UInt8) (w : World) (e : Ending) (w' : World) : Prop := ∃ v, e = .returned v ∧ Ow w' 5 1 v bs.length (bv bs) ∧ Kp [] w w' ∧ ∀ g, v.ownBlock = some g → w.heap.size ≤ g
theorem crc32_lt (l : List UInt8) : crc l < 4294967296 := more_lt 0 l
set_option maxRecDepth 100000 in
set_option maxHeartbeats 400000 in
theorem ends_any (x : Value) (bs : List UInt8) (n : Nat) (w : World) (hx : Rd w 1 x n (bv bs)) : Calls Try.prog 35 #[x] w (NewRow (le4 (crc bs)) w) := by
  obtain ⟨A, c, rfl⟩ := rd_form hx
  have k0 : Kp [] w (w.alloc (.cells #[.slice A n c] 23)) := (Kp.refl [] w).alloc _
  have H := Sum_any _ _ _ (txs1 23 rfl hx) (by simp)
  rw [show ([bs] : List (List UInt8)).flatten = bs from by simp] at H
  have hlt := crc32_lt bs
  generalize crc bs = s at *
  have hle := le4_cells s hlt
  have ho := ow_new (w.alloc (.cells #[.slice A n c] 23)) 5 1 4 #[.int .u8 ((s : Int) % 256), .int .u8 ((s : Int) / 256 % 256), .int .u8 ((s : Int) / 65536 % 256), .int .u8 ((s : Int) / 16777216)] rfl (by decide)
  rw [show (#[Value.int .u8 ((s : Int) % 256), .int .u8 ((s : Int) / 256 % 256), .int .u8 ((s : Int) / 65536 % 256), .int .u8 ((s : Int) / 16777216)]).toList = bv (le4 s) from hle] at ho
  have H' := Lib.hid H
  have Ho := Lib.hid ho
  have K0 := Lib.hid k0
  clear H ho k0 hle hx
  go_enter Try.func35, Try.ntmps35
  go_wp2_with (go_at_call 44; ((with_reducible refine H'.out.mono ?_); rintro e w' ⟨rfl, rfl⟩))
  go_ret
  refine ⟨_, rfl, ?_, K0.out.alloc _, fun g hg => ?_⟩
  · have := Ho.out; rw [show (le4 s).length = 4 from rfl]; simpa using this
  · simp [Value.ownBlock] at hg; omega
theorem not32_sub (x : Nat) (h : x < 4294967296) : (4294967295 : Int) - (x : Int) = (not32 x : Int) := by unfold not32; omega
set_option maxHeartbeats 1000000 in
theorem rsum07_any (v : Value) (n : Nat) (bs : List UInt8) (w : World) (hv : Rd w 1 v n (bv bs)) :
    Calls Try.prog 50 #[v] w fun e w' => e = .returned (.int .u32 (crc bs)) ∧ w = w' := by
  obtain ⟨A, c, rfl, rfl, hn, hA, hc⟩ := rd_get hv
  have Hc := Lib.hid hc
  have HA := Lib.hid hA
  clear hc hA hv
  unfold maxLen at hn
  have hz : (4294967295 : Nat) < 4294967296 := by decide
  have hm : crc bs = not32 (thru 4294967295 bs) := rfl
  rw [hm]
  clear hm
  go_enter Try.func50, Try.ntmps50
  go_wp2
  go_loop [3, 4, 5, 6] (fun u i _ _ => ∃ k : Nat, k ≤ bs.length ∧ i = .int .i64 k ∧ u = .int .u32 ((thru 4294967295 (bs.take k) : Nat) : Int)) (fun _ i _ _ => bs.length - (intOf i).toNat)
  case atStart => exact ⟨0, by omega, rfl, by simp [thru]⟩
  case round =>
    obtain ⟨k, hk, rfl, rfl⟩ := hrel
    by_cases hlt : k < bs.length
    · obtain ⟨ad, rfl⟩ : ∃ ad, A = some ad := by
        cases A with
        | none => have := HA.out rfl; omega
        | some ad => exact ⟨ad, rfl⟩
      have hcell := Hc.out ad rfl k hlt
      have Ht := Lib.hid (thru_take (x := 4294967295) hlt)
      have hT : thru 4294967295 (bs.take k) < 4294967296 := thru_lt _ hz
      have hY := xor_u8_lt bs[k] hT
      have hq := bs[k].toNat_lt
      generalize thru 4294967295 (bs.take k) = T at *
      generalize bs[k].toNat = q at *
      have Hx := u32_xor_nat T q hT (by omega)
      generalize T ^^^ q = Y at *
      have hd : decide ((k : Int) < (bs.length : Int)) = true := by simpa using hlt
      go_wp2
      go_loop [3, 5, 6] (fun u i _ => ∃ j : Nat, j ≤ 8 ∧ i = .int .i64 j ∧ u = .int .u32 ((itn stp j Y : Nat) : Int)) (fun _ i _ => 8 - (intOf i).toNat)
      case atStart => exact ⟨0, by omega, rfl, rfl⟩
      case round =>
        obtain ⟨j, hj, rfl, rfl⟩ := hrel
        have hb := itn_stp_lt j hY
        have Hs := Lib.hid (itn_succ stp j Y)
        by_cases hl8 : j < 8
        · generalize itn stp j Y = Z at *
          go_wp2
          · go_round
            case rel => exact ⟨j + 1, by omega, by go_num, by rw [Hs.out, ← way_odd hb (by assumption)]⟩
            case measure => simp [intOf]; omega
          · go_round
            case rel => exact ⟨j + 1, by omega, by go_num, by rw [Hs.out, ← way_even (by assumption)]⟩
            case measure => simp [intOf]; omega
        · obtain rfl : j = 8 := by omega
          have Hy : Hid (itn stp 8 Y = eight Y) := Lib.hid rfl
          generalize itn stp 8 Y = Z at *
          go_wp2
          go_round
          case rel => exact ⟨k + 1, by omega, by go_num, by rw [Ht.out, Hy.out]⟩
          case measure => simp [intOf]; omega
    · obtain rfl : k = bs.length := by omega
      rw [List.take_length]
      have hb : thru 4294967295 bs < 4294967296 := thru_lt bs hz
      have hn2 := not32_sub _ hb
      obtain ⟨t, ht⟩ : ∃ t, thru 4294967295 bs = t := ⟨_, rfl⟩
      rw [ht] at hb hn2 ⊢
      have Ht := Lib.hid ht
      have Hn2 := Lib.hid hn2
      clear ht hn2
      go_wp2
      go_ret
      exact ⟨by rw [Ht.out, ← Hn2.out]; rfl, rfl⟩
end Go.Proofs.Ytnchjfhmalbjoaa
/- The reference's Ends; Frame. -/
namespace Go.Proofs.Ytnchjfhmalbjoaa
open Go.RowKit

set_option maxRecDepth 100000 in
set_option maxHeartbeats 400000 in
theorem rends_any (x : Value) (bs : List UInt8) (n : Nat) (w : World) (hx : Rd w 1 x n (bv bs)) : Calls Try.prog 40 #[x] w (NewRow (le4 (crc bs)) w) := by
  have k0 : Kp [] w w := Kp.refl [] w
  have H := rsum07_any x n bs w hx
  have hlt := crc32_lt bs
  generalize crc bs = s at *
  have hle := le4_cells s hlt
  have ho := ow_new w 5 1 4 #[.int .u8 ((s : Int) % 256), .int .u8 ((s : Int) / 256 % 256), .int .u8 ((s : Int) / 65536 % 256), .int .u8 ((s : Int) / 16777216)] rfl (by decide)
  rw [show (#[Value.int .u8 ((s : Int) % 256), .int .u8 ((s : Int) / 256 % 256), .int .u8 ((s : Int) / 65536 % 256), .int .u8 ((s : Int) / 16777216)]).toList = bv (le4 s) from hle] at ho
  have H' := Lib.hid H
  have Ho := Lib.hid ho
  have K0 := Lib.hid k0
  clear H ho k0 hle hx
  go_enter Try.func40, Try.ntmps40
  go_wp2_with (go_at_call 50; ((with_reducible refine H'.out.mono ?_); rintro e w' ⟨rfl, rfl⟩))
  go_ret
  refine ⟨_, rfl, ?_, K0.out.alloc _, fun g hg => ?_⟩
  · have := Ho.out; rw [show (le4 s).length = 4 from rfl]; simpa using this
  · simp [Value.ownBlock] at hg; omega
end Go.Proofs.Ytnchjfhmalbjoaa
/- A region that draws its order, operation by operation: what each leaves in its slot is told by a property that new memory does not disturb; each operation is walked once, from the properties of those that it waits for; whatever order is picked, all properties hold at the end. For regions that only read, make memory, and call what turns nothing old. -/
namespace Go.Proofs.Ytnchjfhmalbjoaa

section
variable {P : Program} {ops : Array Oper} {Q : Exit → Act → World → Prop}

/-- The frame with the values put, from number k on. -/
def putAll (vs : Nat → Value) : List Oper → Nat → Act → Act
  | [], _, a => a
  | o :: l, k, a => putAll vs l (k + 1) (a.put o.dst (vs k))
def upd (vs : Nat → Value) (i : Nat) (v : Value) : Nat → Value := fun k => if k = i then v else vs k
/-- No two write one slot. -/
def apartB : List Oper → Bool
  | [] => true
  | o :: l => (match o.dst with | none => true | some d => l.all fun x => x.dst != some d) && apartB l
theorem putAll_late (vs : Nat → Value) (i : Nat) (v : Value) : ∀ (l : List Oper) (k : Nat) (a : Act), i < k → putAll (upd vs i v) l k a = putAll vs l k a
  | [], _, _, _ => rfl
  | o :: l, k, a, h => by
    show putAll (upd vs i v) l (k + 1) (a.put o.dst (upd vs i v k)) = putAll vs l (k + 1) (a.put o.dst (vs k))
    rw [putAll_late vs i v l (k + 1) _ (by omega)]
    congr 2
    simp [upd, show k ≠ i by omega]
theorem putAll_put (vs : Nat → Value) (x : Option Tmp) (v : Value) : ∀ (l : List Oper) (k : Nat) (a : Act), (∀ d, x = some d → ∀ o ∈ l, o.dst ≠ some d) → (putAll vs l k a).put x v = putAll vs l k (a.put x v)
  | [], _, _, _ => rfl
  | o :: l, k, a, h => by
    show (putAll vs l (k + 1) (a.put o.dst (vs k))).put x v = putAll vs l (k + 1) ((a.put x v).put o.dst (vs k))
    rw [putAll_put vs x v l (k + 1) _ (fun d hd o ho => h d hd o (List.mem_cons_of_mem _ ho)), Act.put_comm a (x := o.dst) (y := x) (vs k) v]
    intro d hd hx
    exact h d hx o (by simp) hd
theorem put_put (a : Act) (x : Option Tmp) (v u : Value) : (a.put x v).put x u = a.put x u := by
  cases x with
  | none => rfl
  | some d => simp [Act.put]
theorem putAll_upd (vs : Nat → Value) (i : Nat) (v : Value) : ∀ (l : List Oper) (k : Nat) (a : Act) (o : Oper), apartB l = true → k ≤ i → l[i - k]? = some o → (putAll vs l k a).put o.dst v = putAll (upd vs i v) l k a
  | [], _, _, _, _, _, h => by simp at h
  | x :: l, k, a, o, hB, hk, h => by
    simp only [apartB, Bool.and_eq_true] at hB
    by_cases e : k = i
    · subst e
      rw [Nat.sub_self] at h
      obtain rfl : x = o := by simpa using h
      show (putAll vs l (k + 1) (a.put x.dst (vs k))).put x.dst v = putAll (upd vs k v) l (k + 1) (a.put x.dst (upd vs k v k))
      rw [putAll_late vs k v l (k + 1) _ (by omega), putAll_put vs x.dst v l (k + 1) _ ?_, put_put]
      · simp [upd]
      · intro d hd o ho hod
        have h1 := hB.1
        rw [hd] at h1
        have := (List.all_eq_true.1 h1) o ho
        rw [hod] at this
        simp at this
    · have e2 : i - k = (i - (k + 1)) + 1 := by omega
      rw [e2, List.getElem?_cons_succ] at h
      show (putAll vs l (k + 1) (a.put x.dst (vs k))).put o.dst v = putAll (upd vs i v) l (k + 1) (a.put x.dst (upd vs i v k))
      rw [putAll_upd vs i v l (k + 1) _ o hB.2 (by omega) h]
      congr 2
      simp [upd, e]
def slotOf (a : Act) : Option Tmp → Value
  | none => undef
  | some d => a.tmps.getD d undef
def at0 (a : Act) (l : List Oper) : Nat → Value := fun k => match l[k]? with | none => undef | some o => slotOf a o.dst
theorem put_slot (a : Act) (x : Option Tmp) : a.put x (slotOf a x) = a := by
  cases x with
  | none => rfl
  | some d =>
    have : a.tmps.setIfInBounds d (a.tmps.getD d undef) = a.tmps := by
      apply Array.ext_getElem?
      intro i
      rw [Array.getElem?_setIfInBounds]
      split
      · rename_i h; subst h
        by_cases hl : d < a.tmps.size
        · simp [hl]
        · simp [hl]
      · rfl
    simp only [Act.put, slotOf]
    first | rw [this] | (simp only [this])
theorem putAll_at (a : Act) : ∀ (l : List Oper) (k : Nat) (vs : Nat → Value), (∀ j o, l[j]? = some o → vs (k + j) = slotOf a o.dst) → putAll vs l k a = a
  | [], _, _, _ => rfl
  | o :: l, k, vs, h => by
    have h0 := h 0 o rfl
    show putAll vs l (k + 1) (a.put o.dst (vs k)) = a
    rw [Nat.add_zero] at h0
    rw [h0, put_slot]
    exact putAll_at a l (k + 1) vs (fun j x hx => by rw [show k + 1 + j = k + (j + 1) from by omega]; exact h (j + 1) x (by simpa using hx))

/-- Each waits for earlier ones alone, and has no guard. -/
def earlierB : List Oper → Nat → Bool
  | [], _ => true
  | o :: l, k => (o.after.all fun e => decide (e.on < k)) && o.guard.isNone && earlierB l (k + 1)
theorem earlierB_spec : ∀ (l : List Oper) (k i : Nat) (o : Oper), earlierB l k = true → l[i]? = some o → (∀ e ∈ o.after, e.on < k + i) ∧ o.guard = none
  | [], _, _, _, _, h => by simp at h
  | x :: l, k, i, o, hB, h => by
    simp only [earlierB, Bool.and_eq_true] at hB
    rcases i with _ | i
    · obtain rfl : x = o := by simpa using h
      refine ⟨fun e he => ?_, by simpa using hB.1.2⟩
      have := (Array.all_eq_true_iff_forall_mem.1 hB.1.1) e he
      simpa using this
    · have := earlierB_spec l (k + 1) i o hB.2 (by simpa using h)
      exact ⟨fun e he => by have := this.1 e he; omega, this.2⟩

/-- What is to be shown of each operation. -/
def InvStep (P : Program) (Q : Exit → Act → World → Prop) (PV : Nat → Value → World → Prop) (W0 : World) (fr : (Nat → Value) → Act) (o : Oper) (i : Nat) : Prop :=
  ∀ (vs : Nat → Value) (A : Act) (W : World), fr vs = A → Kp [] W0 W → (∀ j, waitsB .any o j = true → PV j (vs j) W) →
    ∀ K : Act → World → Prop, (∀ v W', Kp [] W W' → PV i v W' → K (A.put o.dst v) W') → o.wp P A W K (Qn Q)
def InvSteps (P : Program) (Q : Exit → Act → World → Prop) (PV : Nat → Value → World → Prop) (W0 : World) (fr : (Nat → Value) → Act) : List Oper → Nat → Prop
  | [], _ => True
  | o :: l, i => InvStep P Q PV W0 fr o i ∧ InvSteps P Q PV W0 fr l (i + 1)
theorem InvSteps.at_ {PV : Nat → Value → World → Prop} {W0 : World} {fr : (Nat → Value) → Act} : ∀ {l : List Oper} {k : Nat}, InvSteps P Q PV W0 fr l k → ∀ {i o}, l[i]? = some o → InvStep P Q PV W0 fr o (k + i)
  | [], _, _, _, _, h => by simp at h
  | x :: l, k, hs, i, o, h => by
    rcases i with _ | i
    · obtain rfl : x = o := by simpa using h
      exact hs.1
    · have := hs.2.at_ (i := i) (o := o) (by simpa using h)
      rwa [show k + 1 + i = k + (i + 1) from by omega] at this

theorem inv_any {PV : Nat → Value → World → Prop} {W0 : World} {a0 : Act} {l : List Oper} (hst : ∀ i v W W', PV i v W → Kp [] W W' → PV i v W') (hap : apartB l = true) (hea : earlierB l 0 = true)
    (hs : InvSteps P Q PV W0 (fun vs => putAll vs l 0 a0) l 0)
    (hend : ∀ vs W, Kp [] W0 W → (∀ i, i < l.length → PV i (vs i) W) → Q .normal (putAll vs l 0 a0) W) :
    ∀ (fuel : Nat) (listed : Array Bool) (vs : Nat → Value) (W : World), listed.size = l.length → (listed.toList.filter (fun b => !b)).length = fuel → Kp [] W0 W → (∀ i, listed.getD i false = true → PV i (vs i) W) →
      wpAny P .any l.toArray Q fuel listed (putAll vs l 0 a0) W := by
  have all_of : ∀ (listed : Array Bool), listed.size = l.length → Region.ready .any l.toArray listed = [] → ∀ i, i < l.length → listed.getD i false = true := by
    intro listed hsz hr i
    induction i using Nat.strongRecOn with
    | _ i ih =>
      intro hi
      cases hl : listed.getD i false with
      | true => rfl
      | false =>
        exfalso
        have hlt : i < listed.size := by omega
        have hmem : i ∈ Region.ready .any l.toArray listed := mem_ready.2 ⟨by simp [hlt] at hl ⊢; exact hl, l[i], by simp [hi], fun e he _ => by
          have := (earlierB_spec l 0 i l[i] hea (by simp [hi])).1 e he
          exact ih e.on (by omega) (by omega)⟩
        rw [hr] at hmem; cases hmem
  have hnil : ∀ (listed : Array Bool) vs W, listed.size = l.length → Kp [] W0 W → (∀ i, listed.getD i false = true → PV i (vs i) W) → Region.ready .any l.toArray listed = [] → Q .normal (putAll vs l 0 a0) W :=
    fun listed vs W hsz hk hp hr => hend vs W hk (fun i hi => hp i (all_of listed hsz hr i hi))
  intro fuel
  induction fuel with
  | zero =>
    intro listed vs W hsz hf hk hp
    have hr : Region.ready .any l.toArray listed = [] := by
      refine List.eq_nil_iff_forall_not_mem.2 fun i hi => ?_
      have h0 := (mem_ready.1 hi).1
      obtain ⟨_, o, ho, _⟩ := mem_ready.1 hi
      have hlt : i < listed.size := by
        have := (Array.getElem?_eq_some_iff.1 ho).1
        simp at this; omega
      have : listed[i] ∈ listed.toList.filter (fun b => !b) := by
        rw [List.mem_filter]
        simp [hlt] at h0
        refine ⟨by simp, by simp [h0]⟩
      rw [List.eq_nil_of_length_eq_zero hf] at this
      cases this
    exact ⟨hr, hnil listed vs W hsz hk hp hr⟩
  | succ fuel ih =>
    intro listed vs W hsz hf hk hp
    refine ⟨hnil listed vs W hsz hk hp, fun i hi => ?_⟩
    obtain ⟨h0, o, ho, hall⟩ := mem_ready.1 hi
    have hol : l[i]? = some o := by simpa using ho
    have hlt : i < listed.size := by
      have := (List.getElem?_eq_some_iff.1 hol).1
      omega
    have hgd := (earlierB_spec l 0 i o hea hol).2
    refine wpOp_n ?_
    unfold wpOp
    simp only [ho]
    rw [if_pos (by simp [Region.wanted, hgd])]
    refine .inl ?_
    have hstep := hs.at_ hol
    rw [Nat.zero_add] at hstep
    refine hstep vs _ W rfl hk (fun j hj => by obtain ⟨e, he, hb, rfl⟩ := waitsB_spec hj; exact hp e.on (hall e he hb)) _ fun v W' hk' hv => ?_
    rw [putAll_upd vs i v l 0 a0 o hap (Nat.zero_le _) (by simpa using hol)]
    refine ih _ _ W' (by simpa using hsz) ?_ (hk.trans hk' (by simp)) (fun j hj => ?_)
    · simp [hlt] at h0
      have h1 : listed.toList = listed.toList.take i ++ false :: listed.toList.drop (i + 1) := by
        rw [← h0]
        have := List.take_append_drop i listed.toList
        rw [List.drop_eq_getElem_cons (by simpa using hlt)] at this
        simpa using this.symm
      have h2 : (listed.setIfInBounds i true).toList = listed.toList.take i ++ true :: listed.toList.drop (i + 1) := by
        rw [Array.toList_setIfInBounds]
        conv => lhs; rw [h1]
        rw [List.set_append_right _ _ (by simp; omega)]
        simp [Nat.min_eq_left (Nat.le_of_lt hlt)]
      rw [h1] at hf
      rw [h2]
      simp only [List.filter_append, List.filter_cons, List.length_append] at hf ⊢
      simp at hf ⊢
      omega
    · by_cases e : i = j
      · subst e; simpa [upd] using hv
      · rw [getD_set_ne false e] at hj
        simp only [upd, show j ≠ i from fun h => e h.symm, if_false]
        exact hst j _ W W' (hp j hj) hk'

/-- The region's rule. -/
theorem wp_region_inv {id : Nat} {a : Act} {w : World} {l : List Oper} (PV : Nat → Value → World → Prop) (hm : P.follows .mixedOrders = true) (hap : apartB l = true) (hea : earlierB l 0 = true)
    (hst : ∀ i v W W', PV i v W → Kp [] W W' → PV i v W')
    (hs : InvSteps P Q PV w.drew (fun vs => putAll vs l 0 a) l 0)
    (hend : ∀ vs W, Kp [] w.drew W → (∀ i, i < l.length → PV i (vs i) W) → Q .normal (putAll vs l 0 a) W) : (Code.region id l.toArray true).wp P Q a w := by
  refine wp_region_any hm ?_
  have h := inv_any (P := P) (Q := Q) hst hap hea hs hend l.length (Array.replicate l.length false) (at0 a l) w.drew (by simp) (by simp) (Kp.refl _ _) (fun i hi => by
    simp [Array.getElem?_replicate] at hi
    split at hi <;> simp at hi)
  rw [putAll_at a l 0 (at0 a l) (fun j o ho => by simp [at0, ho])] at h
  simpa using h
/-- What a slot holds behind all. -/
def evA (vs : Nat → Value) : List Oper → Nat → Nat → Option Value
  | [], _, _ => none
  | o :: l, k, d => if o.dst = some d then some (vs k) else evA vs l (k + 1) d
theorem put_size (a : Act) (x : Option Tmp) (v : Value) : (a.put x v).tmps.size = a.tmps.size := by cases x <;> simp [Act.put]
theorem putAll_eval (vs : Nat → Value) : ∀ (l : List Oper) (k : Nat) (a : Act) (d : Nat), d < a.tmps.size → apartB l = true → (putAll vs l k a).eval (.tmp d) = (evA vs l k d).getD (a.eval (.tmp d))
  | [], _, _, _, _, _ => rfl
  | o :: l, k, a, d, hd, hB => by
    show (putAll vs l (k + 1) (a.put o.dst (vs k))).eval (.tmp d) = _
    simp only [apartB, Bool.and_eq_true] at hB
    rw [putAll_eval vs l (k + 1) _ d (by rw [put_size]; exact hd) hB.2]
    rw [show evA vs (o :: l) k d = (if o.dst = some d then some (vs k) else evA vs l (k + 1) d) from rfl]
    by_cases e : o.dst = some d
    · rw [if_pos e]
      have hn : evA vs l (k + 1) d = none := by
        have h1 := hB.1
        rw [e] at h1
        have : ∀ (l : List Oper) (k : Nat), (∀ x ∈ l, x.dst ≠ some d) → evA vs l k d = none := by
          intro l
          induction l with
          | nil => intro _ _; rfl
          | cons x l ih =>
            intro k h
            unfold evA
            rw [if_neg (h x (by simp))]
            exact ih (k + 1) (fun y hy => h y (by simp [hy]))
        refine this l (k + 1) fun x hx hxd => ?_
        have := (List.all_eq_true.1 h1) x hx
        rw [hxd] at this
        simp at this
      rw [hn, e]
      simp [Act.put, Act.eval, hd]
    · rw [if_neg e]
      congr 1
      cases ho : o.dst with
      | none => rfl
      | some d' =>
        have hne : d' ≠ d := fun h => e (by rw [ho, h])
        simp [Act.put, Act.eval, Array.getElem?_setIfInBounds_ne hne]
theorem eval_of {vs : Nat → Value} {l : List Oper} {a A : Act} {d : Nat} {X : Value} (hA : (fun vs => putAll vs l 0 a) vs = A) (hB : apartB l = true) (hd : d < a.tmps.size) (h : (evA vs l 0 d).getD (a.eval (.tmp d)) = X) : A.eval (.tmp d) = X := by
  subst hA
  show (putAll vs l 0 a).eval _ = X
  rw [putAll_eval vs l 0 a d hd hB, h]
/-- A slot, as the walk's steps spell it. -/
theorem slot_is {vs : Nat → Value} {l : List Oper} {a A : Act} {d : Nat} {X : Value} (hA : (fun vs => putAll vs l 0 a) vs = A) (hB : apartB l = true) (hd : d < a.tmps.size) (h : (evA vs l 0 d).getD (a.eval (.tmp d)) = X) : A.tmps[d]?.getD undef = X := by
  have := eval_of hA hB hd h
  simpa [Act.eval] using this
end
end Go.Proofs.Ytnchjfhmalbjoaa
/- Walks of the reference for layer 1, and of the law's helpers: Number, Eight, List; lent, left, spoil. -/
namespace Go.Proofs.Ytnchjfhmalbjoaa
open Go.RowKit


set_option maxRecDepth 100000 in
set_option maxHeartbeats 400000 in
theorem number_ref (k : Nat) (hk : k ≤ 8) (x : Nat) (hx : x < 18446744073709551616) (w : World) :
    Calls Try.prog 45 #[.int .i64 k, .int .u64 x] w fun e w' => ∃ v, e = .returned v ∧ Ow w' 5 1 v k (bv (be k x)) ∧ Kp [] w w' ∧ ∀ g, v.ownBlock = some g → w.heap.size ≤ g := by
  obtain ⟨i0, hi, hz0, hz1, hz2⟩ := info_parts Try.infoU8
  go_enter Try.func45, Try.ntmps45
  go_wp2_with (at_make; refine wpList_make_full _ rfl (.tmp 7) (.tmp 7) _ rfl 0 5 i0 _ 1 Try.underlying23 hi hz0 hz1 _ _ _ _ k rfl rfl rfl rfl (by rw [hz2]; omega) (by unfold maxLen; omega) (Nat.zero_le _) ?_)
  intro w1 hown1 hg1
  have h0 : Ow w1 5 1 (.slice (some ⟨w.heap.size, 0, none⟩) k k) k (List.replicate k (.int .u8 0) ++ (bv (be k x)).drop k) := by
    have := hown1
    rw [toList_madeCells_one] at this
    rw [List.drop_of_length_le (by simp [bv_length]), List.append_nil]
    exact this
  have k1 : Kp [] w w1 := Kp.of_grown hg1
  have hsz : w.heap.size < w1.heap.size := by
    have := ow_lt h0 (g := w.heap.size) rfl
    exact this
  have Hbe := Lib.hid (be_get k x)
  clear hown1 hg1
  go_wp2
  go_loopw [1, 6] (fun y t wr => ∃ j : Nat, j ≤ k ∧ t = .int .i64 ((j : Int) - 1) ∧ y = .int .u64 ((x / 256 ^ (k - j) : Nat) : Int) ∧ Ow wr 5 1 (.slice (some ⟨w.heap.size, 0, none⟩) k k) k (List.replicate j (.int .u8 0) ++ (bv (be k x)).drop j) ∧ Kp [] w wr) (fun _ n _ => ((intOf n) + 1).toNat)
  case atStart => exact ⟨k, Nat.le_refl _, rfl, by simp, h0, k1⟩
  case round =>
    obtain ⟨j, hj, rfl, rfl, ho, hkp⟩ := hrel
    have hlt : x / 256 ^ (k - j) < 18446744073709551616 := Nat.lt_of_le_of_lt (Nat.div_le_self _ _) hx
    rcases j with _ | j
    · go_wp2
      go_ret
      refine ⟨_, rfl, ?_, hkp, by simp [Value.ownBlock]⟩
      simpa using ho
    · have hget := Hbe.out j (by omega)
      rw [show k - 1 - j = k - (j + 1) from by omega] at hget
      have hcell := ho.cellAt j (by omega)
      have hfz := ho.frozenAt j
      have hlw := ow_lt ho (g := w.heap.size) rfl
      rw [List.getElem?_append_left (by simp), List.getElem?_replicate_of_lt (by omega)] at hcell
      generalize hq : x / 256 ^ (k - (j + 1)) = q at *
      have hst := ho.stored (g := w.heap.size) j (.int .u8 ((q % 256 : Nat) : Int))
      have Hst := Lib.hid hst
      have Hq := Lib.hid hq
      have Hget := Lib.hid hget
      clear hst hq hget
      go_wp2
      go_roundw
      case rel =>
        refine ⟨j, by omega, by go_num, ?_, ?_, ?_⟩
        · have : x / 256 ^ (k - j) = q / 256 := by
            rw [← Hq.out, Nat.div_div_eq_div_mul, ← Nat.pow_succ, show (k - (j + 1)).succ = k - j from by omega]
          rw [this]; congr 1
        · have h2 := Hst.out.1
          rw [fill_step _ _ _ j (by rw [bv_length, be_length]; omega) (by rw [bv_get, Hget.out, Option.map_some, UInt8.toNat_ofNat'])] at h2
          rw [Int.natCast_emod] at h2
          exact h2
        · exact hkp.setCell (.inr (Nat.le_refl _)) _
      case measure => simp [intOf]

end Go.Proofs.Ytnchjfhmalbjoaa
/- The reference's Frame. -/
namespace Go.Proofs.Ytnchjfhmalbjoaa
open Go.RowKit

/-- An append onto a full slice, as one operation: what was there stays as it is. -/
theorem op_app_grows {P : Program} {o : Oper} {a : Act} {w : World} {K : Act → World → Prop} {Q : Exit → Act → World → Prop} (s x : Operand) (t : TypeId)
    (ho : o.op = .call { callee := .builtin .append, args := #[s, x], argTypes := #[t, t] })
    (e : TypeId) (i : TypeInfo) (z : Value) (size bytes : Nat) (ht : P.underlying t = some (.slice e)) (hi : P.info? e = some i) (hz : i.zero = some z)
    (hsize : i.size = size) (hby : i.bytes = bytes) (hzs : z.cells.size = size) (hsz : 0 < size)
    (g : Nat) (n : Nat) (cs : Array Value) (t' : TypeId) (hs : a.eval s = .slice (some ⟨g, 0, none⟩) n n) (hb : Blk w g t' cs) (hn : cs.size = n * size)
    (y : Value) (m : Nat) (news : List Value) (hx : a.eval x = y) (hr : Rd w size y m news) (hm : 0 < m)
    (h63 : n + m ≤ maxLen) (hbytes : (n + m) * bytes ≤ 140737488355328)
    (h : ∀ v' w', Ow w' e size v' (n + m) (cs.toList ++ news) → Kp [] w w' → (∀ g', v'.ownBlock = some g' → w.heap.size ≤ g') → K (a.put o.dst v') w') : o.wp P a w K Q := by
  obtain ⟨hl, A, c, rfl, h1, h2, h3, h4⟩ := hr
  obtain ⟨ad, rfl⟩ : ∃ ad, A = some ad := by
    cases A with
    | none => have := (h3 rfl).1; omega
    | some ad => exact ⟨ad, rfl⟩
  obtain ⟨v', w', hrun, r1, r2⟩ := run_append_arg_grows (P := P) w t o.type e i z size bytes ht hi hz hsize hby hzs hsz ⟨g, 0, none⟩ n n cs.toList (by simpa using hn) (fun j u hu => by
    have := hb.cell j
    rw [show (⟨g, 0, none⟩ : Addr).add j = ⟨g, j, none⟩ from by unfold Addr.add; split <;> simp_all]
    rw [this]; simpa using hu) ad m c news hl (h4 ad rfl) (by omega) h63 hbytes
  unfold Oper.wp
  simp [execOp, ho, resolve, invoke, builtin, hs, hx, hrun, Result.andThen]
  refine h v' w' ?_ (Kp.of_grown r2) (fun g' hg' => (r1.lt g' hg').1)
  refine ⟨r1.1, ?_⟩
  rcases r1.2 with hv | ⟨g', cap, cur, hv, _, rest⟩
  · exact .inl hv
  · exact .inr ⟨g', cap, cur, hv, Nat.zero_le _, rest⟩

/-- The bytes of a frame. -/
def heads (kd : UInt8) (body : List UInt8) : List UInt8 := (kd :: be 4 body.length) ++ body
def frame (kd : UInt8) (body : List UInt8) : List UInt8 := heads kd body ++ le4 (crc (heads kd body))
set_option maxRecDepth 100000 in
set_option maxHeartbeats 1000000 in
theorem frame_any (kd : UInt8) (B : Value) (body : List UInt8) (n : Nat) (w : World) (hB : Rd w 1 B n (bv body)) (hlen : n + 64 ≤ 140737488355328) :
    Calls Try.prog 36 #[.agg #[.int .u8 (kd.toNat : Int), B]] w (NewRow (frame kd body) w) := by
  obtain ⟨A, c, rfl, hn0, -⟩ := rd_get hB
  have Rb := Lib.hid hB
  have k0 : Kp [] w (w.alloc (.cells #[.int .u8 (kd.toNat : Int), .slice A n c] 25)) := (Kp.refl [] w).alloc _
  have b0 : Blk (w.alloc (.cells #[.int .u8 (kd.toNat : Int), .slice A n c] 25)) w.heap.size 25 #[.int .u8 (kd.toNat : Int), .slice A n c] := Blk.new _ _ _
  have B0 := Lib.hid b0
  have K0 := Lib.hid k0
  have Hnum : Hid (∀ W, Calls Try.prog 45 #[.int .i64 4, .int .u64 (n : Int)] W fun e w' => ∃ v, e = .returned v ∧ Ow w' 5 1 v 4 (bv (be 4 n)) ∧ Kp [] W w' ∧ ∀ g, v.ownBlock = some g → W.heap.size ≤ g) := Lib.hid (fun W => number_ref 4 (by decide) n (by omega) W)
  have Hn := Lib.hid hn0
  have hq := kd.toNat_lt
  clear hB k0 b0 hn0
  go_enter Try.func36, Try.ntmps36
  go_wp2
  refine wp_region_inv (fun i v W => match i with
      | 0 => v = .pointer (some ⟨w.heap.size, 0, none⟩) | 1 => v = .int .u8 (kd.toNat : Int)
      | 2 => ∃ g, v = .slice (some ⟨g, 0, none⟩) 1 1 ∧ Blk W g 5 #[.int .u8 (kd.toNat : Int)]
      | 3 => v = .pointer (some ⟨w.heap.size, 1, none⟩) | 4 => v = .slice A n c | 5 => v = .int .i64 (n : Int) | 6 => v = .int .u64 (n : Int)
      | 7 => Rd W 1 v 4 (bv (be 4 n))
      | 8 => Ow W 5 1 v 5 (bv (kd :: be 4 n)) ∧ ∀ g, v.ownBlock = some g → w.heap.size < g
      | 9 => Ow W 5 1 v 5 (bv (kd :: be 4 n)) ∧ ∀ g, v.ownBlock = some g → w.heap.size < g | _ => True) (by kernel_rfl) (by kernel_rfl) (by kernel_rfl) ?_ ?_ ?_
  · intro i v W W' h hk
    iterate 10 (rcases i with _ | i; first | exact h | exact h.kp hk (by simp) | exact ⟨ow_kp h.1 hk (by simp), h.2⟩ | (obtain ⟨g, hg, hb⟩ := h; exact ⟨g, hg, hb.kp hk (by simp)⟩))
    trivial
  · refine ⟨?_, ?_, ?_, ?_, ?_, ?_, ?_, ?_, ?_, ?_, trivial⟩
    · intro vs A W hA hW hd K hK
      have e0 : A.tmps[1]?.getD undef = .pointer (some ⟨w.heap.size, 0, none⟩) := slot_is hA (by kernel_rfl) (Nat.le_of_ble_eq_true rfl) rfl
      go_step
      exact hK _ _ (Kp.refl _ _) rfl
    · intro vs A W hA hW hd K hK
      have f0 : vs 0 = .pointer (some ⟨w.heap.size, 0, none⟩) := hd 0 (by kernel_rfl)
      have e0 : A.tmps[4]?.getD undef = vs 0 := slot_is hA (by kernel_rfl) (Nat.le_of_ble_eq_true rfl) rfl
      rw [f0] at e0
      have hc : W.cell? ⟨w.heap.size, 0, none⟩ = some (.int .u8 (kd.toNat : Int)) := ((B0.out.kp (S := []) (Kp.of_drew hW) (by simp)).cell 0)
      go_step
      exact hK _ _ (Kp.refl _ _) rfl
    · intro vs A W hA hW hd K hK
      have f0 : vs 1 = .int .u8 (kd.toNat : Int) := hd 1 (by kernel_rfl)
      have e0 : A.tmps[5]?.getD undef = vs 1 := slot_is hA (by kernel_rfl) (Nat.le_of_ble_eq_true rfl) rfl
      rw [f0] at e0
      go_step
      exact hK _ _ ((Kp.refl _ _).alloc _) ⟨_, rfl, Blk.new _ _ _⟩
    · intro vs A W hA hW hd K hK
      have e0 : A.tmps[1]?.getD undef = .pointer (some ⟨w.heap.size, 0, none⟩) := slot_is hA (by kernel_rfl) (Nat.le_of_ble_eq_true rfl) rfl
      go_step
      exact hK _ _ (Kp.refl _ _) rfl
    · intro vs A' W hA hW hd K hK
      have f0 : vs 3 = .pointer (some ⟨w.heap.size, 1, none⟩) := hd 3 (by kernel_rfl)
      have e0 : A'.tmps[7]?.getD undef = vs 3 := slot_is hA (by kernel_rfl) (Nat.le_of_ble_eq_true rfl) rfl
      rw [f0] at e0
      have hc : W.cell? ⟨w.heap.size, 1, none⟩ = some (.slice A n c) := ((B0.out.kp (S := []) (Kp.of_drew hW) (by simp)).cell 1)
      go_step
      exact hK _ _ (Kp.refl _ _) rfl
    · intro vs A' W hA hW hd K hK
      have f0 : vs 4 = .slice A n c := hd 4 (by kernel_rfl)
      have e0 : A'.tmps[8]?.getD undef = vs 4 := slot_is hA (by kernel_rfl) (Nat.le_of_ble_eq_true rfl) rfl
      rw [f0] at e0
      go_step
      exact hK _ _ (Kp.refl _ _) rfl
    · intro vs A' W hA hW hd K hK
      have f0 : vs 5 = .int .i64 (n : Int) := hd 5 (by kernel_rfl)
      have e0 : A'.tmps[9]?.getD undef = vs 5 := slot_is hA (by kernel_rfl) (Nat.le_of_ble_eq_true rfl) rfl
      rw [f0] at e0
      go_step
      exact hK _ _ (Kp.refl _ _) rfl
    · intro vs A' W hA hW hd K hK
      have f0 : vs 6 = .int .u64 (n : Int) := hd 6 (by kernel_rfl)
      have e0 : A'.tmps[10]?.getD undef = vs 6 := slot_is hA (by kernel_rfl) (Nat.le_of_ble_eq_true rfl) rfl
      rw [f0] at e0
      go_step
      with_reducible refine (Hnum.out W).mono ?_
      rintro e w' ⟨v, rfl, o1, k1, -⟩
      exact hK _ _ k1 (Rd.of_own o1)
    · intro vs A' W hA hW hd K hK
      obtain ⟨g, f0, hb⟩ := hd 2 (by kernel_rfl)
      have f1 : Rd W 1 (vs 7) 4 (bv (be 4 n)) := hd 7 (by kernel_rfl)
      have e0 : A'.tmps[6]?.getD undef = vs 2 := slot_is hA (by kernel_rfl) (Nat.le_of_ble_eq_true rfl) rfl
      have e1 : A'.tmps[11]?.getD undef = vs 7 := slot_is hA (by kernel_rfl) (Nat.le_of_ble_eq_true rfl) rfl
      rw [f0] at e0
      obtain ⟨i0, hi, hz0, hz1, hz2⟩ := info_parts Try.infoU8
      refine op_app_grows (.tmp 6) (.tmp 11) _ rfl 5 i0 _ 1 1 Try.underlying23 hi hz0 hz1 hz2 rfl (by decide) g 1 _ _ (by simpa [Act.eval] using e0) hb rfl (vs 7) 4 _ (by simpa [Act.eval] using e1) f1 (by decide) (by decide) (by decide) ?_
      intro v' w' h1 h2 h3
      refine hK v' w' h2 ⟨h1, fun g hg => ?_⟩
      have := h3 g hg
      have := hW.size
      simp at this
      omega
    · intro vs A' W hA hW hd K hK
      have f0 : Ow W 5 1 (vs 8) 5 (bv (kd :: be 4 n)) ∧ _ := hd 8 (by kernel_rfl)
      have e0 : A'.tmps[12]?.getD undef = vs 8 := slot_is hA (by kernel_rfl) (Nat.le_of_ble_eq_true rfl) rfl
      go_step
      exact hK _ _ (Kp.refl _ _) f0
  · intro vs W hW hp
    have h9 := hp 9 (Nat.le_of_ble_eq_true rfl)
    clear hp
    simp only at h9
    obtain ⟨o9, n9⟩ := h9
    simp only [putAll, Act.put, List.setIfInBounds_toArray, List.set_cons_succ, List.set_cons_zero]
    have KW : Kp [] w W := K0.out.trans (Kp.of_drew hW) (by simp)
    have hws : w.heap.size ≤ W.heap.size := KW.size
    have hc : W.cell? ⟨w.heap.size, 1, none⟩ = some (.slice A n c) := ((B0.out.kp (S := []) (Kp.of_drew hW) (by simp)).cell 1)
    have RB := Lib.hid (Rb.out.kp KW (by simp))
    have Ek : Hid (bv (kd :: be 4 n) ++ bv body = bv (heads kd body)) := Lib.hid (by rw [Hn.out]; unfold heads; rw [bv_append])
    have KW' := Lib.hid KW
    have Lh : Hid ((heads kd body).length = 5 + n) := Lib.hid (by have := Hn.out; unfold heads; simp [be_length]; omega)
    obtain ⟨s, hs⟩ : ∃ s, crc (heads kd body) = s := ⟨_, rfl⟩
    have Ef : Hid (frame kd body = heads kd body ++ le4 s) := Lib.hid (by unfold frame; rw [hs])
    have HE : Hid (∀ v2 w2, Rd w2 1 v2 (5 + n) (bv (heads kd body)) → Calls Try.prog 40 #[v2] w2 (NewRow (le4 s) w2)) := Lib.hid (fun v2 w2 h => by have := rends_any v2 (heads kd body) (5 + n) w2 h; rwa [hs] at this)
    clear KW hs hW B0 Hn Hnum
    generalize heads kd body = hb at *
    generalize frame kd body = fr at *
    obtain ⟨v9, hv9⟩ : ∃ v9, vs 9 = v9 := ⟨_, rfl⟩
    rw [hv9] at o9 n9 ⊢
    obtain ⟨i0, hi, hz0, hz1, hz2⟩ := info_parts Try.infoU8
    go_wp2_with (at_builtin; refine wpList_app _ rfl (.tmp 13) (.tmp 15) _ rfl 5 i0 _ 1 1 Try.underlying23 hi hz0 hz1 hz2 rfl (by decide) v9 5 _ rfl o9 (.slice A n c) n (bv body) rfl RB.out (bv_one _) (by unfold maxLen; omega) (by omega) ?_)
    intro v2 w2 o2 g2 a2
    rw [Ek.out] at o2
    have K2 := Lib.hid (KW'.out.grown g2 (fun g hg => .inr (Nat.le_of_lt (n9 g hg))))
    have n2 : ∀ g, v2.ownBlock = some g → w.heap.size ≤ g := fun g hg => by
      rcases a2 with h | h
      · rw [h] at hg; exact Nat.le_of_lt (n9 g hg)
      · rw [h] at hg; injection hg with hg; omega
    have HE2 := Lib.hid (HE.out v2 w2 (Rd.of_own o2))
    clear g2 a2 o9 n9 hc HE
    go_wp2_with (first
      | (go_at_call 40; ((with_reducible refine (HE2.out).mono ?_); rintro e w3 ⟨v3, rfl, o3, k3, f3⟩; have O2 := Lib.hid (ow_kp o2 k3 (by simp)); have K3 := Lib.hid (K2.out.trans k3 (by simp))))
      | (at_builtin; refine wpList_app _ rfl (.tmp 17) (.tmp 19) _ rfl 5 i0 _ 1 1 Try.underlying23 hi hz0 hz1 hz2 rfl (by decide) v2 (5 + n) _ rfl O2.out v3 4 _ rfl (Rd.of_own o3) (bv_one _) (by unfold maxLen; omega) (by omega) ?_))
    intro v4 w4 o4 g4 a4
    have hs3 := K3.out.size
    have K4 := Lib.hid (K3.out.grown g4 (fun g hg => .inr (n2 g hg)))
    have n4 : ∀ g, v4.ownBlock = some g → w.heap.size ≤ g := fun g hg => by
      rcases a4 with h | h
      · rw [h] at hg; exact n2 g hg
      · rw [h] at hg; injection hg with hg; omega
    have O4 : Ow w4 5 1 v4 fr.length (bv fr) := by
      rw [Ef.out, bv_append, List.length_append, Lh.out]
      exact o4
    clear g4 a4 o4 O2 o2 o3
    go_wp2
    go_ret
    exact ⟨_, rfl, O4, K4.out, n4⟩
end Go.Proofs.Ytnchjfhmalbjoaa
/- WireOrders: the walk. -/
namespace Go.Proofs.Ytnchjfhmalbjoaa
open Go.RowKit

def wrR (p : Nat) (v : Value) (bs : List UInt8) : Res where
  fp := p :: v.ownBlock.toList
  ok := fun w => Wr w p v bs
  keep := fun _ _ _ h hk hn => ⟨h.1.kp hk (hn p (by simp)), ow_kp h.2 hk (fun g hg => hn g (by simp [hg]))⟩
  lt := fun _ h b hb => by
    rcases List.mem_cons.1 hb with rfl | hb
    · exact h.1.lt
    · exact ow_lt h.2 (by simpa using hb)
def rrR (p : Nat) (v : Value) (a : Nat) (bs : List UInt8) : Res where
  fp := p :: v.ownBlock.toList
  ok := fun w => Rr w p v a bs
  keep := fun _ _ _ h hk hn => h.kp hk (hn p (by simp)) (fun g hg => hn g (by simp [hg]))
  lt := fun _ h b hb => by
    rcases List.mem_cons.1 hb with rfl | hb
    · exact h.blk.lt
    · exact h.vlt b (by simpa using hb)
theorem Held.wturn {w0 w w' : World} {l1 l2 : List Res} {p : Nat} {v v' : Value} {bs bs' : List UInt8} (h : Held w0 w (l1 ++ wrR p v bs :: l2)) (hw : Wr w' p v' bs') (hs : WSt p v v' w w') : Held w0 w' (l1 ++ wrR p v' bs' :: l2) :=
  h.turnAt (wrR p v' bs') hs.1 hw (fun b hb => by
    rcases List.mem_cons.1 hb with rfl | hb
    · exact .inl (by simp [wrR])
    · rcases hs.2 with e | ⟨g, e, hg⟩
      · rw [e] at hb; exact .inl (List.mem_cons_of_mem _ hb)
      · rw [e] at hb; simp at hb; subst hb; exact .inr hg)
theorem Held.rturn {w0 w w' : World} {l1 l2 : List Res} {p a a' : Nat} {v : Value} {bs : List UInt8} (h : Held w0 w (l1 ++ rrR p v a bs :: l2)) (hw : Rr w' p v a' bs) (hk : Kp [p] w w') : Held w0 w' (l1 ++ rrR p v a' bs :: l2) :=
  h.turnAt (rrR p v a' bs) (hk.more (fun g hg => .inl (by simp at hg; subst hg; simp [rrR]))) hw (fun _ hb => .inl hb)
theorem Held.wnew {w0 w w' : World} {L : List Res} (h : Held w0 w L) (hw : Wr w' w.heap.size (.slice none 0 0) []) (hk : Kp [] w w') : Held w0 w' (wrR w.heap.size (.slice none 0 0) [] :: L) :=
  h.new _ hk hw (fun b hb => by simp [wrR, Value.ownBlock] at hb; omega)

theorem wrap_u16_nat (x : Nat) : IntKind.u16.wrap (x : Int) = ((x % 65536 : Nat) : Int) := by
  simp [IntKind.wrap, IntKind.bits, IntKind.signed]
/-- The lesser number's form is the lesser text. -/
theorem bytesLess_num : ∀ (l m : List UInt8), l.length = m.length → Op.bytesLess l m = decide (num l < num m)
  | [], [], _ => by simp [Op.bytesLess]
  | a :: l, b :: m, h => by
    have hl : l.length = m.length := by simpa using h
    have ih := bytesLess_num l m hl
    have h1 := num_lt l
    have h2 := num_lt m
    rw [hl] at h1
    unfold Op.bytesLess
    rw [ih, num_cons, num_cons, hl]
    generalize num l = p at *
    generalize num m = q at *
    generalize 256 ^ m.length = e at *
    by_cases hab : a < b
    · have hab' : a.toNat + 1 ≤ b.toNat := UInt8.lt_iff_toNat_lt.1 hab
      have h3 : (a.toNat + 1) * e ≤ b.toNat * e := Nat.mul_le_mul_right _ hab'
      rw [Nat.add_mul] at h3
      simp [hab]
      omega
    · by_cases hba : a = b
      · subst hba
        simp
      · have hba' : b.toNat + 1 ≤ a.toNat := by
          rcases Nat.lt_trichotomy a.toNat b.toNat with h | h | h
          · exact absurd (UInt8.lt_iff_toNat_lt.2 h) hab
          · exact absurd (UInt8.toNat_inj.1 h) hba
          · exact h
        have h3 : (b.toNat + 1) * e ≤ a.toNat * e := Nat.mul_le_mul_right _ hba'
        rw [Nat.add_mul] at h3
        have e1 : decide (a < b) = false := by simpa using hab
        have e2 : (a == b) = false := by simpa using hba
        rw [e1, e2, Bool.false_and, Bool.or_false]
        symm
        rw [decide_eq_false_iff_not]
        omega
theorem bytesLess_be (x y : Nat) (hx : x < 18446744073709551616) (hy : y < 18446744073709551616) : Op.bytesLess (be 8 x) (be 8 y) = decide (x < y) := by
  rw [bytesLess_num _ _ (by simp), num_be_lt (k := 8) hx, num_be_lt (k := 8) hy]
theorem be_beq (x y : Nat) (hx : x < 18446744073709551616) (hy : y < 18446744073709551616) : (be 8 x == be 8 y) = decide (x = y) := by
  have : be 8 x = be 8 y ↔ x = y := ⟨fun h => by rw [← num_be_lt (k := 8) (x := x) hx, h, num_be_lt (k := 8) hy], fun h => by rw [h]⟩
  rw [Bool.eq_iff_iff]
  simp [this]

end Go.Proofs.Ytnchjfhmalbjoaa
/- Walks for layer 1's laws: the reference's List; 'puts'. -/
namespace Go.Proofs.Ytnchjfhmalbjoaa
open Go.RowKit

set_option maxRecDepth 100000 in
set_option maxHeartbeats 800000 in
theorem w_list_long (p : Nat) (v : Value) (bs : List UInt8) (k : Nat) (hk : 1 ≤ k ∧ k ≤ 4) (x : Value) (n : Nat) (hx : ∃ A c, x = .slice A n c) (w : World) (_hw : Wr w p v bs) (hlt : 256 ^ k ≤ n) (hn : n ≤ 140737488355328) :
    Calls Try.prog 33 #[.pointer (some ⟨p, 0, none⟩), .int .i64 k, x] w fun e w' => e = .returned (.int .i64 3) ∧ w = w' := by
  obtain ⟨A, c, rfl⟩ := hx
  obtain ⟨hk1, hk2⟩ := hk
  have hpos : 0 < n / 256 ^ k := Nat.div_pos hlt (Nat.pow_pos (by decide))
  have hd : decide ((0 : Int) < (n : Int) / ((256 ^ k : Nat) : Int)) = true := by rw [decide_eq_true_iff]; omega
  rcases (show k = 1 ∨ k = 2 ∨ k = 3 ∨ k = 4 from by omega) with rfl | rfl | rfl | rfl
  all_goals
    simp only [Nat.reducePow, Int.cast_ofNat_Int] at hd
    clear hlt hpos
    go_enter Try.func33, Try.ntmps33
    go_wp2
    go_ret
    exact ⟨rfl, rfl⟩
end Go.Proofs.Ytnchjfhmalbjoaa
/- 'puts': what is written, by the program and by the document. -/
namespace Go.Proofs.Ytnchjfhmalbjoaa
open Go.RowKit

/-- A Put, as data. -/
structure PutD where
  kind : Int
  x : Nat
  h : List UInt8
  b : List UInt8
  width : Int
/-- The bytes that it writes. -/
def PutD.enc (p : PutD) : List UInt8 :=
  if p.kind = 1 then be 1 p.x else if p.kind = 2 then be 2 p.x else if p.kind = 3 then be 4 p.x else if p.kind = 4 then be 8 p.x else if p.kind = 5 then be 8 p.x
  else if p.kind = 6 then p.h else if p.kind = 7 then p.b
  else if p.kind = 8 then (if 1 ≤ p.width ∧ p.width ≤ 4 ∧ p.b.length < 256 ^ p.width.toNat then be p.width.toNat p.b.length ++ p.b else []) else []
/-- The cells of one. -/
structure PutC (cs : Array Value) (p : PutD) (B : Value) : Prop where
  c0 : cs[0]? = some (.int .i64 p.kind)
  c1 : cs[1]? = some (.int .u64 p.x)
  ch : ((cs.toList.drop 2).take 32) = bv p.h
  c34 : cs[34]? = some B
  c35 : cs[35]? = some (.int .i64 p.width)
  size : cs.size = 36
  hx : p.x < 18446744073709551616
  hh : p.h.length = 32
  hk : -9223372036854775808 ≤ p.kind ∧ p.kind ≤ 9223372036854775807
  hw : -9223372036854775808 ≤ p.width ∧ p.width ≤ 9223372036854775807



/-- What 'puts' leaves. -/
def PutPost (q : Nat) (u : Value) (bs enc : List UInt8) (w : World) (e : Ending) (w' : World) : Prop :=
  ∃ v u', e = .returned (.tuple #[v, .bool true]) ∧ Wr w' q u' (bs ++ enc) ∧ WSt q u u' w w' ∧ Rd w' 1 v enc.length (bv enc)

/-- First something new is made (world w1), then the writer is written to. -/
theorem wst_after {w w1 w' : World} {q : Nat} {u u' : Value} (h1 : Kp [] w w1) (hs : WSt q u u' w1 w') : WSt q u u' w w' :=
  ⟨(h1.more (T := q :: u.ownBlock.toList) (by simp)).trans hs.1 (fun g hg => .inl hg), by
    rcases hs.2 with h | ⟨g, h2, h3⟩
    · exact .inl h
    · exact .inr ⟨g, h2, Nat.le_trans h1.size h3⟩⟩
theorem Wr.kp0 {w w' : World} {q : Nat} {u : Value} {bs : List UInt8} (h : Wr w q u bs) (hk : Kp [] w w') : Wr w' q u bs := h.kp hk (by simp) (fun _ _ => by simp)
/-- What was made new reads as it did, while the writer is written to. -/
theorem rd_beside {w1 w2 w' : World} {e : TypeId} {q n : Nat} {u u' v : Value} {bs : List UInt8} {xs : List Value} (ho : Ow w2 e 1 v n xs) (hf : ∀ g, v.ownBlock = some g → w1.heap.size ≤ g) (hw : Wr w1 q u bs) (hs : WSt q u u' w2 w') : Rd w' 1 v n xs :=
  (Rd.of_own ho).kp hs.1 (fun g hg hm => by
    have h1 := hf g hg
    rcases List.mem_cons.1 hm with h | h
    · have := hw.1.lt; omega
    · have := ow_lt hw.2 (g := g) (by simpa using h); omega)

-- PUTS
end Go.Proofs.Ytnchjfhmalbjoaa
/- 'puts', the other kinds. -/
namespace Go.Proofs.Ytnchjfhmalbjoaa
open Go.RowKit

/-- Out of 64 bits to a signed number and back. -/
theorem tou64_wrap (x : Nat) (h : x < 18446744073709551616) : tou64 (wrap64 (x : Int)) = x := by
  unfold wrap64 tou64; omega

theorem run_hash {P : Program} {W : World} {g : Nat} {t : TypeId} {cs : Array Value} {h : List UInt8} (ty : TypeId) (d : TypeDesc) (hb : Blk W g t cs) (hh : (cs.toList.drop 2).take 32 = bv h) (hu : P.underlying ty = some d) (hd : aggB d = true) (hi : (P.info? ty).map (·.size) = some 32) (hl : h.length = 32) :
    (Instr.loadAt ty (.pointer (some ⟨g, 2, none⟩))).run P W = .ok (.agg (bv h).toArray) W := by
  refine run_loadAt_agg W ⟨g, 2, none⟩ ty (bv h) d (fun j u hu' => ?_) hu hd (by rw [hi, bv_length, hl])
  rw [Addr.add_lit, hb.cell]
  rw [← hh, List.getElem?_take] at hu'
  split at hu'
  · rw [List.getElem?_drop] at hu'
    simpa using hu'
  · cases hu'
theorem rd_hash {W : World} {g : Nat} {t : TypeId} {cs : Array Value} {h : List UInt8} (hb : Blk W g t cs) (hh : (cs.toList.drop 2).take 32 = bv h) (hl : h.length = 32) : Rd W 1 (.slice (some ⟨g, 2, none⟩) 32 32) 32 (bv h) :=
  ⟨by rw [bv_length, hl], _, 32, rfl, Nat.le_refl _, by simp [maxLen], (fun h => by cases h), (fun ad had j u hu' => by
    cases had
    rw [Addr.add_lit, hb.cell]
    rw [← hh, List.getElem?_take] at hu'
    split at hu'
    · rw [List.getElem?_drop] at hu'
      simpa using hu'
    · cases hu')⟩

end Go.Proofs.Ytnchjfhmalbjoaa
/- 'puts', the kinds that lend. -/
namespace Go.Proofs.Ytnchjfhmalbjoaa
open Go.RowKit

/-- What was lent reads as what was lent. -/
theorem rd_lent {w : World} {e : TypeId} {g c n : Nat} {bs : List UInt8} (h : Ow w e 1 (.slice (some ⟨g, 0, none⟩) (n + 2) c) (n + 2) (bv (bs ++ [165, 166]))) (hl : bs.length = n) : Ow w e 1 (.slice (some ⟨g, 0, none⟩) n c) n (bv bs) := by
  have h1 := ow_take h (m := n) (by omega) (by omega)
  rwa [bv_append, Nat.mul_one, List.take_append_of_le_length (by rw [bv_length, hl]; exact Nat.le_refl _), List.take_of_length_le (by rw [bv_length, hl]; exact Nat.le_refl _)] at h1

end Go.Proofs.Ytnchjfhmalbjoaa
/- 'puts', all kinds; its loop. -/
namespace Go.Proofs.Ytnchjfhmalbjoaa
open Go.RowKit

end Go.Proofs.Ytnchjfhmalbjoaa
/- WireWrites: what comes in; what the call holds. -/
namespace Go.Proofs.Ytnchjfhmalbjoaa
open Go.RowKit

/-- What the first i of them write. -/
def encs (ps : List PutD) (i : Nat) : List UInt8 := ((ps.take i).map PutD.enc).flatten
theorem encs_zero (ps : List PutD) : encs ps 0 = [] := by simp [encs]
theorem encs_succ (ps : List PutD) (i : Nat) (p : PutD) (h : ps[i]? = some p) : encs ps (i + 1) = encs ps i ++ p.enc := by
  unfold encs
  rw [List.take_add_one, h]
  simp
theorem encs_over (ps : List PutD) (i : Nat) (h : ps.length ≤ i) : encs ps (i + 1) = encs ps i := by
  unfold encs
  rw [List.take_of_length_le h, List.take_of_length_le (by omega)]

/-- Element i of a slice of Puts. -/
structure PutAt (w : World) (ad : Addr) (i : Nat) (p : PutD) (cs : Array Value) (B : Value) : Prop where
  c : PutC cs p B
  at_ : ∀ j u, cs.toList[j]? = some u → w.cell? ((ad.add (i * 36)).add j) = some u
  b : Rd w 1 B p.b.length (bv p.b)
/-- A slice of Puts. -/
structure PutsIn (w : World) (v : Value) (ps : List PutD) : Prop where
  form : ∃ A c, v = .slice A ps.length c ∧ ps.length ≤ c ∧ c ≤ maxLen ∧ (A = none → ps = []) ∧ ∀ ad, A = some ad → ∀ i p, ps[i]? = some p → ∃ cs B, PutAt w ad i p cs B
theorem cell_old {w w' : World} {p : Addr} {u : Value} (h : w.cell? p = some u) (hk : Kp [] w w') : w'.cell? p = some u := by
  have hlt : p.block < w.heap.size := by
    rcases Nat.lt_or_ge p.block w.heap.size with h' | h'
    · exact h'
    · simp [World.cell?, Array.getElem?_eq_none h'] at h
  rw [World.cell?_of_block (hk.block p.block hlt (by simp))]; exact h
theorem PutAt.old {w w' : World} {ad : Addr} {i : Nat} {p : PutD} {cs : Array Value} {B : Value} (h : PutAt w ad i p cs B) (hk : Kp [] w w') : PutAt w' ad i p cs B :=
  ⟨h.c, fun j u hu => cell_old (h.at_ j u hu) hk, rd_old h.b hk⟩
theorem PutAt.lt {w : World} {ad : Addr} {i : Nat} {p : PutD} {cs : Array Value} {B : Value} (h : PutAt w ad i p cs B) : ∀ g, B.ownBlock = some g → p.b ≠ [] → g < w.heap.size := by
  intro g hg hne
  obtain ⟨_, A, c, h2, _, _, h5, h6⟩ := h.b
  rw [h2] at hg
  cases A with
  | none => simp [Value.ownBlock] at hg
  | some ad =>
    simp [Value.ownBlock] at hg
    obtain ⟨x, xs, hx⟩ := List.exists_cons_of_ne_nil hne
    have h := h6 ad rfl 0 (.int .u8 x.toNat) (by rw [hx]; rfl)
    rcases Nat.lt_or_ge g w.heap.size with h' | h'
    · exact h'
    · exfalso
      have hb : (ad.add 0).block = g := by rw [← hg]; rfl
      simp [World.cell?, hb, Array.getElem?_eq_none h'] at h

def sel {α : Type} (k : Nat) (x y : α) : α := if k = 0 then x else y

theorem sel_in {w : World} {A B : Option Addr} {ca cb : Nat} {ps qs : List PutD} (ha : PutsIn w (.slice A ps.length ca) ps) (hb : PutsIn w (.slice B qs.length cb) qs) (k : Nat) :
    ∃ Ar cr, sel k (Value.slice A ps.length ca) (Value.slice B qs.length cb) = .slice Ar (sel k ps qs).length cr ∧ PutsIn w (.slice Ar (sel k ps qs).length cr) (sel k ps qs) := by
  unfold sel
  split
  · exact ⟨A, ca, rfl, ha⟩
  · exact ⟨B, cb, rfl, hb⟩
theorem sel_encs (ps qs : List PutD) (i k : Nat) (hk : k < 2) : sel k (encs ps (if 0 < k then i + 1 else i)) (encs qs (if 1 < k then i + 1 else i)) = encs (sel k ps qs) i := by
  have : k = 0 ∨ k = 1 := by omega
  rcases this with rfl | rfl <;> simp [sel]
theorem sel_cell {α : Type} (x y : α) (k : Nat) (hk : k < 2) : (#[x, y])[k]? = some (sel k x y) := by
  have : k = 0 ∨ k = 1 := by omega
  rcases this with rfl | rfl <;> rfl
theorem sel_ind {α : Type} (P : α → Prop) {x y : α} (k : Nat) (hx : P x) (hy : P y) : P (sel k x y) := by unfold sel; split <;> assumption
theorem Held.old_ne {w0 w : World} {l1 l2 : List Res} {q : Nat} {u : Value} {bs : List UInt8} (S : Held w0 w (l1 ++ wrR q u bs :: l2)) {g : Nat} (h : g < w0.heap.size) : g ∉ q :: u.ownBlock.toList := fun hm => by
  have := S.base (wrR q u bs) (by simp) g hm
  omega
theorem same_true (x y : Value) (a : List UInt8) (n m : Nat) (w : World) (hx : Rd w 1 x n (bv a)) (hy : Rd w 1 y m (bv a)) :
    Calls Try.prog 13 #[x, y] w fun e w' => e = .returned (.bool true) ∧ w = w' := by
  have h := same_any x y a a n m w hx hy
  rwa [beq_self_eq_true] at h
end Go.Proofs.Ytnchjfhmalbjoaa
/- Records: what comes in; what Put answers. -/
namespace Go.Proofs.Ytnchjfhmalbjoaa
open Go.RowKit

abbrev Rec := UInt8 × List UInt8
/-- The error of one: 2, 3 or none. -/
def bad (r : Rec) : Nat := if r.1.toNat = 0 then 2 else if 8388608 < r.2.length then 3 else 0
/-- The first error. -/
def rerr : List Rec → Nat
  | [] => 0
  | r :: l => if bad r = 0 then rerr l else bad r
theorem rerr_append (a b : List Rec) : rerr (a ++ b) = if rerr a = 0 then rerr b else rerr a := by
  induction a with
  | nil => simp [rerr]
  | cons r l ih =>
    simp only [List.cons_append, rerr]
    by_cases h : bad r = 0
    · simp only [h, if_true]; exact ih
    · simp [h]
theorem rerr_take_succ {rs : List Rec} {k : Nat} {r : Rec} (h : rerr (rs.take k) = 0) (hr : rs[k]? = some r) (hb : bad r = 0) : rerr (rs.take (k + 1)) = 0 := by
  rw [List.take_add_one, hr, rerr_append, if_pos h]
  simp [rerr, hb]
theorem rerr_bad {rs : List Rec} {k : Nat} {r : Rec} (h : rerr (rs.take k) = 0) (hr : rs[k]? = some r) (hb : bad r ≠ 0) : rerr rs = bad r := by
  obtain ⟨hk, rfl⟩ := List.getElem?_eq_some_iff.1 hr
  conv => lhs; rw [← List.take_append_drop k rs, rerr_append, if_pos h, List.drop_eq_getElem_cons hk]
  simp [rerr, hb]
def frames (rs : List Rec) : List UInt8 := (rs.map fun r => frame r.1 r.2).flatten
theorem frames_take_succ {rs : List Rec} {k : Nat} {r : Rec} (hr : rs[k]? = some r) : frames (rs.take (k + 1)) = frames (rs.take k) ++ frame r.1 r.2 := by
  unfold frames
  rw [List.take_add_one, hr]
  simp
theorem frame_length (kd : UInt8) (body : List UInt8) : (frame kd body).length = body.length + 9 := by
  unfold frame heads
  simp [be_length, le4]
  omega
theorem frames_append (a b : List Rec) : frames (a ++ b) = frames a ++ frames b := by simp [frames]
theorem frames_take_le (rs : List Rec) (k : Nat) : (frames (rs.take k)).length ≤ (frames rs).length := by
  have h := frames_append (rs.take k) (rs.drop k)
  rw [List.take_append_drop] at h
  rw [h, List.length_append]
  omega
/-- What Put answers. -/
def outOf (rs : List Rec) : List UInt8 := if rerr rs = 0 then frames rs else []

/-- Element i of a slice of records. -/
structure RecAt (w : World) (ad : Addr) (i : Nat) (r : Rec) (B : Value) : Prop where
  at_ : ∀ j u, [Value.int .u8 (r.1.toNat : Int), B][j]? = some u → w.cell? ((ad.add (i * 2)).add j) = some u
  b : Rd w 1 B r.2.length (bv r.2)
/-- A slice of records. -/
structure RecsIn (w : World) (v : Value) (rs : List Rec) : Prop where
  form : ∃ A c, v = .slice A rs.length c ∧ rs.length ≤ c ∧ c ≤ maxLen ∧ (A = none → rs = []) ∧ ∀ ad, A = some ad → ∀ i r, rs[i]? = some r → ∃ B, RecAt w ad i r B
theorem RecAt.old {w w' : World} {ad : Addr} {i : Nat} {r : Rec} {B : Value} (h : RecAt w ad i r B) (hk : Kp [] w w') : RecAt w' ad i r B :=
  ⟨fun j u hu => cell_old (h.at_ j u hu) hk, rd_old h.b hk⟩
theorem RecsIn.old {w w' : World} {v : Value} {rs : List Rec} (h : RecsIn w v rs) (hk : Kp [] w w') : RecsIn w' v rs := by
  obtain ⟨A, c, h1, h2, h3, h4, h5⟩ := h.form
  exact ⟨A, c, h1, h2, h3, h4, fun ad had i r hr => by obtain ⟨B, hB⟩ := h5 ad had i r hr; exact ⟨B, hB.old hk⟩⟩
end Go.Proofs.Ytnchjfhmalbjoaa
/- The reference's Put. -/
namespace Go.Proofs.Ytnchjfhmalbjoaa
open Go.RowKit
theorem Try.infoRec : (Try.prog.info? 25).map (·.size) = some 2 := by kernel_rfl

/-- What a Put leaves: bytes and an error's number. -/
def PutsPost (k : IntKind) (rs : List Rec) (w : World) (e : Ending) (w' : World) : Prop :=
  ∃ u, e = .returned (.tuple #[u, .int k (rerr rs : Int)]) ∧ Ow w' 5 1 u (outOf rs).length (bv (outOf rs)) ∧ Kp [] w w' ∧ ∀ g, u.ownBlock = some g → w.heap.size ≤ g
set_option maxRecDepth 100000 in
set_option maxHeartbeats 1000000 in
theorem rput_any (v : Value) (rs : List Rec) (w : World) (hv : RecsIn w v rs) (hsz : (frames rs).length + 64 ≤ 140737488355328) :
    Calls Try.prog 11 #[v] w (PutsPost .i64 rs w) := by
  obtain ⟨A, c, rfl, hn1, hn2, hA, hat⟩ := hv.form
  have Hat := Lib.hid hat
  have HA := Lib.hid hA
  clear hat hA hv
  unfold maxLen at hn2
  have Hsz := Lib.hid hsz
  obtain ⟨i0, hi, hz0, hz1, hz2⟩ := info_parts Try.infoU8
  go_enter Try.func11, Try.ntmps11
  go_wp2
  go_loopw [4, 5] (fun o i wr => ∃ k : Nat, k ≤ rs.length ∧ i = .int .i64 k ∧ rerr (rs.take k) = 0 ∧ Ow wr 5 1 o (frames (rs.take k)).length (bv (frames (rs.take k))) ∧ Kp [] w wr ∧ ∀ g, o.ownBlock = some g → w.heap.size ≤ g) (fun _ i _ => rs.length - (intOf i).toNat)
  case atStart => exact ⟨0, by omega, rfl, rfl, World.ownsRow_nil _ _ _ _, Kp.refl _ _, by simp [Value.ownBlock]⟩
  case round =>
    obtain ⟨k, hk, rfl, he, ho, hkp, hfr⟩ := hrel
    obtain ⟨Ao, co, rfl, -, -⟩ := ow_form ho
    by_cases hlt : k < rs.length
    · obtain ⟨ad, rfl⟩ : ∃ ad, A = some ad := by
        cases A with
        | none => have := HA.out rfl; rw [this] at hlt; simp at hlt
        | some ad => exact ⟨ad, rfl⟩
      have hr : rs[k]? = some rs[k] := List.getElem?_eq_getElem hlt
      obtain ⟨B, hB0⟩ := Hat.out ad rfl k _ hr
      have hB := hB0.old hkp
      have hc0 := hB.at_ 0 _ rfl
      have hc1 := hB.at_ 1 _ rfl
      rw [add_of_add, Nat.add_zero] at hc0
      have Hr := Lib.hid hr
      have Hst := Lib.hid (frames_take_succ hr)
      have Hle := Lib.hid (frames_take_le rs (k + 1))
      have HB := Lib.hid hB
      obtain ⟨Ab, cb, rfl, hbn, -⟩ := rd_get hB.b
      have hc1' : wr.cell? { block := (ad.add (k * 2)).block, off := (ad.add (k * 2)).off + 1 } = some (.slice Ab rs[k].2.length cb) := by
        first | exact hc1 | simpa [World.cell?, Addr.add] using hc1
      clear hc1
      generalize rs[k] = r at *
      obtain ⟨kd, body⟩ := r
      simp only at *
      have hbd : bad (kd, body) = if kd.toNat = 0 then 2 else if 8388608 < body.length then 3 else 0 := rfl
      have hq := kd.toNat_lt
      by_cases h0 : kd.toNat = 0
      · rw [if_pos h0] at hbd
        have Hre := Lib.hid ((rerr_bad he Hr.out (by rw [hbd]; decide)).trans hbd)
        have Ho : Hid (outOf rs = []) := Lib.hid (by unfold outOf; rw [Hre.out]; rfl)
        rw [h0] at hc0
        clear hbd he
        go_wp2
        go_ret2
        exact ⟨_, by rw [Hre.out]; rfl, by rw [Ho.out]; exact World.ownsRow_nil _ _ _ _, hkp, by simp [Value.ownBlock]⟩
      rw [if_neg h0] at hbd
      by_cases hl : 8388608 < body.length
      · rw [if_pos hl] at hbd
        have Hre := Lib.hid ((rerr_bad he Hr.out (by rw [hbd]; decide)).trans hbd)
        have Ho : Hid (outOf rs = []) := Lib.hid (by unfold outOf; rw [Hre.out]; rfl)
        clear hbd he
        go_wp2
        go_ret2
        exact ⟨_, by rw [Hre.out]; rfl, by rw [Ho.out]; exact World.ownsRow_nil _ _ _ _, hkp, by simp [Value.ownBlock]⟩
      rw [if_neg hl] at hbd
      have He1 := Lib.hid (rerr_take_succ he Hr.out hbd)
      have HF := Lib.hid (fun W (kk : Kp [] _ W) => frame_any kd (.slice Ab body.length cb) body body.length W (HB.out.b.kp kk (by simp)) (by omega))
      have ho' := Lib.hid ho
      clear hbd he ho hB
      have Hlf := Lib.hid (frame_length kd body)
      have hle := Hle.out
      rw [Hst.out, List.length_append, Hlf.out] at hle
      have Hse := Hid (bv (frames (rs.take k)) ++ bv (frame kd body) = bv (frames (rs.take (k + 1))))
      have Hx : Hid (bv (frames (rs.take k)) ++ bv (frame kd body) = bv (frames (rs.take (k + 1))) ∧ (frames (rs.take k)).length + (frame kd body).length = (frames (rs.take (k + 1))).length) := Lib.hid (by rw [Hst.out, bv_append, List.length_append]; exact ⟨rfl, rfl⟩)
      clear Hse Hst Hle
      go_wp2_with (first
        | (go_at_call 36; ((with_reducible refine (HF.out _ (Kp.refl _ _)).mono ?_); rintro e w3 ⟨v3, rfl, o3, k3, f3⟩; have O2 := Lib.hid (ow_kp ho'.out k3 (by simp)); have K3 := Lib.hid (hkp.trans k3 (by simp))))
        | (at_builtin; refine wpList_app _ rfl (.tmp 25) (.tmp 30) _ rfl 5 i0 _ 1 1 Try.underlying23 hi hz0 hz1 hz2 rfl (by decide) _ _ _ rfl O2.out v3 _ _ rfl (Rd.of_own o3) (bv_one _) (by rw [Hlf.out]; unfold maxLen; omega) (by rw [Hlf.out]; omega) ?_))
      intro v4 w4 o4 g4 a4
      have hs3 := K3.out.size
      have hfr2 : ∀ g, v4.ownBlock = some g → w.heap.size ≤ g := fun g hg => by
        rcases a4 with h | h
        · rw [h] at hg; exact hfr g hg
        · rw [h] at hg; injection hg with hg; omega
      have K4 := Lib.hid (K3.out.grown g4 (fun g hg => .inr (hfr g hg)))
      rw [Hx.out.1, Hx.out.2] at o4
      clear g4 a4 O2 o3 ho' HF
      go_wp2
      go_round
      case rel => exact ⟨k + 1, by omega, by go_num, He1.out, o4, K4.out, hfr2⟩
      case measure => simp [intOf]; omega
    · obtain rfl : k = rs.length := by omega
      rw [List.take_length] at ho he hfr ⊢
      have Ho : Hid (Ow _ 5 1 (.slice Ao (frames rs).length co) (outOf rs).length (bv (outOf rs))) := Lib.hid (by unfold outOf; rw [if_pos he]; exact ho)
      have He := Lib.hid he
      clear ho he
      go_wp2
      go_ret2
      exact ⟨_, by rw [He.out]; rfl, Ho.out, hkp, hfr⟩
end Go.Proofs.Ytnchjfhmalbjoaa
/- A fellow of w_list (XWireC): an empty list may share the writer's block. -/
namespace Go.Proofs.Ytnchjfhmalbjoaa
open Go.RowKit
set_option maxRecDepth 100000 in
set_option maxHeartbeats 400000 in
theorem w_listE (p : Nat) (v : Value) (bs : List UInt8) (x : Value) (ns : List UInt8) (k : Nat) (w : World) (hw : Wr w p v bs) (hx : Rd w 1 x ns.length (bv ns)) (hk : 1 ≤ k ∧ k ≤ 4) (hlt : ns.length < 256 ^ k) (hn : bs.length + 4 + ns.length ≤ 140737488355328) (hnb : ∀ g, x.ownBlock = some g → ns ≠ [] → v.ownBlock ≠ some g) :
    Calls Try.prog 33 #[.pointer (some ⟨p, 0, none⟩), .int .i64 k, x] w fun e w' => e = .returned (.int .i64 0) ∧ ∃ v', Wr w' p v' (bs ++ be k ns.length ++ ns) ∧ WSt p v v' w w' := by
  obtain ⟨i0, hi, hz0, hz1, hz2⟩ := info_parts Try.infoU8
  have hc := hw.1.cell 0
  simp at hc
  have Hx := Lib.hid hx
  obtain ⟨A, c, rfl⟩ : ∃ A c, x = .slice A ns.length c := by obtain ⟨_, A, c, h, _⟩ := hx; exact ⟨A, c, h⟩
  clear hx
  have h2 : ns.length < 18446744073709551616 := by omega
  have H2 := Lib.hid h2
  clear h2
  have hS : bs.length + k ≤ 140737488355328 := by omega
  rcases (show k = 1 ∨ k = 2 ∨ k = 3 ∨ k = 4 from by omega) with rfl | rfl | rfl | rfl
  all_goals
    simp only [Nat.reducePow] at hlt
    clear hk
    go_enter Try.func33, Try.ntmps33
    go_wp2_with fail
    refine (form_any v bs.length bs _ (by omega) ns.length H2.out _ hw.2 hS).mono ?_
    rintro e w1 ⟨v1, rfl, h1, h2, h3⟩
    obtain ⟨A1, c1, rfl, _, _⟩ := ow_form h1
    obtain ⟨d1, d2, d3⟩ := wr_kept hw h2
    have hx1 : Rd w1 1 (.slice A ns.length c) ns.length (bv ns) := Hx.out.kpl h2 (fun g hg hne hm => hnb g hg (fun h => hne (by rw [h]; rfl)) (by simpa using hm))
    have Hx1 := Lib.hid hx1; clear hx1
    go_wp2_with (at_builtin; go_loud (refine wpList_app _ rfl (.tmp 34) (.tmp 35) _ rfl 5 i0 _ 1 1 Try.underlying23 hi hz0 hz1 hz2 rfl (by decide) _ _ _ rfl h1 (.slice A ns.length c) ns.length (bv ns) rfl Hx1.out (bv_one _) (by unfold maxLen; omega) (by omega) ?_))
    intro v' w2 hown1 hg1 hat1
    obtain ⟨A2, c2, rfl, _, _⟩ := ow_form hown1
    have hb1 : Blk w1 p 78 #[v] := hw.1.kp h2 (fun hm => hw.ne (by simpa using hm))
    have hb2 := hb1.kp (Kp.of_grown hg1) (fun hm => (ow_blk_ne h1 hb1 (by decide)) (by simpa using hm))
    have d4 := hb2.cell 0
    have d5 := hb2.frozen 0
    have d6 := hb2.lt
    simp at d4
    go_wp2
    go_ret
    refine ⟨rfl, _, wr_step2 hw h1 h2 h3 (by rw [bv_append]; exact hown1) hg1 hat1⟩
end Go.Proofs.Ytnchjfhmalbjoaa
/- Appending bytes onto a row of the call's own: one rule, with all that a walk asks of it behind. -/
namespace Go.Proofs.Ytnchjfhmalbjoaa
open Go.RowKit

/-- A row that was grown lies where it lay, or is new. -/
theorem fresh_grow {B : Nat} {w1 : World} {v v' : Value} (h : B ≤ w1.heap.size) (hf : ∀ g, v.ownBlock = some g → B ≤ g) (ha : v'.ownBlock = v.ownBlock ∨ v'.ownBlock = some w1.heap.size) : ∀ g, v'.ownBlock = some g → B ≤ g := by
  intro g hg
  rcases ha with e | e
  · exact hf g (by rw [← e]; exact hg)
  · rw [e] at hg; injection hg with hg; omega
theorem Held.newBlk {w0 w : World} {L : List Res} (h : Held w0 w L) (t : TypeId) (cs : Array Value) : Held w0 (w.alloc (.cells cs t)) (blkR w.heap.size t cs :: L) :=
  h.new (blkR w.heap.size t cs) ((Kp.refl [] w).alloc (.cells cs t)) (Blk.new w t cs) (fun b hb => by
    have hb : b = w.heap.size := by simpa [blkR] using hb
    omega)
/-- What was written lies in the first things, which are let go. -/
theorem Held.rest {w0 w w' : World} {l1 l2 : List Res} {S : List Nat} (h : Held w0 w (l1 ++ l2)) (hk : Kp S w w') (hS : ∀ g, g ∈ S → ∃ r, r ∈ l1 ∧ g ∈ r.fp) : Held w0 w' l2 := by
  have hap := List.pairwise_append.1 h.apart
  refine ⟨h.k.trans hk (fun g hg => ?_), fun s hs => ?_, fun s hs => h.base s (List.mem_append_right _ hs), hap.2.1⟩
  · obtain ⟨r, hr, hb⟩ := hS g hg
    exact .inr (h.base r (List.mem_append_left _ hr) g hb)
  · exact s.keep w w' S (h.ok s (List.mem_append_right _ hs)) hk (fun b hb hm => by
      obtain ⟨r, hr, hrb⟩ := hS b hm
      exact hap.2.2 r hr s hs b hrb hb)
/-- A small block, cell by cell, as a walk wants it. -/
theorem Blk.c1 {w : World} {g : Nat} {t : TypeId} {a : Value} (h : Blk w g t #[a]) : w.cell? ⟨g, 0, none⟩ = some a ∧ w.frozen? ⟨g, 0, none⟩ = false ∧ g < w.heap.size := ⟨h.cell 0, h.frozen 0, h.lt⟩
theorem Blk.c2 {w : World} {g : Nat} {t : TypeId} {a b : Value} (h : Blk w g t #[a, b]) : w.cell? ⟨g, 0, none⟩ = some a ∧ w.cell? ⟨g, 1, none⟩ = some b ∧ w.frozen? ⟨g, 0, none⟩ = false ∧ w.frozen? ⟨g, 1, none⟩ = false ∧ g < w.heap.size := ⟨h.cell 0, h.cell 1, h.frozen 0, h.frozen 1, h.lt⟩
theorem Blk.c3 {w : World} {g : Nat} {t : TypeId} {a b c : Value} (h : Blk w g t #[a, b, c]) : w.cell? ⟨g, 0, none⟩ = some a ∧ w.cell? ⟨g, 1, none⟩ = some b ∧ w.cell? ⟨g, 2, none⟩ = some c ∧ w.frozen? ⟨g, 0, none⟩ = false ∧ w.frozen? ⟨g, 1, none⟩ = false ∧ w.frozen? ⟨g, 2, none⟩ = false ∧ g < w.heap.size := ⟨h.cell 0, h.cell 1, h.cell 2, h.frozen 0, h.frozen 1, h.frozen 2, h.lt⟩
theorem Blk.c4 {w : World} {g : Nat} {t : TypeId} {a b c d : Value} (h : Blk w g t #[a, b, c, d]) : w.cell? ⟨g, 0, none⟩ = some a ∧ w.cell? ⟨g, 1, none⟩ = some b ∧ w.cell? ⟨g, 2, none⟩ = some c ∧ w.cell? ⟨g, 3, none⟩ = some d ∧ w.frozen? ⟨g, 0, none⟩ = false ∧ w.frozen? ⟨g, 1, none⟩ = false ∧ w.frozen? ⟨g, 2, none⟩ = false ∧ w.frozen? ⟨g, 3, none⟩ = false ∧ g < w.heap.size := ⟨h.cell 0, h.cell 1, h.cell 2, h.cell 3, h.frozen 0, h.frozen 1, h.frozen 2, h.frozen 3, h.lt⟩
/-- 'append(v, y...)' for bytes: v a row made since w0; y reads as bytes. -/
theorem app_bytes {ops : Array Oper} {rest : List Oper} {o : Oper} {a : Act} {w : World} {Q : Exit → Act → World → Prop} (hgd : o.guard = none) (s x : Operand)
    (ho : o.op = .call { callee := .builtin .append, args := #[s, x], argTypes := #[23, 23] })
    (v : Value) (xs : List UInt8) (hs : a.eval s = v) (hown : Ow w 5 1 v xs.length (bv xs))
    (y : Value) (ys : List UInt8) (hx : a.eval x = y) (hr : Rd w 1 y ys.length (bv ys))
    (w0 : World) (h0 : Kp [] w0 w) (hf : ∀ g, v.ownBlock = some g → w0.heap.size ≤ g) (hb : xs.length + ys.length ≤ 140737488355328)
    (h : ∀ v' w', Ow w' 5 1 v' (xs ++ ys).length (bv (xs ++ ys)) → Kp [] w0 w' → Kp v.ownBlock.toList w w' → (∀ g, v'.ownBlock = some g → w0.heap.size ≤ g) → (v'.ownBlock = v.ownBlock ∨ v'.ownBlock = some w.heap.size) → wpList Try.prog ops Q rest (a.put o.dst v') w') : wpList Try.prog ops Q (o :: rest) a w := by
  obtain ⟨i0, hi, hz0, hz1, hz2⟩ := info_parts Try.infoU8
  refine wpList_app (P := Try.prog) w hgd s x 23 ho 5 i0 _ 1 1 Try.underlying23 hi hz0 hz1 hz2 rfl (by decide) v xs.length (bv xs) hs hown y ys.length (bv ys) hx hr (bv_one _) (by unfold maxLen; omega) (by omega) ?_
  intro v' w' h1 h2 h3
  rw [← bv_append, ← List.length_append] at h1
  exact h v' w' h1 (h0.grown h2 (fun g hg => .inr (hf g hg))) (Kp.of_grown h2) (fresh_grow h0.size hf h3) h3
end Go.Proofs.Ytnchjfhmalbjoaa
/- record.Put. -/
namespace Go.Proofs.Ytnchjfhmalbjoaa
open Go.RowKit
theorem be_one (b : UInt8) : be 1 b.toNat = [b] := by
  rw [be_succ]
  simp [be]
theorem heads_length (kd : UInt8) (body : List UInt8) : (heads kd body).length = body.length + 5 := by
  unfold heads; simp [be_length]; omega
theorem le4_length (x : Nat) : (le4 x).length = 4 := rfl
theorem frame_def (kd : UInt8) (body : List UInt8) : frame kd body = heads kd body ++ le4 (crc (heads kd body)) := rfl
set_option maxRecDepth 100000 in
set_option maxHeartbeats 1000000 in
theorem put_any (v : Value) (rs : List Rec) (w : World) (hv : RecsIn w v rs) (hsz : (frames rs).length + 64 ≤ 140737488355328) :
    Calls Try.prog 10 #[v] w (PutsPost .i64 rs w) := by
  obtain ⟨A, c, rfl, hn1, hn2, hA, hat⟩ := hv.form
  have Hat := Lib.hid hat
  have HA := Lib.hid hA
  clear hat hA hv
  unfold maxLen at hn2
  have Hsz := Lib.hid hsz
  obtain ⟨i0, hi, hz0, hz1, hz2⟩ := info_parts Try.infoU8
  go_enter Try.func10, Try.ntmps10
  go_wp2
  go_loopw [4, 12] (fun o i wr => ∃ k : Nat, k ≤ rs.length ∧ i = .int .i64 k ∧ rerr (rs.take k) = 0 ∧ Ow wr 5 1 o (frames (rs.take k)).length (bv (frames (rs.take k))) ∧ Kp [] w wr ∧ ∀ g, o.ownBlock = some g → w.heap.size ≤ g) (fun _ i _ => rs.length - (intOf i).toNat)
  case atStart => exact ⟨0, by omega, rfl, rfl, ow_new _ 5 1 0 #[] rfl (by decide), (Kp.refl _ _).alloc _, by simp [Value.ownBlock]⟩
  case round =>
    obtain ⟨k, hk, rfl, he, ho, hkp, hfr⟩ := hrel
    obtain ⟨Ao, co, rfl, -, -⟩ := ow_form ho
    by_cases hlt : k < rs.length
    · obtain ⟨ad, rfl⟩ : ∃ ad, A = some ad := by
        cases A with
        | none => have := HA.out rfl; rw [this] at hlt; simp at hlt
        | some ad => exact ⟨ad, rfl⟩
      have hr : rs[k]? = some rs[k] := List.getElem?_eq_getElem hlt
      obtain ⟨B, hB0⟩ := Hat.out ad rfl k _ hr
      have hB := hB0.old hkp
      have hc0 := hB.at_ 0 _ rfl
      have hc1 := hB.at_ 1 _ rfl
      rw [add_of_add, Nat.add_zero] at hc0
      have Hr := Lib.hid hr
      have Hst := Lib.hid (frames_take_succ hr)
      have Hle := Lib.hid (frames_take_le rs (k + 1))
      have HB := Lib.hid hB
      obtain ⟨Ab, cb, rfl, hbn, -⟩ := rd_get hB.b
      have hc1' : wr.cell? { block := (ad.add (k * 2)).block, off := (ad.add (k * 2)).off + 1 } = some (.slice Ab rs[k].2.length cb) := by
        first | exact hc1 | simpa [World.cell?, Addr.add] using hc1
      clear hc1
      generalize rs[k] = r at *
      obtain ⟨kd, body⟩ := r
      simp only at *
      have hbd : bad (kd, body) = if kd.toNat = 0 then 2 else if 8388608 < body.length then 3 else 0 := rfl
      have hq := kd.toNat_lt
      by_cases h0 : kd.toNat = 0
      · rw [if_pos h0] at hbd
        have Hre := Lib.hid ((rerr_bad he Hr.out (by rw [hbd]; decide)).trans hbd)
        have Ho : Hid (outOf rs = []) := Lib.hid (by unfold outOf; rw [Hre.out]; rfl)
        rw [h0] at hc0
        clear hbd he
        go_wp2
        go_ret2
        exact ⟨_, by rw [Hre.out]; rfl, by rw [Ho.out]; exact World.ownsRow_nil _ _ _ _, hkp.alloc _, by simp [Value.ownBlock]⟩
      rw [if_neg h0] at hbd
      by_cases hl : 8388608 < body.length
      · rw [if_pos hl] at hbd
        have Hre := Lib.hid ((rerr_bad he Hr.out (by rw [hbd]; decide)).trans hbd)
        have Ho : Hid (outOf rs = []) := Lib.hid (by unfold outOf; rw [Hre.out]; rfl)
        clear hbd he
        go_wp2
        go_ret2
        exact ⟨_, by rw [Hre.out]; rfl, by rw [Ho.out]; exact World.ownsRow_nil _ _ _ _, hkp.alloc _, by simp [Value.ownBlock]⟩
      rw [if_neg hl] at hbd
      have He1 := Lib.hid (rerr_take_succ he Hr.out hbd)
      have ho' := Lib.hid ho
      have B6 := Lib.hid (Blk.new wr 25 #[.int .u8 (kd.toNat : Int), .slice Ab body.length cb])
      have hle := Hle.out
      rw [Hst.out, List.length_append, frame_length] at hle
      have RB : Hid (∀ (w1 w2 : World) (u2 : Value), Kp [] (wr.alloc (.cells #[.int .u8 (kd.toNat : Int), .slice Ab body.length cb] 25)) w1 → WSt (wr.heap.size + 1) (.slice none 0 0) u2 w1 w2 → Rd w2 1 (.slice Ab body.length cb) body.length (bv body)) := Lib.hid (fun w1 w2 u2 k1 hs2 => ((HB.out.b.kp ((Kp.refl [] _).alloc _) (by simp)).kp k1 (by simp)).kpl hs2.1 (fun g hg hne hm => by
        have := rd_lt HB.out.b hg hne
        simp [Value.ownBlock] at hm
        omega))
      have NB : Hid (∀ (w1 w2 : World) (u2 : Value), Kp [] (wr.alloc (.cells #[.int .u8 (kd.toNat : Int), .slice Ab body.length cb] 25)) w1 → WSt (wr.heap.size + 1) (.slice none 0 0) u2 w1 w2 → ∀ g, (Value.slice Ab body.length cb).ownBlock = some g → body ≠ [] → u2.ownBlock ≠ some g) := Lib.hid (fun w1 w2 u2 k1 hs2 g hg hne hu => by
        have h1 := rd_lt HB.out.b hg (fun h => hne (by simpa [bv] using h))
        have h2 := k1.size
        simp at h2
        rcases hs2.2 with h | ⟨g', h, h3⟩
        · rw [h] at hu; cases hu
        · rw [h] at hu; injection hu with hu; omega)
      have KO : Hid (∀ (w1 w2 w3 w4 : World) (u2 u3 : Value), Kp [] (wr.alloc (.cells #[.int .u8 (kd.toNat : Int), .slice Ab body.length cb] 25)) w1 → WSt (wr.heap.size + 1) (.slice none 0 0) u2 w1 w2 → WSt (wr.heap.size + 1) u2 u3 w2 w3 → Kp [] w3 w4 → Kp [] wr w4) := Lib.hid (fun w1 w2 w3 w4 u2 u3 k1 hs2 hs3 k4 => by
        have ka : Kp [] wr w1 := ((Kp.refl [] wr).alloc _).trans k1 (by simp)
        have h2 := k1.size
        simp at h2
        have kb : Kp [] wr w2 := ka.trans hs2.1 (fun g hg => .inr (by simp [Value.ownBlock] at hg; omega))
        have kc : Kp [] wr w3 := kb.trans hs3.1 (fun g hg => .inr (by
          rcases List.mem_cons.1 hg with h | h
          · omega
          · rcases hs2.2 with h' | ⟨g', h', h3⟩
            · rw [h'] at h; simp [Value.ownBlock] at h
            · rw [h'] at h; simp at h; omega))
        exact kc.trans k4 (by simp))
      have HEh : Hid ([] ++ be 1 kd.toNat ++ be 4 body.length ++ body = heads kd body) := Lib.hid (by simp [heads, be_one kd])
      clear hbd he ho
      go_wp2_with (first
        | (go_at_call 31; ((with_reducible refine (new_writer _).mono ?_); rintro e w1 ⟨rfl, hw1, k1⟩; rw [World.size_alloc] at hw1; have B1 := B6.out.kp k1 (by simp); have d0 := B1.cell 0; have d1 := B1.cell 1))
        | (go_at_call 32; ((with_reducible refine (put_u8 _ _ [] kd.toNat hq w1 hw1 (by decide)).mono ?_); rintro e w2 ⟨rfl, u2, hw2, hs2⟩; have B2 := B1.kp hs2.1 (by simp [Value.ownBlock]); have f0 := B2.cell 0; have f1 := B2.cell 1))
        | (go_at_call 33; go_loud (refine (w_listE _ u2 _ _ body 4 w2 hw2 (RB.out w1 w2 u2 k1 hs2) ⟨by decide, by decide⟩ (by omega) (by simp [be_length]; omega) (NB.out w1 w2 u2 k1 hs2)).mono ?_); rintro e w3 ⟨rfl, u3', hw3, hs3⟩)
        | (go_at_call 34; ((with_reducible refine (w_bytes _ u3' _ w3 hw3 (by simp [be_length]; omega)).mono ?_); rintro e w4 ⟨v4, rfl, o4, k4, f4⟩; have K4 := Lib.hid (KO.out w1 w2 w3 w4 u2 u3' k1 hs2 hs3 k4); rw [HEh.out] at o4; have O4 := Lib.hid o4; clear o4; have f4 := Lib.hid f4; have Z3 := (Lib.hid (KO.out w1 w2 w3 w3 u2 u3' k1 hs2 hs3 (Kp.refl _ _))).out.size; have O1 := Lib.hid (ow_kp ho'.out K4.out (by simp))))
        | (at_builtin; refine app_bytes rfl (.tmp 36) (.tmp 37) rfl (.slice Ao (frames (rs.take k)).length co) (frames (rs.take k)) rfl O1.out v4 (heads kd body) rfl (Rd.of_own O4.out) w (hkp.trans K4.out (by simp)) hfr (by simp only [heads_length]; omega) ?_; intro v5 w5 o5 k5 g5 f5 _; have O5 := Lib.hid o5; clear o5; have R5 := Lib.hid ((Rd.of_own O4.out).kp g5 (fun g hg hm => by
            have h1 := f4.out g hg
            have h2 := ow_lt ho'.out (g := g) (by simpa using hm)
            omega)); have K5 := Lib.hid k5; have F5 := Lib.hid f5; clear k5 f5 g5)
        | (go_at_call 35; ((with_reducible refine (ends_any _ _ _ _ R5.out).mono ?_); rintro e w6 ⟨v6, rfl, o6, k6, f6⟩; have O6 := Lib.hid o6; clear o6; have O7 := Lib.hid (ow_kp O5.out k6 (by simp)); have K6 := Lib.hid (K5.out.trans k6 (by simp))))
        | (at_builtin; refine app_bytes rfl (.tmp 38) (.tmp 40) rfl v5 (frames (rs.take k) ++ heads kd body) rfl O7.out v6 _ rfl (Rd.of_own O6.out) w K6.out F5.out (by simp only [heads_length, le4_length, List.length_append]; omega) ?_; intro v8 w8 o8 k8 g8 f8 _; have O8 := Lib.hid o8; clear o8; have K8 := Lib.hid k8; have F8 := Lib.hid f8; clear k8 f8 g8))
      go_round
      case rel => exact ⟨k + 1, by omega, by go_num, He1.out, by rw [Hst.out, frame_def, ← List.append_assoc]; exact O8.out, K8.out, F8.out⟩
      case measure => simp [intOf]; omega
    · obtain rfl : k = rs.length := by omega
      rw [List.take_length] at ho he hfr ⊢
      have Ho : Hid (Ow _ 5 1 (.slice Ao (frames rs).length co) (outOf rs).length (bv (outOf rs))) := Lib.hid (by unfold outOf; rw [if_pos he]; exact ho)
      have He := Lib.hid he
      clear ho he
      go_wp2
      go_ret2
      exact ⟨_, by rw [He.out]; rfl, Ho.out, hkp, hfr⟩
end Go.Proofs.Ytnchjfhmalbjoaa
/- What reading a frame answers. -/
namespace Go.Proofs.Ytnchjfhmalbjoaa

def rn (b : List UInt8) : Nat := num ((b.drop 1).take 4)
/-- The error's number. -/
def rE (b : List UInt8) : Nat :=
  if b.length < 1 then 170 else if num (b.take 1) = 0 then 171 else if b.length < 5 then 170 else if 8388608 < rn b then 3 else if b.length < rn b + 9 then 170
  else if ((b.drop (rn b + 5)).take 4 == le4 (crc (b.take (rn b + 5)))) = false then 172 else 0
/-- The kind, the body, the frame's size. -/
def rK (b : List UInt8) : Nat := if rE b = 0 then num (b.take 1) else 0
def rB (b : List UInt8) : List UInt8 := if rE b = 0 then (b.drop 5).take (rn b) else []
def rS (b : List UInt8) : Nat := if rE b = 0 then rn b + 9 else 0
theorem rE_1 {b : List UInt8} (h : b.length < 1) : rE b = 170 := if_pos h
theorem rE_2 {b : List UInt8} (h : ¬ b.length < 1) (h2 : num (b.take 1) = 0) : rE b = 171 := by unfold rE; rw [if_neg h, if_pos h2]
theorem rE_3 {b : List UInt8} (h : ¬ b.length < 1) (h2 : ¬ num (b.take 1) = 0) (h3 : b.length < 5) : rE b = 170 := by unfold rE; rw [if_neg h, if_neg h2, if_pos h3]
theorem rE_4 {b : List UInt8} (h2 : ¬ num (b.take 1) = 0) (h3 : ¬ b.length < 5) (h4 : 8388608 < rn b) : rE b = 3 := by unfold rE; rw [if_neg (by omega), if_neg h2, if_neg h3, if_pos h4]
theorem rE_5 {b : List UInt8} (h2 : ¬ num (b.take 1) = 0) (h3 : ¬ b.length < 5) (h4 : ¬ 8388608 < rn b) (h5 : b.length < rn b + 9) : rE b = 170 := by unfold rE; rw [if_neg (by omega), if_neg h2, if_neg h3, if_neg h4, if_pos h5]
theorem rE_6 {b : List UInt8} (h2 : ¬ num (b.take 1) = 0) (h4 : ¬ 8388608 < rn b) (h5 : ¬ b.length < rn b + 9) (h6 : ((b.drop (rn b + 5)).take 4 == le4 (crc (b.take (rn b + 5)))) = false) : rE b = 172 := by unfold rE; rw [if_neg (by omega), if_neg h2, if_neg (by omega), if_neg h4, if_neg h5, if_pos h6]
theorem rE_0 {b : List UInt8} (h2 : ¬ num (b.take 1) = 0) (h4 : ¬ 8388608 < rn b) (h5 : ¬ b.length < rn b + 9) (h6 : ((b.drop (rn b + 5)).take 4 == le4 (crc (b.take (rn b + 5)))) = true) : rE b = 0 := by unfold rE; rw [if_neg (by omega), if_neg h2, if_neg (by omega), if_neg h4, if_neg h5, if_neg (by rw [h6]; decide)]
theorem rKBS_no {b : List UInt8} {k : Nat} (h : rE b = k) (hk : k ≠ 0) : rK b = 0 ∧ rB b = [] ∧ rS b = 0 := by
  unfold rK rB rS
  rw [h]
  exact ⟨if_neg hk, if_neg hk, if_neg hk⟩
theorem rKBS_yes {b : List UInt8} (h : rE b = 0) : rK b = num (b.take 1) ∧ rB b = (b.drop 5).take (rn b) ∧ rS b = rn b + 9 := by
  unfold rK rB rS
  exact ⟨if_pos h, if_pos h, if_pos h⟩
theorem rE_ok {b : List UInt8} (h : rE b = 0) : num (b.take 1) ≠ 0 ∧ rn b ≤ 8388608 ∧ rn b + 9 ≤ b.length ∧ (b.drop (rn b + 5)).take 4 = le4 (crc (b.take (rn b + 5))) := by
  unfold rE at h
  split at h; · cases h
  split at h; · cases h
  split at h; · cases h
  split at h; · cases h
  split at h; · cases h
  split at h; · cases h
  rename_i h1 h2 h3 h4 h5 h6
  exact ⟨h2, by omega, by omega, by simpa using h6⟩
theorem rK0_lt (b : List UInt8) : num (b.take 1) < 256 := by
  have := num_lt (b.take 1)
  have h2 : (b.take 1).length ≤ 1 := List.length_take_le _ _
  have h3 : (256 : Nat) ^ (b.take 1).length ≤ 256 ^ 1 := Nat.pow_le_pow_right (by decide) h2
  omega
theorem rn_lt (b : List UInt8) : rn b < 4294967296 := by
  unfold rn
  have := num_lt ((b.drop 1).take 4)
  have h2 : ((b.drop 1).take 4).length ≤ 4 := List.length_take_le _ _
  have h3 : (256 : Nat) ^ ((b.drop 1).take 4).length ≤ 256 ^ 4 := Nat.pow_le_pow_right (by decide) h2
  omega
theorem rK_lt (b : List UInt8) : rK b < 256 := by
  unfold rK
  split
  · have := num_lt (b.take 1)
    have h2 : (b.take 1).length ≤ 1 := List.length_take_le _ _
    have h3 : (256 : Nat) ^ (b.take 1).length ≤ 256 ^ 1 := Nat.pow_le_pow_right (by decide) h2
    omega
  · omega
end Go.Proofs.Ytnchjfhmalbjoaa
/- slices.Equal for bytes. -/
namespace Go.Proofs.Ytnchjfhmalbjoaa
open Go.RowKit

/-- A cell that is there reads as it did. -/
theorem cell_kept {w w' : World} {p : Addr} {u : Value} (h : w.cell? p = some u) (hk : Kp [] w w') : w'.cell? p = some u :=
  (World.cell?_of_block (hk.block p.block (cell_lt h) (by simp))).trans h
theorem take_succ_of {α : Type} {a : List α} {k : Nat} {x : α} (h : a[k]? = some x) : a.take (k + 1) = a.take k ++ [x] := by
  rw [List.take_add_one, h]; rfl
theorem rd_get2 {w : World} {v : Value} {bs : List UInt8} (h : Rd w 1 v bs.length (bv bs)) : ∃ A c, v = .slice A bs.length c ∧ bs.length ≤ c ∧ c ≤ maxLen ∧ (A = none → bs.length = 0) ∧ ∀ ad, A = some ad → ∀ i (h : i < bs.length), w.cell? (ad.add i) = some (.int .u8 (bs[i].toNat : Int)) := by
  obtain ⟨_, A, c, hv, h1, h2, h3, h4⟩ := h
  exact ⟨A, c, hv, h1, h2, fun hA => (h3 hA).1, fun ad had i hi => h4 ad had i _ (by rw [bv_get, List.getElem?_eq_getElem hi]; rfl)⟩
set_option maxHeartbeats 800000 in
theorem equal_any (x y : Value) (a b : List UInt8) (w : World) (hx : Rd w 1 x a.length (bv a)) (hy : Rd w 1 y b.length (bv b)) :
    Calls Try.prog 49 #[x, y] w fun e w' => e = .returned (.bool (a == b)) ∧ Kp [] w w' := by
  obtain ⟨A, c, rfl, hn1, hn2, hA, ha⟩ := rd_get2 hx
  obtain ⟨B, d, rfl, hm1, hm2, hB, hb⟩ := rd_get2 hy
  have HA := Lib.hid hA
  have HB := Lib.hid hB
  have Ha := Lib.hid ha
  have Hb := Lib.hid hb
  clear hA hB ha hb hx hy
  unfold maxLen at hn2 hm2
  by_cases hl : a.length = b.length
  · have Hl := Lib.hid hl
    have hle : b.length ≤ a.length := by omega
    have hle2 : a.length ≤ b.length := by omega
    rw [← hl]
    clear hl
    go_enter Try.func49, Try.ntmps49
    go_wp2
    go_loopw [5, 13] (fun _ i wr => ∃ k : Nat, k ≤ a.length ∧ i = .int .i64 k ∧ a.take k = b.take k ∧ Kp [] w wr) (fun _ i _ => a.length - (intOf i).toNat)
    case atStart => exact ⟨0, Nat.zero_le _, rfl, rfl, Kp.refl _ _⟩
    case round =>
      obtain ⟨k, hk, rfl, ht, hkp⟩ := hrel
      have Ht := Lib.hid ht
      clear ht
      by_cases hlt : k < a.length
      · have hltb : k < b.length := by omega
        obtain ⟨ad, rfl⟩ : ∃ ad, A = some ad := by
          cases A with
          | none => have := HA.out rfl; omega
          | some ad => exact ⟨ad, rfl⟩
        obtain ⟨bd, rfl⟩ : ∃ bd, B = some bd := by
          cases B with
          | none => have := HB.out rfl; omega
          | some ad => exact ⟨ad, rfl⟩
        have hca := cell_kept (Ha.out ad rfl k hlt) hkp
        have hcb := cell_kept (Hb.out bd rfl k hltb) hkp
        have ga : Hid (a[k]? = some a[k]) := Lib.hid (List.getElem?_eq_getElem hlt)
        have gb : Hid (b[k]? = some b[k]) := Lib.hid (List.getElem?_eq_getElem hltb)
        generalize a[k] = p at *
        generalize b[k] = q at *
        by_cases hpq : p = q
        · subst hpq
          go_wp2
          go_quiet (fail)
          go_wp2
          go_roundw
          case rel => exact ⟨k + 1, by omega, by go_num, by rw [take_succ_of ga.out, take_succ_of gb.out, Ht.out], hkp.trans (Kp.drew' _) (by simp)⟩
          case measure => simp [intOf]; omega
        · have hne : p.toNat ≠ q.toNat := fun h => hpq (UInt8.toNat_inj.1 h)
          have hab : (a == b) = false := by
            rw [beq_eq_false_iff_ne]
            rintro rfl
            have := ga.out.symm.trans gb.out
            exact hpq (by injection this)
          have Hab := Lib.hid hab
          have h1 : ((p.toNat : Int) == (q.toNat : Int)) = false := by simp; omega
          have h2 : ((p.toNat : Int) != (q.toNat : Int)) = true := by simp; omega
          clear hab hpq
          go_wp2
          go_quiet (fail)
          go_wp2
          go_ret
          exact ⟨by rw [Hab.out]; rfl, hkp.trans (Kp.drew' _) (by simp)⟩
      · obtain rfl : k = a.length := by omega
        have hab : (a == b) = true := by
          have := Ht.out
          rw [List.take_length, List.take_of_length_le (by omega)] at this
          simp [this]
        have Hab := Lib.hid hab
        clear hab
        go_wp2
        go_ret
        exact ⟨by rw [Hab.out]; rfl, hkp⟩
  · have hab : (a == b) = false := by
      rw [beq_eq_false_iff_ne]
      rintro rfl
      exact hl rfl
    have Hab := Lib.hid hab
    have h1 : ((a.length : Int) == (b.length : Int)) = false := by simp; omega
    have h2 : ((a.length : Int) != (b.length : Int)) = true := by simp; omega
    have h3 : (a.length == b.length) = false := by simp; omega
    have h4 : (a.length != b.length) = true := by simp; omega
    clear hab
    go_enter Try.func49, Try.ntmps49
    go_wp2
    go_ret
    exact ⟨by rw [Hab.out]; rfl, Kp.refl _ _⟩
end Go.Proofs.Ytnchjfhmalbjoaa
/- Slices of bytes, cut: one run equation each, with what the cut reads. -/
namespace Go.Proofs.Ytnchjfhmalbjoaa
open Go.RowKit

/-- What a cut slice is good for. -/
def CutOf (A : Option Addr) (n c lo m : Nat) (A' : Option Addr) (c' : Nat) : Prop :=
  ∀ (W : World) (bs : List UInt8), Rd W 1 (.slice A n c) n (bv bs) → Rd W 1 (.slice A' m c') m (bv ((bs.drop lo).take m))
theorem cut_of {A : Option Addr} {n c lo m : Nat} (h : lo + m ≤ n) : ∃ A' c', sliced A lo (lo + m) c 1 = .slice A' m c' ∧ CutOf A n c lo m A' c' ∧ ∀ g, (Value.slice A' m c').ownBlock = some g → (Value.slice A n c).ownBlock = some g := by
  by_cases e : c = lo
  · refine ⟨A, c - lo, by simp [sliced, e], fun W bs h1 => ?_, fun g hg => by cases A <;> simp_all [Value.ownBlock]⟩
    have := h1.cut0 (a := lo) (k := m) h e
    rwa [bv_drop] at this
  · refine ⟨A.map (fun x => x.add lo), c - lo, by simp [sliced, e], fun W bs h1 => ?_, fun g hg => ?_⟩
    · have := h1.cut (a := lo) (k := m) h e
      rwa [bv_drop] at this
    · cases A with
      | none => simp [Value.ownBlock] at hg
      | some ad =>
        simp only [Option.map_some, Value.ownBlock] at hg ⊢
        rw [← hg]; simp [block_of_add]
theorem run_size_u8 (w : World) : (sizeOf 5).run Try.prog w = .ok 1 w := by
  obtain ⟨i0, hi, hz0, hz1, hz2⟩ := info_parts Try.infoU8
  simp [sizeOf, typeInfo, hi, hz1]
theorem cut_at (w : World) (x : Value) (lo hi mx : Option Value) : (Instr.sliceAt 23 x lo hi mx).run Try.prog w = (Instr.slice 23 x lo hi mx).run Try.prog w := by
  simp [Instr.sliceAt, run_underlying Try.underlying23]
theorem elem_u8 : Try.prog.elem 23 = 5 := by kernel_rfl
theorem und_u8 : Try.prog.underlying 23 = some (.slice (Try.prog.elem 23)) := by rw [elem_u8]; exact Try.underlying23
theorem cut_hi (A : Option Addr) (n c k : Nat) (h : Int) (hh : h = k) (hk : k ≤ n) (hc : n ≤ c) : ∃ A' c', (∀ w, (Instr.sliceAt 23 (.slice A n c) none (some (.int .i64 h)) none).run Try.prog w = .ok (.slice A' k c') w) ∧ CutOf A n c 0 k A' c' ∧ ∀ g, (Value.slice A' k c').ownBlock = some g → (Value.slice A n c).ownBlock = some g := by
  subst hh
  obtain ⟨A', c', e, h1, h2⟩ := cut_of (A := A) (n := n) (c := c) (lo := 0) (m := k) (by omega)
  refine ⟨A', c', fun w => ?_, h1, h2⟩
  rw [cut_at, run_slice_h w 23 A n c und_u8 .i64 k (by omega) (by omega), elem_u8, run_size_u8]
  simp only [Result.andThen_ok, Int.toNat_natCast]
  rw [Nat.zero_add] at e
  rw [e]
theorem cut_lo (A : Option Addr) (n c lo m : Nat) (l : Int) (hl : l = lo) (hm : lo + m = n) : ∃ A' c', (∀ w, (Instr.sliceAt 23 (.slice A n c) (some (.int .i64 l)) none none).run Try.prog w = .ok (.slice A' m c') w) ∧ CutOf A n c lo m A' c' ∧ ∀ g, (Value.slice A' m c').ownBlock = some g → (Value.slice A n c).ownBlock = some g := by
  subst hl
  obtain ⟨A', c', e, h1, h2⟩ := cut_of (A := A) (n := n) (c := c) (lo := lo) (m := m) (by omega)
  refine ⟨A', c', fun w => ?_, h1, h2⟩
  rw [cut_at, run_slice_l w 23 A n c und_u8 .i64 lo (by omega) (by omega), elem_u8, run_size_u8]
  simp only [Result.andThen_ok, Int.toNat_natCast]
  rw [← hm, e]
theorem cut_lh (A : Option Addr) (n c lo m : Nat) (l h : Int) (hl : l = lo) (hh : h = lo + m) (hm : lo + m ≤ n) (hc : n ≤ c) : ∃ A' c', (∀ w, (Instr.sliceAt 23 (.slice A n c) (some (.int .i64 l)) (some (.int .i64 h)) none).run Try.prog w = .ok (.slice A' m c') w) ∧ CutOf A n c lo m A' c' ∧ ∀ g, (Value.slice A' m c').ownBlock = some g → (Value.slice A n c).ownBlock = some g := by
  subst hl hh
  obtain ⟨A', c', e, h1, h2⟩ := cut_of (A := A) (n := n) (c := c) (lo := lo) (m := m) (by omega)
  refine ⟨A', c', fun w => ?_, h1, h2⟩
  rw [cut_at, run_slice_lh w 23 A n c und_u8 .i64 .i64 lo ((lo : Int) + (m : Int)) (by omega) (by omega) (by omega), elem_u8, run_size_u8]
  simp only [Result.andThen_ok, Int.toNat_natCast]
  rw [show ((lo : Int) + (m : Int)).toNat = lo + m from by omega, e]
end Go.Proofs.Ytnchjfhmalbjoaa
