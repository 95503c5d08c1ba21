/- WireOrders: the walk. -/
import Derived.Test.YtdcmncmpoinlaaaWireT
import Derived.Test.YtdcmncmpoinlaaaHeld
namespace Go.Proofs.Ytdcmncmpoinlaaa
open Go.RowKit

def wrR (p : Nat) (v : Value) (bs : List UInt8) : Res where
  fp := p :: v.ownBlock.toList
  ok := fun w => Wr w p v bs
  keep := fun _ _ _ h hk hn => ⟨h.1.kp hk (hn p (by simp)), ow_kp h.2 hk (fun g hg => hn g (by simp [hg]))⟩
  lt := fun _ h b hb => by
    rcases List.mem_cons.1 hb with rfl | hb
    · exact h.1.lt
    · exact ow_lt h.2 (by simpa using hb)
def rrR (p : Nat) (v : Value) (a : Nat) (bs : List UInt8) : Res where
  fp := p :: v.ownBlock.toList
  ok := fun w => Rr w p v a bs
  keep := fun _ _ _ h hk hn => h.kp hk (hn p (by simp)) (fun g hg => hn g (by simp [hg]))
  lt := fun _ h b hb => by
    rcases List.mem_cons.1 hb with rfl | hb
    · exact h.blk.lt
    · exact h.vlt b (by simpa using hb)
theorem Held.wturn {w0 w w' : World} {l1 l2 : List Res} {p : Nat} {v v' : Value} {bs bs' : List UInt8} (h : Held w0 w (l1 ++ wrR p v bs :: l2)) (hw : Wr w' p v' bs') (hs : WSt p v v' w w') : Held w0 w' (l1 ++ wrR p v' bs' :: l2) :=
  h.turnAt (wrR p v' bs') hs.1 hw (fun b hb => by
    rcases List.mem_cons.1 hb with rfl | hb
    · exact .inl (by simp [wrR])
    · rcases hs.2 with e | ⟨g, e, hg⟩
      · rw [e] at hb; exact .inl (List.mem_cons_of_mem _ hb)
      · rw [e] at hb; simp at hb; subst hb; exact .inr hg)
theorem Held.rturn {w0 w w' : World} {l1 l2 : List Res} {p a a' : Nat} {v : Value} {bs : List UInt8} (h : Held w0 w (l1 ++ rrR p v a bs :: l2)) (hw : Rr w' p v a' bs) (hk : Kp [p] w w') : Held w0 w' (l1 ++ rrR p v a' bs :: l2) :=
  h.turnAt (rrR p v a' bs) (hk.more (fun g hg => .inl (by simp at hg; subst hg; simp [rrR]))) hw (fun _ hb => .inl hb)
theorem Held.wnew {w0 w w' : World} {L : List Res} (h : Held w0 w L) (hw : Wr w' w.heap.size (.slice none 0 0) []) (hk : Kp [] w w') : Held w0 w' (wrR w.heap.size (.slice none 0 0) [] :: L) :=
  h.new _ hk hw (fun b hb => by simp [wrR, Value.ownBlock] at hb; omega)
theorem Held.rownew {w0 w w' : World} {L : List Res} {e : TypeId} {s n : Nat} {v : Value} {xs : List Value} (h : Held w0 w L) (ho : Ow w' e s v n xs) (hk : Kp [] w w') (hf : ∀ g, v.ownBlock = some g → w.heap.size ≤ g) : Held w0 w' (rowR e s v n xs :: L) :=
  h.new _ hk ho (fun b hb => hf b (by simpa [rowR] using hb))

theorem wrap_u16_nat (x : Nat) : IntKind.u16.wrap (x : Int) = ((x % 65536 : Nat) : Int) := by
  simp [IntKind.wrap, IntKind.bits, IntKind.signed]
/-- The lesser number's form is the lesser text. -/
theorem bytesLess_num : ∀ (l m : List UInt8), l.length = m.length → Op.bytesLess l m = decide (num l < num m)
  | [], [], _ => by simp [Op.bytesLess]
  | a :: l, b :: m, h => by
    have hl : l.length = m.length := by simpa using h
    have ih := bytesLess_num l m hl
    have h1 := num_lt l
    have h2 := num_lt m
    rw [hl] at h1
    unfold Op.bytesLess
    rw [ih, num_cons, num_cons, hl]
    generalize num l = p at *
    generalize num m = q at *
    generalize 256 ^ m.length = e at *
    by_cases hab : a < b
    · have hab' : a.toNat + 1 ≤ b.toNat := UInt8.lt_iff_toNat_lt.1 hab
      have h3 : (a.toNat + 1) * e ≤ b.toNat * e := Nat.mul_le_mul_right _ hab'
      rw [Nat.add_mul] at h3
      simp [hab]
      omega
    · by_cases hba : a = b
      · subst hba
        simp
      · have hba' : b.toNat + 1 ≤ a.toNat := by
          rcases Nat.lt_trichotomy a.toNat b.toNat with h | h | h
          · exact absurd (UInt8.lt_iff_toNat_lt.2 h) hab
          · exact absurd (UInt8.toNat_inj.1 h) hba
          · exact h
        have h3 : (b.toNat + 1) * e ≤ a.toNat * e := Nat.mul_le_mul_right _ hba'
        rw [Nat.add_mul] at h3
        have e1 : decide (a < b) = false := by simpa using hab
        have e2 : (a == b) = false := by simpa using hba
        rw [e1, e2, Bool.false_and, Bool.or_false]
        symm
        rw [decide_eq_false_iff_not]
        omega
theorem bytesLess_be (x y : Nat) (hx : x < 18446744073709551616) (hy : y < 18446744073709551616) : Op.bytesLess (be 8 x) (be 8 y) = decide (x < y) := by
  rw [bytesLess_num _ _ (by simp), num_be_lt (k := 8) hx, num_be_lt (k := 8) hy]
theorem be_beq (x y : Nat) (hx : x < 18446744073709551616) (hy : y < 18446744073709551616) : (be 8 x == be 8 y) = decide (x = y) := by
  have : be 8 x = be 8 y ↔ x = y := ⟨fun h => by rw [← num_be_lt (k := 8) (x := x) hx, h, num_be_lt (k := 8) hy], fun h => by rw [h]⟩
  rw [Bool.eq_iff_iff]
  simp [this]

set_option maxRecDepth 100000 in
set_option maxHeartbeats 2000000 in
theorem orders_true (x y : Nat) (hx : x < 18446744073709551616) (hy : y < 18446744073709551616) (w : World) :
    Calls Try.prog 3 #[.int .u64 x, .int .u64 y] w fun e w' => e = .returned (.bool true) ∧ Kp [] w w' := by
  have S0 := Held.start w
  go_enter Try.func3, Try.ntmps3
  go_wp2_with fail
  refine (new_writer w).mono ?_; rintro e w1 ⟨rfl, hw1, k1⟩
  have S1 := S0.wnew hw1 k1
  clear S0 hw1 k1
  go_wp2_with fail
  refine (new_writer w1).mono ?_; rintro e w2 ⟨rfl, hw2, k2⟩
  have S2 := S1.wnew hw2 k2
  clear S1 hw2 k2
  go_wp2_with fail
  refine (new_writer w2).mono ?_; rintro e w3 ⟨rfl, hw3, k3⟩
  have S3 := S2.wnew hw3 k3
  clear S2 hw3 k3
  go_wp2_with fail
  refine (new_writer w3).mono ?_; rintro e w4 ⟨rfl, hw4, k4⟩
  have S4 := S3.wnew hw4 k4
  clear S3 hw4 k4
  go_wp2_with fail
  refine (known_true w4).mono ?_; rintro e w5 ⟨rfl, k5⟩
  have S5 := S4.kp k5
  clear S4 k5
  go_wp2_with fail
  refine (put_u64 _ _ _ x hx _ (S5.at_ (l1 := [_, _, _])) (by decide)).mono ?_
  rintro e w6 ⟨rfl, va, ha, sa⟩
  have S6 := S5.wturn (l1 := [_, _, _]) ha sa
  clear S5 ha sa
  go_wp2_with fail
  refine (put_u64 _ _ _ y hy _ (S6.at_ (l1 := [_, _])) (by decide)).mono ?_
  rintro e w7 ⟨rfl, vb, hb, sb⟩
  have S7 := S6.wturn (l1 := [_, _]) hb sb
  clear S6 hb sb
  go_wp2_with fail
  rw [wrap_u16_nat]
  refine (put_word _ _ _ (x % 65536) (by omega) _ (S7.at_ (l1 := [_])) (by decide)).mono ?_
  rintro e w8 ⟨rfl, vc, hc, sc⟩
  have S8 := S7.wturn (l1 := [_]) hc sc
  clear S7 hc sc
  go_wp2_with fail
  rw [wrap_u16_nat]
  refine (put_u16 _ _ _ (x % 65536) (by omega) _ (S8.at_ (l1 := [])) (by decide)).mono ?_
  rintro e w9 ⟨rfl, vd, hd, sd⟩
  have S9 := S8.wturn (l1 := []) hd sd
  clear S8 hd sd
  go_wp2_with fail
  refine (w_bytes _ _ _ _ (S9.at_ (l1 := [_])) (by simp)).mono ?_
  rintro e w10 ⟨v10, rfl, o10, k10, f10⟩
  have S10 := S9.rownew o10 k10 f10
  clear S9 o10 k10 f10
  go_wp2_with fail
  refine (new_reader _ _ _ (Rd.of_own (S10.at_ (l1 := []))) (by simp)).mono ?_
  rintro e w11 ⟨p, v, rfl, hp, hr, hv, k11⟩
  have S11 := S10.new (rrR p v 0 _) k11 hr (fun b hb => by
    rcases List.mem_cons.1 hb with rfl | hb
    · exact hp
    · exact hv b (by simpa using hb))
  clear S10 hp hr hv k11
  go_wp2_with fail
  refine (take_word _ _ _ _ _ (S11.at_ (l1 := [])) (by simp)).mono ?_
  rintro e w12 ⟨rfl, k12, r12⟩
  have S12 := S11.rturn (l1 := []) r12 k12
  clear S11 k12 r12
  go_wp2_with fail
  go_region_with (first
    | (go_at_call_of 15 (Value.pointer (some ⟨w.heap.size, 0, none⟩)); refine (w_bytes _ _ _ w12.drew (show Wr w12 _ _ _ from S12.at_ (l1 := [_, _, _, _, _])) (by simp)).mono ?_; rintro e w13 ⟨v13, rfl, o13, k13, f13⟩; obtain ⟨A13, c13, rfl, _, _⟩ := ow_form o13; have S13 := S12.rownew o13 (Kp.of_drew k13) f13; have e13 := strB (Rd.of_own o13); simp only [List.nil_append, be_length] at e13; clear f13)
    | (go_at_call_of 15 (Value.pointer (some ⟨w1.heap.size, 0, none⟩)); refine (w_bytes _ _ _ _ (S13.at_ (l1 := [_, _, _, _, _])) (by simp)).mono ?_; rintro e w14 ⟨v14, rfl, o14, k14, f14⟩; obtain ⟨A14, c14, rfl, _, _⟩ := ow_form o14; have S14 := S13.rownew o14 k14 f14; have e14 := strB (Rd.of_own o14); have e15 := strB (Rd.of_own (S14.at_ (l1 := [_]))); simp only [List.nil_append, be_length] at e14 e15; clear f14))
  all_goals
    have hbl := bytesLess_be x y hx hy
    have hbe := be_beq x y hx hy
    have hxy : ((x : Int) == (y : Int)) = decide (x = y) := by rw [Bool.eq_iff_iff]; simp; omega
    have hz : num (List.take 2 (be 2 (x % 65536))) = x % 65536 := by rw [List.take_of_length_le (by simp), num_be_lt (by omega)]
    rw [hz]
    have Hz := Lib.hid hz
    clear hz
    simp only [List.nil_append, List.append_eq] at S14
    clear S13 S12 o13 o14 k13 k14
    go_wp2_with fail
    refine (w_bytes _ _ _ _ (S14.at_ (l1 := [_, _, _, _, _])) (by simp)).mono ?_
    rintro e w15 ⟨v15, rfl, o15, k15, f15⟩
    have S15 := S14.rownew o15 k15 f15
    clear S14 o15 k15 f15
    go_wp2_with fail
    refine (w_bytes _ _ _ _ (S15.at_ (l1 := [_, _, _, _, _])) (by simp)).mono ?_
    rintro e w16 ⟨v16, rfl, o16, k16, f16⟩
    have S16 := S15.rownew o16 k16 f16
    clear S15 o16 k16 f16
    go_wp2_with fail
    refine (same_any _ _ _ _ _ _ _ (Rd.of_own (S16.at_ (l1 := [_]))) (Rd.of_own (S16.at_ (l1 := [])))).mono ?_
    rintro e w' ⟨rfl, rfl⟩
    have hbb : (be 2 (x % 65536) == be 2 (x % 65536)) = true := beq_self_eq_true _
    go_wp2_with (go_at_call 17; go_in)
    go_ret
    exact ⟨rfl, S16.k⟩
end Go.Proofs.Ytdcmncmpoinlaaa
