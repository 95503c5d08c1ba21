/- CrcFour: the walk. -/
import Derived.Test.YtgldgkdnnimglaaCrcO
import Derived.Test.YtgldgkdnnimglaaCrcM2
namespace Go.Proofs.Ytgldgkdnnimglaa
open Go.RowKit

/-- b, with the first i bytes of p xored from place k on. -/
def xpart (b : List UInt8) (k : Nat) (p : List UInt8) (i : Nat) : List UInt8 := b.take k ++ xorl ((b.drop k).take i) (p.take i) ++ b.drop (k + i)
theorem xpart_zero (b : List UInt8) (k : Nat) (p : List UInt8) : xpart b k p 0 = b := by simp [xpart, xorl]
theorem xpart_length {b p : List UInt8} {k i : Nat} (h : k + i ≤ b.length) (hi : i ≤ p.length) : (xpart b k p i).length = b.length := by
  unfold xpart
  rw [List.length_append, List.length_append, xorl_length (by simp; omega)]
  simp; omega
theorem xpart_head {b p : List UInt8} {k i : Nat} (h : k + i ≤ b.length) (hi : i ≤ p.length) : (b.take k ++ xorl ((b.drop k).take i) (p.take i)).length = k + i := by
  rw [List.length_append, xorl_length (by simp; omega)]
  simp; omega
theorem xpart_get {b p : List UInt8} {k i : Nat} (h : k + i < b.length) (hi : i ≤ p.length) : (xpart b k p i)[k + i]? = some b[k + i] := by
  unfold xpart
  have hl := xpart_head (b := b) (p := p) (k := k) (i := i) (by omega) hi
  rw [List.getElem?_append_right (by omega), hl, Nat.sub_self, List.getElem?_drop, Nat.add_zero, List.getElem?_eq_getElem h]
theorem xpart_next {b p : List UInt8} {k i : Nat} (h : k + i < b.length) (hi : i < p.length) : (xpart b k p i).set (k + i) (b[k + i] ^^^ p[i]) = xpart b k p (i + 1) := by
  unfold xpart
  have hl := xpart_head (b := b) (p := p) (k := k) (i := i) (by omega) (by omega)
  rw [List.set_append_right _ _ (by omega), hl, Nat.sub_self, List.drop_eq_getElem_cons h, List.set_cons_zero]
  have h1 : (b.drop k).take (i + 1) = (b.drop k).take i ++ [b[k + i]] := by
    rw [List.take_succ_eq_append_getElem (by simp; omega)]
    simp
  have h2 : p.take (i + 1) = p.take i ++ [p[i]] := List.take_succ_eq_append_getElem hi
  have h3 : xorl ((b.drop k).take (i + 1)) (p.take (i + 1)) = xorl ((b.drop k).take i) (p.take i) ++ [b[k + i] ^^^ p[i]] := by
    rw [h1, h2]
    unfold xorl
    rw [List.zipWith_append (by simp; omega)]
    rfl
  rw [h3, show k + (i + 1) = k + i + 1 from by omega, List.append_assoc, List.append_assoc, List.append_assoc]
  rfl
theorem xpart_all (b : List UInt8) (k : Nat) (p : List UInt8) : xpart b k p p.length = b.take k ++ xorl ((b.drop k).take p.length) p ++ b.drop (k + p.length) := by
  unfold xpart; rw [List.take_length]
theorem cut3 (b : List UInt8) (k n : Nat) : b = b.take k ++ (b.drop k).take n ++ b.drop (k + n) := by
  rw [List.append_assoc, ← List.drop_drop, List.take_append_drop, List.take_append_drop]
theorem crc_xpart {b p : List UInt8} {k : Nat} (h : k + p.length ≤ b.length) : crc (xpart b k p p.length) = crc b ^^^ carry (thru 0 p) (b.length - k - p.length) := by
  rw [xpart_all]
  have h1 := crc_mid (b.take k) ((b.drop k).take p.length) p (b.drop (k + p.length)) (by simp; omega)
  rw [← cut3 b k p.length] at h1
  rw [h1, List.length_drop, Nat.sub_sub]
theorem u8_x (a b : UInt8) : bits .xor .u8 (a.toNat : Int) (b.toNat : Int) = ((a ^^^ b).toNat : Int) := by
  have h1 := a.toNat_lt
  have h2 := b.toNat_lt
  rw [UInt8.toNat_xor]
  exact u8_xor_nat a.toNat b.toNat (by omega) (by omega)
theorem le4_get (y i : Nat) (h : i < 4) : (le4 y)[i]'(by simpa [le4] using h) = UInt8.ofNat (y / 256 ^ i) := by
  rcases (show i = 0 ∨ i = 1 ∨ i = 2 ∨ i = 3 by omega) with rfl | rfl | rfl | rfl <;> simp [le4]
theorem shr_byte (y i : Nat) : (y : Int) / 2 ^ (8 * i) % 256 = ((UInt8.ofNat (y / 256 ^ i)).toNat : Int) := by
  have h : (2 : Nat) ^ (8 * i) = 256 ^ i := by rw [Nat.pow_mul]
  have h2 : (2 : Int) ^ (8 * i) = ((256 ^ i : Nat) : Int) := by rw [← h, Int.natCast_pow]; rfl
  rw [UInt8.toNat_ofNat', h2, Int.natCast_emod, Int.natCast_ediv]
  rfl
theorem place_bound (a : Int) (m : Nat) (hm : 0 < m) : -(m : Int) < a.tmod m ∧ a.tmod m < m := by
  constructor
  · have := Int.lt_tmod_of_pos a (show (0 : Int) < m by omega); exact this
  · exact Int.tmod_lt_of_pos a (by omega)
theorem ow_at {w : World} {g : Nat} (e : TypeId) (s n : Nat) (cs : Array Value) (hg : g = w.heap.size) (h : cs.size = n * s) (hn : n ≤ maxLen) : Ow (w.alloc (.cells cs e)) e s (.slice (some ⟨g, 0, none⟩) n n) n cs.toList := by
  subst hg; exact ow_new w e s n cs h hn
theorem bv_set (l : List UInt8) (j : Nat) (x : UInt8) : (bv l).set j (.int .u8 (x.toNat : Int)) = bv (l.set j x) := by simp [bv, List.map_set]
/-- The place. -/
theorem place_ex (a : Int) (m : Nat) (hm : 0 < m) : ∃ k : Nat, k < m ∧ (a.tmod m + m) % m = k ∧ (a.tmod m + m).tmod m = k := by
  have h := place_bound a m hm
  refine ⟨((a.tmod m + m) % m).toNat, ?_, ?_, ?_⟩
  · have := Int.emod_lt_of_pos (a.tmod m + m) (show (0 : Int) < m by omega)
    have := Int.emod_nonneg (a.tmod m + m) (show (m : Int) ≠ 0 by omega)
    omega
  · have := Int.emod_nonneg (a.tmod m + m) (show (m : Int) ≠ 0 by omega)
    omega
  · rw [Int.tmod_eq_emod_of_nonneg (by omega)]
    have := Int.emod_nonneg (a.tmod m + m) (show (m : Int) ≠ 0 by omega)
    omega

set_option maxRecDepth 100000 in
set_option maxHeartbeats 1600000 in
theorem four_true (w : World) (vb : Value) (b : List UInt8) (rb : Rd w 1 vb b.length (bv b)) (hb : b.length ≤ 140737488351232) (a : Int) (_hn : -9223372036854775808 ≤ a ∧ a ≤ 9223372036854775807) (y : Nat) (hy : y < 4294967296) :
    Calls Try.prog 6 #[vb, .int .i64 a, .int .u32 y] w fun e w' => e = .returned (.bool true) ∧ Kp [] w w' := by
  obtain ⟨Ab, cb, rfl⟩ := rd_form rb
  have k0 : Kp [] w (w.alloc (.cells #[.slice Ab b.length cb] 22)) := (Kp.refl [] w).alloc _
  have ht : Txs (w.alloc (.cells #[.slice Ab b.length cb] 22)) (.slice (some ⟨w.heap.size, 0, none⟩) 1 1) [b] := txs1 22 rfl rb
  have hl2 : ∀ i (h : i < [b].length), [b][i].length ≤ 140737488355328 := fun i hi => by
    obtain rfl : i = 0 := by simp at hi; omega
    show b.length ≤ _; omega
  have K0 := Lib.hid k0
  by_cases hlong : 100000 < [b].flatten.length
  · have H := Lib.hid (long_yes _ _ _ ht (by simp) hl2 hlong)
    clear ht hl2 hlong k0 rb
    go_enter Try.func6, Try.ntmps6
    go_wp2_with (first
      | (go_at_call 11; ((with_reducible refine H.out.mono ?_); rintro e w' ⟨rfl, rfl⟩))
      | (go_at_call 12; ((with_reducible refine (works_true _).mono ?_); rintro e w1 ⟨rfl, k1⟩)))
    go_ret
    exact ⟨rfl, K0.out.trans k1 (by simp)⟩
  · have H := Lib.hid (long_not _ _ _ ht (by simp) hl2 hlong)
    have hle : b.length ≤ 100000 := by simpa using hlong
    by_cases hsm : b.length < 4
    · clear ht hl2 hlong k0 rb
      go_enter Try.func6, Try.ntmps6
      go_wp2_with (first
        | (go_at_call 11; ((with_reducible refine H.out.mono ?_); rintro e w' ⟨rfl, rfl⟩))
        | (go_at_call 12; ((with_reducible refine (works_true _).mono ?_); rintro e w1 ⟨rfl, k1⟩)))
      go_ret
      exact ⟨rfl, K0.out.trans k1 (by simp)⟩
    · by_cases hy0 : y = 0
      · subst hy0
        clear ht hl2 hlong k0 rb
        go_enter Try.func6, Try.ntmps6
        go_wp2_with (first
          | (go_at_call 11; ((with_reducible refine H.out.mono ?_); rintro e w' ⟨rfl, rfl⟩))
          | (go_at_call 12; ((with_reducible refine (works_true _).mono ?_); rintro e w1 ⟨rfl, k1⟩)))
        go_ret
        exact ⟨rfl, K0.out.trans k1 (by simp)⟩
      · obtain ⟨i0, hi, hz0, hz1, hz2⟩ := info_parts Try.infoU8
        have Rb := Lib.hid (fun W (k : Kp [] w W) => rd_old rb k)
        have S0 := Lib.hid ((Held.start w).kp k0)
        obtain ⟨k, hk, he1, he2⟩ := place_ex a (b.length - 3) (by omega)
        have hbd := place_bound a (b.length - 3) (by omega)
        have hcast : (((b.length - 3 : Nat) : Int)) = (b.length : Int) - 3 := by omega
        rw [hcast] at he1 he2 hbd
        have hneq : (((y : Int)) == 0) = false := by simp; exact hy0
        generalize htt : a.tmod ((b.length : Int) - 3) = t at *
        have he1' : (t + (b.length : Int) - 3) % ((b.length : Int) - 3) = k := by rw [← he1]; congr 1; omega
        have he2' : (t + (b.length : Int) - 3).tmod ((b.length : Int) - 3) = k := by rw [← he2]; congr 1; omega
        clear ht hl2 hlong k0 rb he1 he2 hcast
        go_enter Try.func6, Try.ntmps6
        go_wp2_with (first
          | (go_at_call 11; ((with_reducible refine H.out.mono ?_); rintro e w' ⟨rfl, rfl⟩))
          | (at_builtin; refine wpList_app _ rfl (.tmp 36) (.tmp 37) _ rfl 5 i0 _ 1 1 Try.underlying22 hi hz0 hz1 hz2 rfl (by decide) _ 0 [] rfl (ow_at 5 1 0 #[] (by simp) rfl (by decide)) (.slice Ab b.length cb) b.length (bv b) rfl (Rb.out _ (S0.out.k.alloc _)) (bv_one _) (by unfold maxLen; omega) (by omega) ?_))
        intro v1 w1 o1 g1 a1
        have S1 := Lib.hid ((S0.out.rownew (ow_at 5 1 0 #[] rfl rfl (by decide)) ((Kp.refl [] _).alloc _) (fun g hg => by simp [Value.ownBlock] at hg; simp; omega)).grow (l1 := []) o1 (by simpa using g1) (by simpa using a1))
        obtain ⟨g, c1, rfl, hc1, hc2⟩ := ow_some o1 (by omega)
        have S1' : Hid (Held w w1 [rowR 5 1 (.slice (some ⟨g, 0, none⟩) b.length c1) b.length (bv b)]) := Lib.hid (by simpa using S1.out)
        clear o1 g1 a1 S1 S0
        have hkn : k + 4 ≤ b.length := by omega
        have Hsm := Lib.hid hsm
        clear he1' he2' hbd htt hk hsm
        go_wp2
        go_loopw [9] (fun t wr => ∃ i : Nat, i ≤ 4 ∧ t = .int .i64 i ∧ Held w wr [rowR 5 1 (.slice (some ⟨g, 0, none⟩) b.length c1) b.length (bv (xpart b k (le4 y) i))]) (fun t _ => 4 - (intOf t).toNat)
        case atStart => exact ⟨0, by omega, rfl, by rw [xpart_zero]; exact S1'.out⟩
        case round =>
          obtain ⟨i, hi4, rfl, S⟩ := hrel
          by_cases hlt : i < 4
          · have o := S.at_ (l1 := [])
            have hcell := o.cellAt (k + i) (by omega)
            rw [bv_get, xpart_get (by omega) (by simp [le4]; omega), Option.map_some] at hcell
            have hfz := o.frozenAt (k + i)
            have hlw := ow_lt o (g := g) rfl
            have Hnx := Lib.hid (xpart_next (b := b) (p := le4 y) (k := k) (i := i) (by omega) (by simp [le4]; omega))
            rw [le4_get y i hlt] at Hnx
            have Hst := Lib.hid (o.stored (g := g) (k + i) (.int .u8 ((b[k + i] ^^^ UInt8.ofNat (y / 256 ^ i)).toNat : Int)))
            have Hx := u8_x b[k + i] (UInt8.ofNat (y / 256 ^ i))
            rw [← shr_byte y i] at Hx
            have hd : decide ((i : Int) < 4) = true := by simpa using (by omega : (i : Int) < 4)
            have hidx : ((k : Int) + (i : Int)).toNat = k + i := by omega
            have h8 : ((8 : Int) * (i : Int)).toNat = 8 * i := by omega
            have hq := b[k + i].toNat_lt
            generalize b[k + i].toNat = q at *
            have HX := Lib.hid Hx
            clear Hx
            have S' := Lib.hid S
            clear S o
            have hS9 : (fun V : World => V.cell? ⟨g, k + i, none⟩ = some (.int .u8 (q : Int))) wr.drew := hcell
            go_wp2
            refine wp_region_lexf [17] [17] (fun V : World => V.cell? ⟨g, k + i, none⟩ = some (.int .u8 (q : Int))) (by kernel_rfl) (by kernel_rfl) hS9 (fun σ hne f hf hsur => ?_); have Hsur := Lib.hid hsur; clear hsur
            go_wp2_with (first
              | (refine lex_qq Hsur.out rfl rfl rfl ?_; intro K hK; go_big_quiet_op; go_big_quiet_on) | (refine lex_skipk rfl ?_; intro K hK; go_simp; refine hK _ _ ?_; clear hK K) | (refine lex_e rfl rfl ?_; intro K hK; go_step) | (refine lex_nil ?_)
              | ((with_reducible apply And.intro); · (intro hl; first | (exact ls_absurd hl rfl) | trivial)))
            go_roundw
            case rel =>
              refine ⟨i + 1, by omega, by go_num, ?_⟩
              rw [HX.out]
              have h1 := Hst.out.1
              rw [bv_set, Hnx.out] at h1
              exact (S'.out.rowset (l1 := []) h1 ((Kp.refl [g] wr).setCell (.inl (by simp)) _)).kp ((Kp.refl [] _).drew)
            case measure => simp [intOf]; omega
          · obtain rfl : i = 4 := by omega
            have o := S.at_ (l1 := [])
            have Rx : Hid (∀ W, Kp [] wr W → Rd W 1 (.slice (some ⟨g, 0, none⟩) b.length c1) b.length (bv (xpart b k (le4 y) 4))) := Lib.hid (fun W k => rd_old (Rd.of_own o) k)
            have Kr := Lib.hid S.k
            have hne : crc (xpart b k (le4 y) 4) ≠ crc b := by
              have := crc_four (b.take k) ((b.drop k).take 4) (b.drop (k + 4)) y hy hy0 (by simp; omega)
              rw [← cut3 b k 4] at this
              have h4 := xpart_all b k (le4 y)
              rw [show (le4 y).length = 4 from rfl] at h4
              rw [h4]; exact this
            have hlen : (xpart b k (le4 y) 4).length = b.length := xpart_length (by omega) (by simp [le4])
            have Hs1 : Hid (∀ W g', g' = W.heap.size → Kp [] wr W → Calls Try.prog 14 #[.slice (some ⟨g', 0, none⟩) 1 1] (W.alloc (.cells #[.slice (some ⟨g, 0, none⟩) b.length c1] 22)) fun e w' => e = .returned (.int .u32 ((crc (xpart b k (le4 y) 4) : Nat) : Int)) ∧ W.alloc (.cells #[.slice (some ⟨g, 0, none⟩) b.length c1] 22) = w') := Lib.hid (fun W g' hg kk => by
              have := Sum_any _ _ _ (txs1 22 hg (Rx.out W kk)) (by simp)
              simpa using this)
            have Hs2 : Hid (∀ W g', g' = W.heap.size → Kp [] wr W → Calls Try.prog 14 #[.slice (some ⟨g', 0, none⟩) 1 1] (W.alloc (.cells #[.slice Ab b.length cb] 22)) fun e w' => e = .returned (.int .u32 ((crc b : Nat) : Int)) ∧ W.alloc (.cells #[.slice Ab b.length cb] 22) = w') := Lib.hid (fun W g' hg kk => by
              have := Sum_any _ _ _ (txs1 22 hg (Rb.out W (Kr.out.trans kk (by simp)))) (by simp)
              simpa using this)
            generalize crc (xpart b k (le4 y) 4) = s1 at *
            generalize crc b = s2 at *
            have hnb : ((s1 : Int) != (s2 : Int)) = true := by simp; omega
            clear S o hne hlen S1' hkn
            go_wp2_with (first
              | (go_at_call 14; ((with_reducible refine (Hs1.out _ _ (by simp) (Kp.refl _ _)).mono ?_); rintro e w' ⟨rfl, rfl⟩))
              | (go_at_call 14; ((with_reducible refine (Hs2.out _ _ (by simp) ((Kp.refl _ _).alloc _)).mono ?_); rintro e w' ⟨rfl, rfl⟩))
              | (go_at_call 12; ((with_reducible refine (works_true _).mono ?_); rintro e w5 ⟨rfl, k5⟩)))
            go_ret
            exact ⟨rfl, ((Kr.out.alloc _).alloc _).trans k5 (by simp)⟩
end Go.Proofs.Ytgldgkdnnimglaa
