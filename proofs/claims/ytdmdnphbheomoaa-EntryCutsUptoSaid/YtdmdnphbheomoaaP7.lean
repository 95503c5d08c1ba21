/- Several texts in one: EntR, EntS, EntT, EntU. -/
import Derived.Test.YtdmdnphbheomoaaP6
/- Same of entry: slices.EqualFunc over bytes.Equal. -/
namespace Go.Proofs.Ytdmdnphbheomoaa
open Go.RowKit
set_option maxRecDepth 100000 in
set_option maxHeartbeats 2000000 in
theorem bytesEq_any (x y : Value) (a b : List UInt8) (w : World) (hx : Rd w 1 x a.length (bv a)) (hy : Rd w 1 y b.length (bv b)) :
    Calls Try.prog 57 #[x, y] w fun e w' => e = .returned (.bool (a == b)) ∧ w = w' := by
  have k1 := strB hx
  have k2 := strB hy
  go_enter Try.func57, Try.ntmps57
  go_wp2
  go_ret
  exact ⟨rfl, rfl⟩
set_option maxRecDepth 100000 in
set_option maxHeartbeats 2000000 in
theorem eqf_any (x y : Value) (L M : List (List UInt8)) (w : World) (hx : Txs w x L) (hy : Txs w y M) :
    Calls Try.prog 56 #[x, y, .func (.func 57) #[] #[]] w fun e w' => e = .returned (.bool (L == M)) ∧ Kp [] w w' := by
  have hbL : L.length ≤ 9223372036854775807 := by
    obtain ⟨vs, ⟨_, A', c', _, h1, h2, _⟩, _⟩ := hx
    unfold maxLen at h2
    omega
  obtain ⟨A, c, rfl, hA, hat⟩ := hx.open_
  obtain ⟨B, d, rfl, hB, hbt⟩ := hy.open_
  have HA := Lib.hid hA
  have HB := Lib.hid hB
  have Hx := Lib.hid hx
  have Hy := Lib.hid hy
  clear hx hy hA hB hat hbt
  by_cases hlen : L.length = M.length
  · have hll := Lib.hid hlen
    have hl3 : ((L.length : Int) != (M.length : Int)) = false := by rw [hlen]; simp
    clear hlen
    go_enter Try.func56, Try.ntmps56
    go_wp2
    go_loopw [7, 8, 9, 17] (fun _ _ _ i wr => ∃ k : Nat, k ≤ L.length ∧ i = .int .i64 k ∧ L.take k = M.take k ∧ Kp [] w wr) (fun _ _ _ i _ => L.length - (intOf i).toNat)
    case atStart => exact ⟨0, Nat.zero_le _, rfl, by simp, Kp.refl _ _⟩
    case round =>
      obtain ⟨k, hk, rfl, hpre, hkp⟩ := hrel
      have Hpre := Lib.hid hpre
      clear hpre
      by_cases hlt : k < L.length
      · obtain ⟨ad, rfl⟩ := HA.out (by omega)
        obtain ⟨bd, rfl⟩ := HB.out (by have := hll.out; omega)
        have hltM : k < M.length := by have := hll.out; omega
        have HX : Hid (∃ u, ∀ V, Kp [] w V → V.cell? (ad.add k) = some u ∧ Rd V 1 u L[k].length (bv L[k])) := Lib.hid (by
          obtain ⟨A', c', e, _, h⟩ := Hx.out.open_
          cases e
          obtain ⟨u, h1, h2⟩ := h ad rfl k hlt
          exact ⟨u, fun V kk => ⟨cell_kept h1 kk, rd_old h2 kk⟩⟩)
        have HY : Hid (∃ u, ∀ V, Kp [] w V → V.cell? (bd.add k) = some u ∧ Rd V 1 u M[k].length (bv M[k])) := Lib.hid (by
          obtain ⟨A', c', e, _, h⟩ := Hy.out.open_
          cases e
          obtain ⟨u, h1, h2⟩ := h bd rfl k hltM
          exact ⟨u, fun V kk => ⟨cell_kept h1 kk, rd_old h2 kk⟩⟩)
        obtain ⟨u1, hu1⟩ := HX.out
        obtain ⟨u2, hu2⟩ := HY.out
        have RX := Lib.hid (fun (V : World) (kk : Kp [] w V) => (hu1 V kk).2)
        have RY := Lib.hid (fun (V : World) (kk : Kp [] w V) => (hu2 V kk).2)
        have C1 := Lib.hid (fun (V : World) (kk : Kp [] w V) => (hu1 V kk).1)
        have C2 := Lib.hid (fun (V : World) (kk : Kp [] w V) => (hu2 V kk).1)
        have HnL : Hid (L.take (k + 1) = L.take k ++ [L[k]] ∧ M.take (k + 1) = M.take k ++ [M[k]]) := Lib.hid ⟨take_succ_of (List.getElem?_eq_getElem hlt), take_succ_of (List.getElem?_eq_getElem hltM)⟩
        have HnE : Hid (L[k] ≠ M[k] → (L == M) = false) := Lib.hid (fun hne => by
          apply Bool.eq_false_iff.2
          intro he
          have := eq_of_beq he
          subst this
          exact hne rfl)
        clear HX HY hu1 hu2
        have hca := C1.out _ hkp
        have hcb := C2.out _ hkp
        have RA := Lib.hid (RX.out _ hkp)
        have RB := Lib.hid (RY.out _ hkp)
        generalize L[k] = a at *
        generalize M[k] = b at *
        go_wp2_with fail
        refine (bytesEq_any _ _ a b _ RA.out RB.out).mono ?_
        by_cases hab : a = b
        · have hkd : (a == b) = true := by rw [hab]; exact beq_self_eq_true b
          rw [hkd]
          rintro e w1 ⟨rfl, rfl⟩
          go_wp2
          go_roundw
          case rel => exact ⟨k + 1, by omega, by go_num, by rw [HnL.out.1, HnL.out.2, Hpre.out, hab], hkp⟩
          case measure => simp [intOf]; omega
        · have hkd : (a == b) = false := beq_false_of_ne hab
          rw [hkd]
          rintro e w1 ⟨rfl, rfl⟩
          go_wp2
          go_ret
          exact ⟨by rw [HnE.out hab]; rfl, hkp⟩
      · obtain rfl : k = L.length := by omega
        have he : L = M := by
          have := Hpre.out
          rwa [List.take_length, hll.out, List.take_length] at this
        subst he
        go_wp2
        go_ret
        exact ⟨by simp, hkp⟩
  · have hne : (L == M) = false := by
      apply Bool.eq_false_iff.2
      intro he
      have := eq_of_beq he
      subst this
      exact hlen rfl
    have Hne := Lib.hid hne
    clear hne
    have hl2 : ¬ (L.length : Int) = (M.length : Int) := by omega
    go_enter Try.func56, Try.ntmps56
    go_wp2
    go_ret
    all_goals first
      | exact ⟨by rw [Hne.out]; rfl, Kp.refl _ _⟩
      | (exfalso; simp at *; omega)
set_option maxRecDepth 100000 in
set_option maxHeartbeats 2000000 in
theorem esame_any (x y : Value) (L M : List (List UInt8)) (w : World) (hx : Txs w x L) (hy : Txs w y M) :
    Calls Try.prog 30 #[x, y] w fun e w' => e = .returned (.bool (L == M)) ∧ Kp [] w w' := by
  go_enter Try.func30, Try.ntmps30
  go_wp2_with fail
  refine (eqf_any x y L M w hx hy).mono ?_
  rintro e w1 ⟨rfl, k1⟩
  go_wp2
  go_ret
  exact ⟨rfl, k1⟩
end Go.Proofs.Ytdmdnphbheomoaa
/- The law's right: a batch that may be, out of any. -/
namespace Go.Proofs.Ytdmdnphbheomoaa
open Go.RowKit
theorem rd_front {W : World} {A : Option Addr} {n c k : Nat} {bs : List UInt8} (hk : k ≤ n) (h : Rd W 1 (.slice A n c) n (bv bs)) : Rd W 1 (.slice A k c) k (bv (bs.take k)) := by
  obtain ⟨hl, A', c', hv, h1, h2, h3, h4⟩ := h
  cases hv
  have hl2 : (bv bs).length = n := by omega
  rw [bv_length] at hl2
  refine ⟨by rw [bv_length, List.length_take]; omega, A, c, rfl, by omega, h2, (fun hA => by have := h3 hA; omega), fun ad had j u hu => h4 ad had j u ?_⟩
  rw [bv_get, List.getElem?_take] at hu
  rw [bv_get]
  split at hu
  · exact hu
  · cases hu
def rf (f : Int) : Int := f.tmod 1099511627776 % 1099511627776
theorem rf_le (f : Int) : 0 ≤ rf f ∧ rf f < 1099511627776 := by unfold rf; omega
def rL (L : List (List UInt8)) : List (List UInt8) := if L.length = 0 then [[]] else (L.take 40).map (·.take 300)
def RightPost (f : Int) (L : List (List UInt8)) (w : World) (e : Ending) (w' : World) : Prop :=
  ∃ y, e = .returned (.agg #[.int .i64 (rf f), y]) ∧ Txs w' y (rL L) ∧ Kp [] w w'
theorem rL_length {L : List (List UInt8)} (h : 0 < L.length) : (rL L).length = min 40 L.length := by
  unfold rL
  rw [if_neg (by omega), List.length_map, List.length_take]
theorem rL_get {L : List (List UInt8)} (h : 0 < L.length) (i : Nat) (hi : i < (rL L).length) : (rL L)[i] = (L.getD i []).take 300 := by
  have hl := rL_length h
  have hi2 : i < L.length := by omega
  have : (rL L)[i]? = some ((L.getD i []).take 300) := by
    unfold rL
    rw [if_neg (by omega), List.getElem?_map, List.getElem?_take, if_pos (by omega), List.getElem?_eq_getElem hi2, List.getD_eq_getElem?_getD, List.getElem?_eq_getElem hi2]
    rfl
  rw [List.getElem?_eq_getElem hi] at this
  exact Option.some.inj this
theorem rgt_txs {w w' : World} {L : List (List UInt8)} {k : Nat} {Bs : List Value} {y : Value} (h0 : 0 < L.length) (hk : k = min 40 L.length) (hB : ∀ i, i < k → ∃ B, Bs[i]? = some B ∧ Rd w 1 B ((L.getD i []).take 300).length (bv ((L.getD i []).take 300))) (hR : Rd w' 1 y k Bs) (kk : Kp [] w w') : Txs w' y (rL L) := by
  refine ⟨Bs, by rw [rL_length h0, ← hk]; exact hR, fun i hi => ?_⟩
  obtain ⟨B, h1, h2⟩ := hB i (by rw [rL_length h0] at hi; omega)
  rw [rL_get h0 i hi]
  exact ⟨B, h1, rd_old h2 kk⟩
/-- What the rounds of 'right' keep. -/
def RgtI (L : List (List UInt8)) (w : World) (f r : Int) (v : Value) (g1 k : Nat) (wr : World) : Prop :=
  k ≤ L.length ∧ k ≤ 40 ∧ ∃ (Bs : List Value) (Au : Option Addr) (cu : Nat), Bs.length = k ∧ (∀ i, i < k → ∃ B, Bs[i]? = some B ∧ Rd w 1 B ((L.getD i []).take 300).length (bv ((L.getD i []).take 300))) ∧
    Held w wr [rowR 25 1 (.slice Au k cu) k Bs, blkR (g1 + 1 + 1) 24 #[.int .i64 r, .slice Au k cu], blkR (g1 + 1) 24 #[.int .i64 0, .slice none 0 0], blkR g1 24 #[.int .i64 f, v]]
set_option maxRecDepth 100000 in
set_option maxHeartbeats 4000000 in
theorem right15_any (f : Int) (hf : -9223372036854775808 ≤ f ∧ f ≤ 9223372036854775807) (v : Value) (L : List (List UInt8)) (w : World) (hv : Txs w v L) :
    Calls Try.prog 29 #[.agg #[.int .i64 f, v]] w (RightPost f L w) := by
  obtain ⟨A, c, rfl, hA, -⟩ := hv.open_
  have Hv := Lib.hid hv
  have HA := Lib.hid hA
  have hL : L.length ≤ 9223372036854775807 := by
    obtain ⟨vs, ⟨_, A', c', _, h1, h2, _⟩, _⟩ := hv
    unfold maxLen at h2
    omega
  have hm1 := Int.tmod_lt_of_pos f (show (0 : Int) < 1099511627776 by decide)
  have hm2 := Int.lt_tmod_of_pos f (show (0 : Int) < 1099511627776 by decide)
  have hrf := rf_le f
  have Hrf : Hid (f.tmod 1099511627776 % 1099511627776 = rf f) := Lib.hid rfl
  clear hA hv
  have S1 := Lib.hid ((((Held.start w).newBlk 24 #[.int .i64 f, .slice A L.length c]).newBlk 24 #[.int .i64 0, .slice none 0 0]).newBlk 24 #[.int .i64 (rf f), .slice none 0 0])
  obtain ⟨i0, hi, hz0, hz1, hz2⟩ := info_parts Try.infoBytes
  go_enter Try.func29, Try.ntmps29
  go_wp2
  rw [Hrf.out]
  simp only [World.size_alloc] at S1
  obtain ⟨r, HRF⟩ : ∃ r, Hid (rf f = r) := ⟨_, Lib.hid rfl⟩
  rw [HRF.out] at Hrf hrf S1
  rw [HRF.out]
  generalize (f.tmod 1099511627776 + 1099511627776) % 1099511627776 = z10 at *
  generalize f.tmod 1099511627776 + 1099511627776 = z9 at *
  have K1 := Lib.hid S1.out.k
  generalize hg1 : w.heap.size = g1 at *
  generalize (((w.alloc (.cells #[.int .i64 f, .slice A L.length c] 24)).alloc (.cells #[.int .i64 0, .slice none 0 0] 24)).alloc (.cells #[.int .i64 r, .slice none 0 0] 24)) = W at *
  go_loopw [4, 5] (fun i _ wr => ∃ k : Nat, i = .int .i64 k ∧ RgtI L w f r (.slice A L.length c) g1 k wr) (fun i _ _ => L.length - (intOf i).toNat)
  case atStart => exact ⟨0, rfl, by omega, by omega, [], none, 0, rfl, (fun i hi => by omega), S1.out.rownew (World.ownsRow_nil _ _ _ _) (Kp.refl [] _) (by simp [Value.ownBlock])⟩
  case round =>
    clear S1 K1
    obtain ⟨k, rfl, hk, hk40, Bs, Au, cu, hBs, hB, S⟩ := hrel
    have HB := Lib.hid hB
    have HS := Lib.hid S
    have HBs := Lib.hid hBs
    obtain ⟨p0, p1, -⟩ := Blk.c2 (S.at_ (l1 := [_, _, _]))
    obtain ⟨q0, q1, -⟩ := Blk.c2 (S.at_ (l1 := [_]))
    clear S hBs hB
    by_cases hlt : k < L.length
    · by_cases h40 : k < 40
      · obtain ⟨ad, rfl⟩ := HA.out (by omega)
        obtain ⟨Ax, cx, hcx, hrx⟩ := Hv.out.at_ hlt
        have hcx := cell_kept hcx HS.out.k
        have HX := Lib.hid hrx
        obtain ⟨_, A', c', hv', hxc, _⟩ := hrx
        cases hv'
        have HD : Hid (L.getD k [] = L[k]) := Lib.hid (by rw [List.getD_eq_getElem?_getD, List.getElem?_eq_getElem hlt]; rfl)
        generalize L[k] = x at *
        by_cases h300 : 300 < x.length
        · have h300' : (300 : Int) < x.length := by omega
          have q := fun V => cut_u8 Ax x.length cx 300 300 rfl (by omega) hxc V
          have HT : Hid (Rd w 1 (.slice Ax 300 cx) ((L.getD k []).take 300).length (bv ((L.getD k []).take 300))) := Lib.hid (by rw [HD.out]; rw [show (x.take 300).length = 300 by rw [List.length_take]; omega]; exact rd_front (by omega) HX.out)
          clear HX
          have S3 := Lib.hid (HS.out.alloc (.cells #[.slice Ax 300 cx] 25))
          have HR := Lib.hid (rd_new wr 25 (.slice Ax 300 cx))
          go_wp2_with (at_builtin; refine wpList_app _ rfl (.tmp 34) (.tmp 36) _ rfl 25 i0 _ 1 24 Try.underlying22 hi hz0 hz1 hz2 rfl (by decide) (.slice Au k cu) k Bs rfl (S3.out.at_ (l1 := [])) (.slice (some ⟨wr.heap.size, 0, none⟩) 1 1) 1 [.slice Ax 300 cx] rfl HR.out (by simp [Value.oneCell']) (by unfold maxLen; omega) (by omega) ?_; intro v7 w7 o7 g7 h7; have S7 := Lib.hid (S3.out.grow (l1 := []) o7 g7 h7); obtain ⟨A7, c7, hv7, hcc, _⟩ := ow_form o7; subst hv7; obtain ⟨d0, d1, d2, d3, d4⟩ := Blk.c2 (S7.out.at_ (l1 := [_])); clear o7 g7 h7)
          go_roundw
          case rel =>
            have S8 := S7.out.set (l1 := [_]) 1 (.slice A7 (k + 1) c7)
            simp only [List.setIfInBounds_toArray, List.set_cons_succ, List.set_cons_zero, List.cons_append, List.nil_append] at S8
            refine ⟨k + 1, by go_num, by omega, by omega, (Bs ++ [Value.slice Ax 300 cx] : List Value), A7, c7, by rw [List.length_append, HBs.out]; rfl, (fun i hi => ?_), S8⟩
            by_cases hik : i < k
            · obtain ⟨B, h1, h2⟩ := HB.out i hik
              exact ⟨B, by rw [List.getElem?_append_left (by rw [HBs.out]; exact hik)]; exact h1, h2⟩
            · obtain rfl : i = k := by omega
              exact ⟨_, by rw [List.getElem?_append_right (by rw [HBs.out]; exact Nat.le_refl _), HBs.out, Nat.sub_self]; rfl, HT.out⟩
          case measure => simp [intOf]; omega
        · have h300' : ¬ (300 : Int) < x.length := by omega
          have HT : Hid (Rd w 1 (.slice Ax x.length cx) ((L.getD k []).take 300).length (bv ((L.getD k []).take 300))) := Lib.hid (by rw [HD.out, List.take_of_length_le (by omega)]; exact HX.out)
          clear HX
          have S3 := Lib.hid (HS.out.alloc (.cells #[.slice Ax x.length cx] 25))
          have HR := Lib.hid (rd_new wr 25 (.slice Ax x.length cx))
          go_wp2_with (at_builtin; refine wpList_app _ rfl (.tmp 34) (.tmp 36) _ rfl 25 i0 _ 1 24 Try.underlying22 hi hz0 hz1 hz2 rfl (by decide) (.slice Au k cu) k Bs rfl (S3.out.at_ (l1 := [])) (.slice (some ⟨wr.heap.size, 0, none⟩) 1 1) 1 [.slice Ax x.length cx] rfl HR.out (by simp [Value.oneCell']) (by unfold maxLen; omega) (by omega) ?_; intro v7 w7 o7 g7 h7; have S7 := Lib.hid (S3.out.grow (l1 := []) o7 g7 h7); obtain ⟨A7, c7, hv7, hcc, _⟩ := ow_form o7; subst hv7; obtain ⟨d0, d1, d2, d3, d4⟩ := Blk.c2 (S7.out.at_ (l1 := [_])); clear o7 g7 h7)
          go_roundw
          case rel =>
            have S8 := S7.out.set (l1 := [_]) 1 (.slice A7 (k + 1) c7)
            simp only [List.setIfInBounds_toArray, List.set_cons_succ, List.set_cons_zero, List.cons_append, List.nil_append] at S8
            refine ⟨k + 1, by go_num, by omega, by omega, (Bs ++ [Value.slice Ax x.length cx] : List Value), A7, c7, by rw [List.length_append, HBs.out]; rfl, (fun i hi => ?_), S8⟩
            by_cases hik : i < k
            · obtain ⟨B, h1, h2⟩ := HB.out i hik
              exact ⟨B, by rw [List.getElem?_append_left (by rw [HBs.out]; exact hik)]; exact h1, h2⟩
            · obtain rfl : i = k := by omega
              exact ⟨_, by rw [List.getElem?_append_right (by rw [HBs.out]; exact Nat.le_refl _), HBs.out, Nat.sub_self]; rfl, HT.out⟩
          case measure => simp [intOf]; omega
      · obtain rfl : k = 40 := by omega
        have HT : Hid (∀ V T, Held w V (rowR 25 1 (.slice Au 40 cu) 40 Bs :: T) → Txs V (.slice Au 40 cu) (rL L)) := Lib.hid (fun V T S => rgt_txs (by omega) (by omega) HB.out (Rd.of_own (S.at_ (l1 := []))) S.k)
        obtain ⟨r0, r1, r2, r3, r4⟩ := Blk.c2 (HS.out.at_ (l1 := [_, _]))
        have S8 := (HS.out.set (l1 := [_, _]) 0 (.int .i64 r)).set (l1 := [_, _]) 1 (.slice Au 40 cu)
        simp only [List.setIfInBounds_toArray, List.set_cons_succ, List.set_cons_zero, List.cons_append, List.nil_append] at S8
        obtain ⟨c0, c1, -⟩ := Blk.c2 (S8.at_ (l1 := [_, _]))
        have H8 := Lib.hid S8
        have C0 := Lib.hid c0
        have C1 := Lib.hid c1
        clear S8 c0 c1
        go_wp2
        have c0 := C0.out
        have c1 := C1.out
        refine bodyPost_ret (v := .agg #[.int .i64 r, .slice Au 40 cu]) (by simp [results, Try.f29, go_sem, c0, c1]) rfl ?_
        exact ⟨_, by rw [HRF.out], HT.out _ _ H8.out, H8.out.k⟩
    · obtain rfl : k = L.length := by omega
      by_cases h0 : 0 < L.length
      · have h0' : ((L.length : Int) == 0) = false := beq_eq_false_iff_ne.2 (by omega)
        have HT : Hid (∀ V T, Held w V (rowR 25 1 (.slice Au L.length cu) L.length Bs :: T) → Txs V (.slice Au L.length cu) (rL L)) := Lib.hid (fun V T S => rgt_txs (by omega) (by omega) HB.out (Rd.of_own (S.at_ (l1 := []))) S.k)
        obtain ⟨r0, r1, r2, r3, r4⟩ := Blk.c2 (HS.out.at_ (l1 := [_, _]))
        have S8 := (HS.out.set (l1 := [_, _]) 0 (.int .i64 r)).set (l1 := [_, _]) 1 (.slice Au L.length cu)
        simp only [List.setIfInBounds_toArray, List.set_cons_succ, List.set_cons_zero, List.cons_append, List.nil_append] at S8
        obtain ⟨c0, c1, -⟩ := Blk.c2 (S8.at_ (l1 := [_, _]))
        have H8 := Lib.hid S8
        have C0 := Lib.hid c0
        have C1 := Lib.hid c1
        clear S8 c0 c1
        go_wp2
        have c0 := C0.out
        have c1 := C1.out
        refine bodyPost_ret (v := .agg #[.int .i64 r, .slice Au L.length cu]) (by simp [results, Try.f29, go_sem, c0, c1]) rfl ?_
        exact ⟨_, by rw [HRF.out], HT.out _ _ H8.out, H8.out.k⟩
      · have h0' : L.length = 0 := by omega
        have h00 : ((L.length : Int) == 0) = true := by rw [h0']; rfl
        have HT : Hid (∀ V T, Held w V (rowR 25 1 (.slice (some ⟨wr.heap.size, 0, none⟩) 1 1) 1 [.slice none 0 0] :: T) → Txs V (.slice (some ⟨wr.heap.size, 0, none⟩) 1 1) (rL L)) := Lib.hid (fun V T S => by
          unfold rL
          rw [if_pos h0']
          refine ⟨[.slice none 0 0], Rd.of_own (S.at_ (l1 := [])), fun i hi => ?_⟩
          obtain rfl : i = 0 := by simp at hi; omega
          exact ⟨_, rfl, Rd.nil _ _⟩)
        have S3 := HS.out.rownew (ow_new wr 25 1 1 #[.slice none 0 0] rfl (by decide)) ((Kp.refl [] wr).alloc _) (fun g hg => Nat.le_of_eq (Option.some.inj hg))
        obtain ⟨r0, r1, r2, r3, r4⟩ := Blk.c2 (S3.at_ (l1 := [_, _]))
        have S4 := S3.set (l1 := [_, _]) 1 (.slice (some ⟨wr.heap.size, 0, none⟩) 1 1)
        simp only [List.setIfInBounds_toArray, List.set_cons_succ, List.set_cons_zero, List.cons_append, List.nil_append] at S4
        obtain ⟨s0, s1, s2, s3, s4⟩ := Blk.c2 (S4.at_ (l1 := [_, _]))
        obtain ⟨x0, x1, x2, x3, x4⟩ := Blk.c2 (S4.at_ (l1 := [_, _, _]))
        have S8 := (S4.set (l1 := [_, _, _]) 0 (.int .i64 r)).set (l1 := [_, _, _]) 1 (.slice (some ⟨wr.heap.size, 0, none⟩) 1 1)
        simp only [List.setIfInBounds_toArray, List.set_cons_succ, List.set_cons_zero, List.cons_append, List.nil_append] at S8
        obtain ⟨c0, c1, -⟩ := Blk.c2 (S8.at_ (l1 := [_, _, _]))
        have H8 := Lib.hid S8
        have C0 := Lib.hid c0
        have C1 := Lib.hid c1
        clear S3 S4 S8 c0 c1
        go_wp2
        have c0 := C0.out
        have c1 := C1.out
        refine bodyPost_ret (v := .agg #[.int .i64 r, .slice (some ⟨wr.heap.size, 0, none⟩) 1 1]) (by simp [results, Try.f29, go_sem, c0, c1]) rfl ?_
        exact ⟨_, by rw [HRF.out], HT.out _ _ H8.out, H8.out.k⟩
end Go.Proofs.Ytdmdnphbheomoaa
/- EntryBack: the walk. -/
namespace Go.Proofs.Ytdmdnphbheomoaa
open Go.RowKit
theorem rL_ok (L : List (List UInt8)) : 0 < (rL L).length ∧ (rL L).length ≤ 40 ∧ ∀ e ∈ rL L, e.length ≤ 300 := by
  unfold rL
  split
  · simp
  · refine ⟨by rw [List.length_map, List.length_take]; omega, by rw [List.length_map, List.length_take]; omega, fun e he => ?_⟩
    obtain ⟨x, _, rfl⟩ := List.mem_map.1 he
    rw [List.length_take]
    omega
theorem items_le300 (L : List (List UInt8)) (h : ∀ e ∈ L, e.length ≤ 300) : (items L).length ≤ 302 * L.length := by
  induction L with
  | nil => simp [items]
  | cons e L ih =>
    rw [items_cons, List.length_append, item_length, List.length_cons]
    have h1 := h e (by simp)
    have h2 := ih (fun x hx => h x (by simp [hx]))
    omega
theorem back_chk {F : Int} {X : List (List UInt8)} (hF : 0 ≤ F ∧ F < 1099511627776) (hX : 0 < X.length ∧ X.length ≤ 40 ∧ ∀ e ∈ X, e.length ≤ 300) : chk F X = 0 ∧ 10 ≤ (formB F X).length ∧ (formB F X).length ≤ 12090 := by
  refine ⟨chk_ok hF.1 (by omega) (by omega) hX.1 (by omega) (fun e he => by have := hX.2.2 e he; omega), ?_, ?_⟩
  · rw [formB_length]; omega
  · rw [formB_length]
    have := items_le300 X hX.2.2
    omega
theorem bv_put (l : List UInt8) (j : Nat) (c : UInt8) : (bv l).set j (.int .u8 (c.toNat : Int)) = bv (l.set j c) := by simp [bv, List.map_set]
theorem back_k (a n : Int) (hn : 0 < n) : -n < a.tmod n ∧ a.tmod n < n ∧ 0 ≤ a.tmod n % n ∧ a.tmod n % n < n := by
  have h1 := Int.tmod_lt_of_pos a hn
  have h2 := Int.lt_tmod_of_pos a hn
  exact ⟨h2, h1, Int.emod_nonneg _ (by omega), Int.emod_lt_of_pos _ hn⟩
set_option maxRecDepth 100000 in
set_option maxHeartbeats 8000000 in
theorem back15_true (f : Int) (hf : -9223372036854775808 ≤ f ∧ f ≤ 9223372036854775807) (v : Value) (L : List (List UInt8)) (w : World) (hv : Txs w v L) (a : Int) (ha : -9223372036854775808 ≤ a ∧ a ≤ 9223372036854775807) (c : UInt8) :
    Calls Try.prog 6 #[.agg #[.int .i64 f, v], .int .i64 a, .int .u8 (c.toNat : Int)] w fun r w' => r = .returned (.bool true) ∧ Kp [] w w' := by
  obtain ⟨A, cL, rfl, -, -⟩ := hv.open_
  have Hv := Lib.hid hv
  have K0 := Lib.hid ((Kp.refl [] w).alloc (.cells #[.int .i64 f, .slice A L.length cL] 24))
  have hF := rf_le f
  have hX := rL_ok L
  obtain ⟨hch, hb1, hb2⟩ := back_chk hF hX
  have Hch := Lib.hid hch
  clear hv hch
  go_enter Try.func6, Try.ntmps6
  go_wp2_with fail
  refine (right15_any f hf _ L _ (Hv.out.kp0 K0.out)).mono ?_
  rintro e w1 ⟨y, rfl, ty, k1⟩
  have K1 := Lib.hid (K0.out.trans k1 (by simp))
  generalize rf f = F at *
  generalize rL L = X at *
  obtain ⟨Ay, cy, rfl, hAy, -⟩ := ty.open_
  obtain ⟨ad, rfl⟩ := hAy hX.1
  obtain ⟨A0, c0, hc0, hr0⟩ := ty.at_ (k := 0) hX.1
  have hx0 := hX.2.2 X[0] (List.getElem_mem _)
  generalize X[0] = x0 at hc0 hr0 hx0
  have hch0 : may F x0 = 0 := may_ok hF.1 (by omega) (by omega)
  have HM0 := Lib.hid hch0
  have HTB := Lib.hid (TB_some (takeO_of hch0))
  have hol : (formO F x0).length = 10 + x0.length := formO_length F x0
  clear hch0
  have TY := Lib.hid ty
  have HC0 := Lib.hid (show w1.cell? ad = some (.slice A0 x0.length c0) from hc0)
  have HR0 := Lib.hid hr0
  have HX := Lib.hid hX
  have S1 := Lib.hid ((Held.start w1).newBlk 24 #[.int .i64 F, .slice (some ad) X.length cy])
  clear ty k1 hAy hc0 hr0
  go_wp2_with fail
  refine (put15_any F (by omega) _ X _ (TY.out.kp0 S1.out.k)).mono ?_
  rintro e w2 ⟨u2, rfl, o2⟩
  rw [Hch.out]
  rw [outB_ok Hch.out] at o2
  obtain ⟨b, HB⟩ : ∃ b, Hid (formB F X = b) := ⟨_, Lib.hid rfl⟩
  have HRb := Lib.hid (RB_some (readB_of Hch.out))
  rw [HB.out] at o2 hb1 hb2 HRb
  generalize hg7 : w1.heap.size = g7 at *
  have S2 := Lib.hid (S1.out.rownew o2.1 o2.2.1 o2.2.2)
  obtain ⟨A2, c2, rfl⟩ := o2.form
  have RB2 := Lib.hid (fun V (kk : Kp [] w2 V) => rd_old (Rd.of_own (S2.out.at_ (l1 := []))) kk)
  clear o2 S1
  go_wp2_with fail
  refine (read15_any _ b _ (RB2.out _ (Kp.refl _ _)) (by omega)).mono ?_
  rintro e w3 ⟨v3, Bs3, rfl, hB3, T3⟩
  rw [HRb.out.1, HRb.out.2]
  rw [HRb.out.1] at hB3 T3
  dsimp only at hB3 T3
  have HB3 := Lib.hid hB3
  obtain ⟨A3, c3, rfl, -, -⟩ := ow_form (T3.at_ (l1 := []))
  have S3 := Lib.hid (S2.out.join T3)
  have KB3 := Lib.hid (T3.k.alloc (.cells #[.int .i64 F, .slice A3 X.length c3] 24))
  have S4 := Lib.hid (S3.out.newBlk 24 #[.int .i64 F, .slice A3 X.length c3])
  clear T3 hB3 S3
  generalize hg10 : w3.heap.size = g10 at *
  generalize hw4 : w3.alloc (.cells #[.int .i64 F, .slice A3 X.length c3] 24) = w4 at *
  obtain ⟨p0, p1, -⟩ := Blk.c2 (S4.out.at_ (l1 := []))
  obtain ⟨q0, q1, -⟩ := Blk.c2 (show Blk w4 g7 24 #[.int .i64 F, .slice (some ad) X.length cy] from S4.out.ok (blkR g7 24 #[.int .i64 F, .slice (some ad) X.length cy]) (by simp))
  have TX3 := Lib.hid (txs_ok (v := .slice A3 X.length c3) HB3.out S4.out (by simp) (fun r hr => by simp [hr]))
  go_wp2_with fail
  refine (esame_any _ _ X X _ TX3.out (TY.out.kp0 S4.out.k)).mono ?_
  rw [beq_self_eq_true X]
  rintro e w5 ⟨rfl, k5⟩
  have S5 := Lib.hid (S4.out.kp k5)
  have KB5 := Lib.hid (KB3.out.trans k5 (by simp))
  clear k5 p0 p1 q0 q1 TX3 S4
  obtain ⟨hk1, hk2, hk3, hk4⟩ := back_k a (b.length : Int) (by omega)
  have hn0 : ¬ (b.length : Int) = 0 := by omega
  obtain ⟨k, HK⟩ : ∃ k : Nat, Hid (a.tmod (b.length : Int) % (b.length : Int) = (k : Int)) := ⟨(a.tmod (b.length : Int) % (b.length : Int)).toNat, Lib.hid (by omega)⟩
  have hkb : k < b.length := by have := HK.out; omega
  obtain ⟨-, A2', c2', hA2, hbc, -⟩ := RB2.out w2 (Kp.refl _ _)
  cases hA2
  have q := fun V => cut_u8 A2 b.length c2 k (a.tmod (b.length : Int) % (b.length : Int)) HK.out (by omega) hbc V
  go_wp2_with fail
  rw [show (a.tmod (b.length : Int) + (b.length : Int)) % (b.length : Int) = (k : Int) from by rw [Int.add_emod_right]; exact HK.out]
  have Hcut := Lib.hid (RB_none (readB_cut Hch.out k (by rw [HB.out]; exact hkb)))
  rw [HB.out] at Hcut
  have hrd := rd_front (k := k) (by omega) (RB2.out _ KB5.out)
  have hbk : (b.take k).length ≤ 140737488355200 := by rw [List.length_take]; omega
  have HRc := Lib.hid hrd
  clear q hk1 hk2 hk3 hk4
  refine (read15_any _ (b.take k) _ (by rw [show (b.take k).length = k by rw [List.length_take]; omega]; exact HRc.out) hbk).mono ?_
  rintro e w6 ⟨v6, Bs6, rfl, hB6, T6⟩
  rw [Hcut.out.1, Hcut.out.2]
  rw [Hcut.out.1] at hB6 T6
  dsimp only at hB6 T6
  have k6 := T6.k
  obtain ⟨A6, c6, rfl, -, -⟩ := ow_form (T6.at_ (l1 := []))
  have S6 := Lib.hid ((S5.out.kp k6).alloc (.cells #[.int .i64 0, .slice A6 0 c6] 24))
  have KB6 := Lib.hid ((KB5.out.trans k6 (by simp)).alloc (.cells #[.int .i64 0, .slice A6 0 c6] 24))
  clear k6 T6 hB6 S5 HRc
  generalize hg14 : w6.heap.size = g14 at *
  generalize hw7 : w6.alloc (.cells #[.int .i64 0, .slice A6 0 c6] 24) = w7 at *
  obtain ⟨b1, HB1⟩ : ∃ b1, Hid (b ++ [c] = b1) := ⟨_, Lib.hid rfl⟩
  have hb1l : b1.length ≤ 140737488355200 := by rw [← HB1.out, List.length_append]; simp; omega
  have HRm := Lib.hid (RB_none (readB_more Hch.out [c] (by simp)))
  rw [HB.out, HB1.out] at HRm
  go_wp2_with (first
    | (at_builtin; refine app_newB rfl (.const (.slice none 0 0)) (.tmp 79) rfl (.slice none 0 0) [] rfl (NewB.nil w7 w7 (Kp.refl _ _)) (.slice A2 b.length c2) b rfl (RB2.out _ KB6.out) (by simp only [List.length_nil]; omega) ?_; intro v8 w8 o8; rw [List.nil_append] at o8; have O8 := Lib.hid o8; obtain ⟨A8, c8, rfl⟩ := o8.form; clear o8; have HN8 := Lib.hid (O8.out.kp ((Kp.refl [] w8).alloc (.cells #[.int .u8 (c.toNat : Int)] 5))); have HL8 := Lib.hid (rd_lit w8 5 #[.int .u8 (c.toNat : Int)] [c] rfl (by simp)))
    | (at_builtin; refine app_newB rfl (.tmp 80) (.tmp 82) rfl (.slice A8 b.length c8) b rfl HN8.out (.slice (some ⟨w8.heap.size, 0, none⟩) 1 1) [c] rfl HL8.out (by simp only [List.length_cons, List.length_nil]; omega) ?_; intro v9 w9 o9; rw [HB1.out] at o9; have O9 := Lib.hid o9; obtain ⟨A9, c9, rfl⟩ := o9.form; clear o9)
    | fail)
  refine (read15_any _ b1 _ O9.out.rd hb1l).mono ?_
  rintro e w10 ⟨v10, Bs10, rfl, hB10, T10⟩
  rw [HRm.out.1, HRm.out.2]
  rw [HRm.out.1] at hB10 T10
  dsimp only at hB10 T10
  have k10 := O9.out.2.1.trans T10.k (by simp)
  obtain ⟨A10, c10, rfl, -, -⟩ := ow_form (T10.at_ (l1 := []))
  have S10 := Lib.hid ((S6.out.kp k10).alloc (.cells #[.int .i64 0, .slice A10 0 c10] 24))
  have KB10 := Lib.hid ((KB6.out.trans k10 (by simp)).alloc (.cells #[.int .i64 0, .slice A10 0 c10] 24))
  clear k10 T10 hB10 S6 O8 HN8 HL8 O9
  generalize hg16 : w10.heap.size = g16 at *
  generalize hw11 : w10.alloc (.cells #[.int .i64 0, .slice A10 0 c10] 24) = w11 at *
  obtain ⟨d, HD⟩ : ∃ d, Hid (b.set k c = d) := ⟨_, Lib.hid rfl⟩
  have hdl : d.length = b.length := by rw [← HD.out, List.length_set]
  go_wp2_with (at_builtin; refine app_newB rfl (.const (.slice none 0 0)) (.tmp 93) rfl (.slice none 0 0) [] rfl (NewB.nil w11 w11 (Kp.refl _ _)) (.slice A2 b.length c2) b rfl (RB2.out _ KB10.out) (by simp only [List.length_nil]; omega) ?_; intro v12 w12 o12; rw [List.nil_append] at o12; have O12 := Lib.hid o12; obtain ⟨gt, c12, hv12, _, _⟩ := ow_some o12.1 (by omega); subst hv12; have ct := o12.1.cellAt k (by omega); rw [bv_get, List.getElem?_eq_getElem hkb] at ct; have ft := o12.1.frozenAt k; have lt := ow_lt o12.1 (g := gt) rfl; clear o12)
  have S12 := Lib.hid ((S10.out.rownew O12.out.1 O12.out.2.1 O12.out.2.2).rowset (l1 := []) ((O12.out.1.stored (g := gt) k (.int .u8 (c.toNat : Int))).1) ((Kp.refl [gt] _).setCell (p := ⟨gt, k, none⟩) (.inl (by simp)) (.int .u8 (c.toNat : Int))))
  rw [bv_put, HD.out] at S12
  generalize hw13 : w12.setCell ⟨gt, k, none⟩ (.int .u8 (c.toNat : Int)) = w13 at *
  clear O12 KB10
  have hdn : d.length ≤ 140737488355200 := by omega
  refine (read15_any _ d _ (by rw [hdl]; exact rd_of_row S12.out (List.mem_cons_self ..)) hdn).mono ?_
  rintro e w14 ⟨v14, Bs14, rfl, hB14, T14⟩
  cases hr : readB d with
  | none =>
    have HRd := Lib.hid (RB_none hr)
    rw [HRd.out.1, HRd.out.2]
    have k14 := T14.k
    obtain ⟨A14, c14, hv14, -, -⟩ := ow_form (T14.at_ (l1 := []))
    subst hv14
    rw [HRd.out.1]
    dsimp only
    have S15 := Lib.hid ((S12.out.kp k14).alloc (.cells #[.int .i64 0, .slice A14 0 c14] 24))
    clear k14 T14 hB14 S12 hr
    generalize hg19 : w14.heap.size = g19 at *
    generalize hw15 : w14.alloc (.cells #[.int .i64 0, .slice A14 0 c14] 24) = w15 at *
    have BG := Lib.hid (show Blk w15 g7 24 #[.int .i64 F, .slice (some ad) X.length cy] from S15.out.ok (blkR g7 24 #[.int .i64 F, .slice (some ad) X.length cy]) (by simp))
    have CG := Lib.hid (cell_kept HC0.out S15.out.k)
    have KG := Lib.hid (K1.out.trans S15.out.k (by simp))
    have RG := Lib.hid (rd_old HR0.out S15.out.k)
    have T0 := Lib.hid ((Kp.refl [] w15).drew)
    clear S15
    go_wp2_with fail
    refine wp_region_lexf [6] [] (fun V : World => Kp [] w15 V) (by kernel_rfl) (by kernel_rfl) T0.out (fun σ hne fw hf hsur => ?_); have Hsur := Lib.hid hsur; clear hsur
    have q1 := fun y => (Blk.c2 (BG.out.kp (hf y) (by simp))).1
    have q2 := fun y => (Blk.c2 (BG.out.kp (hf y) (by simp))).2.1
    have q3 := fun y => cell_kept CG.out (hf y)
    clear hf
    go_wp2_with (first
      | (refine lex_qq Hsur.out rfl rfl rfl ?_; intro K hK; go_big_quiet_op; go_big_quiet_on) | (refine lex_skipk rfl ?_; intro K hK; go_simp; refine hK _ _ ?_; clear hK K) | (refine lex_e rfl rfl ?_; intro K hK; go_step) | (refine lex_nil ?_)
      | (go_at_call 14; ((with_reducible refine (one_any F _ x0 _ (rd_old RG.out T0.out)).mono ?_); rintro r w16 ⟨u16, rfl, o16⟩; rw [HM0.out]; rw [outO_ok HM0.out] at o16; have O16 := Lib.hid (NewB.base T0.out o16); clear o16; have T16 := Lib.hid O16.out.2.1))
      | ((with_reducible apply And.intro); · (intro hl; first | (exact ls_absurd hl rfl) | exact T16.out))
      | ((with_reducible apply And.intro); · (intro hl; first | (exact ls_absurd hl rfl) | exact T0.out)))
    refine (take15_any _ (formO F x0) _ O16.out.rd (by omega)).mono ?_
    rintro r w17 ⟨u17, rfl, o17⟩
    rw [HTB.out.1, HTB.out.2]
    rw [HTB.out.1] at o17
    dsimp only at o17
    have KG17 := Lib.hid ((KG.out.trans T16.out (by simp)).trans o17.2.1 (by simp))
    have T17 := Lib.hid (T16.out.trans o17.2.1 (by simp))
    have R1 := Lib.hid (fun V (kk : Kp [] w17 V) => rd_old o17.rd kk)
    have R2 := Lib.hid (fun V (kk : Kp [] w17 V) => rd_old RG.out (T17.out.trans kk (by simp)))
    have BG2 := Lib.hid (BG.out.kp T17.out (by simp))
    have CG2 := Lib.hid (cell_kept CG.out T17.out)
    obtain ⟨A17, c17, rfl⟩ := o17.form
    have hzz : (x0 == x0) = true := beq_self_eq_true x0
    have T0 := Lib.hid ((Kp.refl [] w17).drew)
    clear o17 q1 q2 q3 BG CG RG O16 T16 T17
    go_wp2_with fail
    refine wp_region_lexf [23] [] (fun V : World => Kp [] w17 V) (by kernel_rfl) (by kernel_rfl) T0.out (fun σ hne fw hf hsur => ?_); have Hsur := Lib.hid hsur; clear hsur
    have q1 := fun y => (Blk.c2 (BG2.out.kp (hf y) (by simp))).1
    have q2 := fun y => (Blk.c2 (BG2.out.kp (hf y) (by simp))).2.1
    have q3 := fun y => cell_kept CG2.out (hf y)
    clear hf
    go_wp2_with (first
      | (refine lex_qk (.string ⟨x0.toArray⟩) rfl rfl (fun V hV => exec_convT rfl rfl (strB (R1.out V hV))) ?_; intro K hK; go_simp; refine hK _ _ ?_; clear hK K)
      | (refine lex_qk (.string ⟨x0.toArray⟩) rfl rfl (fun V hV => exec_convT rfl rfl (strB (R2.out V hV))) ?_; intro K hK; go_simp; refine hK _ _ ?_; clear hK K)
      | (refine lex_qq Hsur.out rfl rfl rfl ?_; intro K hK; go_big_quiet_op; go_big_quiet_on) | (refine lex_skipk rfl ?_; intro K hK; go_simp; refine hK _ _ ?_; clear hK K) | (refine lex_e rfl rfl ?_; intro K hK; go_step) | (refine lex_nil ?_)
      | (go_at_call 10; ((with_reducible refine (known15_true _).mono ?_); rintro r w18 ⟨rfl, k18⟩; have T18 := Lib.hid (T0.out.trans k18 (by simp)); clear k18))
      | ((with_reducible apply And.intro); · (intro hl; first | (exact ls_absurd hl rfl) | exact T18.out))
      | ((with_reducible apply And.intro); · (intro hl; first | (exact ls_absurd hl rfl) | exact T0.out)))
    go_ret
    exact ⟨rfl, KG17.out.trans T18.out (by simp)⟩
  | some p =>
    obtain ⟨f', L'⟩ := p
    have HRd := Lib.hid (RB_some hr)
    obtain ⟨hc', hform⟩ := readB_form hr
    have HC' := Lib.hid hc'
    have HF' := Lib.hid hform
    have hz' := chk_zero hc'
    rw [HRd.out.1, HRd.out.2]
    rw [HRd.out.1] at hB14 T14
    dsimp only at hB14 T14 ⊢
    have HB14 := Lib.hid hB14
    obtain ⟨A14, c14, rfl, -, -⟩ := ow_form (T14.at_ (l1 := []))
    have S14 := Lib.hid ((S12.out.join T14).newBlk 24 #[.int .i64 f', .slice A14 L'.length c14])
    clear T14 hB14 S12 hr hc' hform
    generalize hg19 : w14.heap.size = g19 at *
    generalize hw15 : w14.alloc (.cells #[.int .i64 f', .slice A14 L'.length c14] 24) = w15 at *
    have TX14 := Lib.hid (txs_ok (v := .slice A14 L'.length c14) HB14.out S14.out (by simp) (fun r hr => by simp [hr]))
    obtain ⟨p0, p1, -⟩ := Blk.c2 (S14.out.at_ (l1 := []))
    go_wp2_with fail
    refine (put15_any f' (by omega) _ L' _ TX14.out).mono ?_
    rintro e w19 ⟨u19, rfl, o19⟩
    rw [HC'.out]
    rw [outB_ok HC'.out, HF'.out] at o19
    have S19 := Lib.hid (S14.out.rownew o19.1 o19.2.1 o19.2.2)
    have TX19 := Lib.hid (TX14.out.kp0 o19.2.1)
    obtain ⟨A19, c19, rfl⟩ := o19.form
    clear o19 p0 p1 S14 TX14
    obtain ⟨gs, cs, hA2, -, -⟩ := ow_some (S19.out.ok (rowR 5 1 (.slice A2 b.length c2) b.length (bv b)) (by simp)) (by omega)
    injection hA2 with hA2 _ _
    subst hA2
    have HD1 := Lib.hid (fun V LL (S : Held w1 V LL) (h : rowR 5 1 (.slice (some ⟨gs, 0, none⟩) b.length c2) b.length (bv b) ∈ LL) => (show V.cell? ⟨gs, k, none⟩ = some (.int .u8 (b[k].toNat : Int)) from by
      have h1 := (S.ok _ h).cellAt (g := gs) k (by omega)
      rw [bv_get, List.getElem?_eq_getElem hkb] at h1
      exact h1))
    have hzz : (d == d) = true := beq_self_eq_true d
    obtain ⟨p0, p1, -⟩ := Blk.c2 (show Blk w19 g19 24 #[.int .i64 f', .slice A14 L'.length c14] from S19.out.ok (blkR g19 24 #[.int .i64 f', .slice A14 L'.length c14]) (by simp))
    obtain ⟨q0, q1, -⟩ := Blk.c2 (show Blk w19 g7 24 #[.int .i64 F, .slice (some ad) X.length cy] from S19.out.ok (blkR g7 24 #[.int .i64 F, .slice (some ad) X.length cy]) (by simp))
    by_cases hbc2 : b[k] = c
    · have hsame : f' = F ∧ L' = X := formB_inj HC'.out Hch.out (by rw [HF'.out, HB.out, ← HD.out, ← hbc2, List.set_getElem_self])
      obtain ⟨h1, h2⟩ := hsame
      subst f'
      subst L'
      have hcc : ((b[k].toNat : Int) == (c.toNat : Int)) = true := by rw [hbc2]; exact beq_self_eq_true _
      go_wp2_with fail
      refine (esame_any _ _ X X _ TX19.out (TY.out.kp0 S19.out.k)).mono ?_
      rw [beq_self_eq_true X]
      rintro e w20 ⟨rfl, k20⟩
      have S20 := Lib.hid (S19.out.kp k20)
      have kv1 := strB (rd_of_row S20.out (List.mem_cons_self ..))
      rw [hdl] at kv1
      have kv2 := strB (rd_of_row (e := 5) (v := .slice (some ⟨gt, 0, none⟩) b.length c12) (n := b.length) (xs := bv d) S20.out (by simp))
      have cb := HD1.out _ _ S20.out (by simp)
      clear k20 p0 p1 q0 q1 S19 TX19
      have BG := Lib.hid (show Blk w20 g7 24 #[.int .i64 F, .slice (some ad) X.length cy] from S20.out.ok (blkR g7 24 #[.int .i64 F, .slice (some ad) X.length cy]) (by simp))
      have CG := Lib.hid (cell_kept HC0.out S20.out.k)
      have KG := Lib.hid (K1.out.trans S20.out.k (by simp))
      have RG := Lib.hid (rd_old HR0.out S20.out.k)
      have T0 := Lib.hid ((Kp.refl [] w20).drew)
      clear S20
      go_wp2_with fail
      refine wp_region_lexf [6] [] (fun V : World => Kp [] w20 V) (by kernel_rfl) (by kernel_rfl) T0.out (fun σ hne fw hf hsur => ?_); have Hsur := Lib.hid hsur; clear hsur
      have q1 := fun y => (Blk.c2 (BG.out.kp (hf y) (by simp))).1
      have q2 := fun y => (Blk.c2 (BG.out.kp (hf y) (by simp))).2.1
      have q3 := fun y => cell_kept CG.out (hf y)
      clear hf
      go_wp2_with (first
        | (refine lex_qq Hsur.out rfl rfl rfl ?_; intro K hK; go_big_quiet_op; go_big_quiet_on) | (refine lex_skipk rfl ?_; intro K hK; go_simp; refine hK _ _ ?_; clear hK K) | (refine lex_e rfl rfl ?_; intro K hK; go_step) | (refine lex_nil ?_)
        | (go_at_call 14; ((with_reducible refine (one_any F _ x0 _ (rd_old RG.out T0.out)).mono ?_); rintro r w16 ⟨u16, rfl, o16⟩; rw [HM0.out]; rw [outO_ok HM0.out] at o16; have O16 := Lib.hid (NewB.base T0.out o16); clear o16; have T16 := Lib.hid O16.out.2.1))
        | ((with_reducible apply And.intro); · (intro hl; first | (exact ls_absurd hl rfl) | exact T16.out))
        | ((with_reducible apply And.intro); · (intro hl; first | (exact ls_absurd hl rfl) | exact T0.out)))
      refine (take15_any _ (formO F x0) _ O16.out.rd (by omega)).mono ?_
      rintro r w17 ⟨u17, rfl, o17⟩
      rw [HTB.out.1, HTB.out.2]
      rw [HTB.out.1] at o17
      dsimp only at o17
      have KG17 := Lib.hid ((KG.out.trans T16.out (by simp)).trans o17.2.1 (by simp))
      have T17 := Lib.hid (T16.out.trans o17.2.1 (by simp))
      have R1 := Lib.hid (fun V (kk : Kp [] w17 V) => rd_old o17.rd kk)
      have R2 := Lib.hid (fun V (kk : Kp [] w17 V) => rd_old RG.out (T17.out.trans kk (by simp)))
      have BG2 := Lib.hid (BG.out.kp T17.out (by simp))
      have CG2 := Lib.hid (cell_kept CG.out T17.out)
      obtain ⟨A17, c17, rfl⟩ := o17.form
      have hzz : (x0 == x0) = true := beq_self_eq_true x0
      have T0 := Lib.hid ((Kp.refl [] w17).drew)
      clear o17 q1 q2 q3 BG CG RG O16 T16 T17
      go_wp2_with fail
      refine wp_region_lexf [23] [] (fun V : World => Kp [] w17 V) (by kernel_rfl) (by kernel_rfl) T0.out (fun σ hne fw hf hsur => ?_); have Hsur := Lib.hid hsur; clear hsur
      have q1 := fun y => (Blk.c2 (BG2.out.kp (hf y) (by simp))).1
      have q2 := fun y => (Blk.c2 (BG2.out.kp (hf y) (by simp))).2.1
      have q3 := fun y => cell_kept CG2.out (hf y)
      clear hf
      go_wp2_with (first
        | (refine lex_qk (.string ⟨x0.toArray⟩) rfl rfl (fun V hV => exec_convT rfl rfl (strB (R1.out V hV))) ?_; intro K hK; go_simp; refine hK _ _ ?_; clear hK K)
        | (refine lex_qk (.string ⟨x0.toArray⟩) rfl rfl (fun V hV => exec_convT rfl rfl (strB (R2.out V hV))) ?_; intro K hK; go_simp; refine hK _ _ ?_; clear hK K)
        | (refine lex_qq Hsur.out rfl rfl rfl ?_; intro K hK; go_big_quiet_op; go_big_quiet_on) | (refine lex_skipk rfl ?_; intro K hK; go_simp; refine hK _ _ ?_; clear hK K) | (refine lex_e rfl rfl ?_; intro K hK; go_step) | (refine lex_nil ?_)
        | (go_at_call 10; ((with_reducible refine (known15_true _).mono ?_); rintro r w18 ⟨rfl, k18⟩; have T18 := Lib.hid (T0.out.trans k18 (by simp)); clear k18))
        | ((with_reducible apply And.intro); · (intro hl; first | (exact ls_absurd hl rfl) | exact T18.out))
        | ((with_reducible apply And.intro); · (intro hl; first | (exact ls_absurd hl rfl) | exact T0.out)))
      go_ret
      exact ⟨rfl, KG17.out.trans T18.out (by simp)⟩
    · have hns : ¬ (f' = F ∧ L' = X) := by
        rintro ⟨rfl, rfl⟩
        apply hbc2
        have h1 : b.set k c = b := by rw [HD.out, ← HF'.out, HB.out]
        have h2 := congrArg (fun l => l[k]?) h1
        simp only [List.getElem?_set_self hkb, List.getElem?_eq_getElem hkb] at h2
        exact (Option.some.inj h2).symm
      have hcc : ((b[k].toNat : Int) == (c.toNat : Int)) = false := beq_eq_false_iff_ne.2 (fun h => hbc2 (UInt8.toNat_inj.1 (by omega)))
      by_cases hfF : f' = F
      · have hLX : (L' == X) = false := beq_false_of_ne (fun h => hns ⟨hfF, h⟩)
        subst f'
        clear hns
        go_wp2_with fail
        refine (esame_any _ _ L' X _ TX19.out (TY.out.kp0 S19.out.k)).mono ?_
        rw [hLX]
        rintro e w20 ⟨rfl, k20⟩
        have S20 := Lib.hid (S19.out.kp k20)
        have kv1 := strB (rd_of_row S20.out (List.mem_cons_self ..))
        rw [hdl] at kv1
        have kv2 := strB (rd_of_row (e := 5) (v := .slice (some ⟨gt, 0, none⟩) b.length c12) (n := b.length) (xs := bv d) S20.out (by simp))
        have cb := HD1.out _ _ S20.out (by simp)
        clear k20 p0 p1 q0 q1 S19 TX19
        have BG := Lib.hid (show Blk w20 g7 24 #[.int .i64 F, .slice (some ad) X.length cy] from S20.out.ok (blkR g7 24 #[.int .i64 F, .slice (some ad) X.length cy]) (by simp))
        have CG := Lib.hid (cell_kept HC0.out S20.out.k)
        have KG := Lib.hid (K1.out.trans S20.out.k (by simp))
        have RG := Lib.hid (rd_old HR0.out S20.out.k)
        have T0 := Lib.hid ((Kp.refl [] w20).drew)
        clear S20
        go_wp2_with fail
        refine wp_region_lexf [6] [] (fun V : World => Kp [] w20 V) (by kernel_rfl) (by kernel_rfl) T0.out (fun σ hne fw hf hsur => ?_); have Hsur := Lib.hid hsur; clear hsur
        have q1 := fun y => (Blk.c2 (BG.out.kp (hf y) (by simp))).1
        have q2 := fun y => (Blk.c2 (BG.out.kp (hf y) (by simp))).2.1
        have q3 := fun y => cell_kept CG.out (hf y)
        clear hf
        go_wp2_with (first
          | (refine lex_qq Hsur.out rfl rfl rfl ?_; intro K hK; go_big_quiet_op; go_big_quiet_on) | (refine lex_skipk rfl ?_; intro K hK; go_simp; refine hK _ _ ?_; clear hK K) | (refine lex_e rfl rfl ?_; intro K hK; go_step) | (refine lex_nil ?_)
          | (go_at_call 14; ((with_reducible refine (one_any F _ x0 _ (rd_old RG.out T0.out)).mono ?_); rintro r w16 ⟨u16, rfl, o16⟩; rw [HM0.out]; rw [outO_ok HM0.out] at o16; have O16 := Lib.hid (NewB.base T0.out o16); clear o16; have T16 := Lib.hid O16.out.2.1))
          | ((with_reducible apply And.intro); · (intro hl; first | (exact ls_absurd hl rfl) | exact T16.out))
          | ((with_reducible apply And.intro); · (intro hl; first | (exact ls_absurd hl rfl) | exact T0.out)))
        refine (take15_any _ (formO F x0) _ O16.out.rd (by omega)).mono ?_
        rintro r w17 ⟨u17, rfl, o17⟩
        rw [HTB.out.1, HTB.out.2]
        rw [HTB.out.1] at o17
        dsimp only at o17
        have KG17 := Lib.hid ((KG.out.trans T16.out (by simp)).trans o17.2.1 (by simp))
        have T17 := Lib.hid (T16.out.trans o17.2.1 (by simp))
        have R1 := Lib.hid (fun V (kk : Kp [] w17 V) => rd_old o17.rd kk)
        have R2 := Lib.hid (fun V (kk : Kp [] w17 V) => rd_old RG.out (T17.out.trans kk (by simp)))
        have BG2 := Lib.hid (BG.out.kp T17.out (by simp))
        have CG2 := Lib.hid (cell_kept CG.out T17.out)
        obtain ⟨A17, c17, rfl⟩ := o17.form
        have hzz : (x0 == x0) = true := beq_self_eq_true x0
        have T0 := Lib.hid ((Kp.refl [] w17).drew)
        clear o17 q1 q2 q3 BG CG RG O16 T16 T17
        go_wp2_with fail
        refine wp_region_lexf [23] [] (fun V : World => Kp [] w17 V) (by kernel_rfl) (by kernel_rfl) T0.out (fun σ hne fw hf hsur => ?_); have Hsur := Lib.hid hsur; clear hsur
        have q1 := fun y => (Blk.c2 (BG2.out.kp (hf y) (by simp))).1
        have q2 := fun y => (Blk.c2 (BG2.out.kp (hf y) (by simp))).2.1
        have q3 := fun y => cell_kept CG2.out (hf y)
        clear hf
        go_wp2_with (first
          | (refine lex_qk (.string ⟨x0.toArray⟩) rfl rfl (fun V hV => exec_convT rfl rfl (strB (R1.out V hV))) ?_; intro K hK; go_simp; refine hK _ _ ?_; clear hK K)
          | (refine lex_qk (.string ⟨x0.toArray⟩) rfl rfl (fun V hV => exec_convT rfl rfl (strB (R2.out V hV))) ?_; intro K hK; go_simp; refine hK _ _ ?_; clear hK K)
          | (refine lex_qq Hsur.out rfl rfl rfl ?_; intro K hK; go_big_quiet_op; go_big_quiet_on) | (refine lex_skipk rfl ?_; intro K hK; go_simp; refine hK _ _ ?_; clear hK K) | (refine lex_e rfl rfl ?_; intro K hK; go_step) | (refine lex_nil ?_)
          | (go_at_call 10; ((with_reducible refine (known15_true _).mono ?_); rintro r w18 ⟨rfl, k18⟩; have T18 := Lib.hid (T0.out.trans k18 (by simp)); clear k18))
          | ((with_reducible apply And.intro); · (intro hl; first | (exact ls_absurd hl rfl) | exact T18.out))
          | ((with_reducible apply And.intro); · (intro hl; first | (exact ls_absurd hl rfl) | exact T0.out)))
        go_ret
        exact ⟨rfl, KG17.out.trans T18.out (by simp)⟩
      · have hff : (f' == F) = false := beq_eq_false_iff_ne.2 hfF
        clear hns
        have kv1 := strB (rd_of_row S19.out (List.mem_cons_self ..))
        rw [hdl] at kv1
        have kv2 := strB (rd_of_row (e := 5) (v := .slice (some ⟨gt, 0, none⟩) b.length c12) (n := b.length) (xs := bv d) S19.out (by simp))
        have cb := HD1.out _ _ S19.out (by simp)
        have BG := Lib.hid (show Blk w19 g7 24 #[.int .i64 F, .slice (some ad) X.length cy] from S19.out.ok (blkR g7 24 #[.int .i64 F, .slice (some ad) X.length cy]) (by simp))
        have CG := Lib.hid (cell_kept HC0.out S19.out.k)
        have KG := Lib.hid (K1.out.trans S19.out.k (by simp))
        have RG := Lib.hid (rd_old HR0.out S19.out.k)
        have T0 := Lib.hid ((Kp.refl [] w19).drew)
        clear S19
        go_wp2_with fail
        refine wp_region_lexf [6] [] (fun V : World => Kp [] w19 V) (by kernel_rfl) (by kernel_rfl) T0.out (fun σ hne fw hf hsur => ?_); have Hsur := Lib.hid hsur; clear hsur
        have q1 := fun y => (Blk.c2 (BG.out.kp (hf y) (by simp))).1
        have q2 := fun y => (Blk.c2 (BG.out.kp (hf y) (by simp))).2.1
        have q3 := fun y => cell_kept CG.out (hf y)
        clear hf
        go_wp2_with (first
          | (refine lex_qq Hsur.out rfl rfl rfl ?_; intro K hK; go_big_quiet_op; go_big_quiet_on) | (refine lex_skipk rfl ?_; intro K hK; go_simp; refine hK _ _ ?_; clear hK K) | (refine lex_e rfl rfl ?_; intro K hK; go_step) | (refine lex_nil ?_)
          | (go_at_call 14; ((with_reducible refine (one_any F _ x0 _ (rd_old RG.out T0.out)).mono ?_); rintro r w16 ⟨u16, rfl, o16⟩; rw [HM0.out]; rw [outO_ok HM0.out] at o16; have O16 := Lib.hid (NewB.base T0.out o16); clear o16; have T16 := Lib.hid O16.out.2.1))
          | ((with_reducible apply And.intro); · (intro hl; first | (exact ls_absurd hl rfl) | exact T16.out))
          | ((with_reducible apply And.intro); · (intro hl; first | (exact ls_absurd hl rfl) | exact T0.out)))
        refine (take15_any _ (formO F x0) _ O16.out.rd (by omega)).mono ?_
        rintro r w17 ⟨u17, rfl, o17⟩
        rw [HTB.out.1, HTB.out.2]
        rw [HTB.out.1] at o17
        dsimp only at o17
        have KG17 := Lib.hid ((KG.out.trans T16.out (by simp)).trans o17.2.1 (by simp))
        have T17 := Lib.hid (T16.out.trans o17.2.1 (by simp))
        have R1 := Lib.hid (fun V (kk : Kp [] w17 V) => rd_old o17.rd kk)
        have R2 := Lib.hid (fun V (kk : Kp [] w17 V) => rd_old RG.out (T17.out.trans kk (by simp)))
        have BG2 := Lib.hid (BG.out.kp T17.out (by simp))
        have CG2 := Lib.hid (cell_kept CG.out T17.out)
        obtain ⟨A17, c17, rfl⟩ := o17.form
        have hzz : (x0 == x0) = true := beq_self_eq_true x0
        have T0 := Lib.hid ((Kp.refl [] w17).drew)
        clear o17 q1 q2 q3 BG CG RG O16 T16 T17
        go_wp2_with fail
        refine wp_region_lexf [23] [] (fun V : World => Kp [] w17 V) (by kernel_rfl) (by kernel_rfl) T0.out (fun σ hne fw hf hsur => ?_); have Hsur := Lib.hid hsur; clear hsur
        have q1 := fun y => (Blk.c2 (BG2.out.kp (hf y) (by simp))).1
        have q2 := fun y => (Blk.c2 (BG2.out.kp (hf y) (by simp))).2.1
        have q3 := fun y => cell_kept CG2.out (hf y)
        clear hf
        go_wp2_with (first
          | (refine lex_qk (.string ⟨x0.toArray⟩) rfl rfl (fun V hV => exec_convT rfl rfl (strB (R1.out V hV))) ?_; intro K hK; go_simp; refine hK _ _ ?_; clear hK K)
          | (refine lex_qk (.string ⟨x0.toArray⟩) rfl rfl (fun V hV => exec_convT rfl rfl (strB (R2.out V hV))) ?_; intro K hK; go_simp; refine hK _ _ ?_; clear hK K)
          | (refine lex_qq Hsur.out rfl rfl rfl ?_; intro K hK; go_big_quiet_op; go_big_quiet_on) | (refine lex_skipk rfl ?_; intro K hK; go_simp; refine hK _ _ ?_; clear hK K) | (refine lex_e rfl rfl ?_; intro K hK; go_step) | (refine lex_nil ?_)
          | (go_at_call 10; ((with_reducible refine (known15_true _).mono ?_); rintro r w18 ⟨rfl, k18⟩; have T18 := Lib.hid (T0.out.trans k18 (by simp)); clear k18))
          | ((with_reducible apply And.intro); · (intro hl; first | (exact ls_absurd hl rfl) | exact T18.out))
          | ((with_reducible apply And.intro); · (intro hl; first | (exact ls_absurd hl rfl) | exact T0.out)))
        go_ret
        exact ⟨rfl, KG17.out.trans T18.out (by simp)⟩
theorem back15_said (w : World) (f : Int) (hf : -9223372036854775808 ≤ f ∧ f ≤ 9223372036854775807) (v : Value) (L : List (List UInt8)) (hv : Txs w v L) (a : Int) (ha : -9223372036854775808 ≤ a ∧ a ≤ 9223372036854775807) (x : Nat) (hx : x < 256) :
    Calls Try.prog 6 #[.agg #[.int .i64 f, v], .int .i64 a, .int .u8 (x : Int)] w fun r w' => r = .returned (.bool true) ∧ Kp [] w w' := by
  have h := back15_true f hf v L w hv a ha (UInt8.ofNat x)
  have e : (UInt8.ofNat x).toNat = x := by rw [UInt8.toNat_ofNat']; omega
  rwa [e] at h
end Go.Proofs.Ytdmdnphbheomoaa
/- Bytes that came in; the walk of EntryBack. -/
namespace Go.Proofs.Ytdmdnphbheomoaa
open Go.RowKit Go.WideShapes Go.ChangeShapes
theorem u8_wf {a : Int} (h : (Lit.int .u8 a).wf = true) : ∃ n : Nat, a = (n : Int) ∧ n < 256 := by
  have h2 : 0 ≤ a ∧ a ≤ 255 := by simpa [Lit.wf, IntKind.min, IntKind.max, IntKind.signed, IntKind.bits] using h
  exact ⟨a.toNat, by omega, by omega⟩
end Go.Proofs.Ytdmdnphbheomoaa
