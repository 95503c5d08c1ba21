/- Several texts in one: PtB, PtC, PtN, PtE, PtF, PtG, PtJ, InvG, PtI. -/
import Derived.Lib.Strings
import Derived.Lib.ItoaNum
import Derived.Lib.ParseIntB
import Derived.Lib.Bytealg
import Derived.WalkKit
import Derived.Test.YtolfckhjfadhdaaDoorShelf
import Derived.Lib.SmallJoins
import Derived.Lib.AtoiErrMem
import Derived.Laws.Tables
import Derived.Test.YtolfckhjfadhdaaDoorP2
/- Hex of point and of the reference. -/
namespace Go.Proofs.YtolfckhjfadhdaaDoor
open Go.RowKit
set_option maxRecDepth 100000 in
theorem pdigit_any (n : Nat) (hn : n < 16) (w : World) : Calls Tryd.prog 47 #[.int .u8 (n : Int)] w fun e w' => e = .returned (.int .u8 ((hx n).toNat : Int)) ∧ w = w' := by
  by_cases h : n < 10
  · have HP : Hid (((hx n).toNat : Int) = 48 + n) := Lib.hid (by unfold hx; rw [if_pos h, UInt8.toNat_ofNat']; omega)
    have h' : (n : Int) < 10 := by omega
    go_enter Tryd.func47, Tryd.ntmps47
    go_wp2
    go_ret
    exact ⟨by rw [HP.out]; rfl, rfl⟩
  · have HP : Hid (((hx n).toNat : Int) = 87 + n) := Lib.hid (by unfold hx; rw [if_neg h, UInt8.toNat_ofNat']; omega)
    have h' : ¬ (n : Int) < 10 := by omega
    go_enter Tryd.func47, Tryd.ntmps47
    go_wp2
    go_ret
    exact ⟨by rw [HP.out, show (87 : Int) + n = 97 + n - 10 by omega]; rfl, rfl⟩
set_option maxRecDepth 100000 in
set_option maxHeartbeats 4000000 in
theorem hex_any (h : List UInt8) (hh : h.length = 32) (w : World) : Calls Tryd.prog 16 #[.agg (hashA h)] w fun e w' => e = .returned (.string ⟨(hexS h).toArray⟩) ∧ Kp [] w w' := by
  have HH := Lib.hid hh
  have S0 := Lib.hid ((Held.start w).newBlk 23 (hashA h))
  have HS32 : Hid ((hashA h).size = 32) := Lib.hid (by rw [hashA_size, hh])
  have H16 : Hid ((hashA digL).size = 16) := Lib.hid rfl
  clear hh
  obtain ⟨dg, HD⟩ : ∃ dg, Hid (hashA digL = dg) := ⟨_, Lib.hid rfl⟩
  obtain ⟨hs, HHS⟩ : ∃ hs, Hid (hashA h = hs) := ⟨_, Lib.hid rfl⟩
  rw [HHS.out] at S0 ⊢
  rw [HD.out] at H16
  go_enter Tryd.func16, Tryd.ntmps16
  go_wp2_with fail
  refine (digits_any _).mono ?_
  rw [HD.out]
  rintro e w1 ⟨rfl, k1⟩
  have S1 := Lib.hid (S0.out.kp k1)
  clear k1
  have HO := Lib.hid (fun u hu => by rw [← HD.out] at hu; exact hashA_one digL u hu : ∀ u, u ∈ dg.toList → u.oneCell' = true)
  go_wp2_with (first
    | (refine wpList_store_blk rfl 71 (.tmp 3) (.tmp 7) rfl w1.heap.size rfl dg rfl 71 _ (Blk.new w1 71 _) (by rw [H16.out]; exact Tryd.info16P) (by rw [H16.out]; rfl) HO.out ?_; intro w2 b2 k2; have S2 := Lib.hid (Held.setBlk (l1 := []) (S1.out.newBlk 71 _) b2 k2); clear b2 k2; have S3 := Lib.hid (S2.out.rownew (ow_new w2 5 1 0 #[] rfl (by decide)) ((Kp.refl [] w2).alloc _) (fun g hg => Nat.le_of_eq (Option.some.inj hg))))
    | (refine wpList_load_blk rfl 23 (.tmp 1) rfl w.heap.size rfl 23 hs (S3.out.at_ (l1 := [_, _])) _ Tryd.underlying23 rfl (by rw [← HHS.out, HS32.out]; exact Tryd.infoHashP) ?_))
  obtain ⟨g3, hg3⟩ : ∃ g3, w1.heap.size = g3 := ⟨_, rfl⟩
  rw [hg3] at S3 ⊢
  clear S0 S1 S2 hg3
  go_loopw [4, 6, 10] (fun b _ i wr => ∃ k : Nat, k ≤ 32 ∧ i = .int .i64 k ∧ ∃ A c, b = .slice A (hexS (h.take k)).length c ∧ Held w wr [rowR 5 1 (.slice A (hexS (h.take k)).length c) (hexS (h.take k)).length (bv (hexS (h.take k))), blkR g3 71 (hashA digL)]) (fun _ _ i _ => 32 - (intOf i).toNat)
  case atStart => exact ⟨0, by omega, rfl, _, _, rfl, by rw [HD.out]; exact S3.out.sub (.cons_cons _ (.cons_cons _ (.cons _ (List.Sublist.refl _))))⟩
  case round =>
    clear S3
    obtain ⟨k, hk, rfl, Ao, co, rfl, S⟩ := hrel
    have HS := Lib.hid S
    clear S
    have hol : (hexS (h.take k)).length ≤ 64 := by
      rw [hexS_length, List.length_take]; omega
    by_cases hlt : k < 32
    · have hlt' : k < h.length := by have := HH.out; omega
      have q := fun V => run_arr_index (P := Tryd.prog) V 23 5 32 h .i64 (k : Int) k rfl hlt' HH.out Tryd.underlying23 Tryd.underlying5 Tryd.sizeU8P
      rw [HHS.out] at q
      have he : h[k]? = some h[k] := List.getElem?_eq_getElem hlt'
      obtain ⟨o', HO2⟩ : ∃ o', Hid (hexS (h.take (k + 1)) = o') := ⟨_, Lib.hid rfl⟩
      have HO1 : Hid (hexS (h.take k) ++ hex2 h[k] = o') := Lib.hid (by rw [← HO2.out, hexS_take_succ he])
      clear he
      generalize hexS (h.take k) = o at *
      generalize h[k] = ch at *
      have hlc := ch.toNat_lt
      have HO' : Hid (o ++ [hx (ch.toNat / 16), hx (ch.toNat % 16)] = o' ∧ o.length + 2 = o'.length) := Lib.hid ⟨HO1.out, by rw [← HO1.out]; simp [hex2]⟩
      clear HO1
      generalize ch.toNat = n at *
      go_wp2_with fail
      -- SEP phex
      refine wp_region_sep (Γ := Unit) 2 [0, 1, 2, 3, 4, 5, 6, 7, 8, 9, 10, 11, 13]
        (fun i vs gs => match i with | 0 => vs 0 = .slice Ao o.length co | 1 => vs 1 = .int .u8 (n : Int) | 2 => vs 2 = .int .u8 ((n : Int) / 16) | 3 => vs 3 = .pointer (some ⟨g3, n / 16, none⟩) | 4 => vs 4 = .int .u8 ((hx (n / 16)).toNat : Int) | 5 => vs 5 = .int .u8 (n : Int) | 6 => vs 6 = .int .u8 ((n : Int) % 16) | 7 => vs 7 = .pointer (some ⟨g3, n % 16, none⟩) | 8 => vs 8 = .int .u8 ((hx (n % 16)).toNat : Int) | 10 => ∃ A c, vs 10 = .slice A o'.length c | 11 => vs 11 = vs 10 | _ => True)
        (fun i vs gs => match i with | 9 => [rowR 5 1 (vs 9) 2 (bv [hx (n / 16), hx (n % 16)])] | 10 => [rowR 5 1 (vs 10) o'.length (bv o')] | 12 => [rowR 5 1 (.slice Ao o.length co) o.length (bv o)] | 13 => [blkR g3 71 (hashA digL)] | _ => [])
        (fun i => match i with | 10 => [12] | _ => []) (fun i => match i with | 4 => [13] | 8 => [13] | 10 => [9] | _ => []) HS.out (by kernel_rfl) (by kernel_rfl) (by kernel_rfl) (by kernel_rfl) (fun i => match i with | 0 => [0] | 1 => [1] | 2 => [2] | 3 => [3] | 4 => [4] | 5 => [5] | 6 => [6] | 7 => [7] | 8 => [8] | 9 => [9] | 10 => [10] | 11 => [10, 11] | _ => []) (by kernel_rfl) ?_ (by kernel_rfl) ?_ ?_ ?_
      · intro s vs vs' gs gs' h
        iterate 14 (rcases s with _ | s; · (first | exact ⟨rfl, id⟩ | (simp only [List.mem_cons, List.not_mem_nil, or_false, forall_eq_or_imp, forall_eq] at h; simp [h])))
        exact ⟨rfl, id⟩
      · simp only [List.range, List.range.loop, List.flatMap_cons, List.flatMap_nil, List.append_nil]
        exact List.Perm.refl _
      · refine ⟨?_, ?_, ?_, ?_, ?_, ?_, ?_, ?_, ?_, ?_, ?_, ?_, trivial⟩
        · intro vs gs A' W LF hA S hR hd hu K hK
          replace hK := hK default
          have e4 : A'.tmps[4]?.getD undef = vs 11 := slot_is hA (by kernel_rfl) (Nat.le_of_ble_eq_true (by kernel_rfl)) (by kernel_rfl)
          rw [show vs 11 = .slice Ao o.length co from hu 11 _ rfl (by kernel_rfl)] at e4
          go_step
          exact hK _ _ S rfl
        · intro vs gs A' W LF hA S hR hd hu K hK
          replace hK := hK default
          have e6 : A'.tmps[6]?.getD undef = .int .u8 (n : Int) := slot_is hA (by kernel_rfl) (Nat.le_of_ble_eq_true (by kernel_rfl)) (by kernel_rfl)
          go_step
          exact hK _ _ S rfl
        · intro vs gs A' W LF hA S hR hd hu K hK
          replace hK := hK default
          have f1 : vs 1 = .int .u8 (n : Int) := hd 1 (by kernel_rfl)
          have e14 : A'.tmps[14]?.getD undef = vs 1 := slot_is hA (by kernel_rfl) (Nat.le_of_ble_eq_true (by kernel_rfl)) (by kernel_rfl)
          rw [f1] at e14
          go_step
          exact hK _ _ S rfl
        · intro vs gs A' W LF hA S hR hd hu K hK
          replace hK := hK default
          have e3 : A'.tmps[3]?.getD undef = .pointer (some ⟨g3, 0, none⟩) := slot_is hA (by kernel_rfl) (Nat.le_of_ble_eq_true (by kernel_rfl)) (by kernel_rfl)
          have f2 : vs 2 = .int .u8 ((n : Int) / 16) := hd 2 (by kernel_rfl)
          have e15 : A'.tmps[15]?.getD undef = vs 2 := slot_is hA (by kernel_rfl) (Nat.le_of_ble_eq_true (by kernel_rfl)) (by kernel_rfl)
          rw [f2] at e15
          have h0 : 0 ≤ (n : Int) / 16 := by omega
          have h1 : (n : Int) / 16 < 16 := by omega
          have h2 : ((n : Int) / 16).toNat = n / 16 := by omega
          go_step
          exact hK _ _ S rfl
        · intro vs gs A' W LF hA S hR hd hu K hK
          replace hK := hK default
          have f3 : vs 3 = .pointer (some ⟨g3, n / 16, none⟩) := hd 3 (by kernel_rfl)
          have e16 : A'.tmps[16]?.getD undef = vs 3 := slot_is hA (by kernel_rfl) (Nat.le_of_ble_eq_true (by kernel_rfl)) (by kernel_rfl)
          rw [f3] at e16
          have q := hex_cell (S.ok (blkR g3 71 (hashA digL)) (hR 13 (List.mem_singleton.2 rfl) _ (List.mem_singleton.2 rfl))) (n / 16) (by omega)
          go_step
          exact hK _ _ S rfl
        · intro vs gs A' W LF hA S hR hd hu K hK
          replace hK := hK default
          have e6 : A'.tmps[6]?.getD undef = .int .u8 (n : Int) := slot_is hA (by kernel_rfl) (Nat.le_of_ble_eq_true (by kernel_rfl)) (by kernel_rfl)
          go_step
          exact hK _ _ S rfl
        · intro vs gs A' W LF hA S hR hd hu K hK
          replace hK := hK default
          have f5 : vs 5 = .int .u8 (n : Int) := hd 5 (by kernel_rfl)
          have e18 : A'.tmps[18]?.getD undef = vs 5 := slot_is hA (by kernel_rfl) (Nat.le_of_ble_eq_true (by kernel_rfl)) (by kernel_rfl)
          rw [f5] at e18
          go_step
          exact hK _ _ S rfl
        · intro vs gs A' W LF hA S hR hd hu K hK
          replace hK := hK default
          have e3 : A'.tmps[3]?.getD undef = .pointer (some ⟨g3, 0, none⟩) := slot_is hA (by kernel_rfl) (Nat.le_of_ble_eq_true (by kernel_rfl)) (by kernel_rfl)
          have f6 : vs 6 = .int .u8 ((n : Int) % 16) := hd 6 (by kernel_rfl)
          have e19 : A'.tmps[19]?.getD undef = vs 6 := slot_is hA (by kernel_rfl) (Nat.le_of_ble_eq_true (by kernel_rfl)) (by kernel_rfl)
          rw [f6] at e19
          have h0 : 0 ≤ (n : Int) % 16 := by omega
          have h1 : (n : Int) % 16 < 16 := by omega
          have h2 : ((n : Int) % 16).toNat = n % 16 := by omega
          go_step
          exact hK _ _ S rfl
        · intro vs gs A' W LF hA S hR hd hu K hK
          replace hK := hK default
          have f7 : vs 7 = .pointer (some ⟨g3, n % 16, none⟩) := hd 7 (by kernel_rfl)
          have e20 : A'.tmps[20]?.getD undef = vs 7 := slot_is hA (by kernel_rfl) (Nat.le_of_ble_eq_true (by kernel_rfl)) (by kernel_rfl)
          rw [f7] at e20
          have q := hex_cell (S.ok (blkR g3 71 (hashA digL)) (hR 13 (List.mem_singleton.2 rfl) _ (List.mem_singleton.2 rfl))) (n % 16) (by omega)
          go_step
          exact hK _ _ S rfl
        · intro vs gs A' W LF hA S hR hd hu K hK
          replace hK := hK default
          have f4 : vs 4 = .int .u8 ((hx (n / 16)).toNat : Int) := hd 4 (by kernel_rfl)
          have e17 : A'.tmps[17]?.getD undef = vs 4 := slot_is hA (by kernel_rfl) (Nat.le_of_ble_eq_true (by kernel_rfl)) (by kernel_rfl)
          rw [f4] at e17
          have f8 : vs 8 = .int .u8 ((hx (n % 16)).toNat : Int) := hd 8 (by kernel_rfl)
          have e21 : A'.tmps[21]?.getD undef = vs 8 := slot_is hA (by kernel_rfl) (Nat.le_of_ble_eq_true (by kernel_rfl)) (by kernel_rfl)
          rw [f8] at e21
          go_step
          exact hK _ _ (S.rownew (ow_new W 5 1 2 #[.int .u8 ((hx (n / 16)).toNat : Int), .int .u8 ((hx (n % 16)).toNat : Int)] rfl (by decide)) ((Kp.refl [] W).alloc _) (fun g hg => Nat.le_of_eq (Option.some.inj hg))) trivial
        · intro vs gs A' W LF hA S hR hd hu K hK
          replace hK := hK default
          have f0 : vs 0 = .slice Ao o.length co := hd 0 (by kernel_rfl)
          have e13 : A'.tmps[13]?.getD undef = vs 0 := slot_is hA (by kernel_rfl) (Nat.le_of_ble_eq_true (by kernel_rfl)) (by kernel_rfl)
          rw [f0] at e13
          have e22 : A'.tmps[22]?.getD undef = vs 9 := slot_is hA (by kernel_rfl) (Nat.le_of_ble_eq_true (by kernel_rfl)) (by kernel_rfl)
          refine op_app (.tmp 13) (.tmp 22) 45 5 rfl Tryd.infoU8 Tryd.underlying45 rfl (by decide) (.slice Ao o.length co) o.length (bv o) (by simpa [Act.eval] using e13) S (vs 9) 2 (bv [hx (n / 16), hx (n % 16)]) (by simpa [Act.eval] using e22) (rd_of_row (e := 5) S (List.mem_cons_of_mem _ (hR 9 (List.mem_singleton.2 rfl) _ (List.mem_singleton.2 rfl)))) (bv_one _) (by unfold maxLen; omega) (by omega) (fun v' w' S' => ?_)
          rw [← bv_append, HO'.out.1, HO'.out.2] at S'
          obtain ⟨A1, c1, h1, _⟩ := ow_form (S'.at_ (l1 := []))
          exact hK v' w' S' ⟨A1, c1, h1⟩
        · intro vs gs A' W LF hA S hR hd hu K hK
          replace hK := hK default
          have f10 : ∃ A c, vs 10 = .slice A o'.length c := hd 10 (by kernel_rfl)
          have e23 : A'.tmps[23]?.getD undef = vs 10 := slot_is hA (by kernel_rfl) (Nat.le_of_ble_eq_true (by kernel_rfl)) (by kernel_rfl)
          go_step
          exact hK _ _ S rfl
      · intro vs gs W S hp
        have S : Held w W (rowR 5 1 (vs 9) 2 (bv [hx (n / 16), hx (n % 16)]) :: rowR 5 1 (vs 10) o'.length (bv o') :: blkR g3 71 (hashA digL) :: []) := by simpa only [List.flatMap_cons, List.flatMap_nil, List.append_nil, List.nil_append, List.cons_append, List.append_assoc] using S
        have p0 : vs 0 = .slice Ao o.length co := hp 0 (Nat.le_of_ble_eq_true rfl)
        have p1 : vs 1 = .int .u8 (n : Int) := hp 1 (Nat.le_of_ble_eq_true rfl)
        have p2 : vs 2 = .int .u8 ((n : Int) / 16) := hp 2 (Nat.le_of_ble_eq_true rfl)
        have p3 : vs 3 = .pointer (some ⟨g3, n / 16, none⟩) := hp 3 (Nat.le_of_ble_eq_true rfl)
        have p4 : vs 4 = .int .u8 ((hx (n / 16)).toNat : Int) := hp 4 (Nat.le_of_ble_eq_true rfl)
        have p5 : vs 5 = .int .u8 (n : Int) := hp 5 (Nat.le_of_ble_eq_true rfl)
        have p6 : vs 6 = .int .u8 ((n : Int) % 16) := hp 6 (Nat.le_of_ble_eq_true rfl)
        have p7 : vs 7 = .pointer (some ⟨g3, n % 16, none⟩) := hp 7 (Nat.le_of_ble_eq_true rfl)
        have p8 : vs 8 = .int .u8 ((hx (n % 16)).toNat : Int) := hp 8 (Nat.le_of_ble_eq_true rfl)
        have p11 : vs 11 = vs 10 := hp 11 (Nat.le_of_ble_eq_true rfl)
        obtain ⟨A8, c8, h8⟩ := hp 10 (Nat.le_of_ble_eq_true rfl)
        rw [h8] at p11 S
        have S2 := Lib.hid S.drop
        clear hp
        simp only [putAll, p0, p1, p2, p3, p4, p5, p6, p7, p8, p11, h8, Act.put, List.setIfInBounds_toArray, List.set_cons_succ, List.set_cons_zero]
        clear p0 p1 p2 p3 p4 p5 p6 p7 p8 p11 h8
        go_wp2
        go_roundw
        case rel => exact ⟨k + 1, by omega, by go_num, by rw [HO2.out]; exact ⟨_, _, rfl, S2.out⟩⟩
        case measure => simp [intOf]; omega
      -- END phex
    · obtain rfl : k = 32 := by omega
      have HR : Hid (hexS (h.take 32) = hexS h) := Lib.hid (by rw [List.take_of_length_le (by have := HH.out; omega)])
      rw [HR.out] at HS ⊢
      have kv := strB (Rd.of_own (HS.out.at_ (l1 := [])))
      go_wp2
      go_ret
      exact ⟨rfl, HS.out.k⟩
set_option maxRecDepth 100000 in
set_option maxHeartbeats 4000000 in
theorem rhex_any (h : List UInt8) (hh : h.length = 32) (w : World) : Calls Tryd.prog 25 #[.agg (hashA h)] w fun e w' => e = .returned (.string ⟨(hexS h).toArray⟩) ∧ Kp [] w w' := by
  have HH := Lib.hid hh
  have S0 := Lib.hid (((Held.start w).newBlk 23 (hashA h)).rownew (World.ownsRow_nil _ 0 5 1) (Kp.refl [] _) (by simp [Value.ownBlock]))
  clear hh
  go_enter Tryd.func25, Tryd.ntmps25
  go_wp2
  obtain ⟨g1, hg1⟩ : ∃ g1, w.heap.size = g1 := ⟨_, rfl⟩
  rw [hg1] at S0 ⊢
  clear hg1
  go_loopw [3, 4] (fun b i wr => ∃ k : Nat, k ≤ 32 ∧ i = .int .i64 k ∧ ∃ A c, b = .slice A (hexS (h.take k)).length c ∧ Held w wr [rowR 5 1 (.slice A (hexS (h.take k)).length c) (hexS (h.take k)).length (bv (hexS (h.take k))), blkR g1 23 (hashA h)]) (fun _ i _ => 32 - (intOf i).toNat)
  case atStart => exact ⟨0, by omega, rfl, _, _, rfl, S0.out⟩
  case round =>
    clear S0
    obtain ⟨k, hk, rfl, Ao, co, rfl, S⟩ := hrel
    have HS := Lib.hid S
    clear S
    have hol : (hexS (h.take k)).length ≤ 64 := by
      rw [hexS_length, List.length_take]; omega
    by_cases hlt : k < 32
    · have hlt' : k < h.length := by have := HH.out; omega
      have he : h[k]? = some h[k] := List.getElem?_eq_getElem hlt'
      have hg : (hashA h)[k]? = some (.int .u8 (h[k].toNat : Int)) := by simp [hashA, bv, hlt']
      obtain ⟨o', HO2⟩ : ∃ o', Hid (hexS (h.take (k + 1)) = o') := ⟨_, Lib.hid rfl⟩
      have HO1 : Hid (hexS (h.take k) ++ hex2 h[k] = o') := Lib.hid (by rw [← HO2.out, hexS_take_succ he])
      clear he
      generalize hexS (h.take k) = o at *
      generalize h[k] = ch at *
      have hlc := ch.toNat_lt
      have HO' : Hid (o ++ [hx (ch.toNat / 16), hx (ch.toNat % 16)] = o' ∧ o.length + 2 = o'.length) := Lib.hid ⟨HO1.out, by rw [← HO1.out]; simp [hex2]⟩
      clear HO1
      generalize ch.toNat = n at *
      have HG := Lib.hid hg
      clear hg
      have cd1 : Hid (∀ V, Calls Tryd.prog 47 #[.int .u8 ((n : Int) / 16)] V fun e w' => e = .returned (.int .u8 ((hx (n / 16)).toNat : Int)) ∧ V = w') := Lib.hid (fun V => by
        have := pdigit_any (n / 16) (by omega) V
        rwa [show ((n / 16 : Nat) : Int) = (n : Int) / 16 from by omega] at this)
      have cd2 : Hid (∀ V, Calls Tryd.prog 47 #[.int .u8 ((n : Int) % 16)] V fun e w' => e = .returned (.int .u8 ((hx (n % 16)).toNat : Int)) ∧ V = w') := Lib.hid (fun V => by
        have := pdigit_any (n % 16) (by omega) V
        rwa [show ((n % 16 : Nat) : Int) = (n : Int) % 16 from by omega] at this)
      go_wp2_with fail
      -- SEP prhex
      refine wp_region_sep (Γ := Unit) 2 [0, 1, 2, 3, 4, 5, 6, 7, 8, 9, 10, 11, 12, 13, 15]
        (fun i vs gs => match i with | 0 => vs 0 = .slice Ao o.length co | 1 => vs 1 = .int .i64 (k : Int) | 2 => vs 2 = .pointer (some ⟨g1, k, none⟩) | 3 => vs 3 = .int .u8 (n : Int) | 4 => vs 4 = .int .u8 ((n : Int) / 16) | 5 => vs 5 = .int .u8 ((hx (n / 16)).toNat : Int) | 6 => vs 6 = .int .i64 (k : Int) | 7 => vs 7 = .pointer (some ⟨g1, k, none⟩) | 8 => vs 8 = .int .u8 (n : Int) | 9 => vs 9 = .int .u8 ((n : Int) % 16) | 10 => vs 10 = .int .u8 ((hx (n % 16)).toNat : Int) | 12 => ∃ A c, vs 12 = .slice A o'.length c | 13 => vs 13 = vs 12 | _ => True)
        (fun i vs gs => match i with | 11 => [rowR 5 1 (vs 11) 2 (bv [hx (n / 16), hx (n % 16)])] | 12 => [rowR 5 1 (vs 12) o'.length (bv o')] | 14 => [rowR 5 1 (.slice Ao o.length co) o.length (bv o)] | 15 => [blkR g1 23 (hashA h)] | _ => [])
        (fun i => match i with | 12 => [14] | _ => []) (fun i => match i with | 3 => [15] | 8 => [15] | 12 => [11] | _ => []) HS.out (by kernel_rfl) (by kernel_rfl) (by kernel_rfl) (by kernel_rfl) (fun i => match i with | 0 => [0] | 1 => [1] | 2 => [2] | 3 => [3] | 4 => [4] | 5 => [5] | 6 => [6] | 7 => [7] | 8 => [8] | 9 => [9] | 10 => [10] | 11 => [11] | 12 => [12] | 13 => [12, 13] | _ => []) (by kernel_rfl) ?_ (by kernel_rfl) ?_ ?_ ?_
      · intro s vs vs' gs gs' h
        iterate 16 (rcases s with _ | s; · (first | exact ⟨rfl, id⟩ | (simp only [List.mem_cons, List.not_mem_nil, or_false, forall_eq_or_imp, forall_eq] at h; simp [h])))
        exact ⟨rfl, id⟩
      · simp only [List.range, List.range.loop, List.flatMap_cons, List.flatMap_nil, List.append_nil]
        exact List.Perm.refl _
      · refine ⟨?_, ?_, ?_, ?_, ?_, ?_, ?_, ?_, ?_, ?_, ?_, ?_, ?_, ?_, trivial⟩
        · intro vs gs A' W LF hA S hR hd hu K hK
          replace hK := hK default
          have e3 : A'.tmps[3]?.getD undef = vs 13 := slot_is hA (by kernel_rfl) (Nat.le_of_ble_eq_true (by kernel_rfl)) (by kernel_rfl)
          rw [show vs 13 = .slice Ao o.length co from hu 13 _ rfl (by kernel_rfl)] at e3
          go_step
          exact hK _ _ S rfl
        · intro vs gs A' W LF hA S hR hd hu K hK
          replace hK := hK default
          have e4 : A'.tmps[4]?.getD undef = .int .i64 (k : Int) := slot_is hA (by kernel_rfl) (Nat.le_of_ble_eq_true (by kernel_rfl)) (by kernel_rfl)
          go_step
          exact hK _ _ S rfl
        · intro vs gs A' W LF hA S hR hd hu K hK
          replace hK := hK default
          have e1 : A'.tmps[1]?.getD undef = .pointer (some ⟨g1, 0, none⟩) := slot_is hA (by kernel_rfl) (Nat.le_of_ble_eq_true (by kernel_rfl)) (by kernel_rfl)
          have f1 : vs 1 = .int .i64 (k : Int) := hd 1 (by kernel_rfl)
          have e10 : A'.tmps[10]?.getD undef = vs 1 := slot_is hA (by kernel_rfl) (Nat.le_of_ble_eq_true (by kernel_rfl)) (by kernel_rfl)
          rw [f1] at e10
          go_step
          exact hK _ _ S rfl
        · intro vs gs A' W LF hA S hR hd hu K hK
          replace hK := hK default
          have f2 : vs 2 = .pointer (some ⟨g1, k, none⟩) := hd 2 (by kernel_rfl)
          have e11 : A'.tmps[11]?.getD undef = vs 2 := slot_is hA (by kernel_rfl) (Nat.le_of_ble_eq_true (by kernel_rfl)) (by kernel_rfl)
          rw [f2] at e11
          have q : W.cell? ⟨g1, k, none⟩ = some (.int .u8 (n : Int)) := by rw [(show Blk W g1 23 (hashA h) from S.ok (blkR g1 23 (hashA h)) (hR 15 (List.mem_singleton.2 rfl) _ (List.mem_singleton.2 rfl))).cell k]; exact HG.out
          go_step
          exact hK _ _ S rfl
        · intro vs gs A' W LF hA S hR hd hu K hK
          replace hK := hK default
          have f3 : vs 3 = .int .u8 (n : Int) := hd 3 (by kernel_rfl)
          have e12 : A'.tmps[12]?.getD undef = vs 3 := slot_is hA (by kernel_rfl) (Nat.le_of_ble_eq_true (by kernel_rfl)) (by kernel_rfl)
          rw [f3] at e12
          go_step
          exact hK _ _ S rfl
        · intro vs gs A' W LF hA S hR hd hu K hK
          replace hK := hK default
          have f4 : vs 4 = .int .u8 ((n : Int) / 16) := hd 4 (by kernel_rfl)
          have e13 : A'.tmps[13]?.getD undef = vs 4 := slot_is hA (by kernel_rfl) (Nat.le_of_ble_eq_true (by kernel_rfl)) (by kernel_rfl)
          rw [f4] at e13
          go_step
          refine (cd1.out _).mono ?_
          rintro e w' ⟨rfl, rfl⟩
          exact hK _ _ S rfl
        · intro vs gs A' W LF hA S hR hd hu K hK
          replace hK := hK default
          have e4 : A'.tmps[4]?.getD undef = .int .i64 (k : Int) := slot_is hA (by kernel_rfl) (Nat.le_of_ble_eq_true (by kernel_rfl)) (by kernel_rfl)
          go_step
          exact hK _ _ S rfl
        · intro vs gs A' W LF hA S hR hd hu K hK
          replace hK := hK default
          have e1 : A'.tmps[1]?.getD undef = .pointer (some ⟨g1, 0, none⟩) := slot_is hA (by kernel_rfl) (Nat.le_of_ble_eq_true (by kernel_rfl)) (by kernel_rfl)
          have f6 : vs 6 = .int .i64 (k : Int) := hd 6 (by kernel_rfl)
          have e15 : A'.tmps[15]?.getD undef = vs 6 := slot_is hA (by kernel_rfl) (Nat.le_of_ble_eq_true (by kernel_rfl)) (by kernel_rfl)
          rw [f6] at e15
          go_step
          exact hK _ _ S rfl
        · intro vs gs A' W LF hA S hR hd hu K hK
          replace hK := hK default
          have f7 : vs 7 = .pointer (some ⟨g1, k, none⟩) := hd 7 (by kernel_rfl)
          have e16 : A'.tmps[16]?.getD undef = vs 7 := slot_is hA (by kernel_rfl) (Nat.le_of_ble_eq_true (by kernel_rfl)) (by kernel_rfl)
          rw [f7] at e16
          have q : W.cell? ⟨g1, k, none⟩ = some (.int .u8 (n : Int)) := by rw [(show Blk W g1 23 (hashA h) from S.ok (blkR g1 23 (hashA h)) (hR 15 (List.mem_singleton.2 rfl) _ (List.mem_singleton.2 rfl))).cell k]; exact HG.out
          go_step
          exact hK _ _ S rfl
        · intro vs gs A' W LF hA S hR hd hu K hK
          replace hK := hK default
          have f8 : vs 8 = .int .u8 (n : Int) := hd 8 (by kernel_rfl)
          have e17 : A'.tmps[17]?.getD undef = vs 8 := slot_is hA (by kernel_rfl) (Nat.le_of_ble_eq_true (by kernel_rfl)) (by kernel_rfl)
          rw [f8] at e17
          go_step
          exact hK _ _ S rfl
        · intro vs gs A' W LF hA S hR hd hu K hK
          replace hK := hK default
          have f9 : vs 9 = .int .u8 ((n : Int) % 16) := hd 9 (by kernel_rfl)
          have e18 : A'.tmps[18]?.getD undef = vs 9 := slot_is hA (by kernel_rfl) (Nat.le_of_ble_eq_true (by kernel_rfl)) (by kernel_rfl)
          rw [f9] at e18
          go_step
          refine (cd2.out _).mono ?_
          rintro e w' ⟨rfl, rfl⟩
          exact hK _ _ S rfl
        · intro vs gs A' W LF hA S hR hd hu K hK
          replace hK := hK default
          have f5 : vs 5 = .int .u8 ((hx (n / 16)).toNat : Int) := hd 5 (by kernel_rfl)
          have e14 : A'.tmps[14]?.getD undef = vs 5 := slot_is hA (by kernel_rfl) (Nat.le_of_ble_eq_true (by kernel_rfl)) (by kernel_rfl)
          rw [f5] at e14
          have f10 : vs 10 = .int .u8 ((hx (n % 16)).toNat : Int) := hd 10 (by kernel_rfl)
          have e19 : A'.tmps[19]?.getD undef = vs 10 := slot_is hA (by kernel_rfl) (Nat.le_of_ble_eq_true (by kernel_rfl)) (by kernel_rfl)
          rw [f10] at e19
          go_step
          exact hK _ _ (S.rownew (ow_new W 5 1 2 #[.int .u8 ((hx (n / 16)).toNat : Int), .int .u8 ((hx (n % 16)).toNat : Int)] rfl (by decide)) ((Kp.refl [] W).alloc _) (fun g hg => Nat.le_of_eq (Option.some.inj hg))) trivial
        · intro vs gs A' W LF hA S hR hd hu K hK
          replace hK := hK default
          have f0 : vs 0 = .slice Ao o.length co := hd 0 (by kernel_rfl)
          have e9 : A'.tmps[9]?.getD undef = vs 0 := slot_is hA (by kernel_rfl) (Nat.le_of_ble_eq_true (by kernel_rfl)) (by kernel_rfl)
          rw [f0] at e9
          have e20 : A'.tmps[20]?.getD undef = vs 11 := slot_is hA (by kernel_rfl) (Nat.le_of_ble_eq_true (by kernel_rfl)) (by kernel_rfl)
          refine op_app (.tmp 9) (.tmp 20) 45 5 rfl Tryd.infoU8 Tryd.underlying45 rfl (by decide) (.slice Ao o.length co) o.length (bv o) (by simpa [Act.eval] using e9) S (vs 11) 2 (bv [hx (n / 16), hx (n % 16)]) (by simpa [Act.eval] using e20) (rd_of_row (e := 5) S (List.mem_cons_of_mem _ (hR 11 (List.mem_singleton.2 rfl) _ (List.mem_singleton.2 rfl)))) (bv_one _) (by unfold maxLen; omega) (by omega) (fun v' w' S' => ?_)
          rw [← bv_append, HO'.out.1, HO'.out.2] at S'
          obtain ⟨A1, c1, h1, _⟩ := ow_form (S'.at_ (l1 := []))
          exact hK v' w' S' ⟨A1, c1, h1⟩
        · intro vs gs A' W LF hA S hR hd hu K hK
          replace hK := hK default
          have f12 : ∃ A c, vs 12 = .slice A o'.length c := hd 12 (by kernel_rfl)
          have e21 : A'.tmps[21]?.getD undef = vs 12 := slot_is hA (by kernel_rfl) (Nat.le_of_ble_eq_true (by kernel_rfl)) (by kernel_rfl)
          go_step
          exact hK _ _ S rfl
      · intro vs gs W S hp
        have S : Held w W (rowR 5 1 (vs 11) 2 (bv [hx (n / 16), hx (n % 16)]) :: rowR 5 1 (vs 12) o'.length (bv o') :: blkR g1 23 (hashA h) :: []) := by simpa only [List.flatMap_cons, List.flatMap_nil, List.append_nil, List.nil_append, List.cons_append, List.append_assoc] using S
        have p0 : vs 0 = .slice Ao o.length co := hp 0 (Nat.le_of_ble_eq_true rfl)
        have p1 : vs 1 = .int .i64 (k : Int) := hp 1 (Nat.le_of_ble_eq_true rfl)
        have p2 : vs 2 = .pointer (some ⟨g1, k, none⟩) := hp 2 (Nat.le_of_ble_eq_true rfl)
        have p3 : vs 3 = .int .u8 (n : Int) := hp 3 (Nat.le_of_ble_eq_true rfl)
        have p4 : vs 4 = .int .u8 ((n : Int) / 16) := hp 4 (Nat.le_of_ble_eq_true rfl)
        have p5 : vs 5 = .int .u8 ((hx (n / 16)).toNat : Int) := hp 5 (Nat.le_of_ble_eq_true rfl)
        have p6 : vs 6 = .int .i64 (k : Int) := hp 6 (Nat.le_of_ble_eq_true rfl)
        have p7 : vs 7 = .pointer (some ⟨g1, k, none⟩) := hp 7 (Nat.le_of_ble_eq_true rfl)
        have p8 : vs 8 = .int .u8 (n : Int) := hp 8 (Nat.le_of_ble_eq_true rfl)
        have p9 : vs 9 = .int .u8 ((n : Int) % 16) := hp 9 (Nat.le_of_ble_eq_true rfl)
        have p10 : vs 10 = .int .u8 ((hx (n % 16)).toNat : Int) := hp 10 (Nat.le_of_ble_eq_true rfl)
        have p13 : vs 13 = vs 12 := hp 13 (Nat.le_of_ble_eq_true rfl)
        obtain ⟨A8, c8, h8⟩ := hp 12 (Nat.le_of_ble_eq_true rfl)
        rw [h8] at p13 S
        have S2 := Lib.hid S.drop
        clear hp
        simp only [putAll, p0, p1, p2, p3, p4, p5, p6, p7, p8, p9, p10, p13, h8, Act.put, List.setIfInBounds_toArray, List.set_cons_succ, List.set_cons_zero]
        clear p0 p1 p2 p3 p4 p5 p6 p7 p8 p9 p10 p13 h8
        go_wp2
        go_roundw
        case rel => exact ⟨k + 1, by omega, by go_num, by rw [HO2.out]; exact ⟨_, _, rfl, S2.out⟩⟩
        case measure => simp [intOf]; omega
      -- END prhex
    · obtain rfl : k = 32 := by omega
      have HR : Hid (hexS (h.take 32) = hexS h) := Lib.hid (by rw [List.take_of_length_le (by have := HH.out; omega)])
      rw [HR.out] at HS ⊢
      have kv := strB (Rd.of_own (HS.out.at_ (l1 := [])))
      go_wp2
      go_ret
      exact ⟨rfl, HS.out.k⟩
end Go.Proofs.YtolfckhjfadhdaaDoor
/- Unhex of point and of the reference. -/
namespace Go.Proofs.YtolfckhjfadhdaaDoor
open Go.RowKit
set_option maxRecDepth 100000 in
set_option maxHeartbeats 2000000 in
theorem idx16_any (A : Option Addr) (cp : Nat) (c : UInt8) (w : World) (hx : Rd w 1 (.slice A 16 cp) 16 (bv digL)) : Calls Tryd.prog 33 #[.slice A 16 cp, .int .u8 (c.toNat : Int)] w fun e w' => e = .returned (.int .i64 (dgz c)) ∧ w = w' := by
  obtain ⟨-, A', c', e, h1, h2, h3, h4⟩ := hx
  cases e
  unfold maxLen at h2
  obtain ⟨ad, rfl⟩ : ∃ ad, A = some ad := by
    cases A with
    | none => have := (h3 rfl).1; omega
    | some ad => exact ⟨ad, rfl⟩
  have HC := Lib.hid (h4 ad rfl)
  clear h3 h4
  go_enter Tryd.func33, Tryd.ntmps33
  go_wp2
  go_loop [5, 8] (fun _ i => ∃ k : Nat, k ≤ 16 ∧ i = .int .i64 k ∧ ∀ j, j < k → digL[j]? ≠ some c) (fun _ i => 16 - (intOf i).toNat)
  case atStart => exact ⟨0, by omega, rfl, fun j hj => by omega⟩
  case round =>
    obtain ⟨k, hk, rfl, hp⟩ := hrel
    have HP := Lib.hid hp
    clear hp
    by_cases hlt : k < 16
    · have hg : digL[k]? = some (hx k) := digL_get hlt
      have hc := HC.out k (.int .u8 ((hx k).toNat : Int)) (by rw [bv_get, hg]; rfl)
      have HG := Lib.hid hg
      clear hg
      generalize hx k = d at *
      by_cases hcd : c = d
      · subst hcd
        have HR : Hid (dgz c = k) := Lib.hid (dgz_at HG.out)
        go_wp2
        go_ret
        exact ⟨by rw [HR.out]; rfl, rfl⟩
      · have hne : ¬ (c.toNat : Int) = d.toNat := fun h => hcd (UInt8.toNat_inj.1 (by omega))
        go_wp2
        go_round
        case rel => exact ⟨k + 1, by omega, by go_num, fun j hj => by
          by_cases e : j = k
          · subst e; rw [HG.out]; exact fun h => hcd (Option.some.inj h).symm
          · exact HP.out j (by omega)⟩
        case measure => simp [intOf]; omega
    · obtain rfl : k = 16 := by omega
      have HR : Hid (dgz c = -1) := Lib.hid (dgz_none HP.out)
      go_wp2
      go_ret
      exact ⟨by rw [HR.out]; rfl, rfl⟩
theorem or8 {a b : Nat} (ha : a < 16) (hb : b < 16) : bits .or .u8 ((a : Int) * 16) (b : Int) = ((UInt8.ofNat (16 * a + b)).toNat : Int) := by
  have h := all256 (p := fun m => decide (bits .or .u8 (((m / 16 : Nat) : Int) * 16) ((m % 16 : Nat) : Int) = ((UInt8.ofNat (16 * (m / 16) + m % 16)).toNat : Int))) (by decide +kernel) (show 16 * a + b < 256 by omega)
  have := of_decide_eq_true h
  rwa [show (16 * a + b) / 16 = a by omega, show (16 * a + b) % 16 = b by omega] at this
theorem hashA_set (l : List UInt8) (i : Nat) (c : UInt8) : (hashA l).setIfInBounds i (.int .u8 (c.toNat : Int)) = hashA (l.set i c) := by
  apply Array.ext'
  simp [hashA, bv, List.map_set]
theorem run_str_indexP (s : ByteArray) (k : Nat) (hk : k < s.size) (w : World) : (Instr.index 9 (.string s) (.int .i64 (k : Int))).run Tryd.prog w = .ok (.int .u8 (s[k].toNat : Int)) w := by
  simp [Instr.index, run_underlying Tryd.underlying9, hk, go_sem]
theorem exec_indexP {P : Program} {w : World} {ρ : Operand → Value} {o : Oper} {ty : TypeId} {x i : Operand} {v u r : Value} (ho : o.op = .index ty x i) (hx : ρ x = v) (hi : ρ i = u) (h : (Instr.index ty v u).run P w = .ok r w) : (execOp ρ o).run P w = .ok (.value r) w := by
  unfold execOp
  simp only [ho, hx, hi, Sem.run_bind, h, Result.andThen_ok, Sem.run_pure]
def UnhexPost (s : List UInt8) (w : World) (e : Ending) (w' : World) : Prop := e = .returned (.tuple #[.agg (hashA (UH s).1), .bool (UH s).2]) ∧ Kp [] w w'
set_option maxRecDepth 100000 in
set_option maxHeartbeats 4000000 in
theorem unhex_any (s : ByteArray) (w : World) : Calls Tryd.prog 11 #[.string s] w (UnhexPost s.data.toList w) := by
  have HZ : Hid ((hashA (List.replicate 32 0)).size = 32) := Lib.hid rfl
  have S0 := Lib.hid ((Held.start w).newBlk 23 (hashA (List.replicate 32 0)))
  have HSz := Lib.hid (Lib.size_eq s)
  have H16 : Hid ((hashA digL).size = 16) := Lib.hid rfl
  obtain ⟨dg', HD⟩ : ∃ dg, Hid (hashA digL = dg) := ⟨_, Lib.hid rfl⟩
  rw [HD.out] at H16
  have HO := Lib.hid (fun u hu => by rw [← HD.out] at hu; exact hashA_one digL u hu : ∀ u, u ∈ dg'.toList → u.oneCell' = true)
  have HZO := Lib.hid (hashA_one (List.replicate 32 0))
  go_enter Tryd.func11, Tryd.ntmps11
  go_wp2_with fail
  refine (digits_any _).mono ?_
  rw [HD.out]
  rintro e w1 ⟨rfl, k1⟩
  have S1 := Lib.hid (S0.out.kp k1)
  clear k1
  by_cases hl : s.size = 64
  · have hl' : ((s.size : Int) != 64) = false := by rw [hl]; rfl
    have HL := Lib.hid hl
    clear hl
    go_wp2_with (refine wpList_store_blk rfl 71 (.tmp 4) (.tmp 8) rfl w1.heap.size rfl dg' rfl 71 _ (Blk.new w1 71 _) (by rw [H16.out]; exact Tryd.info16P) (by rw [H16.out]; rfl) HO.out ?_; intro w2 b2 k2; have S2 := Lib.hid (Held.setBlk (l1 := []) (S1.out.newBlk 71 _) b2 k2); clear b2 k2; have S3 := Lib.hid (S2.out.newBlk 23 (hashA (List.replicate 32 0))))
    obtain ⟨g4, hg4⟩ : ∃ g4, w1.heap.size = g4 := ⟨_, rfl⟩
    obtain ⟨g5, hg5⟩ : ∃ g5, w2.heap.size = g5 := ⟨_, rfl⟩
    obtain ⟨g2, hg2⟩ : ∃ g2, w.heap.size = g2 := ⟨_, rfl⟩
    rw [hg4, hg5, hg2] at S3 ⊢
    clear S0 S1 S2 hg4 hg5 hg2
    have Hsl : Hid (s.data.toList.length = 64) := Lib.hid (by rw [← HSz.out, HL.out])
    have hs64 : ∀ k, k < 64 → k < s.size := fun k hk => by have := HL.out; omega
    have Hget : Hid (∀ k (hk : k < 64), s.data.toList.getD k 0 = s[k]'(hs64 k hk)) := Lib.hid (fun k hk => by
      rw [List.getD_eq_getElem?_getD, List.getElem?_eq_getElem (by rw [Hsl.out]; exact hk)]; rfl)
    have Hopt : Hid (∀ k (hk : k < 64), s.data.toList[k]? = some (s[k]'(hs64 k hk))) := Lib.hid (fun k hk => by
      rw [List.getElem?_eq_getElem (by rw [Hsl.out]; exact hk)]; rfl)
    have Hs64 := Lib.hid hs64
    go_loopw [6, 7, 15] (fun _ _ i wr => ∃ k : Nat, k ≤ 64 ∧ i = .int .i64 k ∧ (∀ j, j < k → dg (s.data.toList.getD j 0) < 16) ∧ Held w wr [blkR g5 23 (hashA (uprt s.data.toList k)), blkR g4 71 (hashA digL), blkR g2 23 (hashA (List.replicate 32 0))]) (fun _ _ i _ => 64 - (intOf i).toNat)
    case atStart => exact ⟨0, by omega, rfl, fun j hj => by omega, by rw [HD.out, uprt_zero]; exact S3.out⟩
    case round =>
      clear S3
      obtain ⟨k, hk, rfl, hp, S⟩ := hrel
      have HP := Lib.hid hp
      have HS := Lib.hid S
      clear hp S
      by_cases hlt : k < 64
      · have hks := Hs64.out k hlt
        have hgt := Hget.out k hlt
        have hop := Hopt.out k hlt
        obtain ⟨hu1, hu2⟩ := uprt_at s.data.toList k hlt (fun h => HP.out _ (by omega))
        have hu3 := uprt_succ s.data.toList k hlt
        have HI := Lib.hid (run_str_indexP s k hks)
        obtain ⟨q, hq⟩ : ∃ q, uold s.data.toList k = q := ⟨_, rfl⟩
        rw [hq] at hu1 hu2 hu3
        rw [hgt] at hu3
        clear hq
        generalize s[k] = c at *
        have T0 := Lib.hid (HS.out.kp ((Kp.refl [] wr).drew))
        have HG : Hid ((hashA (uprt s.data.toList k))[k / 2]? = some (.int .u8 (q : Int))) := Lib.hid (by
          show (bv (uprt s.data.toList k)).toArray[k / 2]? = _
          rw [List.getElem?_toArray, bv_get, hu1]
          simp only [Option.map_some]
          rw [UInt8.toNat_ofNat', Nat.mod_eq_of_lt (by omega)])
        have Hu3 := Lib.hid hu3
        have Hop := Lib.hid hop
        have Hgt := Lib.hid hgt
        clear hu1 hu3 hop hgt
        go_wp2_with fail
        refine wp_region_lexf [4] [] (fun V : World => Held w V [blkR g5 23 (hashA (uprt s.data.toList k)), blkR g4 71 (hashA digL), blkR g2 23 (hashA (List.replicate 32 0))]) (by kernel_rfl) (by kernel_rfl) T0.out (fun σ hne fw hf hsur => ?_); have Hsur := Lib.hid hsur; clear hsur
        clear hf
        have RD := Lib.hid (show Rd wr.drew 1 (.slice (some ⟨g4, 0, none⟩) 16 16) 16 (bv digL) from Rd.of_own ⟨by rfl, .inr ⟨g4, 16, hashA digL, rfl, Nat.zero_le _, T0.out.at_ (l1 := [_]), by omega, by decide, rfl, rfl⟩⟩)
        by_cases hd : dg c < 16
        · have Hz : Hid (dgz c = (dg c : Int)) := Lib.hid (dgz_lt hd)
          have hcell := (T0.out.at_ (l1 := [])).cell (k / 2)
          rw [HG.out] at hcell
          have hfr := (T0.out.at_ (l1 := [])).frozen (k / 2)
          have hblt := (T0.out.at_ (l1 := [])).lt
          have h0 : 0 ≤ (k : Int) / 2 := by omega
          have h1 : (k : Int) / 2 < 32 := by omega
          have h2 : ((k : Int) / 2).toNat = k / 2 := by omega
          obtain ⟨n, hn⟩ : ∃ n, dg c = n := ⟨_, rfl⟩
          rw [hn] at hd Hz Hu3
          have hor := or8 hu2 hd
          have S5 := HS.out.set (l1 := []) (k / 2) (.int .u8 ((UInt8.ofNat (16 * q + n)).toNat : Int))
          rw [hashA_set, ← Hu3.out, show ((UInt8.ofNat (16 * q + n)).toNat : Int) = (16 * (q : Int) + (n : Int)) % 256 from by rw [UInt8.toNat_ofNat']; omega] at S5
          have S5 := Lib.hid (S5.kp ((Kp.refl [] _).drew))
          have Hn := Lib.hid hn
          clear hn
          go_wp2_with (first
            | (refine lex_qk (.int .u8 (c.toNat : Int)) rfl rfl (fun V hV => exec_indexP rfl rfl rfl (HI.out V)) ?_; intro K hK; go_simp; refine hK _ _ ?_; clear hK K)
            | (refine lex_qq Hsur.out rfl rfl rfl ?_; intro K hK; go_big_quiet_op; go_big_quiet_on) | (refine lex_skipk rfl ?_; intro K hK; go_simp; refine hK _ _ ?_; clear hK K) | (refine lex_e rfl rfl ?_; intro K hK; go_step) | (refine lex_nil ?_)
            | (go_at_call 33; (with_reducible refine (idx16_any _ _ c _ RD.out).mono ?_); rw [Hz.out]; rintro e w' ⟨rfl, rfl⟩)
            | ((with_reducible apply And.intro); · (intro hl; first | (exact ls_absurd hl rfl) | exact T0.out)))
          go_roundw
          case rel => exact ⟨k + 1, by omega, by go_num, fun j hj => by
            by_cases e : j = k
            · subst e; rw [Hgt.out, Hn.out]; exact hd
            · exact HP.out j (by omega), S5.out⟩
          case measure => simp [intOf]; omega
        · have Hz : Hid (dgz c = -1) := Lib.hid (dgz_no hd)
          have HR : Hid (UH s.data.toList = (List.replicate 32 0, false)) := Lib.hid (UH_odd Hop.out hd)
          go_wp2_with (first
            | (refine lex_qk (.int .u8 (c.toNat : Int)) rfl rfl (fun V hV => exec_indexP rfl rfl rfl (HI.out V)) ?_; intro K hK; go_simp; refine hK _ _ ?_; clear hK K)
            | (refine lex_qq Hsur.out rfl rfl rfl ?_; intro K hK; go_big_quiet_op; go_big_quiet_on) | (refine lex_skipk rfl ?_; intro K hK; go_simp; refine hK _ _ ?_; clear hK K) | (refine lex_e rfl rfl ?_; intro K hK; go_step) | (refine lex_nil ?_)
            | (go_at_call 33; (with_reducible refine (idx16_any _ _ c _ RD.out).mono ?_); rw [Hz.out]; rintro e w' ⟨rfl, rfl⟩)
            | ((with_reducible apply And.intro); · (intro hl; first | (exact ls_absurd hl rfl) | exact T0.out))
            | (refine wpList_store_blk rfl 23 (.tmp 2) (.tmp 25) rfl g2 rfl (hashA (List.replicate 32 0)) rfl 23 _ (T0.out.at_ (l1 := [_, _])) (by rw [HZ.out]; exact Tryd.infoHashP) rfl HZO.out ?_; intro w4 b4 k4; have S4 := Lib.hid (Held.setBlk (l1 := [_, _]) T0.out b4 k4); clear b4 k4))
          refine bodyPost_ret (results_cell_tmp (by rfl) rfl (S4.out.at_ (l1 := [_, _])) Tryd.underlying23 rfl (by rw [HZ.out]; exact Tryd.infoHashP)) rfl ?_
          exact ⟨by rw [HR.out]; rfl, S4.out.k⟩
      · obtain rfl : k = 64 := by omega
        have HR : Hid (UH s.data.toList = (uprt s.data.toList 64, true)) := Lib.hid (UH_ok Hsl.out HP.out)
        have HU : Hid ((hashA (uprt s.data.toList 64)).size = 32) := Lib.hid (by rw [hashA_size, uprt_length])
        have HUO := Lib.hid (hashA_one (uprt s.data.toList 64))
        have hge : (s.size : Int) ≤ 64 := by have := HL.out; omega
        go_wp2_with (first
          | (refine wpList_load_blk rfl 23 (.tmp 5) rfl g5 rfl 23 _ (HS.out.at_ (l1 := [])) _ Tryd.underlying23 rfl (by rw [HU.out]; exact Tryd.infoHashP) ?_)
          | (refine wpList_store_blk rfl 23 (.tmp 2) (.tmp 38) rfl g2 rfl (hashA (uprt s.data.toList 64)) rfl 23 _ (HS.out.at_ (l1 := [_, _])) (by rw [HU.out]; exact Tryd.infoHashP) (by rw [HU.out, HZ.out]) HUO.out ?_; intro w4 b4 k4; have S4 := Lib.hid (Held.setBlk (l1 := [_, _]) HS.out b4 k4); clear b4 k4))
        refine bodyPost_ret (results_cell_tmp (by rfl) rfl (S4.out.at_ (l1 := [_, _])) Tryd.underlying23 rfl (by rw [HU.out]; exact Tryd.infoHashP)) rfl ?_
        exact ⟨by rw [HR.out]; rfl, S4.out.k⟩
  · have hl' : ((s.size : Int) != 64) = true := by simp; omega
    have HR : Hid (UH s.data.toList = (List.replicate 32 0, false)) := Lib.hid (UH_short (by rw [← HSz.out]; exact hl))
    clear hl
    go_wp2_with (first
      | (refine wpList_store_blk rfl 71 (.tmp 4) (.tmp 8) rfl w1.heap.size rfl dg' rfl 71 _ (Blk.new w1 71 _) (by rw [H16.out]; exact Tryd.info16P) (by rw [H16.out]; rfl) HO.out ?_; intro w2 b2 k2; have S2 := Lib.hid (Held.setBlk (l1 := []) (S1.out.newBlk 71 _) b2 k2); clear b2 k2; have S3 := Lib.hid (S2.out.newBlk 23 (hashA (List.replicate 32 0))))
      | (refine wpList_store_blk rfl 23 (.tmp 2) (.tmp 12) rfl w.heap.size rfl (hashA (List.replicate 32 0)) rfl 23 _ (S3.out.at_ (l1 := [_, _])) (by rw [HZ.out]; exact Tryd.infoHashP) rfl HZO.out ?_; intro w4 b4 k4; have S4 := Lib.hid (Held.setBlk (l1 := [_, _]) S3.out b4 k4); clear b4 k4))
    refine bodyPost_ret (results_cell_tmp (by rfl) rfl (S4.out.at_ (l1 := [_, _])) Tryd.underlying23 rfl (by rw [HZ.out]; exact Tryd.infoHashP)) rfl ?_
    exact ⟨by rw [HR.out]; rfl, S4.out.k⟩
theorem run_str_indexZ (s : ByteArray) (k : Nat) (z : Int) (hz : z = k) (hk : k < s.size) (w : World) : (Instr.index 9 (.string s) (.int .i64 z)).run Tryd.prog w = .ok (.int .u8 (s[k].toNat : Int)) w := by
  subst hz; exact run_str_indexP s k hk w
def hlf (c : UInt8) : Nat := if dg c < 16 then dg c else 0
set_option maxRecDepth 100000 in
theorem phalf_any (c : UInt8) (w : World) : Calls Tryd.prog 34 #[.int .u8 (c.toNat : Int)] w fun e w' => e = .returned (.tuple #[.int .u8 (hlf c : Int), .bool (decide (dg c < 16))]) ∧ w = w' := by
  have hlt := c.toNat_lt
  by_cases h : 48 ≤ c.toNat ∧ c.toNat ≤ 57
  · have hd : dg c = c.toNat - 48 := by unfold dg; rw [if_pos h]
    have HP : Hid ((hlf c : Int) = (c.toNat : Int) - 48) := Lib.hid (by unfold hlf; rw [if_pos (by omega), hd]; omega)
    have HB : Hid (decide (dg c < 16) = true) := Lib.hid (decide_eq_true (by omega))
    have h1 : (48 : Int) ≤ c.toNat := by omega
    have h2 : (c.toNat : Int) ≤ 57 := by omega
    rw [HP.out, HB.out]
    clear hd
    generalize c.toNat = n at *
    go_enter Tryd.func34, Tryd.ntmps34
    go_wp2
    go_ret2
    exact ⟨rfl, rfl⟩
  · by_cases h3 : 97 ≤ c.toNat ∧ c.toNat ≤ 102
    · have hd : dg c = c.toNat - 87 := by unfold dg; rw [if_neg h, if_pos h3]
      have HP : Hid ((hlf c : Int) = (c.toNat : Int) - 97 + 10) := Lib.hid (by unfold hlf; rw [if_pos (by omega), hd]; omega)
      have HB : Hid (decide (dg c < 16) = true) := Lib.hid (decide_eq_true (by omega))
      have h1 : (97 : Int) ≤ c.toNat := by omega
      have h2 : (c.toNat : Int) ≤ 102 := by omega
      have h4 : (48 : Int) ≤ c.toNat := by omega
      have h5 : ¬ (c.toNat : Int) ≤ 57 := by omega
      rw [HP.out, HB.out]
      clear hd
      generalize c.toNat = n at *
      go_enter Tryd.func34, Tryd.ntmps34
      go_wp2
      go_ret2
      exact ⟨rfl, rfl⟩
    · have hd : dg c = 99 := by unfold dg; rw [if_neg h, if_neg h3]
      have HP : Hid ((hlf c : Int) = 0) := Lib.hid (by unfold hlf; rw [if_neg (by omega)]; rfl)
      have HB : Hid (decide (dg c < 16) = false) := Lib.hid (decide_eq_false (by omega))
      rw [HP.out, HB.out]
      clear hd
      generalize c.toNat = n at *
      by_cases h1 : 48 ≤ n
      · have h1' : (48 : Int) ≤ n := by omega
        have h2' : ¬ (n : Int) ≤ 57 := by omega
        by_cases h4 : 97 ≤ n
        · have h4' : (97 : Int) ≤ n := by omega
          have h5' : ¬ (n : Int) ≤ 102 := by omega
          go_enter Tryd.func34, Tryd.ntmps34
          go_wp2
          go_ret2
          exact ⟨rfl, rfl⟩
        · have h4' : ¬ (97 : Int) ≤ n := by omega
          go_enter Tryd.func34, Tryd.ntmps34
          go_wp2
          go_ret2
          exact ⟨rfl, rfl⟩
      · have h1' : ¬ (48 : Int) ≤ n := by omega
        have h4' : ¬ (97 : Int) ≤ n := by omega
        go_enter Tryd.func34, Tryd.ntmps34
        go_wp2
        go_ret2
        exact ⟨rfl, rfl⟩
theorem uprt_two (s : List UInt8) (k : Nat) (hk : k < 32) : uprt s (2 * (k + 1)) = (uprt s (2 * k)).set k (UInt8.ofNat (16 * dg (s.getD (2 * k) 0) + dg (s.getD (2 * k + 1) 0))) := by
  rw [show 2 * (k + 1) = 2 * k + 1 + 1 by omega, uprt_succ s (2 * k + 1) (by omega), uprt_succ s (2 * k) (by omega), show (2 * k + 1) / 2 = k by omega, show 2 * k / 2 = k by omega, List.set_set]
  unfold uold
  rw [if_neg (by omega), show 2 * k + 1 - 1 = 2 * k by omega]
set_option maxRecDepth 100000 in
set_option maxHeartbeats 4000000 in
theorem runhex_any (s : ByteArray) (w : World) : Calls Tryd.prog 12 #[.string s] w (UnhexPost s.data.toList w) := by
  have HZ : Hid ((hashA (List.replicate 32 0)).size = 32) := Lib.hid rfl
  have HSz := Lib.hid (Lib.size_eq s)
  have HZO := Lib.hid (hashA_one (List.replicate 32 0))
  have S0 := Lib.hid (((Held.start w).newBlk 23 (hashA (List.replicate 32 0))).newBlk 23 (hashA (List.replicate 32 0)))
  rw [World.size_alloc] at S0
  by_cases hl : s.size = 64
  · have hl' : ((s.size : Int) != 64) = false := by rw [hl]; rfl
    have HL := Lib.hid hl
    clear hl
    go_enter Tryd.func12, Tryd.ntmps12
    go_wp2
    obtain ⟨g2, hg2⟩ : ∃ g2, w.heap.size = g2 := ⟨_, rfl⟩
    obtain ⟨g4, hg4⟩ : ∃ g4, g2 + 1 = g4 := ⟨_, rfl⟩
    rw [hg2, hg4] at S0 ⊢
    clear hg2 hg4
    have Hsl : Hid (s.data.toList.length = 64) := Lib.hid (by rw [← HSz.out, HL.out])
    have hs64 : ∀ k, k < 64 → k < s.size := fun k hk => by have := HL.out; omega
    have Hget : Hid (∀ k (hk : k < 64), s.data.toList.getD k 0 = s[k]'(hs64 k hk)) := Lib.hid (fun k hk => by
      rw [List.getD_eq_getElem?_getD, List.getElem?_eq_getElem (by rw [Hsl.out]; exact hk)]; rfl)
    have Hopt : Hid (∀ k (hk : k < 64), s.data.toList[k]? = some (s[k]'(hs64 k hk))) := Lib.hid (fun k hk => by
      rw [List.getElem?_eq_getElem (by rw [Hsl.out]; exact hk)]; rfl)
    have Hs64 := Lib.hid hs64
    go_loopw [5, 6, 7, 8, 9] (fun i _ _ _ _ wr => ∃ k : Nat, k ≤ 32 ∧ i = .int .i64 k ∧ (∀ j, j < 2 * k → dg (s.data.toList.getD j 0) < 16) ∧ Held w wr [blkR g4 23 (hashA (uprt s.data.toList (2 * k))), blkR g2 23 (hashA (List.replicate 32 0))]) (fun i _ _ _ _ _ => 32 - (intOf i).toNat)
    case atStart => exact ⟨0, by omega, rfl, fun j hj => by omega, by rw [uprt_zero]; exact S0.out⟩
    case round =>
      clear S0
      obtain ⟨k, hk, rfl, hp, S⟩ := hrel
      have HP := Lib.hid hp
      have HS := Lib.hid S
      clear hp S
      by_cases hlt : k < 32
      · have q1 := fun V => run_str_indexZ s (2 * k) (2 * (k : Int)) (by omega) (Hs64.out (2 * k) (by omega)) V
        have q2 := fun V => run_str_indexZ s (2 * k + 1) (2 * (k : Int) + 1) (by omega) (Hs64.out (2 * k + 1) (by omega)) V
        have hga := Hget.out (2 * k) (by omega)
        have hgb := Hget.out (2 * k + 1) (by omega)
        have hoa := Hopt.out (2 * k) (by omega)
        have hob := Hopt.out (2 * k + 1) (by omega)
        have hu3 := uprt_two s.data.toList k hlt
        rw [hga, hgb] at hu3
        generalize s[2 * k]'_ = a at *
        generalize s[2 * k + 1]'_ = b at *
        have Hu3 := Lib.hid hu3
        have Hga := Lib.hid hga
        have Hgb := Lib.hid hgb
        have Hoa := Lib.hid hoa
        have Hob := Lib.hid hob
        clear hu3 hga hgb hoa hob
        go_wp2_with fail
        refine (phalf_any a _).mono ?_
        rintro e w' ⟨rfl, rfl⟩
        go_wp2_with fail
        refine (phalf_any b _).mono ?_
        rintro e w' ⟨rfl, rfl⟩
        clear q1 q2
        by_cases hda : dg a < 16
        · by_cases hdb : dg b < 16
          · have Ha : Hid (hlf a = dg a) := Lib.hid (if_pos hda)
            have Hb : Hid (hlf b = dg b) := Lib.hid (if_pos hdb)
            rw [Ha.out, Hb.out, decide_eq_true hda, decide_eq_true hdb]
            have S5 := HS.out.set (l1 := []) k (.int .u8 ((UInt8.ofNat (16 * dg a + dg b)).toNat : Int))
            rw [hashA_set, ← Hu3.out, show ((UInt8.ofNat (16 * dg a + dg b)).toNat : Int) = 16 * (dg a : Int) + (dg b : Int) from by rw [UInt8.toNat_ofNat']; omega] at S5
            have S5 := Lib.hid S5
            have hcell := (HS.out.at_ (l1 := [])).cell k
            have hks : k < (hashA (uprt s.data.toList (2 * k))).size := by rw [hashA_size, uprt_length]; exact hlt
            rw [Array.getElem?_eq_getElem hks] at hcell
            have hfr := (HS.out.at_ (l1 := [])).frozen k
            have hblt := (HS.out.at_ (l1 := [])).lt
            have Hda := Lib.hid hda
            have Hdb := Lib.hid hdb
            obtain ⟨n, Hn⟩ : ∃ n, Hid (dg a = n) := ⟨_, Lib.hid rfl⟩
            obtain ⟨m, Hm⟩ : ∃ m, Hid (dg b = m) := ⟨_, Lib.hid rfl⟩
            rw [Hn.out, Hm.out] at S5 ⊢
            rw [Hn.out] at hda
            rw [Hm.out] at hdb
            go_wp2
            go_roundw
            case rel => exact ⟨k + 1, by omega, by go_num, fun j hj => by
              by_cases e : j = 2 * k
              · subst e; rw [Hga.out]; exact Hda.out
              · by_cases e2 : j = 2 * k + 1
                · subst e2; rw [Hgb.out]; exact Hdb.out
                · exact HP.out j (by omega), S5.out⟩
            case measure => simp [intOf]; omega
          · have HR : Hid (UH s.data.toList = (List.replicate 32 0, false)) := Lib.hid (UH_odd Hob.out hdb)
            rw [decide_eq_true hda, decide_eq_false hdb]
            go_wp2_with (refine wpList_store_blk rfl 23 (.tmp 2) (.tmp 41) rfl g2 rfl (hashA (List.replicate 32 0)) rfl 23 _ (HS.out.at_ (l1 := [_])) (by rw [HZ.out]; exact Tryd.infoHashP) rfl HZO.out ?_; intro w4 b4 k4; have S4 := Lib.hid (Held.setBlk (l1 := [_]) HS.out b4 k4); clear b4 k4)
            refine bodyPost_ret (results_cell_tmp (by rfl) rfl (S4.out.at_ (l1 := [_])) Tryd.underlying23 rfl (by rw [HZ.out]; exact Tryd.infoHashP)) rfl ?_
            exact ⟨by rw [HR.out]; rfl, S4.out.k⟩
        · have HR : Hid (UH s.data.toList = (List.replicate 32 0, false)) := Lib.hid (UH_odd Hoa.out hda)
          rw [decide_eq_false hda]
          go_wp2_with (refine wpList_store_blk rfl 23 (.tmp 2) (.tmp 41) rfl g2 rfl (hashA (List.replicate 32 0)) rfl 23 _ (HS.out.at_ (l1 := [_])) (by rw [HZ.out]; exact Tryd.infoHashP) rfl HZO.out ?_; intro w4 b4 k4; have S4 := Lib.hid (Held.setBlk (l1 := [_]) HS.out b4 k4); clear b4 k4)
          refine bodyPost_ret (results_cell_tmp (by rfl) rfl (S4.out.at_ (l1 := [_])) Tryd.underlying23 rfl (by rw [HZ.out]; exact Tryd.infoHashP)) rfl ?_
          exact ⟨by rw [HR.out]; rfl, S4.out.k⟩
      · obtain rfl : k = 32 := by omega
        have HR : Hid (UH s.data.toList = (uprt s.data.toList 64, true)) := Lib.hid (UH_ok Hsl.out HP.out)
        have HU : Hid ((hashA (uprt s.data.toList 64)).size = 32) := Lib.hid (by rw [hashA_size, uprt_length])
        have HUO := Lib.hid (hashA_one (uprt s.data.toList 64))
        rw [show 2 * 32 = 64 from rfl] at HS
        go_wp2_with (first
          | (refine wpList_load_blk rfl 23 (.tmp 4) rfl g4 rfl 23 _ (HS.out.at_ (l1 := [])) _ Tryd.underlying23 rfl (by rw [HU.out]; exact Tryd.infoHashP) ?_)
          | (refine wpList_store_blk rfl 23 (.tmp 2) (.tmp 48) rfl g2 rfl (hashA (uprt s.data.toList 64)) rfl 23 _ (HS.out.at_ (l1 := [_])) (by rw [HU.out]; exact Tryd.infoHashP) (by rw [HU.out, HZ.out]) HUO.out ?_; intro w4 b4 k4; have S4 := Lib.hid (Held.setBlk (l1 := [_]) HS.out b4 k4); clear b4 k4))
        refine bodyPost_ret (results_cell_tmp (by rfl) rfl (S4.out.at_ (l1 := [_])) Tryd.underlying23 rfl (by rw [HU.out]; exact Tryd.infoHashP)) rfl ?_
        exact ⟨by rw [HR.out]; rfl, S4.out.k⟩
  · have hl' : ((s.size : Int) != 64) = true := by simp; omega
    have HR : Hid (UH s.data.toList = (List.replicate 32 0, false)) := Lib.hid (UH_short (by rw [← HSz.out]; exact hl))
    clear hl
    go_enter Tryd.func12, Tryd.ntmps12
    go_wp2_with (refine wpList_store_blk rfl 23 (.tmp 2) (.tmp 13) rfl w.heap.size rfl (hashA (List.replicate 32 0)) rfl 23 _ (S0.out.at_ (l1 := [_])) (by rw [HZ.out]; exact Tryd.infoHashP) rfl HZO.out ?_; intro w4 b4 k4; have S4 := Lib.hid (Held.setBlk (l1 := [_]) S0.out b4 k4); clear b4 k4)
    refine bodyPost_ret (results_cell_tmp (by rfl) rfl (S4.out.at_ (l1 := [_])) Tryd.underlying23 rfl (by rw [HZ.out]; exact Tryd.infoHashP)) rfl ?_
    exact ⟨by rw [HR.out]; rfl, S4.out.k⟩
end Go.Proofs.YtolfckhjfadhdaaDoor
/- A point's text: the plain mathematics. -/
namespace Go.Proofs.YtolfckhjfadhdaaDoor
open Go.RowKit
def dec (n : Nat) : List UInt8 := Lib.decDigits n
theorem dec_small {n : Nat} (h : n < 10) : dec n = [UInt8.ofNat (48 + n)] := by unfold dec; rw [Lib.decDigits, dif_pos h]
theorem dec_big {n : Nat} (h : ¬ n < 10) : dec n = dec (n / 10) ++ [UInt8.ofNat (48 + n % 10)] := by
  unfold dec
  conv => lhs; rw [Lib.decDigits, dif_neg h]
def dvF (a : Nat) (l : List UInt8) : Nat := l.foldl (fun a c => 10 * a + (c.toNat - 48)) a
def dv (l : List UInt8) : Nat := dvF 0 l
theorem dvF_cons (a : Nat) (c : UInt8) (l : List UInt8) : dvF a (c :: l) = dvF (10 * a + (c.toNat - 48)) l := by unfold dvF; rw [List.foldl_cons]
theorem dvF_nil (a : Nat) : dvF a [] = a := rfl
theorem dvF_append (a : Nat) (l m : List UInt8) : dvF a (l ++ m) = dvF (dvF a l) m := by simp [dvF]
theorem digit_val {d : Nat} (h : d < 10) : (UInt8.ofNat (48 + d)).toNat = 48 + d := by rw [UInt8.toNat_ofNat']; omega
theorem dv_dec (n : Nat) : dv (dec n) = n := by
  induction n using Nat.strongRecOn with
  | _ n ih =>
    by_cases h : n < 10
    · rw [dec_small h]
      unfold dv
      rw [dvF_cons, digit_val h, dvF_nil]; omega
    · have h2 := ih (n / 10) (by omega)
      rw [dec_big h]
      unfold dv at h2 ⊢
      rw [dvF_append, h2, dvF_cons, digit_val (by omega), dvF_nil]; omega
def dgts (l : List UInt8) : Prop := ∀ c ∈ l, 48 ≤ c.toNat ∧ c.toNat ≤ 57
theorem dec_dgts (n : Nat) : dgts (dec n) := by
  induction n using Nat.strongRecOn with
  | _ n ih =>
    by_cases h : n < 10
    · rw [dec_small h]
      intro c hc
      obtain rfl := List.mem_singleton.1 hc
      rw [digit_val h]; omega
    · rw [dec_big h]
      intro c hc
      rcases List.mem_append.1 hc with hc | hc
      · exact ih (n / 10) (by omega) c hc
      · obtain rfl := List.mem_singleton.1 hc
        rw [digit_val (by omega)]; omega
theorem dec_length_le : ∀ (k n : Nat), n < 10 ^ (k + 1) → (dec n).length ≤ k + 1
  | 0, n, h => by rw [dec_small (by simpa using h)]; simp
  | k + 1, n, h => by
    by_cases h2 : n < 10
    · rw [dec_small h2]; simp
    · rw [dec_big h2, List.length_append]
      have := dec_length_le k (n / 10) (by rw [Nat.pow_succ] at h; omega)
      simp; omega
theorem dec_pos (n : Nat) : 1 ≤ (dec n).length := by
  by_cases h : n < 10
  · rw [dec_small h]; simp
  · rw [dec_big h, List.length_append]; simp
theorem dec_19 {n : Nat} (h : n < 9223372036854775808) : (dec n).length ≤ 19 := dec_length_le 18 n (by omega)
theorem dec_inj {n m : Nat} (h : dec n = dec m) : n = m := by rw [← dv_dec n, h, dv_dec]
theorem dvF_le : ∀ (l : List UInt8) (a : Nat), a ≤ dvF a l
  | [], a => Nat.le_refl _
  | c :: l, a => by
    rw [dvF_cons]
    have := dvF_le l (10 * a + (c.toNat - 48))
    omega
/-- What ParseInt reads of digits. -/
theorem parseUintM_dgts (M : Nat) (hM : M < 18446744073709551616) : ∀ (l : List UInt8) (a : Nat), dgts l → dvF a l ≤ M → Lib.parseUintM M a l = .ok (dvF a l)
  | [], a, _, _ => rfl
  | c :: l, a, hd, hm => by
    obtain ⟨h1, h2⟩ := hd c (by simp)
    have h3 := dvF_le l (10 * a + (c.toNat - 48))
    rw [dvF_cons] at hm
    unfold Lib.parseUintM
    rw [if_pos ⟨h1, h2⟩, if_neg (by omega), if_neg (by omega), Nat.mul_comm a 10]
    exact parseUintM_dgts M hM l _ (fun x hx => hd x (by simp [hx])) hm
theorem parseInt_dec {n : Nat} (h : n < 9223372036854775808) : Lib.parseIntB 64 (dec n) = .ok (n : Int) := by
  have hd := dec_dgts n
  have hv := dv_dec n
  have hp := dec_pos n
  generalize dec n = l at *
  match l, hp with
  | c :: r, _ =>
    obtain ⟨h1, h2⟩ := hd c (by simp)
    have hu : Lib.parseUintB 64 (c :: r) = .ok n := by
      unfold Lib.parseUintB
      rw [if_neg (by simp)]
      have := parseUintM_dgts (2 ^ 64 - 1) (by decide) (c :: r) 0 hd (by show dv (c :: r) ≤ _; rw [hv]; omega)
      rw [this]
      show Lib.NumEnd.ok (dv (c :: r)) = _
      rw [hv]
    unfold Lib.parseIntB
    have hn : ¬ (c.toNat = 43 ∨ c.toNat = 45) := by omega
    have hn2 : ¬ c.toNat = 45 := by omega
    simp only [if_neg hn, hu, if_neg hn2]
    rw [if_neg (by simp; omega), if_neg (by simp; omega)]
/-- What ParseInt answers, whatever stands there. -/
def pv (l : List UInt8) : Int := match Lib.parseIntB 64 l with
  | .ok v => v
  | Lib.NumEnd.syntax => 0
  | .range => Lib.intSat 64 l
theorem pv_dec {n : Nat} (h : n < 9223372036854775808) : pv (dec n) = n := by unfold pv; rw [parseInt_dec h]
theorem pv_bounds (l : List UInt8) : -9223372036854775808 ≤ pv l ∧ pv l ≤ 9223372036854775807 := by
  unfold pv
  split
  · rename_i v hv
    unfold Lib.parseIntB at hv
    split at hv
    · cases hv
    · rename_i c r
      simp only at hv
      split at hv
      · cases hv
      · cases hv
      · rename_i u hu
        split at hv
        · cases hv
        · rename_i h1
          split at hv
          · cases hv
          · rename_i h2
            cases hv
            by_cases hc : c.toNat = 45
            · simp only [hc, if_true]
              simp only [hc, true_and] at h2
              omega
            · simp only [hc, if_false]
              simp only [hc, not_false_eq_true, true_and] at h1
              omega
  · omega
  · unfold Lib.intSat
    split <;> omega
/-- What the document's Parse reads. -/
def rvS (n : Int) (c : UInt8) : Int := wrap64 (10 * n + (c.toNat : Int) - 48)
def rv (l : List UInt8) : Int := (l.take 19).foldl rvS 0
theorem wrap64_of {x : Int} (h : -9223372036854775808 ≤ x ∧ x ≤ 9223372036854775807) : wrap64 x = x := by unfold wrap64; omega
theorem rvS_dgts : ∀ (l : List UInt8) (a : Nat), dgts l → dvF a l < 9223372036854775808 → l.foldl rvS (a : Int) = (dvF a l : Nat)
  | [], a, _, _ => rfl
  | c :: l, a, hd, hm => by
    obtain ⟨h1, h2⟩ := hd c (by simp)
    have h3 := dvF_le l (10 * a + (c.toNat - 48))
    rw [dvF_cons] at hm ⊢
    rw [List.foldl_cons]
    have : rvS (a : Int) c = ((10 * a + (c.toNat - 48) : Nat) : Int) := by
      unfold rvS
      rw [wrap64_of (by omega)]; omega
    rw [this]
    exact rvS_dgts l _ (fun x hx => hd x (by simp [hx])) hm
theorem rv_dec {n : Nat} (h : n < 9223372036854775808) : rv (dec n) = n := by
  unfold rv
  rw [List.take_of_length_le (dec_19 h)]
  have := rvS_dgts (dec n) 0 (dec_dgts n) (by show dv (dec n) < _; rw [dv_dec]; exact h)
  rw [show ((0 : Nat) : Int) = 0 from rfl] at this
  rw [this]
  show ((dv (dec n) : Nat) : Int) = n
  rw [dv_dec]
theorem rv_bounds (l : List UInt8) : -9223372036854775808 ≤ rv l ∧ rv l ≤ 9223372036854775807 := by
  unfold rv
  generalize l.take 19 = m
  have : ∀ (m : List UInt8) (a : Int), (-9223372036854775808 ≤ a ∧ a ≤ 9223372036854775807) → -9223372036854775808 ≤ m.foldl rvS a ∧ m.foldl rvS a ≤ 9223372036854775807 := by
    intro m
    induction m with
    | nil => exact fun a h => h
    | cons c m ih =>
      intro a h
      rw [List.foldl_cons]
      exact ih _ (by unfold rvS wrap64; omega)
  exact this m 0 (by omega)
/-- A text cut at a byte. -/
def ct (c : UInt8) (l : List UInt8) : List UInt8 × List UInt8 × Bool := if c ∈ l then (l.take (l.idxOf c), l.drop (l.idxOf c + 1), true) else (l, [], false)
theorem ct_yes {c : UInt8} {l : List UInt8} (h : c ∈ l) : ct c l = (l.take (l.idxOf c), l.drop (l.idxOf c + 1), true) := if_pos h
theorem ct_no {c : UInt8} {l : List UInt8} (h : c ∉ l) : ct c l = (l, [], false) := if_neg h
theorem idx_lt {c : UInt8} {l : List UInt8} (h : c ∈ l) : l.idxOf c < l.length := List.idxOf_lt_length_iff.2 h
theorem ct_split {c : UInt8} {l : List UInt8} (h : c ∈ l) : l = l.take (l.idxOf c) ++ c :: l.drop (l.idxOf c + 1) := by
  have h1 := idx_lt h
  have h2 : l[l.idxOf c] = c := List.getElem_idxOf h1
  conv => lhs; rw [← List.take_append_drop (l.idxOf c) l, List.drop_eq_getElem_cons h1, h2]
theorem idxOf_ne {x c : UInt8} (l : List UInt8) (h : x ≠ c) : (x :: l).idxOf c = l.idxOf c + 1 := by
  rw [List.idxOf_cons, beq_false_of_ne h]; rfl
theorem idxOf_app {c : UInt8} (b : List UInt8) : ∀ (a : List UInt8), c ∉ a → (a ++ c :: b).idxOf c = a.length
  | [], _ => by simp
  | x :: a, h => by
    rw [List.cons_append, idxOf_ne _ (fun e => h (by simp [e])), idxOf_app b a (fun m => h (by simp [m])), List.length_cons]
theorem ct_before {c : UInt8} (l : List UInt8) : c ∉ l.take (l.idxOf c) := by
  induction l with
  | nil => simp
  | cons x l ih =>
    by_cases h : x = c
    · subst h; simp
    · rw [idxOf_ne l h]
      simp only [List.take_succ_cons, List.mem_cons, not_or]
      exact ⟨fun e => h e.symm, ih⟩
theorem ct_append {c : UInt8} {a : List UInt8} (b : List UInt8) (h : c ∉ a) : ct c (a ++ c :: b) = (a, b, true) := by
  have hi : (a ++ c :: b).idxOf c = a.length := idxOf_app b a h
  rw [ct_yes (by simp), hi]
  simp
theorem indexByte_idx (c : UInt8) : ∀ l : List UInt8, Lib.indexByte l c = if c ∈ l then (l.idxOf c : Int) else -1
  | [] => rfl
  | x :: l => by
    unfold Lib.indexByte
    by_cases h : x = c
    · subst h; simp
    · have ih := indexByte_idx c l
      have hb : (x == c) = false := beq_false_of_ne h
      rw [hb, if_neg (by simp), ih, idxOf_ne _ h]
      have hc : c ∈ x :: l ↔ c ∈ l := ⟨fun m => (List.mem_cons.1 m).elim (fun e => absurd e.symm h) id, fun m => List.mem_cons_of_mem _ m⟩
      by_cases hm : c ∈ l
      · rw [if_pos hm, if_pos (hc.2 hm)]
        have : ((l.idxOf c : Int) == -1) = false := beq_false_of_ne (by omega)
        rw [this]; simp
      · rw [if_neg hm, if_neg (fun x => hm (hc.1 x))]; rfl
/-- A point's text. -/
def titleL : List UInt8 := [110, 111, 116, 97, 114, 121]
def told (n : Nat) (h : List UInt8) : List UInt8 := titleL ++ 10 :: (dec n ++ 10 :: (hexS h ++ [10]))
theorem told_length (n : Nat) (h : List UInt8) : (told n h).length = 9 + (dec n).length + (hexS h).length := by
  simp [told, titleL]; omega
/-- A text's first three lines, and the rest. -/
def ln3 (s : List UInt8) : Option (List UInt8 × List UInt8 × List UInt8 × List UInt8) :=
  if (ct 10 s).2.2 = true ∧ (ct 10 (ct 10 s).2.1).2.2 = true ∧ (ct 10 (ct 10 (ct 10 s).2.1).2.1).2.2 = true then
    some ((ct 10 s).1, (ct 10 (ct 10 s).2.1).1, (ct 10 (ct 10 (ct 10 s).2.1).2.1).1, (ct 10 (ct 10 (ct 10 s).2.1).2.1).2.1) else none
def PT (s : List UInt8) : Option (Nat × List UInt8 × List UInt8) := match ln3 s with
  | none => none
  | some (l0, l1, l2, r) => if l0 = titleL ∧ l1 = dec (dv l1) ∧ dv l1 < 9223372036854775808 ∧ l2 = hexS (UH l2).1 then some (dv l1, (UH l2).1, r) else none
theorem nl_dec (n : Nat) : (10 : UInt8) ∉ dec n := fun h => by
  have := (dec_dgts n 10 h).1
  simp at this
theorem hx_ne10 {n : Nat} (h : n < 16) : hx n ≠ 10 := by
  have := all256 (p := fun n => decide (n < 16 → hx n ≠ 10)) (by decide +kernel) (show n < 256 by omega)
  exact of_decide_eq_true this h
theorem nl_hex (h : List UInt8) : (10 : UInt8) ∉ hexS h := by
  induction h with
  | nil => simp [hexS]
  | cons c h ih =>
    rw [hexS_cons]
    intro hm
    rcases List.mem_append.1 hm with hm | hm
    · have := c.toNat_lt
      simp only [hex2, List.mem_cons, List.not_mem_nil, or_false] at hm
      rcases hm with e | e
      · exact hx_ne10 (n := c.toNat / 16) (by omega) e.symm
      · exact hx_ne10 (n := c.toNat % 16) (by omega) e.symm
    · exact ih hm
theorem ln3_told (n : Nat) (h r : List UInt8) : ln3 (told n h ++ r) = some (titleL, dec n, hexS h, r) := by
  have e : told n h ++ r = titleL ++ 10 :: (dec n ++ 10 :: (hexS h ++ 10 :: r)) := by simp [told]
  unfold ln3
  rw [e, ct_append _ (by decide)]
  simp only
  rw [ct_append _ (nl_dec n)]
  simp only
  rw [ct_append _ (nl_hex h)]
  simp
theorem ln3_form {s l0 l1 l2 r : List UInt8} (h : ln3 s = some (l0, l1, l2, r)) : s = l0 ++ 10 :: (l1 ++ 10 :: (l2 ++ 10 :: r)) ∧ (10 : UInt8) ∉ l0 ∧ (10 : UInt8) ∉ l1 ∧ (10 : UInt8) ∉ l2 := by
  unfold ln3 at h
  split at h
  · rename_i hc
    obtain ⟨h0, h1, h2⟩ := hc
    have mem : ∀ l, (ct 10 l).2.2 = true → (10 : UInt8) ∈ l := fun l hl => by
      by_cases hm : (10 : UInt8) ∈ l
      · exact hm
      · rw [ct_no hm] at hl; cases hl
    have m0 := mem _ h0
    have m1 := mem _ h1
    have m2 := mem _ h2
    have s0 := ct_split m0
    have s1 := ct_split m1
    have s2 := ct_split m2
    simp only [Option.some.injEq, Prod.mk.injEq] at h
    obtain ⟨e0, e1, e2, e3⟩ := h
    have a0 : s = (ct 10 s).1 ++ 10 :: (ct 10 s).2.1 := by rw [ct_yes m0]; exact s0
    have a1 : (ct 10 s).2.1 = (ct 10 (ct 10 s).2.1).1 ++ 10 :: (ct 10 (ct 10 s).2.1).2.1 := by rw [ct_yes m1]; exact s1
    have a2 : (ct 10 (ct 10 s).2.1).2.1 = (ct 10 (ct 10 (ct 10 s).2.1).2.1).1 ++ 10 :: (ct 10 (ct 10 (ct 10 s).2.1).2.1).2.1 := by rw [ct_yes m2]; exact s2
    refine ⟨?_, ?_, ?_, ?_⟩
    · rw [← e0, ← e1, ← e2, ← e3, ← a2, ← a1, ← a0]
    · rw [← e0, ct_yes m0]; exact ct_before _
    · rw [← e1, ct_yes m1]; exact ct_before _
    · rw [← e2, ct_yes m2]; exact ct_before _
  · cases h
/-- Lines that are told again. -/
theorem told_lines {n : Nat} {h l0 l1 l2 : List UInt8} (a : (10 : UInt8) ∉ l0) (b : (10 : UInt8) ∉ l1) (c : (10 : UInt8) ∉ l2) : told n h = l0 ++ 10 :: (l1 ++ 10 :: (l2 ++ [10])) ↔ l0 = titleL ∧ l1 = dec n ∧ l2 = hexS h := by
  constructor
  · intro e
    have h1 := ct_append (l1 ++ 10 :: (l2 ++ [10])) a
    rw [← e] at h1
    unfold told at h1
    rw [ct_append _ (by decide)] at h1
    simp only [Prod.mk.injEq, and_true] at h1
    obtain ⟨e0, e1⟩ := h1
    have h2 := ct_append (l2 ++ [10]) b
    rw [← e1, ct_append _ (nl_dec n)] at h2
    simp only [Prod.mk.injEq, and_true] at h2
    obtain ⟨e2, e3⟩ := h2
    exact ⟨e0.symm, e2.symm, (List.append_cancel_right e3).symm⟩
  · rintro ⟨rfl, rfl, rfl⟩; rfl
theorem PT_told {n : Nat} {h : List UInt8} (hn : n < 9223372036854775808) (hh : h.length = 32) (r : List UInt8) : PT (told n h ++ r) = some (n, h, r) := by
  unfold PT
  rw [ln3_told]
  simp only
  rw [UH_hexS hh, dv_dec]
  simp [hn]
theorem PT_form {s : List UInt8} {n : Nat} {h r : List UInt8} (e : PT s = some (n, h, r)) : s = told n h ++ r ∧ n < 9223372036854775808 ∧ h.length = 32 := by
  unfold PT at e
  split at e
  · cases e
  · rename_i l0 l1 l2 r' hl
    obtain ⟨f1, -⟩ := ln3_form hl
    split at e
    · rename_i hc
      obtain ⟨c1, c2, c3, c4⟩ := hc
      simp only [Option.some.injEq, Prod.mk.injEq] at e
      obtain ⟨rfl, rfl, rfl⟩ := e
      refine ⟨?_, c3, UH_len _⟩
      rw [f1]
      unfold told
      rw [← c2, ← c4, c1]
      simp
    · cases e
/-- Both roads: a number is read of the second line; is what it tells what stands there? -/
theorem PT_by {s l0 l1 l2 r : List UInt8} (hl : ln3 s = some (l0, l1, l2, r)) (z : Int) (hz : -9223372036854775808 ≤ z ∧ z ≤ 9223372036854775807) (hd : ∀ n : Nat, n < 9223372036854775808 → l1 = dec n → z = n) :
    PT s = if 0 ≤ z ∧ told z.toNat (UH l2).1 = l0 ++ 10 :: (l1 ++ 10 :: (l2 ++ [10])) then some (z.toNat, (UH l2).1, r) else none := by
  obtain ⟨f1, n0, n1, n2⟩ := ln3_form hl
  unfold PT
  rw [hl]
  simp only
  by_cases hc : 0 ≤ z ∧ told z.toNat (UH l2).1 = l0 ++ 10 :: (l1 ++ 10 :: (l2 ++ [10]))
  · rw [if_pos hc]
    obtain ⟨e0, e1, e2⟩ := (told_lines n0 n1 n2).1 hc.2
    have hv : dv l1 = z.toNat := by rw [e1, dv_dec]
    rw [hv, if_pos ⟨e0, e1, by omega, e2⟩]
  · rw [if_neg hc, if_neg]
    rintro ⟨e0, e1, e2, e3⟩
    have h1 := hd (dv l1) e2 e1
    apply hc
    refine ⟨by omega, (told_lines n0 n1 n2).2 ⟨e0, ?_, e3⟩⟩
    rw [h1, Int.toNat_natCast]
    exact e1
theorem PT_none {s : List UInt8} (h : ln3 s = none) : PT s = none := by unfold PT; rw [h]
theorem told_inj {n m : Nat} {g h r t : List UInt8} (hn : n < 9223372036854775808) (hm : m < 9223372036854775808) (hg : g.length = 32) (hh : h.length = 32) (e : told n g ++ r = told m h ++ t) : n = m ∧ g = h ∧ r = t := by
  have h1 := PT_told hn hg r
  rw [e, PT_told hm hh] at h1
  simp only [Option.some.injEq, Prod.mk.injEq] at h1
  exact ⟨h1.1.symm, h1.2.1.symm, h1.2.2.symm⟩
end Go.Proofs.YtolfckhjfadhdaaDoor
/- Numbers in decimal digits; cuts; what the listed variables hold. -/
namespace Go.Proofs.YtolfckhjfadhdaaDoor
open Go.RowKit Go.Shelf
/-- The listed variables, as they are laid. -/
structure LD (w : World) : Prop where
  tab : Lib.TabIs Tryd.prog w "internal/strconv.uint64pow10" .u64 Lib.pow10Tab
  syn : ∃ tp p, w.var? Tryd.prog "strconv.ErrSyntax" = some #[.iface tp p]
  rng : ∃ tp p, w.var? Tryd.prog "strconv.ErrRange" = some #[.iface tp p]
theorem Tryd.named1 : (Tryd.prog.globalNamed "internal/strconv.uint64pow10").isSome = true := by kernel_rfl
theorem Tryd.named2 : (Tryd.prog.globalNamed "strconv.ErrSyntax").isSome = true := by kernel_rfl
theorem Tryd.named3 : (Tryd.prog.globalNamed "strconv.ErrRange").isSome = true := by kernel_rfl
theorem LD.kp {w w' : World} (h : LD w) (k : Kp [] w w') : LD w' := by
  have hb : Below w.heap.size w w' := k.below (Nat.le_refl _) (by simp)
  obtain ⟨g1, h1⟩ := Option.isSome_iff_exists.1 Tryd.named1
  obtain ⟨g2, h2⟩ := Option.isSome_iff_exists.1 Tryd.named2
  obtain ⟨g3, h3⟩ := Option.isSome_iff_exists.1 Tryd.named3
  obtain ⟨t1, p1, e1⟩ := h.syn
  obtain ⟨t2, p2, e2⟩ := h.rng
  exact ⟨Joins.tab_stays h1 h.tab hb (Nat.le_refl _), ⟨t1, p1, Joins.var_stays h2 e1 hb (Nat.le_refl _)⟩, ⟨t2, p2, Joins.var_stays h3 e2 hb (Nat.le_refl _)⟩⟩
theorem Kp.grew {w : World} (n : Nat) (os : Array Obj) : Kp [] w (Sort.grow (w.drewN n) os) :=
  ⟨rfl, rfl, rfl, by simp [Sort.grow], fun k hk _ => by
    show ((w.drewN n).heap ++ os)[k]? = _
    rw [Array.getElem?_append_left (by simpa using hk)]; rfl⟩
theorem fmt_any (n : Nat) (hn : n < 9223372036854775808) (w : World) (h : LD w) : Calls Tryd.prog 35 #[.int .i64 n, .int .i64 10] w fun e w' => e = .returned (.string ⟨(dec n).toArray⟩) ∧ Kp [] w w' := by
  refine (Tryd.strconv_FormatInt_10 n (by omega) (by omega) w h.tab).mono ?_
  rintro e w' ⟨rfl, k, os, rfl⟩
  refine ⟨?_, Kp.grew k os⟩
  unfold dec Lib.itoa
  rw [if_neg (by omega), Int.toNat_natCast]
theorem str_add (a b : List UInt8) : (ByteArray.mk a.toArray) ++ (ByteArray.mk b.toArray) = ⟨(a ++ b).toArray⟩ := by
  apply ByteArray.ext
  rw [ByteArray.data_append]
  simp
set_option maxRecDepth 100000 in
set_option maxHeartbeats 2000000 in
theorem rdigits_any (n : Nat) (hn : n < 9223372036854775808) (w : World) : Calls Tryd.prog 58 #[.int .i64 n] w fun e w' => e = .returned (.string ⟨(dec n).toArray⟩) ∧ Kp [] w w' := by
  go_enter Tryd.func58, Tryd.ntmps58
  go_wp2
  go_loopw [0, 3] (fun a s wr => ∃ (m : Nat) (t : List UInt8), a = .int .i64 m ∧ s = .string ⟨t.toArray⟩ ∧ m ≤ n ∧ dec m ++ t = dec n ∧ Kp [] w wr) (fun a _ _ => (intOf a).toNat)
  case atStart => exact ⟨n, [], rfl, rfl, Nat.le_refl _, by simp, Kp.refl _ _⟩
  case round =>
    obtain ⟨m, t, rfl, rfl, hm, ht, kw⟩ := hrel
    have HT := Lib.hid ht
    have KW := Lib.hid kw
    clear ht kw
    by_cases h9 : 9 < m
    · have h9' : (9 : Int) < m := by omega
      obtain ⟨c, hc⟩ : ∃ c : UInt8, c.toNat = 48 + m % 10 := ⟨UInt8.ofNat (48 + m % 10), by rw [UInt8.toNat_ofNat']; omega⟩
      have kv := strB (rd_lit wr 5 #[.int .u8 (48 + (m : Int) % 10)] [c] (by simp [bv, hc]) (by simp))
      simp only [List.length_cons, List.length_nil] at kv
      have Hc := Lib.hid hc
      clear hc
      have htl : t.length ≤ 19 := by
        have h1 := congrArg List.length HT.out
        have h2 := dec_19 hn
        rw [List.length_append] at h1
        omega
      have K2 := Lib.hid (KW.out.alloc (.cells #[.int .u8 (48 + (m : Int) % 10)] 5))
      go_wp2
      go_roundw
      case rel =>
        refine ⟨m / 10, c :: t, by go_num, ?_, by omega, ?_, K2.out⟩
        · have := str_add [c] t
          rw [show ({ data := #[c] } : ByteArray) ++ { data := t.toArray } = ⟨(c :: t).toArray⟩ from this]
        · have h9'' : ¬ m < 10 := by omega
          have hcc : c = UInt8.ofNat (48 + m % 10) := UInt8.toNat_inj.1 (by rw [Hc.out, UInt8.toNat_ofNat']; omega)
          have h1 := HT.out
          rw [dec_big h9'', ← hcc, List.append_assoc] at h1
          exact h1
      case measure => simp [intOf]; omega
    · have h9' : ¬ (9 : Int) < m := by omega
      obtain ⟨c, hc⟩ : ∃ c : UInt8, c.toNat = 48 + m := ⟨UInt8.ofNat (48 + m), by rw [UInt8.toNat_ofNat']; omega⟩
      have kv := strB (rd_lit wr 5 #[.int .u8 (48 + (m : Int))] [c] (by simp [bv, hc]) (by simp))
      simp only [List.length_cons, List.length_nil] at kv
      have Hc := Lib.hid hc
      clear hc
      have htl : t.length ≤ 19 := by
        have h1 := congrArg List.length HT.out
        have h2 := dec_19 hn
        rw [List.length_append] at h1
        omega
      have K2 := Lib.hid (KW.out.alloc (.cells #[.int .u8 (48 + (m : Int))] 5))
      have HE : Hid (({ data := #[c] } : ByteArray) ++ { data := t.toArray } = ⟨(dec n).toArray⟩) := Lib.hid (by
        have h9'' : m < 10 := by omega
        have hcc : c = UInt8.ofNat (48 + m) := UInt8.toNat_inj.1 (by rw [Hc.out, UInt8.toNat_ofNat']; omega)
        have h1 := HT.out
        rw [dec_small h9'', ← hcc] at h1
        rw [← h1]
        exact str_add [c] t)
      go_wp2
      go_ret
      exact ⟨by rw [← HE.out]; rfl, K2.out⟩
theorem ext_take (s : ByteArray) (k : Nat) : s.extract 0 k = ⟨(s.data.toList.take k).toArray⟩ := by
  apply ByteArray.ext
  rw [ByteArray.data_extract]
  apply Array.ext'
  simp
theorem ext_drop (s : ByteArray) (k : Nat) : s.extract k s.size = ⟨(s.data.toList.drop k).toArray⟩ := by
  apply ByteArray.ext
  rw [ByteArray.data_extract]
  apply Array.ext'
  rw [Array.toList_extract, List.extract_eq_take_drop, List.take_of_length_le (by rw [List.length_drop, ← Lib.size_eq]; exact Nat.le_refl _)]
def CutPost (c : UInt8) (s : ByteArray) (w : World) (e : Ending) (w' : World) : Prop :=
  e = .returned (.tuple #[.string ⟨(ct c s.data.toList).1.toArray⟩, .string ⟨(ct c s.data.toList).2.1.toArray⟩, .bool (ct c s.data.toList).2.2]) ∧ Kp [] w w'
set_option maxRecDepth 100000 in
set_option maxHeartbeats 2000000 in
theorem scut_any (s : ByteArray) (hs : s.size ≤ 9223372036854775807) (c : UInt8) (w : World) : Calls Tryd.prog 55 #[.string s, .string ⟨#[c]⟩] w (CutPost c s w) := by
  have hI := indexByte_idx c s.data.toList
  have hsz := Lib.size_eq s
  have T0 := Lib.hid ((Kp.refl [] w).drew)
  by_cases hm : c ∈ s.data.toList
  · have HC : Hid (ct c s.data.toList = (s.data.toList.take (s.data.toList.idxOf c), s.data.toList.drop (s.data.toList.idxOf c + 1), true)) := Lib.hid (ct_yes hm)
    have hlt := idx_lt hm
    rw [if_pos hm] at hI
    have HI := Lib.hid hI
    obtain ⟨k, HK⟩ : ∃ k, Hid (s.data.toList.idxOf c = k) := ⟨_, Lib.hid rfl⟩
    rw [HK.out] at HC HI hlt
    rw [← hsz] at hlt
    have HE1 := Lib.hid (ext_take s k)
    have HE2 := Lib.hid (ext_drop s (k + 1))
    clear hI hm hsz
    go_enter Tryd.func55, Tryd.ntmps55
    go_wp2_with fail
    refine (Tryd.stringslite_Index_one s c _).mono ?_
    rw [HI.out]
    rintro e w' ⟨rfl, hw'⟩
    obtain rfl := hw'.symm
    go_wp2
    refine wp_region_lexf [] [] (fun V : World => Kp [] w V) (by kernel_rfl) (by kernel_rfl) T0.out (fun σ hne f hf hsur => ?_); have Hsur := Lib.hid hsur; clear hsur
    clear hf
    go_wp2_with (first
      | (refine lex_qq Hsur.out rfl rfl rfl ?_; intro K hK; go_big_quiet_op; go_big_quiet_on) | (refine lex_skipk rfl ?_; intro K hK; go_simp; refine hK _ _ ?_; clear hK K) | (refine lex_e rfl rfl ?_; intro K hK; go_step) | (refine lex_nil ?_)
      | ((with_reducible apply And.intro); · (intro hl; first | (exact ls_absurd hl rfl) | exact T0.out)))
    go_ret3
    refine ⟨?_, T0.out⟩
    rw [HC.out]
    show _ = Ending.returned (.tuple #[.string ⟨(s.data.toList.take k).toArray⟩, .string ⟨(s.data.toList.drop (k + 1)).toArray⟩, .bool true])
    rw [← HE1.out, ← HE2.out]
    rfl
  · have HC : Hid (ct c s.data.toList = (s.data.toList, [], false)) := Lib.hid (ct_no hm)
    rw [if_neg hm] at hI
    have HI := Lib.hid hI
    clear hI hm hsz
    go_enter Tryd.func55, Tryd.ntmps55
    go_wp2_with fail
    refine (Tryd.stringslite_Index_one s c _).mono ?_
    rw [HI.out]
    rintro e w' ⟨rfl, hw'⟩
    obtain rfl := hw'.symm
    go_wp2
    go_ret3
    exact ⟨by rw [HC.out]; rfl, Kp.refl _ _⟩
set_option maxRecDepth 100000 in
theorem cut1_any (s : ByteArray) (hs : s.size ≤ 9223372036854775807) (c : UInt8) (w : World) : Calls Tryd.prog 29 #[.string s, .string ⟨#[c]⟩] w (CutPost c s w) := by
  have HC : Hid (∃ a b d, ct c s.data.toList = (a, b, d)) := Lib.hid ⟨_, _, _, rfl⟩
  obtain ⟨a, b, d, hc⟩ := HC.out
  have Hc := Lib.hid hc
  clear hc HC
  have hS := scut_any s hs c w
  unfold CutPost at hS
  rw [Hc.out] at hS
  have HS := Lib.hid hS
  clear hS
  go_enter Tryd.func29, Tryd.ntmps29
  go_wp2_with fail
  refine HS.out.mono ?_
  rintro e w' ⟨rfl, k⟩
  go_wp2
  go_ret3
  exact ⟨by rw [Hc.out]; rfl, k⟩
end Go.Proofs.YtolfckhjfadhdaaDoor
/- Text of point and of the reference. -/
namespace Go.Proofs.YtolfckhjfadhdaaDoor
open Go.RowKit
/-- The cells of a point. -/
def ptA (s : Int) (h : List UInt8) : Array Value := (Value.int .i64 s :: bv h).toArray
theorem ptA_size {s : Int} {h : List UInt8} (hh : h.length = 32) : (ptA s h).size = 33 := by simp [ptA, bv_length, hh]
theorem ptA_one (s : Int) (h : List UInt8) : ∀ u, u ∈ (ptA s h).toList → u.oneCell' = true := by
  intro u hu
  rcases List.mem_cons.1 hu with rfl | hu
  · rfl
  · exact bv_one h u hu
theorem pt_c0 {w : World} {g : Nat} {t : TypeId} {s : Int} {h : List UInt8} (b : Blk w g t (ptA s h)) : w.cell? ⟨g, 0, none⟩ = some (.int .i64 s) := b.cell 0
theorem pt_root {w : World} {g : Nat} {t : TypeId} {s : Int} {h : List UInt8} (b : Blk w g t (ptA s h)) : ∀ j u, (bv h)[j]? = some u → w.cell? ((⟨g, 1, none⟩ : Addr).add j) = some u := by
  intro j u hu
  have h1 := b.cell (1 + j)
  have h2 : (ptA s h)[1 + j]? = some u := by
    unfold ptA
    rw [List.getElem?_toArray, Nat.add_comm, List.getElem?_cons_succ]
    exact hu
  rw [h2] at h1
  by_cases hj : j = 0
  · subst hj; exact h1
  · simpa [Addr.add, hj] using h1
theorem pt_byte {w : World} {g : Nat} {t : TypeId} {s : Int} {h : List UInt8} (b : Blk w g t (ptA s h)) (j : Nat) (hj : j < h.length) : w.cell? ⟨g, 1 + j, none⟩ = some (.int .u8 (h[j].toNat : Int)) := by
  rw [b.cell (1 + j)]
  unfold ptA
  rw [List.getElem?_toArray, Nat.add_comm, List.getElem?_cons_succ, bv_get, List.getElem?_eq_getElem hj]
  rfl
theorem run_pt_root {w : World} {g : Nat} {t : TypeId} {s : Int} {h : List UInt8} (b : Blk w g t (ptA s h)) (hh : h.length = 32) : (Instr.loadAt 23 (.pointer (some ⟨g, 1, none⟩))).run Tryd.prog w = .ok (.agg (hashA h)) w :=
  run_loadAt_agg w ⟨g, 1, none⟩ 23 (bv h) _ (pt_root b) Tryd.underlying23 rfl (by rw [bv_length, hh]; exact Tryd.infoHashP)
theorem run_pt_load {w : World} {g : Nat} {t : TypeId} {s : Int} {h : List UInt8} (b : Blk w g t (ptA s h)) (hh : h.length = 32) : (Instr.loadAt 25 (.pointer (some ⟨g, 0, none⟩))).run Tryd.prog w = .ok (.agg (ptA s h)) w :=
  run_loadAt_agg w ⟨g, 0, none⟩ 25 (ptA s h).toList _ b.agg Tryd.underlying25 rfl (by rw [Array.length_toList, ptA_size hh]; exact Tryd.infoPointP)
def txt (s : Int) (h : List UInt8) : List UInt8 := if s < 0 then [] else told s.toNat h
def txE (s : Int) : Int := if s < 0 then 2 else 0
def TextPost (s : Int) (h : List UInt8) (w : World) (e : Ending) (w' : World) : Prop := e = .returned (.tuple #[.string ⟨(txt s h).toArray⟩, .int .i64 (txE s)]) ∧ Kp [] w w'
theorem told_str (n : Nat) (h : List UInt8) : ((({ data := #[110, 111, 116, 97, 114, 121, 10] } : ByteArray) ++ ⟨(dec n).toArray⟩ ++ { data := #[10] }) ++ ⟨(hexS h).toArray⟩ ++ { data := #[10] }) = ⟨(told n h).toArray⟩ := by
  rw [show ({ data := #[110, 111, 116, 97, 114, 121, 10] } : ByteArray) = ⟨([110, 111, 116, 97, 114, 121, 10] : List UInt8).toArray⟩ from rfl, show ({ data := #[10] } : ByteArray) = ⟨([10] : List UInt8).toArray⟩ from rfl]
  rw [str_add, str_add, str_add, str_add]
  congr 2
  simp [told, titleL]
set_option maxRecDepth 100000 in
set_option maxHeartbeats 2000000 in
theorem ptext_any (s : Int) (hs : -9223372036854775808 ≤ s ∧ s ≤ 9223372036854775807) (h : List UInt8) (hh : h.length = 32) (w : World) (L : LD w) : Calls Tryd.prog 15 #[.agg (ptA s h)] w (TextPost s h w) := by
  have B0 := Lib.hid (Blk.new w 25 (ptA s h))
  have K0 := Lib.hid ((Kp.refl [] w).alloc (.cells (ptA s h) 25))
  have HL := Lib.hid L
  have HH := Lib.hid hh
  clear L hh
  by_cases h0 : s < 0
  · have HT : Hid (txt s h = [] ∧ txE s = 2) := Lib.hid ⟨if_pos h0, if_pos h0⟩
    have c0 := pt_c0 B0.out
    obtain ⟨cs, HC⟩ : ∃ cs, Hid (ptA s h = cs) := ⟨_, Lib.hid rfl⟩
    rw [HC.out] at B0 K0 c0 ⊢
    go_enter Tryd.func15, Tryd.ntmps15
    go_wp2
    go_ret2
    exact ⟨by rw [HT.out.1, HT.out.2]; rfl, K0.out⟩
  · obtain ⟨n, rfl⟩ : ∃ n : Nat, s = n := ⟨s.toNat, by omega⟩
    have HT : Hid (txt n h = told n h ∧ txE n = 0) := Lib.hid ⟨by unfold txt; rw [if_neg h0, Int.toNat_natCast], if_neg h0⟩
    have hl1 : (dec n).length ≤ 19 := dec_19 (by omega)
    have hl2 : (hexS h).length ≤ 64 := by rw [hexS_length, HH.out]; omega
    have c0 := pt_c0 B0.out
    have T0 := Lib.hid ((K0.out).drew)
    have BF := Lib.hid (fun V (kk : Kp [] (w.alloc (.cells (ptA n h) 25)) V) => B0.out.kp kk (by simp))
    have HF := Lib.hid (fun V (LV : LD V) => fmt_any n (by omega) V LV)
    have HX := Lib.hid (fun V => hex_any h HH.out V)
    have HLD := Lib.hid (fun V (kk : Kp [] (w.alloc (.cells (ptA n h) 25)) V) => HL.out.kp (K0.out.trans kk (by simp)))
    obtain ⟨cs, HC⟩ : ∃ cs, Hid (ptA n h = cs) := ⟨_, Lib.hid rfl⟩
    rw [HC.out] at B0 K0 c0 BF T0 HLD ⊢
    go_enter Tryd.func15, Tryd.ntmps15
    go_wp2
    generalize hW1 : w.alloc (.cells cs 25) = w1 at *
    generalize hg1 : w.heap.size = g1 at *
    have T1 := Lib.hid ((Kp.refl [] w1).drew)
    refine wp_region_lexf [2, 7] [] (fun V : World => Kp [] w1 V) (by kernel_rfl) (by kernel_rfl) T1.out (fun σ hne fw hf hsur => ?_); have Hsur := Lib.hid hsur; clear hsur
    have q0 := fun y => pt_c0 (HC.out ▸ BF.out _ (hf y))
    clear hf
    have hld : ∀ V, Kp [] w1 V → (Instr.loadAt 23 (.pointer (some ⟨g1, 1, none⟩))).run Tryd.prog V = .ok (.agg (hashA h)) V := fun V kk => run_pt_root (HC.out ▸ BF.out V kk) HH.out
    have HLoad := Lib.hid hld
    clear hld
    go_wp2_with (first
      | (refine lex_qk (.agg (hashA h)) rfl rfl (fun V hV => exec_load rfl rfl (HLoad.out V hV)) ?_; intro K hK; go_simp; refine hK _ _ ?_; clear hK K)
      | (refine lex_qq Hsur.out rfl rfl rfl ?_; intro K hK; go_big_quiet_op; go_big_quiet_on) | (refine lex_skipk rfl ?_; intro K hK; go_simp; refine hK _ _ ?_; clear hK K) | (refine lex_e rfl rfl ?_; intro K hK; go_step) | (refine lex_nil ?_)
      | (go_at_call 35; ((with_reducible refine (HF.out _ (HLD.out _ T1.out)).mono ?_); rintro r w2 ⟨rfl, k2⟩; have T2 := Lib.hid (T1.out.trans k2 (by simp)); clear k2))
      | (go_at_call 16; ((with_reducible refine (HX.out _).mono ?_); rintro r w3 ⟨rfl, k3⟩; have T3 := Lib.hid (T2.out.trans k3 (by simp)); clear k3))
      | ((with_reducible apply And.intro); · (intro hl; first | (exact ls_absurd hl rfl) | exact T3.out))
      | ((with_reducible apply And.intro); · (intro hl; first | (exact ls_absurd hl rfl) | exact T2.out)))
    go_ret2
    exact ⟨by rw [HT.out.1, HT.out.2, ← told_str]; rfl, K0.out.trans T3.out (by simp)⟩
set_option maxRecDepth 100000 in
set_option maxHeartbeats 2000000 in
theorem rtold_any (n : Nat) (hn : n < 9223372036854775808) (h : List UInt8) (hh : h.length = 32) (w : World) : Calls Tryd.prog 31 #[.agg (ptA n h)] w fun e w' => e = .returned (.string ⟨(told n h).toArray⟩) ∧ Kp [] w w' := by
  have B0 := Lib.hid (Blk.new w 25 (ptA n h))
  have K0 := Lib.hid ((Kp.refl [] w).alloc (.cells (ptA n h) 25))
  have HH := Lib.hid hh
  clear hh
  have hl1 : (dec n).length ≤ 19 := dec_19 (by omega)
  have hl2 : (hexS h).length ≤ 64 := by rw [hexS_length, HH.out]; omega
  have T0 := Lib.hid ((K0.out).drew)
  have BF := Lib.hid (fun V (kk : Kp [] (w.alloc (.cells (ptA n h) 25)) V) => B0.out.kp kk (by simp))
  have HF := Lib.hid (fun V => rdigits_any n (by omega) V)
  have HX := Lib.hid (fun V => rhex_any h HH.out V)
  obtain ⟨cs, HC⟩ : ∃ cs, Hid (ptA n h = cs) := ⟨_, Lib.hid rfl⟩
  rw [HC.out] at B0 K0 BF T0 ⊢
  go_enter Tryd.func31, Tryd.ntmps31
  go_wp2
  generalize hW1 : w.alloc (.cells cs 25) = w1 at *
  generalize hg1 : w.heap.size = g1 at *
  have T1 := Lib.hid ((Kp.refl [] w1).drew)
  refine wp_region_lexf [2, 7] [] (fun V : World => Kp [] w1 V) (by kernel_rfl) (by kernel_rfl) T1.out (fun σ hne fw hf hsur => ?_); have Hsur := Lib.hid hsur; clear hsur
  have q0 := fun y => pt_c0 (HC.out ▸ BF.out _ (hf y))
  clear hf
  have hld : ∀ V, Kp [] w1 V → (Instr.loadAt 23 (.pointer (some ⟨g1, 1, none⟩))).run Tryd.prog V = .ok (.agg (hashA h)) V := fun V kk => run_pt_root (HC.out ▸ BF.out V kk) HH.out
  have HLoad := Lib.hid hld
  clear hld
  go_wp2_with (first
    | (refine lex_qk (.agg (hashA h)) rfl rfl (fun V hV => exec_load rfl rfl (HLoad.out V hV)) ?_; intro K hK; go_simp; refine hK _ _ ?_; clear hK K)
    | (refine lex_qq Hsur.out rfl rfl rfl ?_; intro K hK; go_big_quiet_op; go_big_quiet_on) | (refine lex_skipk rfl ?_; intro K hK; go_simp; refine hK _ _ ?_; clear hK K) | (refine lex_e rfl rfl ?_; intro K hK; go_step) | (refine lex_nil ?_)
    | (go_at_call 58; ((with_reducible refine (HF.out _).mono ?_); rintro r w2 ⟨rfl, k2⟩; have T2 := Lib.hid (T1.out.trans k2 (by simp)); clear k2))
    | (go_at_call 25; ((with_reducible refine (HX.out _).mono ?_); rintro r w3 ⟨rfl, k3⟩; have T3 := Lib.hid (T2.out.trans k3 (by simp)); clear k3))
    | ((with_reducible apply And.intro); · (intro hl; first | (exact ls_absurd hl rfl) | exact T3.out))
    | ((with_reducible apply And.intro); · (intro hl; first | (exact ls_absurd hl rfl) | exact T2.out)))
  go_ret
  exact ⟨by rw [← told_str]; rfl, K0.out.trans T3.out (by simp)⟩
set_option maxRecDepth 100000 in
set_option maxHeartbeats 2000000 in
theorem rtext_any (s : Int) (hs : -9223372036854775808 ≤ s ∧ s ≤ 9223372036854775807) (h : List UInt8) (hh : h.length = 32) (w : World) : Calls Tryd.prog 23 #[.agg (ptA s h)] w (TextPost s h w) := by
  have B0 := Lib.hid (Blk.new w 25 (ptA s h))
  have K0 := Lib.hid ((Kp.refl [] w).alloc (.cells (ptA s h) 25))
  have HH := Lib.hid hh
  have Hsz := Lib.hid (ptA_size (s := s) hh)
  clear hh
  have c0 := pt_c0 B0.out
  by_cases h0 : s < 0
  · have HT : Hid (txt s h = [] ∧ txE s = 2) := Lib.hid ⟨if_pos h0, if_pos h0⟩
    obtain ⟨cs, HC⟩ : ∃ cs, Hid (ptA s h = cs) := ⟨_, Lib.hid rfl⟩
    rw [HC.out] at B0 K0 c0 ⊢
    go_enter Tryd.func23, Tryd.ntmps23
    go_wp2
    go_ret2
    exact ⟨by rw [HT.out.1, HT.out.2]; rfl, K0.out⟩
  · obtain ⟨n, rfl⟩ : ∃ n : Nat, s = n := ⟨s.toNat, by omega⟩
    have HT : Hid (txt n h = told n h ∧ txE n = 0) := Lib.hid ⟨by unfold txt; rw [if_neg h0, Int.toNat_natCast], if_neg h0⟩
    have HR := Lib.hid (fun V => rtold_any n (by omega) h HH.out V)
    obtain ⟨cs, HC⟩ : ∃ cs, Hid (ptA n h = cs) := ⟨_, Lib.hid rfl⟩
    rw [HC.out] at B0 K0 c0 HR Hsz ⊢
    go_enter Tryd.func23, Tryd.ntmps23
    go_wp2_with (refine wpList_load_blk rfl 25 (.tmp 1) rfl w.heap.size rfl 25 cs B0.out _ Tryd.underlying25 rfl (by rw [Hsz.out]; exact Tryd.infoPointP) ?_)
    refine (HR.out _).mono ?_
    rintro e w2 ⟨rfl, k2⟩
    have K2 := Lib.hid (K0.out.trans k2 (by simp))
    clear k2
    go_wp2
    go_ret2
    exact ⟨by rw [HT.out.1, HT.out.2]; rfl, K2.out⟩
end Go.Proofs.YtolfckhjfadhdaaDoor
/- Parse of point. -/
namespace Go.Proofs.YtolfckhjfadhdaaDoor
open Go.RowKit
def zeroP : Array Value := ptA 0 (List.replicate 32 0)
/-- The first k lines, and the rest. -/
def lnK (s : List UInt8) : Nat → Option (List (List UInt8) × List UInt8)
  | 0 => some ([], s)
  | k + 1 => match lnK s k with
    | none => none
    | some (ls, r) => if 10 ∈ r then some (ls ++ [(ct 10 r).1], (ct 10 r).2.1) else none
theorem lnK_go {s : List UInt8} {k : Nat} {ls : List (List UInt8)} {r : List UInt8} (h : lnK s k = some (ls, r)) (hm : (10 : UInt8) ∈ r) : lnK s (k + 1) = some (ls ++ [(ct 10 r).1], (ct 10 r).2.1) := by
  unfold lnK; rw [h]; simp only; rw [if_pos hm]
theorem lnK_stop {s : List UInt8} {k : Nat} {ls : List (List UInt8)} {r : List UInt8} (h : lnK s k = some (ls, r)) (hm : (10 : UInt8) ∉ r) : lnK s (k + 1) = none := by
  unfold lnK; rw [h]; simp only; rw [if_neg hm]
theorem ct_flag (l : List UInt8) : (ct 10 l).2.2 = decide ((10 : UInt8) ∈ l) := by
  by_cases h : (10 : UInt8) ∈ l
  · rw [ct_yes h]; exact (decide_eq_true h).symm
  · rw [ct_no h]; exact (decide_eq_false h).symm
theorem ln3_of (s : List UInt8) : ln3 s = match lnK s 3 with | some ([a, b, c], r) => some (a, b, c, r) | _ => none := by
  unfold ln3
  simp only [ct_flag, decide_eq_true_eq]
  by_cases h0 : (10 : UInt8) ∈ s
  · have e1 := lnK_go (s := s) (k := 0) rfl h0
    by_cases h1 : (10 : UInt8) ∈ (ct 10 s).2.1
    · have e2 := lnK_go e1 h1
      by_cases h2 : (10 : UInt8) ∈ (ct 10 (ct 10 s).2.1).2.1
      · have e3 := lnK_go e2 h2
        rw [e3, if_pos ⟨h0, h1, h2⟩]; rfl
      · rw [lnK_stop e2 h2, if_neg (fun h => h2 h.2.2)]
    · have e3 : lnK s 3 = none := by
        have := lnK_stop e1 h1
        show (match lnK s 2 with | none => none | some (ls, r) => if 10 ∈ r then some (ls ++ [(ct 10 r).1], (ct 10 r).2.1) else none) = none
        rw [this]
      rw [e3, if_neg (fun h => h1 h.2.1)]
  · have e1 := lnK_stop (s := s) (k := 0) rfl h0
    have e3 : lnK s 3 = none := by
      show (match (match lnK s 1 with | none => none | some (ls, r) => if 10 ∈ r then some (ls ++ [(ct 10 r).1], (ct 10 r).2.1) else none) with | none => none | some (ls, r) => if 10 ∈ r then some (ls ++ [(ct 10 r).1], (ct 10 r).2.1) else none) = none
      rw [e1]
    rw [e3, if_neg (fun h => h0 h.1)]
theorem ln3_none {s : List UInt8} {k : Nat} (hk : k ≤ 3) (h : lnK s k = none) : ln3 s = none := by
  have up : ∀ d, lnK s (k + d) = none := fun d => by
    induction d with
    | zero => exact h
    | succ d ih => show lnK s (k + d + 1) = none; unfold lnK; rw [ih]
  have := up (3 - k)
  rw [show k + (3 - k) = 3 by omega] at this
  rw [ln3_of, this]
def PVs (s : List UInt8) : Int × List UInt8 × List UInt8 := match PT s with
  | some (n, h, r) => ((n : Int), h, r)
  | none => (0, List.replicate 32 0, [])
def PEs (s : List UInt8) : Int := match PT s with
  | some _ => 0
  | none => 290
theorem PVs_none {s : List UInt8} (h : PT s = none) : PVs s = (0, List.replicate 32 0, []) ∧ PEs s = 290 := by unfold PVs PEs; rw [h]; exact ⟨rfl, rfl⟩
theorem PVs_some {s : List UInt8} {n : Nat} {h r : List UInt8} (e : PT s = some (n, h, r)) : PVs s = ((n : Int), h, r) ∧ PEs s = 0 := by unfold PVs PEs; rw [e]; exact ⟨rfl, rfl⟩
def ParsePost (s : List UInt8) (w : World) (e : Ending) (w' : World) : Prop :=
  e = .returned (.tuple #[.agg (ptA (PVs s).1 (PVs s).2.1), .string ⟨(PVs s).2.2.toArray⟩, .int .i64 (PEs s)]) ∧ Kp [] w w'
/-- Texts as strings. -/
def strs (L : List (List UInt8)) : List Value := L.map fun l => .string ⟨l.toArray⟩
theorem strs_one (L : List (List UInt8)) : ∀ u, u ∈ strs L → u.oneCell' = true := by
  intro u hu
  obtain ⟨_, _, rfl⟩ := List.mem_map.1 hu
  rfl
theorem Tryd.infoStr : (Tryd.prog.info? 9).map (fun i => (i.zero, i.size, i.bytes)) = some (some (.string ⟨#[]⟩), 1, 16) := by kernel_rfl
theorem kp_bytesWorld (w : World) (t : TypeId) (s : ByteArray) : Kp [] w (Lib.bytesWorld w t s) := Kp.of_below (Lib.bytesWorld_below w t s)
theorem results_cell_tmp2P {P : Program} {fn : Func} {w : World} {tmps : Array Value} {a t u u2 g : Nat} {t' : TypeId} {cs : Array Value} {d : TypeDesc} (h : fn.results = #[.cell a t, .tmp u, .tmp u2]) (ha : tmps.getD a undef = .pointer (some ⟨g, 0, none⟩)) (hb : Blk w g t' cs)
    (hu : P.underlying t = some d) (hd : aggB d = true) (hi : (P.info? t).map (·.size) = some cs.size) : (results fn tmps).run P w = .ok (.tuple #[.agg cs, tmps.getD u undef, tmps.getD u2 undef]) w := by
  have hl : (loadCells ⟨g, 0, none⟩ cs.size).run P w = .ok cs w := by
    have := run_loadCells_list (P := P) w ⟨g, 0, none⟩ cs.toList hb.agg
    simpa using this
  cases hq : P.info? t with
  | none => simp [hq] at hi
  | some i =>
    have hs : i.size = cs.size := by simpa [hq] using hi
    simp only [Array.getD_eq_getD_getElem?] at ha
    simp [results, h, ha, loadVar, asAddr, Sem.run_bind, run_isAgg hu hd, sizeOf, typeInfo, hq, hs, hl]
theorem pint_any (s : ByteArray) (hs : s.size ≤ 281474976710656) (w : World) (L : LD w) : Calls Tryd.prog 30 #[.string s, .int .i64 10, .int .i64 64] w fun e w' => ∃ er, e = .returned (.tuple #[.int .i64 (pv s.data.toList), er]) ∧ Kp [] w w' := by
  unfold pv
  match h : Lib.parseIntB 64 s.data.toList with
  | Lib.NumEnd.ok v =>
    refine (Tryd.strconv_ParseInt_10_at64_ok s (by omega) v h w).mono ?_
    rintro e w' ⟨rfl, hw | ⟨t, hw⟩⟩
    · subst hw; exact ⟨_, rfl, Kp.refl _ _⟩
    · subst hw; exact ⟨_, rfl, kp_bytesWorld _ _ _⟩
  | Lib.NumEnd.syntax =>
    obtain ⟨tp, p, hv⟩ := L.syn
    refine (Tryd.strconv_ParseInt_10_at64_syntax_var s hs h tp p w hv).mono ?_
    rintro e w' ⟨N, rfl, _, _, hb⟩
    exact ⟨_, rfl, Kp.of_below hb⟩
  | Lib.NumEnd.range =>
    obtain ⟨tp, p, hv⟩ := L.rng
    refine (Tryd.strconv_ParseInt_10_at64_range_var s hs h tp p w hv).mono ?_
    rintro e w' ⟨N, rfl, _, _, hb⟩
    exact ⟨_, rfl, Kp.of_below hb⟩
/-- A part of a block written. -/
theorem op_store_part {P : Program} {o : Oper} {a : Act} {w : World} {K : Act → World → Prop} {Q : Exit → Act → World → Prop} (x y : Operand) (ty : TypeId) (ho : o.op = .store ty x y) (g off : Nat) (hx : a.eval x = .pointer (some ⟨g, off, none⟩)) (xs : Array Value) (hy : a.eval y = .agg xs)
    (t : TypeId) (cur : Array Value) (hb : Blk w g t cur) (hi : (P.info? ty).map (·.size) = some xs.size) (hfit : off + xs.size ≤ cur.size) (h1 : ∀ u, u ∈ xs.toList → u.oneCell' = true)
    (hK : ∀ w', Blk w' g t (cur.toList.take off ++ xs.toList ++ cur.toList.drop (off + xs.size)).toArray → Kp [g] w w' → K (a.put o.dst undef) w') : o.wp P a w K Q := by
  unfold Oper.wp
  rw [exec_store ho hx hy (run_storeAt_agg w g off t ty xs cur hb hi hfit h1)]
  exact hK _ (setRow_blk hb).1 (setRow_blk hb).2
theorem pt_lay (z : Int) (h0 h : List UInt8) (hh : h.length = 32) (h0l : h0.length = 32) : ((ptA z h0).toList.take 1 ++ (hashA h).toList ++ (ptA z h0).toList.drop (1 + (hashA h).size)).toArray = ptA z h := by
  rw [hashA_size, hh]
  unfold ptA
  rw [List.toList_toArray]
  simp [hashA_list, bv_length, h0l]
end Go.Proofs.YtolfckhjfadhdaaDoor
/- A point put together from its number and its root. -/
namespace Go.Proofs.YtolfckhjfadhdaaDoor
open Go.RowKit
theorem foldl_place (off : Nat) : ∀ (xs : List Value) (k : Nat) (cs : Array Value), (xs.zipIdx k).foldl (fun cs (x : Value × Nat) => cs.setIfInBounds (off + x.2) x.1) cs = (cs.toList.take (off + k) ++ (xs.take (cs.size - (off + k))) ++ cs.toList.drop (off + k + xs.length)).toArray
  | [], k, cs => by simp
  | x :: xs, k, cs => by
    rw [List.zipIdx_cons, List.foldl_cons, foldl_place off xs (k + 1)]
    congr 1
    simp only [Array.toList_setIfInBounds, Array.size_setIfInBounds]
    by_cases h : off + k < cs.size
    · have e1 : (cs.toList.set (off + k) x).take (off + (k + 1)) = cs.toList.take (off + k) ++ [x] := by
        rw [List.set_eq_take_append_cons_drop, if_pos (by simpa using h), List.take_append, List.take_take, List.length_take]
        simp [show min (off + k) cs.size = off + k from by omega, show off + (k + 1) - (off + k) = 1 from by omega]
      have e2 : (cs.toList.set (off + k) x).drop (off + (k + 1) + xs.length) = cs.toList.drop (off + k + (x :: xs).length) := by
        rw [List.drop_set, if_pos (by omega)]
        congr 1
        simp only [List.length_cons]
        omega
      rw [e1, e2, show cs.size - (off + k) = (cs.size - (off + (k + 1))) + 1 from by omega, List.take_succ_cons]
      simp
    · rw [List.set_eq_of_length_le (by simpa using h)]
      rw [show cs.size - (off + (k + 1)) = 0 from by omega, show cs.size - (off + k) = 0 from by omega]
      have hl : cs.toList.length ≤ off + k := by simpa using h
      rw [List.take_of_length_le (by omega), List.take_of_length_le hl, List.drop_of_length_le (by omega), List.drop_of_length_le (by omega)]
      simp
theorem Tryd.built_is (ps : List (Nat × Value)) : Tryd.prog.built 25 ps = Instr.fill (#[(0, 1), (1, 32)][·]?) zeroP ps := by
  unfold Program.built
  kernel_rfl
theorem Tryd.built_pt (z : Int) (hh : List UInt8) (hl : hh.length = 32) : Tryd.prog.built 25 [(0, .int .i64 z), (1, .agg (hashA hh))] = some (ptA z hh) := by
  rw [Tryd.built_is]
  have e : ∀ (z : Int), (zeroP.setIfInBounds 0 (.int .i64 z)) = ptA z (List.replicate 32 0) := fun z => rfl
  have h : ((hashA hh).zipIdx.foldl (fun cs (x : Value × Nat) => cs.setIfInBounds (1 + x.2) x.1) (ptA z (List.replicate 32 0))) = ptA z hh := by
    have h1 := foldl_place 1 (hashA hh).toList 0 (ptA z (List.replicate 32 0))
    have h2 := pt_lay z (List.replicate 32 0) hh hl rfl
    rw [show (hashA hh).zipIdx.foldl (fun cs (x : Value × Nat) => cs.setIfInBounds (1 + x.2) x.1) (ptA z (List.replicate 32 0)) = ((hashA hh).toList.zipIdx 0).foldl (fun cs (x : Value × Nat) => cs.setIfInBounds (1 + x.2) x.1) (ptA z (List.replicate 32 0)) from by rw [← Array.foldl_toList, Array.toList_zipIdx], h1, ← h2]
    congr 1
    rw [List.take_of_length_le (l := (hashA hh).toList) (by rw [ptA_size (by simp), Array.length_toList, hashA_size, hl]; decide)]
    simp
  have hs : (hashA hh).size = 32 := by rw [hashA_size, hl]
  have hs0 : zeroP.size = 33 := rfl
  have hs1 : (ptA z (List.replicate 32 0)).size = 33 := ptA_size (by simp)
  have f1 : Instr.fill (#[(0, 1), (1, 32)][·]?) (ptA z (List.replicate 32 0)) [(1, .agg (hashA hh))] = some (ptA z hh) := by
    unfold Instr.fill
    show (if (decide ((hashA hh).size ≠ 32) || decide (1 + (hashA hh).size > (ptA z (List.replicate 32 0)).size)) = true then none else Instr.fill (#[(0, 1), (1, 32)][·]?) ((hashA hh).zipIdx.foldl (fun cs (x : Value × Nat) => cs.setIfInBounds (1 + x.2) x.1) (ptA z (List.replicate 32 0))) []) = some (ptA z hh)
    rw [hs, hs1, h]
    rfl
  unfold Instr.fill
  exact f1
theorem wpList_build2 {P : Program} {ops : Array Oper} {rest : List Oper} {o : Oper} {a : Act} {w : World} {Q : Exit → Act → World → Prop} (hg : o.guard = none) (t : TypeId) (x y : Operand) (ho : o.op = .build t #[(0, x), (1, y)]) (u v : Value) (hx : a.eval x = u) (hy : a.eval y = v)
    (cells : Array Value) (hb : P.built t [(0, u), (1, v)] = some cells) (h : wpList P ops Q rest (a.put o.dst (.agg cells)) w) : wpList P ops Q (o :: rest) a w := by
  have e : P.built t ((#[(0, x), (1, y)] : Array (Nat × Operand)).map fun (i, x) => (i, a.eval x)).toList = some cells := by
    rw [← hb, ← hx, ← hy]
    simp
  refine wpList_build hg t _ ho (by rw [e]; rfl) ?_
  rw [e]
  exact h
theorem Tryd.built_sz (z : Int) : Tryd.prog.built 25 [(0, .int .i64 z)] = some (ptA z (List.replicate 32 0)) := by
  rw [Tryd.built_is]
  rfl
theorem wpList_build1 {P : Program} {ops : Array Oper} {rest : List Oper} {o : Oper} {a : Act} {w : World} {Q : Exit → Act → World → Prop} (hg : o.guard = none) (t : TypeId) (x : Operand) (ho : o.op = .build t #[(0, x)]) (u : Value) (hx : a.eval x = u)
    (cells : Array Value) (hb : P.built t [(0, u)] = some cells) (h : wpList P ops Q rest (a.put o.dst (.agg cells)) w) : wpList P ops Q (o :: rest) a w := by
  have e : P.built t ((#[(0, x)] : Array (Nat × Operand)).map fun (i, x) => (i, a.eval x)).toList = some cells := by
    rw [← hb, ← hx]
    simp
  refine wpList_build hg t _ ho (by rw [e]; rfl) ?_
  rw [e]
  exact h
end Go.Proofs.YtolfckhjfadhdaaDoor
/- XInv's rule with guards ('&&', '||'): each step says what the guard does. -/
namespace Go.Proofs.YtolfckhjfadhdaaDoor

section
variable {P : Program} {ops : Array Oper} {Q : Exit → Act → World → Prop}

/-- Each waits for earlier ones alone. -/
def earlierG : List Oper → Nat → Bool
  | [], _ => true
  | o :: l, k => (o.after.all fun e => !Region.binds .any e || decide (e.on < k)) && earlierG l (k + 1)
theorem earlierG_spec : ∀ (l : List Oper) (k i : Nat) (o : Oper), earlierG l k = true → l[i]? = some o → (∀ e ∈ o.after, Region.binds .any e = true → e.on < k + i)
  | [], _, _, _, _, h => by simp at h
  | x :: l, k, i, o, hB, h => by
    simp only [earlierG, Bool.and_eq_true] at hB
    rcases i with _ | i
    · obtain rfl : x = o := by simpa using h
      intro e he hb
      have := (Array.all_eq_true_iff_forall_mem.1 hB.1) e he
      simpa [hb] using this
    · have := earlierG_spec l (k + 1) i o hB.2 (by simpa using h)
      exact fun e he hb => by have := this e he hb; omega
def InvStepG (P : Program) (Q : Exit → Act → World → Prop) (PV : Nat → Value → World → Prop) (W0 : World) (fr : (Nat → Value) → Act) (ops : Array Oper) (o : Oper) (i : Nat) : Prop :=
  ∀ (vs : Nat → Value) (A : Act) (W : World), fr vs = A → Kp [] W0 W → (∀ j, waitsB .any o j = true → PV j (vs j) W) →
    ∀ K : Act → World → Prop, (∀ v W', Kp [] W W' → PV i v W' → K (A.put o.dst v) W') → wpOp P ops (Qn Q) i K A W
def InvStepsG (P : Program) (Q : Exit → Act → World → Prop) (PV : Nat → Value → World → Prop) (W0 : World) (fr : (Nat → Value) → Act) (ops : Array Oper) : List Oper → Nat → Prop
  | [], _ => True
  | o :: l, i => InvStepG P Q PV W0 fr ops o i ∧ InvStepsG P Q PV W0 fr ops l (i + 1)
theorem InvStepsG.at_ {PV : Nat → Value → World → Prop} {W0 : World} {fr : (Nat → Value) → Act} : ∀ {l : List Oper} {k : Nat}, InvStepsG P Q PV W0 fr ops l k → ∀ {i o}, l[i]? = some o → InvStepG P Q PV W0 fr ops o (k + i)
  | [], _, _, _, _, h => by simp at h
  | x :: l, k, hs, i, o, h => by
    rcases i with _ | i
    · obtain rfl : x = o := by simpa using h
      exact hs.1
    · have := hs.2.at_ (i := i) (o := o) (by simpa using h)
      rwa [show k + 1 + i = k + (i + 1) from by omega] at this
/-- An operation without a guard. -/
theorem wpOp_free {i : Nat} {K : Act → World → Prop} {a : Act} {w : World} (o : Oper) (ho : ops[i]? = some o) (hg : o.guard = none) (h : o.wp P a w K Q) : wpOp P ops Q i K a w := by
  unfold wpOp
  simp only [ho]
  rw [if_pos (by simp [Region.wanted, hg])]
  exact .inl h
theorem yielded_of {a : Act} {j d : Nat} {b : Bool} (hj : (ops[j]?).bind (·.dst) = some d) (hd : a.tmps[d]?.getD undef = .bool b) : yielded ops a.tmps j = some b := by
  unfold yielded
  rw [hj]
  show (match a.tmps[d]? with | some (.bool b) => some b | _ => none) = some b
  cases h : a.tmps[d]? with
  | none => rw [h] at hd; cases hd
  | some v => rw [h] at hd; obtain rfl : v = .bool b := hd; rfl
/-- One whose guard says: go. -/
theorem wpOp_go {i : Nat} {K : Act → World → Prop} {a : Act} {w : World} (o : Oper) (ho : ops[i]? = some o) (j d : Nat) (b : Bool) (hg : o.guard = some (j, b)) (hj : (ops[j]?).bind (·.dst) = some d) (hd : a.tmps[d]?.getD undef = .bool b) (h : o.wp P a w K Q) : wpOp P ops Q i K a w := by
  unfold wpOp
  simp only [ho]
  rw [if_pos (by simp [Region.wanted, hg, yielded_of hj hd])]
  exact .inl h
/-- One whose guard says: pass over. -/
theorem wpOp_skip {i : Nat} {K : Act → World → Prop} {a : Act} {w : World} (o : Oper) (ho : ops[i]? = some o) (j d : Nat) (b : Bool) (hg : o.guard = some (j, b)) (hj : (ops[j]?).bind (·.dst) = some d) (hd : a.tmps[d]?.getD undef = .bool (!b)) (h : K (a.put o.dst undef) w) : wpOp P ops Q i K a w := by
  unfold wpOp
  simp only [ho]
  rw [if_neg (by simp [Region.wanted, hg, yielded_of hj hd])]
  exact h
theorem inv_anyG {PV : Nat → Value → World → Prop} {W0 : World} {a0 : Act} {l : List Oper} (hst : ∀ i v W W', PV i v W → Kp [] W W' → PV i v W') (hap : apartB l = true) (hea : earlierG l 0 = true)
    (hs : InvStepsG P Q PV W0 (fun vs => putAll vs l 0 a0) l.toArray l 0)
    (hend : ∀ vs W, Kp [] W0 W → (∀ i, i < l.length → PV i (vs i) W) → Q .normal (putAll vs l 0 a0) W) :
    ∀ (fuel : Nat) (listed : Array Bool) (vs : Nat → Value) (W : World), listed.size = l.length → (listed.toList.filter (fun b => !b)).length = fuel → Kp [] W0 W → (∀ i, listed.getD i false = true → PV i (vs i) W) →
      wpAny P .any l.toArray Q fuel listed (putAll vs l 0 a0) W := by
  have all_of : ∀ (listed : Array Bool), listed.size = l.length → Region.ready .any l.toArray listed = [] → ∀ i, i < l.length → listed.getD i false = true := by
    intro listed hsz hr i
    induction i using Nat.strongRecOn with
    | _ i ih =>
      intro hi
      cases hl : listed.getD i false with
      | true => rfl
      | false =>
        exfalso
        have hlt : i < listed.size := by omega
        have hmem : i ∈ Region.ready .any l.toArray listed := mem_ready.2 ⟨by simp [hlt] at hl ⊢; exact hl, l[i], by simp [hi], fun e he hb => by
          have := (earlierG_spec l 0 i l[i] hea (by simp [hi])) e he hb
          exact ih e.on (by omega) (by omega)⟩
        rw [hr] at hmem; cases hmem
  have hnil : ∀ (listed : Array Bool) vs W, listed.size = l.length → Kp [] W0 W → (∀ i, listed.getD i false = true → PV i (vs i) W) → Region.ready .any l.toArray listed = [] → Q .normal (putAll vs l 0 a0) W :=
    fun listed vs W hsz hk hp hr => hend vs W hk (fun i hi => hp i (all_of listed hsz hr i hi))
  intro fuel
  induction fuel with
  | zero =>
    intro listed vs W hsz hf hk hp
    have hr : Region.ready .any l.toArray listed = [] := by
      refine List.eq_nil_iff_forall_not_mem.2 fun i hi => ?_
      have h0 := (mem_ready.1 hi).1
      obtain ⟨_, o, ho, _⟩ := mem_ready.1 hi
      have hlt : i < listed.size := by
        have := (Array.getElem?_eq_some_iff.1 ho).1
        simp at this; omega
      have : listed[i] ∈ listed.toList.filter (fun b => !b) := by
        rw [List.mem_filter]
        simp [hlt] at h0
        refine ⟨by simp, by simp [h0]⟩
      rw [List.eq_nil_of_length_eq_zero hf] at this
      cases this
    exact ⟨hr, hnil listed vs W hsz hk hp hr⟩
  | succ fuel ih =>
    intro listed vs W hsz hf hk hp
    refine ⟨hnil listed vs W hsz hk hp, fun i hi => ?_⟩
    obtain ⟨h0, o, ho, hall⟩ := mem_ready.1 hi
    have hol : l[i]? = some o := by simpa using ho
    have hlt : i < listed.size := by
      have := (List.getElem?_eq_some_iff.1 hol).1
      omega
    refine wpOp_n ?_
    have hstep := hs.at_ hol
    rw [Nat.zero_add] at hstep
    refine hstep vs _ W rfl hk (fun j hj => by obtain ⟨e, he, hb, rfl⟩ := waitsB_spec hj; exact hp e.on (hall e he hb)) _ fun v W' hk' hv => ?_
    rw [putAll_upd vs i v l 0 a0 o hap (Nat.zero_le _) (by simpa using hol)]
    refine ih _ _ W' (by simpa using hsz) ?_ (hk.trans hk' (by simp)) (fun j hj => ?_)
    · simp [hlt] at h0
      have h1 : listed.toList = listed.toList.take i ++ false :: listed.toList.drop (i + 1) := by
        rw [← h0]
        have := List.take_append_drop i listed.toList
        rw [List.drop_eq_getElem_cons (by simpa using hlt)] at this
        simpa using this.symm
      have h2 : (listed.setIfInBounds i true).toList = listed.toList.take i ++ true :: listed.toList.drop (i + 1) := by
        rw [Array.toList_setIfInBounds]
        conv => lhs; rw [h1]
        rw [List.set_append_right _ _ (by simp; omega)]
        simp [Nat.min_eq_left (Nat.le_of_lt hlt)]
      rw [h1] at hf
      rw [h2]
      simp only [List.filter_append, List.filter_cons, List.length_append] at hf ⊢
      simp at hf ⊢
      omega
    · by_cases e : i = j
      · subst e; simpa [upd] using hv
      · rw [getD_set_ne false e] at hj
        simp only [upd, show j ≠ i from fun h => e h.symm, if_false]
        exact hst j _ W W' (hp j hj) hk'

/-- The region's rule. -/
theorem wp_region_invG {id : Nat} {a : Act} {w : World} {l : List Oper} (PV : Nat → Value → World → Prop) (hm : P.follows .mixedOrders = true) (hap : apartB l = true) (hea : earlierG l 0 = true)
    (hst : ∀ i v W W', PV i v W → Kp [] W W' → PV i v W')
    (hs : InvStepsG P Q PV w.drew (fun vs => putAll vs l 0 a) l.toArray l 0)
    (hend : ∀ vs W, Kp [] w.drew W → (∀ i, i < l.length → PV i (vs i) W) → Q .normal (putAll vs l 0 a) W) : (Code.region id l.toArray true).wp P Q a w := by
  refine wp_region_any hm ?_
  have h := inv_anyG (P := P) (Q := Q) hst hap hea hs hend l.length (Array.replicate l.length false) (at0 a l) w.drew (by simp) (by simp) (Kp.refl _ _) (fun i hi => by
    simp [Array.getElem?_replicate] at hi
    split at hi <;> simp at hi)
  rw [putAll_at a l 0 (at0 a l) (fun j o ho => by simp [at0, ho])] at h
  simpa using h
end
end Go.Proofs.YtolfckhjfadhdaaDoor
/- Parse of the reference: the walk. -/
namespace Go.Proofs.YtolfckhjfadhdaaDoor
open Go.RowKit
theorem idx_step {r : List UInt8} {c : UInt8} : ∀ {j : Nat}, j < r.idxOf c → ∃ b, r[j]? = some b ∧ b ≠ c := by
  intro j hj
  have h1 : j < r.length := Nat.lt_of_lt_of_le hj List.idxOf_le_length
  exact ⟨r[j], List.getElem?_eq_getElem h1, by simpa using List.not_of_lt_findIdx (p := (· == c)) (by simpa [List.idxOf] using hj)⟩
theorem idx_at {r : List UInt8} {c : UInt8} (h : r.idxOf c < r.length) : r[r.idxOf c]? = some c := by
  rw [List.getElem?_eq_getElem h, List.getElem_idxOf h]
def lnA (ls : List (List UInt8)) : Array Value := ((ls ++ List.replicate (3 - ls.length) []).map fun (l : List UInt8) => Value.string ⟨l.toArray⟩).toArray
theorem lnA_size {ls : List (List UInt8)} (h : ls.length ≤ 3) : (lnA ls).size = 3 := by simp [lnA]; omega
theorem lnA_get (ls : List (List UInt8)) (k : Nat) (hk : k < ls.length) : (lnA ls)[k]? = some (.string ⟨(ls[k]).toArray⟩) := by
  simp [lnA, List.getElem?_append_left, hk]
theorem lnA_next (ls : List (List UInt8)) (h : ls.length < 3) : (lnA ls)[ls.length]? = some (.string ⟨#[]⟩) := by
  have : 0 < 3 - ls.length := by omega
  simp [lnA, this]
theorem lnA_set (ls : List (List UInt8)) (l : List UInt8) (h : ls.length < 3) : (lnA ls).setIfInBounds ls.length (.string ⟨l.toArray⟩) = lnA (ls ++ [l]) := by
  apply Array.ext'
  obtain ⟨m, hm⟩ : ∃ m, 3 - ls.length = m + 1 := ⟨2 - ls.length, by omega⟩
  have hm' : 3 - (ls ++ [l]).length = m := by simp; omega
  simp [lnA, hm, List.map_append, List.replicate_succ]
  omega
theorem ext_seg (s : ByteArray) (r : List UInt8) (p j : Nat) (h : s.data.toList.drop p = r) : s.extract p (p + j) = ⟨(r.take j).toArray⟩ := by
  have : (s.extract p (p + j)).data.toList = r.take j := by
    rw [← h]
    simp [ByteArray.data_extract]
  rw [← this]
set_option maxRecDepth 100000 in
set_option maxHeartbeats 8000000 in
theorem rparse_any (s : ByteArray) (hs : s.size ≤ 140737488355328) (w : World) : Calls Tryd.prog 10 #[.string s] w (ParsePost s.data.toList w) := by
  have HZ : Hid (zeroP.size = 33) := Lib.hid rfl
  have HZO := Lib.hid (ptA_one 0 (List.replicate 32 0))
  have HSz := Lib.hid (Lib.size_eq s)
  have S0 := Lib.hid (((Held.start w).newBlk 25 zeroP).newBlk 69 (lnA []))
  rw [World.size_alloc] at S0
  go_enter Tryd.func10, Tryd.ntmps10
  go_wp2_with fail
  obtain ⟨g2, hg2⟩ : ∃ g2, w.heap.size = g2 := ⟨_, rfl⟩
  obtain ⟨g5, hg5⟩ : ∃ g5, g2 + 1 = g5 := ⟨_, rfl⟩
  rw [hg2, hg5] at S0 ⊢
  clear hg2 hg5
  go_loopw [6, 7] (fun at_ i wr => ∃ (k p : Nat) (ls : List (List UInt8)) (r : List UInt8), k ≤ 3 ∧ at_ = .int .i64 p ∧ i = .int .i64 k ∧ Hid (lnK s.data.toList k = some (ls, r) ∧ ls.length = k ∧ s.data.toList.drop p = r) ∧ p + r.length = s.size ∧ Held w wr [blkR g5 69 (lnA ls), blkR g2 25 zeroP]) (fun _ i _ => 3 - (intOf i).toNat)
  case atStart => exact ⟨0, 0, [], _, by omega, rfl, rfl, Lib.hid ⟨rfl, rfl, rfl⟩, by rw [← HSz.out]; omega, S0.out⟩
  case round =>
    clear S0
    obtain ⟨k, p, ls, r, hk, rfl, rfl, HK, hpr, S⟩ := hrel
    have HS := Lib.hid S
    clear S
    by_cases hlt : k < 3
    · go_wp2_with fail
      have hixl : r.idxOf 10 ≤ r.length := List.idxOf_le_length
      obtain ⟨ix, Hix⟩ : ∃ ix, Hid (r.idxOf 10 = ix) := ⟨_, Lib.hid rfl⟩
      rw [Hix.out] at hixl
      go_loopw [6] (fun q wi => ∃ j : Nat, j ≤ ix ∧ q = .int .i64 ((p : Int) + j) ∧ wi = wr) (fun q _ => ix - (intOf q - p).toNat)
      case atStart => exact ⟨0, by omega, by go_num, rfl⟩
      case round =>
        obtain ⟨j, hj, rfl, rfl⟩ := hrel
        by_cases hjx : j < ix
        · obtain ⟨b, hb, hb10⟩ := idx_step (r := r) (c := 10) (j := j) (by rw [Hix.out]; exact hjx)
          have hps : p + j < s.size := by omega
          have hbs : s[p + j] = b := by
            have h := HK.out.2.2
            rw [← h, List.getElem?_drop, List.getElem?_eq_getElem (by rw [← HSz.out]; exact hps)] at hb
            exact Option.some.inj hb
          have q1 := fun V => run_str_indexZ s (p + j) ((p : Int) + j) (by omega) hps V
          rw [hbs] at q1
          have hb2 : ((b.toNat : Int) != 10) = true := by
            simp only [bne_iff_ne, ne_eq]
            intro h
            apply hb10
            apply UInt8.toNat.inj
            show b.toNat = 10
            omega
          have hpj : (p : Int) + j < s.size := by omega
          clear hbs hb hb10
          go_wp2
          go_roundw
          case rel => exact ⟨j + 1, by omega, by go_num, trivial⟩
          case measure => simp [intOf]; omega
        · obtain rfl : j = ix := by omega
          clear hjx hj
          by_cases hin : j < r.length
          · have hm : (10 : UInt8) ∈ r := List.idxOf_lt_length_iff.1 (by rw [Hix.out]; exact hin)
            have hps : p + j < s.size := by omega
            have hbs : s[p + j] = 10 := by
              have hb := idx_at (r := r) (c := 10) (by rw [Hix.out]; exact hin)
              rw [Hix.out, ← HK.out.2.2, List.getElem?_drop, List.getElem?_eq_getElem (by rw [← HSz.out]; exact hps)] at hb
              exact Option.some.inj hb
            have q1 := fun V => run_str_indexZ s (p + j) ((p : Int) + j) (by omega) hps V
            rw [hbs] at q1
            clear hbs
            have HN := Lib.hid (lnK_go HK.out.1 hm)
            rw [ct_yes hm, Hix.out] at HN
            have hpj : (p : Int) + j < s.size := by omega
            have hpj2 : ((p : Int) + j == s.size) = false := beq_false_of_ne (by omega)
            have hpj3 : (p : Int) ≤ (p : Int) + j := by omega
            have hex := ext_seg s r p j HK.out.2.2
            have hcell := (HS.out.at_ (l1 := [])).cell k
            rw [← HK.out.2.1, lnA_next ls (by rw [HK.out.2.1]; omega), HK.out.2.1] at hcell
            have hfr := (HS.out.at_ (l1 := [])).frozen k
            have hblt := (HS.out.at_ (l1 := [])).lt
            have S1 := HS.out.set (l1 := []) k (.string ⟨(r.take j).toArray⟩)
            have hls := lnA_set ls (r.take j) (by rw [HK.out.2.1]; exact hlt)
            rw [HK.out.2.1] at hls
            rw [hls] at S1
            have S1 := Lib.hid S1
            clear hls
            have Hps := Lib.hid hps
            clear hps
            go_wp2
            go_roundw
            case rel =>
              exact ⟨k + 1, p + j + 1, ls ++ [r.take j], r.drop (j + 1), by omega, by go_num, by go_num, Lib.hid ⟨HN.out, by rw [List.length_append, HK.out.2.1]; rfl, by rw [← HK.out.2.2, List.drop_drop]; rfl⟩, by rw [List.length_drop]; omega, S1.out⟩
            case measure => simp [intOf]; omega
          · have hm : (10 : UInt8) ∉ r := fun h => hin (by rw [← Hix.out]; exact idx_lt h)
            have HR : Hid (PT s.data.toList = none) := Lib.hid (PT_none (ln3_none (k := k + 1) (by omega) (lnK_stop HK.out.1 hm)))
            have HP := Lib.hid (PVs_none HR.out)
            have hpj : ¬ (p : Int) + j < s.size := by omega
            have hpj2 : ((p : Int) + j == s.size) = true := by rw [show (p : Int) + j = s.size from by omega]; exact beq_self_eq_true _
            clear hm
            go_wp2_with (refine wpList_store_blk rfl 25 (.tmp 2) (.tmp 35) rfl g2 rfl zeroP rfl 25 _ (HS.out.at_ (l1 := [_])) (by rw [HZ.out]; exact Tryd.infoPointP) rfl HZO.out ?_; intro w4 b4 k4; have S4 := Lib.hid (Held.setBlk (l1 := [_]) HS.out b4 k4); clear b4 k4)
            try rw [Exit.noGoto_ret]
            refine bodyPost_ret (results_cell_tmp2P (by rfl) rfl (S4.out.at_ (l1 := [_])) Tryd.underlying25 rfl (by rw [HZ.out]; exact Tryd.infoPointP)) rfl ?_
            exact ⟨by rw [HP.out.1, HP.out.2]; rfl, S4.out.k⟩
    · obtain rfl : k = 3 := by omega
      clear hk hlt
      obtain ⟨l0, l1, l, rfl⟩ : ∃ l0 l1 l, ls = [l0, l1, l] := by
        match ls, HK.out.2.1 with
        | [a, b, c], _ => exact ⟨a, b, c, rfl⟩
      have HL3 : Hid (ln3 s.data.toList = some (l0, l1, l, r)) := Lib.hid (by rw [ln3_of, HK.out.1])
      go_wp2_with fail
      have hcell := (HS.out.at_ (l1 := [])).cell 1
      rw [lnA_get [l0, l1, l] 1 (Nat.le_of_ble_eq_true rfl)] at hcell
      simp only [List.getElem_cons_succ, List.getElem_cons_zero] at hcell
      go_loopw [9, 10] (fun n i wi => ∃ j : Nat, j ≤ l1.length ∧ j ≤ 19 ∧ n = .int .i64 ((l1.take j).foldl rvS 0) ∧ i = .int .i64 j ∧ wi = wr) (fun _ i _ => 19 - (intOf i).toNat)
      case atStart => exact ⟨0, by omega, by omega, rfl, rfl, rfl⟩
      case round =>
        obtain ⟨j, hj1, hj2, rfl, rfl, rfl⟩ := hrel
        by_cases h12 : j < l1.length ∧ j < 19
        · obtain ⟨h1, h2⟩ := h12
          · have q1 := fun V => run_str_indexZ ⟨l1.toArray⟩ j (j : Int) rfl (by rw [Lib.size_eq]; exact h1) V
            obtain ⟨c, hc⟩ : ∃ c, l1[j]? = some c := ⟨l1[j], List.getElem?_eq_getElem h1⟩
            have hc2 : (⟨l1.toArray⟩ : ByteArray)[j]'(by rw [Lib.size_eq]; exact h1) = c := by
              have := List.getElem?_eq_getElem h1
              rw [hc] at this
              exact (Option.some.inj this).symm
            rw [hc2] at q1
            clear hc2
            have HF : Hid ((l1.take (j + 1)).foldl rvS 0 = rvS ((l1.take j).foldl rvS 0) c) := Lib.hid (by rw [List.take_add_one, hc, List.foldl_append]; rfl)
            obtain ⟨n, Hn⟩ : ∃ n, Hid ((l1.take j).foldl rvS 0 = n) := ⟨_, Lib.hid rfl⟩
            rw [Hn.out] at HF ⊢
            clear hc
            go_wp2
            go_roundw
            case rel => exact ⟨j + 1, by omega, by omega, by rw [HF.out]; unfold rvS; congr 1; unfold wrap64; omega, by go_num, trivial⟩
            case measure => simp [intOf]; omega
        · have HV : Hid ((l1.take j).foldl rvS 0 = rv l1) := Lib.hid (by
            unfold rv
            congr 1
            by_cases e : j < l1.length
            · rw [show j = 19 from by omega]
            · rw [List.take_of_length_le (by omega), List.take_of_length_le (by omega)])
          have hzb := rv_bounds l1
          have HPT := Lib.hid (PT_by HL3.out (rv l1) hzb (fun n hn e => by rw [e]; exact rv_dec hn))
          obtain ⟨z, Hz⟩ : ∃ z, Hid (rv l1 = z) := ⟨_, Lib.hid rfl⟩
          rw [Hz.out] at hzb HPT HV
          rw [HV.out]
          have hz1' := hzb.1
          have hz2' := hzb.2
          have hcell2 := (HS.out.at_ (l1 := [])).cell 2
          rw [lnA_get [l0, l1, l] 2 (Nat.le_of_ble_eq_true rfl)] at hcell2
          simp only [List.getElem_cons_succ, List.getElem_cons_zero] at hcell2
          have hor : (¬ j < l1.length) ∨ (j < l1.length ∧ ¬ j < 19) := by omega
          clear h12
          rcases hor with h1 | ⟨h1, h2⟩
          all_goals
            go_wp2_with fail
            refine (runhex_any ⟨l.toArray⟩ _).mono ?_
            rintro e w3 ⟨rfl, k3⟩
            rw [show (⟨l.toArray⟩ : ByteArray).data.toList = l from rfl]
            have hulen := UH_len l
            obtain ⟨hh, Hhh⟩ : ∃ hh, Hid ((UH l).1 = hh) := ⟨_, Lib.hid rfl⟩
            rw [Hhh.out] at hulen HPT ⊢
            have Hul := Lib.hid hulen
            have Hha : Hid ((hashA hh).size = 32) := Lib.hid (by rw [hashA_size, hulen])
            have Hho := Lib.hid (hashA_one hh)
            have HPsz := Lib.hid (ptA_size (s := z) Hul.out)
            clear hulen
            have S6 := Lib.hid (HS.out.kp k3)
            clear k3 hcell hcell2
            go_wp2_with (first
              | (refine wpList_store_blk rfl 23 (.tmp 11) (.tmp 68) rfl w3.heap.size rfl (hashA hh) rfl 23 _ (Blk.new w3 23 _) (by rw [Hha.out]; exact Tryd.infoHashP) (by rw [Hha.out]; rfl) Hho.out ?_; intro w4 b4 k4; have S7 := Lib.hid (Held.setBlk (l1 := []) (S6.out.newBlk 23 _) b4 k4); clear b4 k4)
              | (refine wpList_load_blk rfl 23 (.tmp 11) rfl w3.heap.size rfl 23 _ (S7.out.at_ (l1 := [])) _ Tryd.underlying23 rfl (by rw [Hha.out]; exact Tryd.infoHashP) ?_)
              | (refine wpList_build2 rfl 25 (.tmp 70) (.tmp 71) rfl (.int .i64 z) (.agg (hashA hh)) (by kernel_rfl) (by kernel_rfl) _ (Tryd.built_pt z hh Hul.out) ?_)
              | (refine wpList_store_blk rfl 25 (.tmp 13) (.tmp 72) rfl w4.heap.size rfl (ptA z hh) (by kernel_rfl) 25 _ (Blk.new w4 25 _) (by rw [HPsz.out]; exact Tryd.infoPointP) (by rw [HPsz.out]; rfl) (ptA_one z hh) ?_; intro w5 b5 k5; have S8 := Lib.hid (Held.setBlk (l1 := []) (S7.out.newBlk 25 _) b5 k5); clear b5 k5))
            have hform := (ln3_form HL3.out).1
            have hlen := congrArg List.length hform
            rw [← HSz.out] at hlen
            simp only [List.length_append, List.length_cons] at hlen
            have hpq : (p : Int) ≤ s.size := by omega
            have hext := ext_take s p
            have hpre : s.data.toList.take p = l0 ++ 10 :: (l1 ++ 10 :: (l ++ [10])) := by
              rw [hform, show l0 ++ 10 :: (l1 ++ 10 :: (l ++ 10 :: r)) = (l0 ++ 10 :: (l1 ++ 10 :: (l ++ [10]))) ++ r from by simp]
              rw [List.take_append_of_le_length (by simp; omega), List.take_of_length_le (by simp; omega)]
            rw [hpre] at hext
            obtain ⟨pre, Hpre⟩ : ∃ pre, Hid (l0 ++ 10 :: (l1 ++ 10 :: (l ++ [10])) = pre) := ⟨_, Lib.hid rfl⟩
            rw [Hpre.out] at hext HPT
            have Hlen := Lib.hid hlen
            clear hpre hform hlen
            generalize hg13 : w4.heap.size = g13 at *
            clear hg13
            have S9 : Hid (Held w w5 [blkR g13 25 (ptA z hh), blkR g2 25 zeroP]) := Lib.hid (S8.out.sub (.cons_cons _ (.cons _ (.cons _ (List.Sublist.refl _)))))
            clear S6 S7 S8 HS
            by_cases hz0 : z < 0
            · skip
              -- SEP rparseB
              refine wp_region_invG (fun i v W => match i with | 0 => v = .int .i64 z | 1 => v = .bool true | 2 => v = .bool true | 9 => v = .bool true | _ => True) (by kernel_rfl) (by kernel_rfl) (by kernel_rfl) ?_ ?_ ?_
              · intro i v W W' h _
                iterate 10 (rcases i with _ | i; · exact h)
                exact h
              · refine ⟨?_, ?_, ?_, ?_, ?_, ?_, ?_, ?_, ?_, ?_, trivial⟩
                · intro vs A' W hA hW hd K hK
                  refine wpOp_free _ rfl rfl ?_
                  have e9 : A'.tmps[9]?.getD undef = .int .i64 z := slot_is hA (by kernel_rfl) (Nat.le_of_ble_eq_true (by kernel_rfl)) (by kernel_rfl)
                  go_step
                  exact hK _ _ (Kp.refl _ _) rfl
                · intro vs A' W hA hW hd K hK
                  refine wpOp_free _ rfl rfl ?_
                  have f0 : vs 0 = .int .i64 z := hd 0 (by kernel_rfl)
                  have e73 : A'.tmps[73]?.getD undef = vs 0 := slot_is hA (by kernel_rfl) (Nat.le_of_ble_eq_true (by kernel_rfl)) (by kernel_rfl)
                  rw [f0] at e73
                  have q : decide (z < 0) = true := decide_eq_true hz0
                  go_step
                  exact hK _ _ (Kp.refl _ _) rfl
                · intro vs A' W hA hW hd K hK
                  refine wpOp_free _ rfl rfl ?_
                  have f1 : vs 1 = .bool true := hd 1 (by kernel_rfl)
                  have e74 : A'.tmps[74]?.getD undef = vs 1 := slot_is hA (by kernel_rfl) (Nat.le_of_ble_eq_true (by kernel_rfl)) (by kernel_rfl)
                  rw [f1] at e74
                  go_step
                  exact hK _ _ (Kp.refl _ _) rfl
                · intro vs A' W hA hW hd K hK
                  have f2 : vs 2 = .bool true := hd 2 (by kernel_rfl)
                  have e75 : A'.tmps[75]?.getD undef = vs 2 := slot_is hA (by kernel_rfl) (Nat.le_of_ble_eq_true (by kernel_rfl)) (by kernel_rfl)
                  rw [f2] at e75
                  refine wpOp_skip _ rfl 2 75 false rfl rfl e75 ?_
                  exact hK _ _ (Kp.refl _ _) trivial
                · intro vs A' W hA hW hd K hK
                  have f2 : vs 2 = .bool true := hd 2 (by kernel_rfl)
                  have e75 : A'.tmps[75]?.getD undef = vs 2 := slot_is hA (by kernel_rfl) (Nat.le_of_ble_eq_true (by kernel_rfl)) (by kernel_rfl)
                  rw [f2] at e75
                  refine wpOp_skip _ rfl 2 75 false rfl rfl e75 ?_
                  exact hK _ _ (Kp.refl _ _) trivial
                · intro vs A' W hA hW hd K hK
                  have f2 : vs 2 = .bool true := hd 2 (by kernel_rfl)
                  have e75 : A'.tmps[75]?.getD undef = vs 2 := slot_is hA (by kernel_rfl) (Nat.le_of_ble_eq_true (by kernel_rfl)) (by kernel_rfl)
                  rw [f2] at e75
                  refine wpOp_skip _ rfl 2 75 false rfl rfl e75 ?_
                  exact hK _ _ (Kp.refl _ _) trivial
                · intro vs A' W hA hW hd K hK
                  have f2 : vs 2 = .bool true := hd 2 (by kernel_rfl)
                  have e75 : A'.tmps[75]?.getD undef = vs 2 := slot_is hA (by kernel_rfl) (Nat.le_of_ble_eq_true (by kernel_rfl)) (by kernel_rfl)
                  rw [f2] at e75
                  refine wpOp_skip _ rfl 2 75 false rfl rfl e75 ?_
                  exact hK _ _ (Kp.refl _ _) trivial
                · intro vs A' W hA hW hd K hK
                  have f2 : vs 2 = .bool true := hd 2 (by kernel_rfl)
                  have e75 : A'.tmps[75]?.getD undef = vs 2 := slot_is hA (by kernel_rfl) (Nat.le_of_ble_eq_true (by kernel_rfl)) (by kernel_rfl)
                  rw [f2] at e75
                  refine wpOp_skip _ rfl 2 75 false rfl rfl e75 ?_
                  exact hK _ _ (Kp.refl _ _) trivial
                · intro vs A' W hA hW hd K hK
                  have f2 : vs 2 = .bool true := hd 2 (by kernel_rfl)
                  have e75 : A'.tmps[75]?.getD undef = vs 2 := slot_is hA (by kernel_rfl) (Nat.le_of_ble_eq_true (by kernel_rfl)) (by kernel_rfl)
                  rw [f2] at e75
                  refine wpOp_skip _ rfl 2 75 false rfl rfl e75 ?_
                  exact hK _ _ (Kp.refl _ _) trivial
                · intro vs A' W hA hW hd K hK
                  refine wpOp_free _ rfl rfl ?_
                  have f2 : vs 2 = .bool true := hd 2 (by kernel_rfl)
                  have e75 : A'.tmps[75]?.getD undef = vs 2 := slot_is hA (by kernel_rfl) (Nat.le_of_ble_eq_true (by kernel_rfl)) (by kernel_rfl)
                  rw [f2] at e75
                  have e81 : A'.tmps[81]?.getD undef = vs 8 := slot_is hA (by kernel_rfl) (Nat.le_of_ble_eq_true (by kernel_rfl)) (by kernel_rfl)
                  go_step
                  exact hK _ _ (Kp.refl _ _) rfl
              · intro vs W hW hp
                have p9 : vs 9 = .bool true := hp 9 (Nat.le_of_ble_eq_true rfl)
                clear hp
                have S10 := Lib.hid (S9.out.kp ((Kp.refl [] _).drew.trans hW (by simp)))
                simp only [putAll, p9, Act.put, List.setIfInBounds_toArray, List.set_cons_succ, List.set_cons_zero]
                clear p9 hW S9
              -- END rparseB
                have HPV := Lib.hid (PVs_none (s := s.data.toList) (by rw [HPT.out, if_neg (fun h => by omega)]))
                go_wp2_with (refine wpList_store_blk rfl 25 (.tmp 2) (.tmp 83) rfl g2 rfl zeroP (by kernel_rfl) 25 _ (S10.out.at_ (l1 := [_])) (by rw [HZ.out]; exact Tryd.infoPointP) rfl HZO.out ?_; intro w4 b4 k4; have S12 := Lib.hid (Held.setBlk (l1 := [_]) S10.out b4 k4); clear b4 k4)
                try rw [Exit.noGoto_ret]
                refine bodyPost_ret (results_cell_tmp2P (by rfl) rfl (S12.out.at_ (l1 := [_])) Tryd.underlying25 rfl (by rw [HZ.out]; exact Tryd.infoPointP)) rfl ?_
                exact ⟨by rw [HPV.out.1, HPV.out.2]; rfl, S12.out.k⟩
            · obtain ⟨n, rfl⟩ : ∃ n : Nat, z = n := ⟨z.toNat, by omega⟩
              have hn : n < 9223372036854775808 := by omega
              obtain ⟨tl, Htl⟩ : ∃ tl, Hid (told n hh = tl) := ⟨_, Lib.hid rfl⟩
              rw [show ((n : Int)).toNat = n from rfl, Htl.out] at HPT
              obtain ⟨bb, Hbb⟩ : ∃ bb, Hid ((!(tl == pre)) = bb) := ⟨_, Lib.hid rfl⟩
              -- SEP rparseA
              refine wp_region_invG (fun i v W => match i with | 0 => v = .int .i64 (n : Int) | 1 => v = .bool false | 2 => v = .bool false | 3 => v = .agg (ptA (n : Int) hh) | 4 => v = .string ⟨tl.toArray⟩ | 5 => v = .string s | 6 => v = .int .i64 (p : Int) | 7 => v = .string ⟨pre.toArray⟩ | 8 => v = .bool bb | 9 => v = .bool bb | _ => True) (by kernel_rfl) (by kernel_rfl) (by kernel_rfl) ?_ ?_ ?_
              · intro i v W W' h _
                iterate 10 (rcases i with _ | i; · exact h)
                exact h
              · refine ⟨?_, ?_, ?_, ?_, ?_, ?_, ?_, ?_, ?_, ?_, trivial⟩
                · intro vs A' W hA hW hd K hK
                  refine wpOp_free _ rfl rfl ?_
                  have e9 : A'.tmps[9]?.getD undef = .int .i64 (n : Int) := slot_is hA (by kernel_rfl) (Nat.le_of_ble_eq_true (by kernel_rfl)) (by kernel_rfl)
                  go_step
                  exact hK _ _ (Kp.refl _ _) rfl
                · intro vs A' W hA hW hd K hK
                  refine wpOp_free _ rfl rfl ?_
                  have f0 : vs 0 = .int .i64 (n : Int) := hd 0 (by kernel_rfl)
                  have e73 : A'.tmps[73]?.getD undef = vs 0 := slot_is hA (by kernel_rfl) (Nat.le_of_ble_eq_true (by kernel_rfl)) (by kernel_rfl)
                  rw [f0] at e73
                  have q : decide ((n : Int) < 0) = false := decide_eq_false (by omega)
                  go_step
                  exact hK _ _ (Kp.refl _ _) rfl
                · intro vs A' W hA hW hd K hK
                  refine wpOp_free _ rfl rfl ?_
                  have f1 : vs 1 = .bool false := hd 1 (by kernel_rfl)
                  have e74 : A'.tmps[74]?.getD undef = vs 1 := slot_is hA (by kernel_rfl) (Nat.le_of_ble_eq_true (by kernel_rfl)) (by kernel_rfl)
                  rw [f1] at e74
                  go_step
                  exact hK _ _ (Kp.refl _ _) rfl
                · intro vs A' W hA hW hd K hK
                  have f2 : vs 2 = .bool false := hd 2 (by kernel_rfl)
                  have e75 : A'.tmps[75]?.getD undef = vs 2 := slot_is hA (by kernel_rfl) (Nat.le_of_ble_eq_true (by kernel_rfl)) (by kernel_rfl)
                  rw [f2] at e75
                  refine wpOp_go _ rfl 2 75 false rfl rfl e75 ?_
                  have e13 : A'.tmps[13]?.getD undef = .pointer (some ⟨g13, 0, none⟩) := slot_is hA (by kernel_rfl) (Nat.le_of_ble_eq_true (by kernel_rfl)) (by kernel_rfl)
                  refine op_runs (v := .agg (ptA (n : Int) hh)) (w' := W) (exec_load rfl (by simpa [Act.eval] using e13) (run_pt_load (Blk.kp (S9.out.at_ (l1 := [])).drew hW (by simp)) Hul.out)) ?_
                  exact hK _ _ (Kp.refl _ _) rfl
                · intro vs A' W hA hW hd K hK
                  have f2 : vs 2 = .bool false := hd 2 (by kernel_rfl)
                  have e75 : A'.tmps[75]?.getD undef = vs 2 := slot_is hA (by kernel_rfl) (Nat.le_of_ble_eq_true (by kernel_rfl)) (by kernel_rfl)
                  rw [f2] at e75
                  refine wpOp_go _ rfl 2 75 false rfl rfl e75 ?_
                  have f3 : vs 3 = .agg (ptA (n : Int) hh) := hd 3 (by kernel_rfl)
                  have e76 : A'.tmps[76]?.getD undef = vs 3 := slot_is hA (by kernel_rfl) (Nat.le_of_ble_eq_true (by kernel_rfl)) (by kernel_rfl)
                  rw [f3] at e76
                  go_step
                  refine (rtold_any n hn hh Hul.out W).mono ?_
                  rintro e W' ⟨rfl, k'⟩
                  rw [Htl.out]
                  exact hK _ _ k' rfl
                · intro vs A' W hA hW hd K hK
                  have f2 : vs 2 = .bool false := hd 2 (by kernel_rfl)
                  have e75 : A'.tmps[75]?.getD undef = vs 2 := slot_is hA (by kernel_rfl) (Nat.le_of_ble_eq_true (by kernel_rfl)) (by kernel_rfl)
                  rw [f2] at e75
                  refine wpOp_go _ rfl 2 75 false rfl rfl e75 ?_
                  have e0 : A'.tmps[0]?.getD undef = .string s := slot_is hA (by kernel_rfl) (Nat.le_of_ble_eq_true (by kernel_rfl)) (by kernel_rfl)
                  go_step
                  exact hK _ _ (Kp.refl _ _) rfl
                · intro vs A' W hA hW hd K hK
                  have f2 : vs 2 = .bool false := hd 2 (by kernel_rfl)
                  have e75 : A'.tmps[75]?.getD undef = vs 2 := slot_is hA (by kernel_rfl) (Nat.le_of_ble_eq_true (by kernel_rfl)) (by kernel_rfl)
                  rw [f2] at e75
                  refine wpOp_go _ rfl 2 75 false rfl rfl e75 ?_
                  have e6 : A'.tmps[6]?.getD undef = .int .i64 (p : Int) := slot_is hA (by kernel_rfl) (Nat.le_of_ble_eq_true (by kernel_rfl)) (by kernel_rfl)
                  go_step
                  exact hK _ _ (Kp.refl _ _) rfl
                · intro vs A' W hA hW hd K hK
                  have f2 : vs 2 = .bool false := hd 2 (by kernel_rfl)
                  have e75 : A'.tmps[75]?.getD undef = vs 2 := slot_is hA (by kernel_rfl) (Nat.le_of_ble_eq_true (by kernel_rfl)) (by kernel_rfl)
                  rw [f2] at e75
                  refine wpOp_go _ rfl 2 75 false rfl rfl e75 ?_
                  have f5 : vs 5 = .string s := hd 5 (by kernel_rfl)
                  have e78 : A'.tmps[78]?.getD undef = vs 5 := slot_is hA (by kernel_rfl) (Nat.le_of_ble_eq_true (by kernel_rfl)) (by kernel_rfl)
                  rw [f5] at e78
                  have f6 : vs 6 = .int .i64 (p : Int) := hd 6 (by kernel_rfl)
                  have e79 : A'.tmps[79]?.getD undef = vs 6 := slot_is hA (by kernel_rfl) (Nat.le_of_ble_eq_true (by kernel_rfl)) (by kernel_rfl)
                  rw [f6] at e79
                  go_step
                  exact hK _ _ (Kp.refl _ _) rfl
                · intro vs A' W hA hW hd K hK
                  have f2 : vs 2 = .bool false := hd 2 (by kernel_rfl)
                  have e75 : A'.tmps[75]?.getD undef = vs 2 := slot_is hA (by kernel_rfl) (Nat.le_of_ble_eq_true (by kernel_rfl)) (by kernel_rfl)
                  rw [f2] at e75
                  refine wpOp_go _ rfl 2 75 false rfl rfl e75 ?_
                  have f4 : vs 4 = .string ⟨tl.toArray⟩ := hd 4 (by kernel_rfl)
                  have e77 : A'.tmps[77]?.getD undef = vs 4 := slot_is hA (by kernel_rfl) (Nat.le_of_ble_eq_true (by kernel_rfl)) (by kernel_rfl)
                  rw [f4] at e77
                  have f7 : vs 7 = .string ⟨pre.toArray⟩ := hd 7 (by kernel_rfl)
                  have e80 : A'.tmps[80]?.getD undef = vs 7 := slot_is hA (by kernel_rfl) (Nat.le_of_ble_eq_true (by kernel_rfl)) (by kernel_rfl)
                  rw [f7] at e80
                  go_step
                  exact hK _ _ (Kp.refl _ _) (congrArg Value.bool Hbb.out)
                · intro vs A' W hA hW hd K hK
                  refine wpOp_free _ rfl rfl ?_
                  have f2 : vs 2 = .bool false := hd 2 (by kernel_rfl)
                  have e75 : A'.tmps[75]?.getD undef = vs 2 := slot_is hA (by kernel_rfl) (Nat.le_of_ble_eq_true (by kernel_rfl)) (by kernel_rfl)
                  rw [f2] at e75
                  have f8 : vs 8 = .bool bb := hd 8 (by kernel_rfl)
                  have e81 : A'.tmps[81]?.getD undef = vs 8 := slot_is hA (by kernel_rfl) (Nat.le_of_ble_eq_true (by kernel_rfl)) (by kernel_rfl)
                  rw [f8] at e81
                  go_step
                  exact hK _ _ (Kp.refl _ _) rfl
              · intro vs W hW hp
                have p9 : vs 9 = .bool bb := hp 9 (Nat.le_of_ble_eq_true rfl)
                clear hp
                have S10 := Lib.hid (S9.out.kp ((Kp.refl [] _).drew.trans hW (by simp)))
                simp only [putAll, p9, Act.put, List.setIfInBounds_toArray, List.set_cons_succ, List.set_cons_zero]
                clear p9 hW S9
              -- END rparseA
                by_cases hq : tl = pre
                · have HPV := Lib.hid (PVs_some (s := s.data.toList) (by rw [HPT.out, if_pos ⟨by omega, hq⟩]))
                  obtain rfl : bb = false := by rw [← Hbb.out, hq, beq_self_eq_true pre]; rfl
                  have hext2 := ext_drop s p
                  rw [HK.out.2.2] at hext2
                  clear hq
                  go_wp2_with fail
                  -- SEP rparseC
                  refine wp_region_sep (Γ := Unit) 2 [0, 1, 2, 3, 4, 5, 6, 7]
                    (fun i vs gs => match i with | 0 => vs 0 = .agg (ptA (n : Int) hh) | 1 => vs 1 = .string s | 2 => vs 2 = .int .i64 (p : Int) | 3 => vs 3 = .string ⟨r.toArray⟩ | 5 => vs 5 = .string ⟨r.toArray⟩ | 6 => vs 6 = .int .i64 0 | _ => True)
                    (fun i vs gs => match i with | 4 => [blkR g2 25 (ptA (n : Int) hh)] | 7 => [blkR g13 25 (ptA (n : Int) hh)] | 8 => [blkR g2 25 zeroP] | _ => [])
                    (fun i => match i with | 4 => [8] | _ => []) (fun i => match i with | 0 => [7] | _ => []) S10.out (by kernel_rfl) (by kernel_rfl) (by kernel_rfl) (by kernel_rfl) (fun i => match i with | 0 => [0] | 1 => [1] | 2 => [2] | 3 => [3] | 5 => [5] | 6 => [6] | _ => []) (by kernel_rfl) ?_ (by kernel_rfl) ?_ ?_ ?_
                  · intro s vs vs' gs gs' h
                    iterate 9 (rcases s with _ | s; · (first | exact ⟨rfl, id⟩ | (simp only [List.mem_cons, List.not_mem_nil, or_false, forall_eq] at h; simp [h])))
                    exact ⟨rfl, id⟩
                  · simp only [List.range, List.range.loop, List.flatMap_cons, List.flatMap_nil, List.append_nil]
                    exact List.Perm.refl _
                  · refine ⟨?_, ?_, ?_, ?_, ?_, ?_, ?_, trivial⟩
                    · intro vs gs A' W LF hA S hR hd hu K hK
                      replace hK := hK default
                      have e13 : A'.tmps[13]?.getD undef = .pointer (some ⟨g13, 0, none⟩) := slot_is hA (by kernel_rfl) (Nat.le_of_ble_eq_true (by kernel_rfl)) (by kernel_rfl)
                      refine op_runs (v := .agg (ptA (n : Int) hh)) (w' := W) (exec_load rfl (by simpa [Act.eval] using e13) (run_pt_load (S.ok (blkR g13 25 (ptA (n : Int) hh)) (hR 7 (List.mem_singleton.2 rfl) _ (List.mem_singleton.2 rfl))) Hul.out)) ?_
                      exact hK _ _ S rfl
                    · intro vs gs A' W LF hA S hR hd hu K hK
                      replace hK := hK default
                      have e0 : A'.tmps[0]?.getD undef = .string s := slot_is hA (by kernel_rfl) (Nat.le_of_ble_eq_true (by kernel_rfl)) (by kernel_rfl)
                      go_step
                      exact hK _ _ S rfl
                    · intro vs gs A' W LF hA S hR hd hu K hK
                      replace hK := hK default
                      have e6 : A'.tmps[6]?.getD undef = .int .i64 (p : Int) := slot_is hA (by kernel_rfl) (Nat.le_of_ble_eq_true (by kernel_rfl)) (by kernel_rfl)
                      go_step
                      exact hK _ _ S rfl
                    · intro vs gs A' W LF hA S hR hd hu K hK
                      replace hK := hK default
                      have f1 : vs 1 = .string s := hd 1 (by kernel_rfl)
                      have e85 : A'.tmps[85]?.getD undef = vs 1 := slot_is hA (by kernel_rfl) (Nat.le_of_ble_eq_true (by kernel_rfl)) (by kernel_rfl)
                      rw [f1] at e85
                      have f2 : vs 2 = .int .i64 (p : Int) := hd 2 (by kernel_rfl)
                      have e86 : A'.tmps[86]?.getD undef = vs 2 := slot_is hA (by kernel_rfl) (Nat.le_of_ble_eq_true (by kernel_rfl)) (by kernel_rfl)
                      rw [f2] at e86
                      go_step
                      exact hK _ _ S rfl
                    · intro vs gs A' W LF hA S hR hd hu K hK
                      replace hK := hK default
                      have e2 : A'.tmps[2]?.getD undef = .pointer (some ⟨g2, 0, none⟩) := slot_is hA (by kernel_rfl) (Nat.le_of_ble_eq_true (by kernel_rfl)) (by kernel_rfl)
                      have f0 : vs 0 = .agg (ptA (n : Int) hh) := hd 0 (by kernel_rfl)
                      have e84 : A'.tmps[84]?.getD undef = vs 0 := slot_is hA (by kernel_rfl) (Nat.le_of_ble_eq_true (by kernel_rfl)) (by kernel_rfl)
                      rw [f0] at e84
                      have S1 : Held w W (blkR g2 25 zeroP :: LF) := S
                      exact op_store_part (.tmp 2) (.tmp 84) 25 rfl g2 0 (by simpa [Act.eval] using e2) (ptA (n : Int) hh) (by simpa [Act.eval] using e84) 25 _ (S1.at_ (l1 := [])) (by rw [HPsz.out]; exact Tryd.infoPointP) (by rw [HPsz.out, HZ.out]; exact Nat.le_refl _) (ptA_one _ hh) (fun w' hb k => hK undef _ (Held.setBlk (l1 := []) S1 (by rw [set_all _ _ (by rw [HPsz.out, HZ.out])] at hb; exact hb) k) trivial)
                    · intro vs gs A' W LF hA S hR hd hu K hK
                      replace hK := hK default
                      have f3 : vs 3 = .string ⟨r.toArray⟩ := hd 3 (by kernel_rfl)
                      have e87 : A'.tmps[87]?.getD undef = vs 3 := slot_is hA (by kernel_rfl) (Nat.le_of_ble_eq_true (by kernel_rfl)) (by kernel_rfl)
                      rw [f3] at e87
                      go_step
                      exact hK _ _ S rfl
                    · intro vs gs A' W LF hA S hR hd hu K hK
                      replace hK := hK default
                      go_step
                      exact hK _ _ S rfl
                  · intro vs gs W S hp
                    have S : Held w W (blkR g2 25 (ptA (n : Int) hh) :: blkR g13 25 (ptA (n : Int) hh) :: []) := by simpa only [List.flatMap_cons, List.flatMap_nil, List.append_nil, List.nil_append, List.cons_append, List.append_assoc] using S
                    have p0 : vs 0 = .agg (ptA (n : Int) hh) := hp 0 (Nat.le_of_ble_eq_true rfl)
                    have p1 : vs 1 = .string s := hp 1 (Nat.le_of_ble_eq_true rfl)
                    have p2 : vs 2 = .int .i64 (p : Int) := hp 2 (Nat.le_of_ble_eq_true rfl)
                    have p3 : vs 3 = .string ⟨r.toArray⟩ := hp 3 (Nat.le_of_ble_eq_true rfl)
                    have p5 : vs 5 = .string ⟨r.toArray⟩ := hp 5 (Nat.le_of_ble_eq_true rfl)
                    have p6 : vs 6 = .int .i64 0 := hp 6 (Nat.le_of_ble_eq_true rfl)
                    clear hp
                    have S11 := Lib.hid S
                    clear S S10
                    simp only [putAll, p0, p1, p2, p3, p5, p6, Act.put, List.setIfInBounds_toArray, List.set_cons_succ, List.set_cons_zero]
                    clear p0 p1 p2 p3 p5 p6
                  -- END rparseC
                    go_wp2_with fail
                    try rw [Exit.noGoto_ret]
                    refine bodyPost_ret (results_cell_tmp2P (by rfl) rfl (S11.out.at_ (l1 := [])) Tryd.underlying25 rfl (by rw [HPsz.out]; exact Tryd.infoPointP)) rfl ?_
                    refine ⟨?_, S11.out.k⟩
                    rw [HPV.out.1, HPV.out.2]
                    rfl
                · have HPV := Lib.hid (PVs_none (s := s.data.toList) (by rw [HPT.out, if_neg (fun h => hq h.2)]))
                  obtain rfl : bb = true := by rw [← Hbb.out, beq_false_of_ne hq]; rfl
                  go_wp2_with (refine wpList_store_blk rfl 25 (.tmp 2) (.tmp 83) rfl g2 rfl zeroP (by kernel_rfl) 25 _ (S10.out.at_ (l1 := [_])) (by rw [HZ.out]; exact Tryd.infoPointP) rfl HZO.out ?_; intro w4 b4 k4; have S12 := Lib.hid (Held.setBlk (l1 := [_]) S10.out b4 k4); clear b4 k4)
                  try rw [Exit.noGoto_ret]
                  refine bodyPost_ret (results_cell_tmp2P (by rfl) rfl (S12.out.at_ (l1 := [_])) Tryd.underlying25 rfl (by rw [HZ.out]; exact Tryd.infoPointP)) rfl ?_
                  exact ⟨by rw [HPV.out.1, HPV.out.2]; rfl, S12.out.k⟩
end Go.Proofs.YtolfckhjfadhdaaDoor
