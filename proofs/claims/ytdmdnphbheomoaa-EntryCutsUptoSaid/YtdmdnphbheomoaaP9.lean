/- Several texts in one: EntZ, EntCuts. -/
import Derived.Test.YtdmdnphbheomoaaP8
/- The reference's Cut and Fits of layer 15. -/
namespace Go.Proofs.Ytdmdnphbheomoaa
open Go.RowKit
theorem take_drop_snoc {L : List (List UInt8)} {k s : Nat} (hk : k < L.length) (hs : s ≤ k) : (L.take (k + 1)).drop s = (L.take k).drop s ++ [L[k]] := by
  rw [List.take_succ_eq_append_getElem hk, List.drop_append_of_le_length (by simp; omega)]
def RCut (f : Int) (s : Nat) (L : List (List UInt8)) (k : Nat) (F : Int) (M : List (List UInt8)) : Prop := F = (if k ≤ s then 0 else f + (s : Int)) ∧ M = (L.take k).drop s
theorem RCut.len {f : Int} {s : Nat} {L : List (List UInt8)} {k : Nat} {F : Int} {M : List (List UInt8)} (h : RCut f s L k F M) (hk : k ≤ L.length) : M.length = k - s := by
  rw [h.2, List.length_drop, List.length_take]; omega
theorem RCut.skip {f : Int} {s : Nat} {L : List (List UInt8)} {k : Nat} {F : Int} {M : List (List UInt8)} (h : RCut f s L k F M) (hk : k < s) : RCut f s L (k + 1) F M := by
  refine ⟨by rw [h.1, if_pos (by omega), if_pos (by omega)], ?_⟩
  rw [h.2, List.drop_eq_nil_of_le (by simp; omega), List.drop_eq_nil_of_le (by simp; omega)]
theorem RCut.next {f : Int} {s : Nat} {L : List (List UInt8)} {k : Nat} {F : Int} {M : List (List UInt8)} {x : List UInt8} (h : RCut f s L k F M) (hk : k < L.length) (hs : s ≤ k) (hx : L[k]? = some x) : RCut f s L (k + 1) (f + (s : Int)) (M ++ [x]) := by
  obtain ⟨_, rfl⟩ := List.getElem?_eq_some_iff.1 hx
  exact ⟨by rw [if_neg (by omega)], by rw [take_drop_snoc hk hs, h.2]⟩
theorem RCut.first {f : Int} {s : Nat} {L : List (List UInt8)} {k : Nat} {F : Int} {M : List (List UInt8)} (h : RCut f s L k F M) (hs : s < k) : F = f + (s : Int) := by
  rw [h.1, if_neg (by omega)]
theorem RCut.end_ {f g : Int} {L : List (List UInt8)} {F : Int} {M : List (List UInt8)} (h : RCut f (cutK f g) L L.length F M) : cutB f g L = (F, M) := by
  obtain ⟨h1, h2⟩ := h
  rw [List.take_length] at h2
  by_cases hk : L.length ≤ cutK f g
  · rw [cutB_no hk, h1, if_pos hk, h2, List.drop_eq_nil_of_le hk]
  · rw [cutB_ok (by omega), h1, if_neg hk, h2]
set_option maxRecDepth 100000 in
set_option maxHeartbeats 4000000 in
theorem rcut15_any (f : Int) (hf : -9223372036854775808 ≤ f ∧ f ≤ 9223372036854775807) (v : Value) (g : Int) (hg : -9223372036854775808 ≤ g ∧ g ≤ 9223372036854775807) (L : List (List UInt8)) (w : World) (hv : Txs w v L) (hL : L.length ≤ 1073741824) (hb : ∀ e ∈ L, e.length ≤ 140737488355200) :
    Calls Try.prog 33 #[.agg #[.int .i64 f, v], .int .i64 g] w (CutPost15 f g L w) := by
  obtain ⟨A, c, rfl, hA, -⟩ := hv.open_
  have Hv := Lib.hid hv
  have Hb := Lib.hid hb
  have HA := Lib.hid hA
  clear hv hb hA
  have S0 := Lib.hid ((((Held.start w).newBlk 24 #[.int .i64 f, .slice A L.length c]).newBlk 24 #[.int .i64 0, .slice none 0 0]).newBlk 24 #[.int .i64 0, .slice none 0 0])
  simp only [World.size_alloc] at S0
  obtain ⟨s, HS⟩ : ∃ s, Hid (cutK f g = s) := ⟨_, Lib.hid rfl⟩
  have hsf : f < g → f + s = g := fun h => by have := HS.out; unfold cutK at this; rw [if_pos h] at this; omega
  have hs0 : ¬ f < g → s = 0 := fun h => by have := HS.out; unfold cutK at this; rw [if_neg h] at this; omega
  have hsw : f < g → IntKind.u64.wrap (IntKind.u64.wrap g - IntKind.u64.wrap f) = (s : Int) := fun h => by rw [u64_gap hf hg h]; have := hsf h; omega
  have Hsf := Lib.hid hsf
  have Hs0 := Lib.hid hs0
  have Hsw := Lib.hid hsw
  clear hsf hs0 hsw
  go_enter Try.func33, Try.ntmps33
  go_wp2
  obtain ⟨g2, hg2⟩ : ∃ g2, w.heap.size = g2 := ⟨_, rfl⟩
  obtain ⟨g4, hg4⟩ : ∃ g4, g2 + 1 = g4 := ⟨_, rfl⟩
  obtain ⟨g5, hg5⟩ : ∃ g5, g4 + 1 = g5 := ⟨_, rfl⟩
  rw [hg2, hg4, hg5] at S0 ⊢
  generalize hW0 : World.alloc _ _ = W0 at S0 ⊢
  clear hW0 hg2 hg4 hg5
  go_loopw [6] (fun i wr => ∃ (k : Nat) (F : Int) (M : List (List UInt8)) (u : Value) (Bs : List Value), k ≤ L.length ∧ i = .int .i64 k ∧ RCut f s L k F M ∧ M.length = Bs.length ∧ Held w wr (blkR g5 24 #[.int .i64 F, u] :: rowR 25 1 u M.length Bs :: blkR g2 24 #[.int .i64 f, .slice A L.length c] :: blkR g4 24 #[.int .i64 0, .slice none 0 0] :: textR M Bs)) (fun i _ => L.length - (intOf i).toNat)
  case atStart =>
    refine ⟨0, 0, [], .slice none 0 0, [], Nat.zero_le _, rfl, ⟨by rw [if_pos (Nat.zero_le _)], by simp⟩, rfl, ?_⟩
    exact ((S0.out.rownew (World.ownsRow_nil _ 0 25 1) (Kp.refl [] _) (by simp [Value.ownBlock])).perm (List.Perm.swap _ _ _)).perm (((List.Perm.swap _ _ _).cons _).cons _)
  case round =>
    clear S0
    obtain ⟨k, F, M, u, Bs, hk, rfl, hN, hB, S⟩ := hrel
    have hml := hN.len hk
    have HB := Lib.hid hB
    have HN := Lib.hid hN
    obtain ⟨Au, cu, hu, _, _⟩ := ow_form (S.at_ (l1 := [_]))
    subst hu
    have HSR := Lib.hid S
    obtain ⟨c0, c1, c2, c3, c4⟩ := Blk.c2 (S.at_ (l1 := [_, _]))
    obtain ⟨d0, d1, d2, d3, d4⟩ := Blk.c2 (S.at_ (l1 := []))
    obtain ⟨e0, e1, e2, e3, e4⟩ := Blk.c2 (S.at_ (l1 := [_, _, _]))
    have Hml := Lib.hid hml
    clear S hB hN hml
    by_cases hlt : k < L.length
    · by_cases hks : k < s
      · have hfg : f < g := by
          by_cases h : f < g
          · exact h
          · have := Hs0.out (by omega); omega
        have hs := Hsw.out hfg
        have hks' : (k : Int) < s := by omega
        go_wp2
        go_roundw
        case rel => exact ⟨k + 1, F, M, _, Bs, by omega, by go_num, HN.out.skip hks, HB.out, HSR.out⟩
        case measure => simp [intOf]; omega
      · have hks' : ¬ (s : Int) > k := by omega
        obtain ⟨ad, rfl⟩ := HA.out (by omega)
        obtain ⟨Ax, cx, hcx, hrx⟩ := Hv.out.at_ hlt
        have hxl := Hb.out L[k] (List.getElem_mem hlt)
        have HX := Lib.hid (List.getElem?_eq_getElem hlt)
        have C1 := Lib.hid (fun V (kk : Kp [] w V) => cell_kept hcx kk)
        have RX := Lib.hid (fun V (kk : Kp [] w V) => rd_old hrx kk)
        clear hcx hrx
        generalize L[k] = x at *
        by_cases hm : k = s
        · obtain rfl : M = [] := List.eq_nil_of_length_eq_zero (by have := Hml.out; omega)
          obtain rfl : Bs = [] := List.eq_nil_of_length_eq_zero (by rw [← HB.out]; rfl)
          have hfk : f + k = f + s := by omega
          have Hm := Lib.hid hm
          clear hm
          have hfb : -9223372036854775808 ≤ f + k ∧ f + k ≤ 9223372036854775807 := by
            by_cases h : f < g
            · have := Hsf.out h; omega
            · have := Hs0.out (by omega); omega
          have S8 := HSR.out.set (l1 := []) 0 (.int .i64 (f + k))
          simp only [List.setIfInBounds_toArray, List.set_cons_succ, List.set_cons_zero, List.nil_append, List.length_nil] at S8
          have HN := Lib.hid (HN.out.next hlt (show s ≤ k by omega) HX.out)
          have Hfk := Lib.hid hfk
          rw [hfk] at S8
          obtain ⟨F', HF'⟩ : ∃ F', Hid (f + (s : Int) = F') := ⟨_, Lib.hid rfl⟩
          rw [HF'.out] at S8 HN
          have S8 := Lib.hid S8
          have hb1 := hfb.1
          have hb2 := hfb.2
          clear hfb hfk c4 d4 e0 e1 e2 e3 e4
          simp only [List.length_nil] at d1
          by_cases hfg : f < g
          · have hs := Hsw.out hfg
            go_wp2
            rw [show f + (k : Int) = F' from by rw [Hfk.out]; exact HF'.out]
            clear hs hfg
            generalize wr.setCell _ _ = W8 at S8 ⊢
            clear d0 d1 d2 d3 c0 c1 c2 c3 Hfk hb1 hb2
            -- SEP rcut15A
            refine wp_region_sep (Γ := Unit) 4 [0, 1, 2, 3, 4, 5, 6, 7, 8, 9, 10, 11, 14, 15]
              (fun i vs gs => match i with | 0 => vs 0 = .pointer (some ⟨g5, 1, none⟩) | 1 => vs 1 = .slice Au 0 cu | 2 => vs 2 = .pointer (some ⟨g2, 1, none⟩) | 3 => vs 3 = .slice (some ad) L.length c | 4 => vs 4 = .int .i64 (k : Int) | 5 => vs 5 = .pointer (some (ad.add k)) | 6 => vs 6 = .slice Ax x.length cx | 7 => ∃ A c, vs 7 = .slice A x.length c | 9 => ∃ A c, vs 9 = .slice A (0 + 1) c | 10 => vs 10 = .pointer (some ⟨g5, 1, none⟩) | _ => True)
              (fun i vs gs => match i with | 7 => [rowR 5 1 (vs 7) x.length (bv x)] | 8 => [rowR 25 1 (vs 8) 1 [vs 7]] | 9 => [rowR 25 1 (vs 9) (0 + 1) (([] : List Value) ++ [vs 7])] | 11 => [blkR g5 24 #[.int .i64 F', vs 9]] | 12 => [blkR g5 24 #[.int .i64 F', .slice Au 0 cu]] | 13 => [rowR 25 1 (.slice Au 0 cu) 0 ([] : List Value)] | 14 => [blkR g2 24 #[.int .i64 f, .slice (some ad) L.length c]] | 15 => blkR g4 24 #[.int .i64 0, .slice none 0 0] :: textR ([] : List (List UInt8)) ([] : List Value) | _ => [])
              (fun i => match i with | 9 => [13] | 11 => [12] | _ => []) (fun i => match i with | 1 => [12] | 3 => [14] | 9 => [8] | _ => []) S8.out (by kernel_rfl) (by kernel_rfl) (by kernel_rfl) (by kernel_rfl) (fun i => match i with | 0 => [0] | 1 => [1] | 2 => [2] | 3 => [3] | 4 => [4] | 5 => [5] | 6 => [6] | 7 => [7] | 8 => [7, 8] | 9 => [7, 9] | 10 => [10] | 11 => [9] | _ => []) (by kernel_rfl) ?_ (by kernel_rfl) ?_ ?_ ?_
            · intro s vs vs' gs gs' h
              iterate 16 (rcases s with _ | s; · (first | exact ⟨rfl, id⟩ | (simp only [List.mem_cons, List.not_mem_nil, or_false, forall_eq_or_imp, forall_eq] at h; simp [h])))
              exact ⟨rfl, id⟩
            · simp only [List.range, List.range.loop, List.flatMap_cons, List.flatMap_nil, List.append_nil, List.cons_append, List.nil_append]
              exact List.Perm.refl _
            · refine ⟨?_, ?_, ?_, ?_, ?_, ?_, ?_, ?_, ?_, ?_, ?_, ?_, trivial⟩
              · intro vs gs A' W LF hA S hR hd hu K hK
                replace hK := hK default
                have e5 : A'.tmps[5]?.getD undef = .pointer (some ⟨g5, 0, none⟩) := slot_is hA (by kernel_rfl) (Nat.le_of_ble_eq_true (by kernel_rfl)) (by kernel_rfl)
                go_step
                exact hK _ _ S rfl
              · intro vs gs A' W LF hA S hR hd hu K hK
                replace hK := hK default
                have f0 : vs 0 = .pointer (some ⟨g5, 1, none⟩) := hd 0 (by kernel_rfl)
                have e39 : A'.tmps[39]?.getD undef = vs 0 := slot_is hA (by kernel_rfl) (Nat.le_of_ble_eq_true (by kernel_rfl)) (by kernel_rfl)
                rw [f0] at e39
                obtain ⟨q0, q1, q2, q3, q4⟩ := Blk.c2 (S.ok (blkR g5 24 #[.int .i64 F', .slice Au 0 cu]) (hR 12 (List.mem_singleton.2 rfl) _ (List.mem_singleton.2 rfl)))
                go_step
                exact hK _ _ S rfl
              · intro vs gs A' W LF hA S hR hd hu K hK
                replace hK := hK default
                have e2 : A'.tmps[2]?.getD undef = .pointer (some ⟨g2, 0, none⟩) := slot_is hA (by kernel_rfl) (Nat.le_of_ble_eq_true (by kernel_rfl)) (by kernel_rfl)
                go_step
                exact hK _ _ S rfl
              · intro vs gs A' W LF hA S hR hd hu K hK
                replace hK := hK default
                have f2 : vs 2 = .pointer (some ⟨g2, 1, none⟩) := hd 2 (by kernel_rfl)
                have e41 : A'.tmps[41]?.getD undef = vs 2 := slot_is hA (by kernel_rfl) (Nat.le_of_ble_eq_true (by kernel_rfl)) (by kernel_rfl)
                rw [f2] at e41
                obtain ⟨q0, q1, q2, q3, q4⟩ := Blk.c2 (S.ok (blkR g2 24 #[.int .i64 f, .slice (some ad) L.length c]) (hR 14 (List.mem_singleton.2 rfl) _ (List.mem_singleton.2 rfl)))
                go_step
                exact hK _ _ S rfl
              · intro vs gs A' W LF hA S hR hd hu K hK
                replace hK := hK default
                have e6 : A'.tmps[6]?.getD undef = .int .i64 (k : Int) := slot_is hA (by kernel_rfl) (Nat.le_of_ble_eq_true (by kernel_rfl)) (by kernel_rfl)
                go_step
                exact hK _ _ S rfl
              · intro vs gs A' W LF hA S hR hd hu K hK
                replace hK := hK default
                have f3 : vs 3 = .slice (some ad) L.length c := hd 3 (by kernel_rfl)
                have e42 : A'.tmps[42]?.getD undef = vs 3 := slot_is hA (by kernel_rfl) (Nat.le_of_ble_eq_true (by kernel_rfl)) (by kernel_rfl)
                rw [f3] at e42
                have f4 : vs 4 = .int .i64 (k : Int) := hd 4 (by kernel_rfl)
                have e43 : A'.tmps[43]?.getD undef = vs 4 := slot_is hA (by kernel_rfl) (Nat.le_of_ble_eq_true (by kernel_rfl)) (by kernel_rfl)
                rw [f4] at e43
                go_step
                exact hK _ _ S rfl
              · intro vs gs A' W LF hA S hR hd hu K hK
                replace hK := hK default
                have f5 : vs 5 = .pointer (some (ad.add k)) := hd 5 (by kernel_rfl)
                have e44 : A'.tmps[44]?.getD undef = vs 5 := slot_is hA (by kernel_rfl) (Nat.le_of_ble_eq_true (by kernel_rfl)) (by kernel_rfl)
                rw [f5] at e44
                have q := C1.out _ S.k
                go_step
                exact hK _ _ S rfl
              · intro vs gs A' W LF hA S hR hd hu K hK
                replace hK := hK default
                have f6 : vs 6 = .slice Ax x.length cx := hd 6 (by kernel_rfl)
                have e45 : A'.tmps[45]?.getD undef = vs 6 := slot_is hA (by kernel_rfl) (Nat.le_of_ble_eq_true (by kernel_rfl)) (by kernel_rfl)
                rw [f6] at e45
                refine op_app_nil (.const (.slice none 0 0)) (.tmp 45) 25 5 rfl Try.infoU8 Try.underlying25 rfl (by decide) rfl S (.slice Ax x.length cx) x.length (bv x) (by simpa [Act.eval] using e45) (RX.out _ S.k) (bv_one _) (by unfold maxLen; omega) (by omega) (fun v' w' S' => hK v' w' S' ?_)
                obtain ⟨A1, c1, h1, _⟩ := ow_form (S'.at_ (l1 := []))
                exact ⟨A1, c1, h1⟩
              · intro vs gs A' W LF hA S hR hd hu K hK
                replace hK := hK default
                have f7 : ∃ A c, vs 7 = .slice A x.length c := hd 7 (by kernel_rfl)
                have e46 : A'.tmps[46]?.getD undef = vs 7 := slot_is hA (by kernel_rfl) (Nat.le_of_ble_eq_true (by kernel_rfl)) (by kernel_rfl)
                obtain ⟨A1, c1, hq⟩ := f7
                rw [hq] at e46
                go_step
                have S2 := S.rownew (ow_new W 25 1 1 #[.slice A1 x.length c1] rfl (by decide)) ((Kp.refl [] W).alloc _) (fun g hg => Nat.le_of_eq (Option.some.inj hg))
                rw [← hq] at S2 ⊢
                exact hK _ _ S2 trivial
              · intro vs gs A' W LF hA S hR hd hu K hK
                replace hK := hK default
                have f1 : vs 1 = .slice Au 0 cu := hd 1 (by kernel_rfl)
                have e40 : A'.tmps[40]?.getD undef = vs 1 := slot_is hA (by kernel_rfl) (Nat.le_of_ble_eq_true (by kernel_rfl)) (by kernel_rfl)
                rw [f1] at e40
                have e47 : A'.tmps[47]?.getD undef = vs 8 := slot_is hA (by kernel_rfl) (Nat.le_of_ble_eq_true (by kernel_rfl)) (by kernel_rfl)
                have hone : (vs 7).oneCell' = true := by obtain ⟨A, c, h⟩ := (hd 7 (by kernel_rfl) : ∃ A c, vs 7 = .slice A x.length c); rw [h]; rfl
                refine op_app (.tmp 40) (.tmp 47) 22 25 rfl Try.infoBytes Try.underlying22 rfl (by decide) (.slice Au 0 cu) 0 ([] : List Value) (by simpa [Act.eval] using e40) S (vs 8) 1 [vs 7] (by simpa [Act.eval] using e47) (rd_of_row (e := 25) S (List.mem_cons_of_mem _ (hR 8 (List.mem_singleton.2 rfl) _ (List.mem_singleton.2 rfl)))) (by simpa using hone) (by unfold maxLen; omega) (by omega) (fun v' w' S' => hK v' w' S' ?_)
                obtain ⟨A1, c1, h1, _⟩ := ow_form (S'.at_ (l1 := []))
                exact ⟨A1, c1, h1⟩
              · intro vs gs A' W LF hA S hR hd hu K hK
                replace hK := hK default
                have e5 : A'.tmps[5]?.getD undef = .pointer (some ⟨g5, 0, none⟩) := slot_is hA (by kernel_rfl) (Nat.le_of_ble_eq_true (by kernel_rfl)) (by kernel_rfl)
                go_step
                exact hK _ _ S rfl
              · intro vs gs A' W LF hA S hR hd hu K hK
                replace hK := hK default
                have f10 : vs 10 = .pointer (some ⟨g5, 1, none⟩) := hd 10 (by kernel_rfl)
                have e49 : A'.tmps[49]?.getD undef = vs 10 := slot_is hA (by kernel_rfl) (Nat.le_of_ble_eq_true (by kernel_rfl)) (by kernel_rfl)
                rw [f10] at e49
                have f9 : ∃ A c, vs 9 = .slice A (0 + 1) c := hd 9 (by kernel_rfl)
                have e48 : A'.tmps[48]?.getD undef = vs 9 := slot_is hA (by kernel_rfl) (Nat.le_of_ble_eq_true (by kernel_rfl)) (by kernel_rfl)
                have S1 : Held w W (blkR g5 24 #[.int .i64 F', .slice Au 0 cu] :: LF) := S
                obtain ⟨q0, q1, q2, q3, q4⟩ := Blk.c2 (S1.at_ (l1 := []))
                obtain ⟨A1, c1, hq⟩ := f9
                rw [hq] at e48
                go_step
                refine hK undef _ ?_ trivial
                show Held w _ (blkR g5 24 #[.int .i64 F', vs 9] :: LF)
                rw [hq]
                exact S1.set (l1 := []) 1 (.slice A1 (0 + 1) c1)
            · intro vs gs W S hp
              have S : Held w W (rowR 5 1 (vs 7) x.length (bv x) :: rowR 25 1 (vs 8) 1 [vs 7] :: rowR 25 1 (vs 9) (0 + 1) (([] : List Value) ++ [vs 7]) :: blkR g5 24 #[.int .i64 F', vs 9] :: blkR g2 24 #[.int .i64 f, .slice (some ad) L.length c] :: blkR g4 24 #[.int .i64 0, .slice none 0 0] :: textR ([] : List (List UInt8)) ([] : List Value)) := by simpa only [List.flatMap_cons, List.flatMap_nil, List.append_nil, List.nil_append, List.cons_append, List.append_assoc] using S
              have p0 : vs 0 = .pointer (some ⟨g5, 1, none⟩) := hp 0 (Nat.le_of_ble_eq_true rfl)
              have p1 : vs 1 = .slice Au 0 cu := hp 1 (Nat.le_of_ble_eq_true rfl)
              have p2 : vs 2 = .pointer (some ⟨g2, 1, none⟩) := hp 2 (Nat.le_of_ble_eq_true rfl)
              have p3 : vs 3 = .slice (some ad) L.length c := hp 3 (Nat.le_of_ble_eq_true rfl)
              have p4 : vs 4 = .int .i64 (k : Int) := hp 4 (Nat.le_of_ble_eq_true rfl)
              have p5 : vs 5 = .pointer (some (ad.add k)) := hp 5 (Nat.le_of_ble_eq_true rfl)
              have p6 : vs 6 = .slice Ax x.length cx := hp 6 (Nat.le_of_ble_eq_true rfl)
              have p10 : vs 10 = .pointer (some ⟨g5, 1, none⟩) := hp 10 (Nat.le_of_ble_eq_true rfl)
              have HS2 := Lib.hid S
              clear S hp
              simp only [putAll, p0, p1, p2, p3, p4, p5, p6, p10, Act.put, List.setIfInBounds_toArray, List.set_cons_succ, List.set_cons_zero]
              go_wp2
              go_roundw
              case rel =>
                refine ⟨k + 1, F', ([] ++ [x]), vs 9, ([] : List Value) ++ [vs 7], by omega, by go_num, HN.out, by have := HB.out; simp; try omega, ?_⟩
                rw [textR_snoc _ _ _ _ HB.out, List.length_append]
                have h9 := HS2.out.sub (.cons_cons _ (.cons _ (List.Sublist.refl _)))
                exact h9.perm ((List.perm_append_singleton _ _).symm.trans (List.Perm.swap _ _ _))
              case measure => simp [intOf]; omega
            -- END rcut15A
          · go_wp2
            rw [show f + (k : Int) = F' from by rw [Hfk.out]; exact HF'.out]
            clear hfg
            generalize wr.setCell _ _ = W8 at S8 ⊢
            clear d0 d1 d2 d3 c0 c1 c2 c3 Hfk hb1 hb2
            -- SEP2 rcut15A
            refine wp_region_sep (Γ := Unit) 4 [0, 1, 2, 3, 4, 5, 6, 7, 8, 9, 10, 11, 14, 15]
              (fun i vs gs => match i with | 0 => vs 0 = .pointer (some ⟨g5, 1, none⟩) | 1 => vs 1 = .slice Au 0 cu | 2 => vs 2 = .pointer (some ⟨g2, 1, none⟩) | 3 => vs 3 = .slice (some ad) L.length c | 4 => vs 4 = .int .i64 (k : Int) | 5 => vs 5 = .pointer (some (ad.add k)) | 6 => vs 6 = .slice Ax x.length cx | 7 => ∃ A c, vs 7 = .slice A x.length c | 9 => ∃ A c, vs 9 = .slice A (0 + 1) c | 10 => vs 10 = .pointer (some ⟨g5, 1, none⟩) | _ => True)
              (fun i vs gs => match i with | 7 => [rowR 5 1 (vs 7) x.length (bv x)] | 8 => [rowR 25 1 (vs 8) 1 [vs 7]] | 9 => [rowR 25 1 (vs 9) (0 + 1) (([] : List Value) ++ [vs 7])] | 11 => [blkR g5 24 #[.int .i64 F', vs 9]] | 12 => [blkR g5 24 #[.int .i64 F', .slice Au 0 cu]] | 13 => [rowR 25 1 (.slice Au 0 cu) 0 ([] : List Value)] | 14 => [blkR g2 24 #[.int .i64 f, .slice (some ad) L.length c]] | 15 => blkR g4 24 #[.int .i64 0, .slice none 0 0] :: textR ([] : List (List UInt8)) ([] : List Value) | _ => [])
              (fun i => match i with | 9 => [13] | 11 => [12] | _ => []) (fun i => match i with | 1 => [12] | 3 => [14] | 9 => [8] | _ => []) S8.out (by kernel_rfl) (by kernel_rfl) (by kernel_rfl) (by kernel_rfl) (fun i => match i with | 0 => [0] | 1 => [1] | 2 => [2] | 3 => [3] | 4 => [4] | 5 => [5] | 6 => [6] | 7 => [7] | 8 => [7, 8] | 9 => [7, 9] | 10 => [10] | 11 => [9] | _ => []) (by kernel_rfl) ?_ (by kernel_rfl) ?_ ?_ ?_
            · intro s vs vs' gs gs' h
              iterate 16 (rcases s with _ | s; · (first | exact ⟨rfl, id⟩ | (simp only [List.mem_cons, List.not_mem_nil, or_false, forall_eq_or_imp, forall_eq] at h; simp [h])))
              exact ⟨rfl, id⟩
            · simp only [List.range, List.range.loop, List.flatMap_cons, List.flatMap_nil, List.append_nil, List.cons_append, List.nil_append]
              exact List.Perm.refl _
            · refine ⟨?_, ?_, ?_, ?_, ?_, ?_, ?_, ?_, ?_, ?_, ?_, ?_, trivial⟩
              · intro vs gs A' W LF hA S hR hd hu K hK
                replace hK := hK default
                have e5 : A'.tmps[5]?.getD undef = .pointer (some ⟨g5, 0, none⟩) := slot_is hA (by kernel_rfl) (Nat.le_of_ble_eq_true (by kernel_rfl)) (by kernel_rfl)
                go_step
                exact hK _ _ S rfl
              · intro vs gs A' W LF hA S hR hd hu K hK
                replace hK := hK default
                have f0 : vs 0 = .pointer (some ⟨g5, 1, none⟩) := hd 0 (by kernel_rfl)
                have e39 : A'.tmps[39]?.getD undef = vs 0 := slot_is hA (by kernel_rfl) (Nat.le_of_ble_eq_true (by kernel_rfl)) (by kernel_rfl)
                rw [f0] at e39
                obtain ⟨q0, q1, q2, q3, q4⟩ := Blk.c2 (S.ok (blkR g5 24 #[.int .i64 F', .slice Au 0 cu]) (hR 12 (List.mem_singleton.2 rfl) _ (List.mem_singleton.2 rfl)))
                go_step
                exact hK _ _ S rfl
              · intro vs gs A' W LF hA S hR hd hu K hK
                replace hK := hK default
                have e2 : A'.tmps[2]?.getD undef = .pointer (some ⟨g2, 0, none⟩) := slot_is hA (by kernel_rfl) (Nat.le_of_ble_eq_true (by kernel_rfl)) (by kernel_rfl)
                go_step
                exact hK _ _ S rfl
              · intro vs gs A' W LF hA S hR hd hu K hK
                replace hK := hK default
                have f2 : vs 2 = .pointer (some ⟨g2, 1, none⟩) := hd 2 (by kernel_rfl)
                have e41 : A'.tmps[41]?.getD undef = vs 2 := slot_is hA (by kernel_rfl) (Nat.le_of_ble_eq_true (by kernel_rfl)) (by kernel_rfl)
                rw [f2] at e41
                obtain ⟨q0, q1, q2, q3, q4⟩ := Blk.c2 (S.ok (blkR g2 24 #[.int .i64 f, .slice (some ad) L.length c]) (hR 14 (List.mem_singleton.2 rfl) _ (List.mem_singleton.2 rfl)))
                go_step
                exact hK _ _ S rfl
              · intro vs gs A' W LF hA S hR hd hu K hK
                replace hK := hK default
                have e6 : A'.tmps[6]?.getD undef = .int .i64 (k : Int) := slot_is hA (by kernel_rfl) (Nat.le_of_ble_eq_true (by kernel_rfl)) (by kernel_rfl)
                go_step
                exact hK _ _ S rfl
              · intro vs gs A' W LF hA S hR hd hu K hK
                replace hK := hK default
                have f3 : vs 3 = .slice (some ad) L.length c := hd 3 (by kernel_rfl)
                have e42 : A'.tmps[42]?.getD undef = vs 3 := slot_is hA (by kernel_rfl) (Nat.le_of_ble_eq_true (by kernel_rfl)) (by kernel_rfl)
                rw [f3] at e42
                have f4 : vs 4 = .int .i64 (k : Int) := hd 4 (by kernel_rfl)
                have e43 : A'.tmps[43]?.getD undef = vs 4 := slot_is hA (by kernel_rfl) (Nat.le_of_ble_eq_true (by kernel_rfl)) (by kernel_rfl)
                rw [f4] at e43
                go_step
                exact hK _ _ S rfl
              · intro vs gs A' W LF hA S hR hd hu K hK
                replace hK := hK default
                have f5 : vs 5 = .pointer (some (ad.add k)) := hd 5 (by kernel_rfl)
                have e44 : A'.tmps[44]?.getD undef = vs 5 := slot_is hA (by kernel_rfl) (Nat.le_of_ble_eq_true (by kernel_rfl)) (by kernel_rfl)
                rw [f5] at e44
                have q := C1.out _ S.k
                go_step
                exact hK _ _ S rfl
              · intro vs gs A' W LF hA S hR hd hu K hK
                replace hK := hK default
                have f6 : vs 6 = .slice Ax x.length cx := hd 6 (by kernel_rfl)
                have e45 : A'.tmps[45]?.getD undef = vs 6 := slot_is hA (by kernel_rfl) (Nat.le_of_ble_eq_true (by kernel_rfl)) (by kernel_rfl)
                rw [f6] at e45
                refine op_app_nil (.const (.slice none 0 0)) (.tmp 45) 25 5 rfl Try.infoU8 Try.underlying25 rfl (by decide) rfl S (.slice Ax x.length cx) x.length (bv x) (by simpa [Act.eval] using e45) (RX.out _ S.k) (bv_one _) (by unfold maxLen; omega) (by omega) (fun v' w' S' => hK v' w' S' ?_)
                obtain ⟨A1, c1, h1, _⟩ := ow_form (S'.at_ (l1 := []))
                exact ⟨A1, c1, h1⟩
              · intro vs gs A' W LF hA S hR hd hu K hK
                replace hK := hK default
                have f7 : ∃ A c, vs 7 = .slice A x.length c := hd 7 (by kernel_rfl)
                have e46 : A'.tmps[46]?.getD undef = vs 7 := slot_is hA (by kernel_rfl) (Nat.le_of_ble_eq_true (by kernel_rfl)) (by kernel_rfl)
                obtain ⟨A1, c1, hq⟩ := f7
                rw [hq] at e46
                go_step
                have S2 := S.rownew (ow_new W 25 1 1 #[.slice A1 x.length c1] rfl (by decide)) ((Kp.refl [] W).alloc _) (fun g hg => Nat.le_of_eq (Option.some.inj hg))
                rw [← hq] at S2 ⊢
                exact hK _ _ S2 trivial
              · intro vs gs A' W LF hA S hR hd hu K hK
                replace hK := hK default
                have f1 : vs 1 = .slice Au 0 cu := hd 1 (by kernel_rfl)
                have e40 : A'.tmps[40]?.getD undef = vs 1 := slot_is hA (by kernel_rfl) (Nat.le_of_ble_eq_true (by kernel_rfl)) (by kernel_rfl)
                rw [f1] at e40
                have e47 : A'.tmps[47]?.getD undef = vs 8 := slot_is hA (by kernel_rfl) (Nat.le_of_ble_eq_true (by kernel_rfl)) (by kernel_rfl)
                have hone : (vs 7).oneCell' = true := by obtain ⟨A, c, h⟩ := (hd 7 (by kernel_rfl) : ∃ A c, vs 7 = .slice A x.length c); rw [h]; rfl
                refine op_app (.tmp 40) (.tmp 47) 22 25 rfl Try.infoBytes Try.underlying22 rfl (by decide) (.slice Au 0 cu) 0 ([] : List Value) (by simpa [Act.eval] using e40) S (vs 8) 1 [vs 7] (by simpa [Act.eval] using e47) (rd_of_row (e := 25) S (List.mem_cons_of_mem _ (hR 8 (List.mem_singleton.2 rfl) _ (List.mem_singleton.2 rfl)))) (by simpa using hone) (by unfold maxLen; omega) (by omega) (fun v' w' S' => hK v' w' S' ?_)
                obtain ⟨A1, c1, h1, _⟩ := ow_form (S'.at_ (l1 := []))
                exact ⟨A1, c1, h1⟩
              · intro vs gs A' W LF hA S hR hd hu K hK
                replace hK := hK default
                have e5 : A'.tmps[5]?.getD undef = .pointer (some ⟨g5, 0, none⟩) := slot_is hA (by kernel_rfl) (Nat.le_of_ble_eq_true (by kernel_rfl)) (by kernel_rfl)
                go_step
                exact hK _ _ S rfl
              · intro vs gs A' W LF hA S hR hd hu K hK
                replace hK := hK default
                have f10 : vs 10 = .pointer (some ⟨g5, 1, none⟩) := hd 10 (by kernel_rfl)
                have e49 : A'.tmps[49]?.getD undef = vs 10 := slot_is hA (by kernel_rfl) (Nat.le_of_ble_eq_true (by kernel_rfl)) (by kernel_rfl)
                rw [f10] at e49
                have f9 : ∃ A c, vs 9 = .slice A (0 + 1) c := hd 9 (by kernel_rfl)
                have e48 : A'.tmps[48]?.getD undef = vs 9 := slot_is hA (by kernel_rfl) (Nat.le_of_ble_eq_true (by kernel_rfl)) (by kernel_rfl)
                have S1 : Held w W (blkR g5 24 #[.int .i64 F', .slice Au 0 cu] :: LF) := S
                obtain ⟨q0, q1, q2, q3, q4⟩ := Blk.c2 (S1.at_ (l1 := []))
                obtain ⟨A1, c1, hq⟩ := f9
                rw [hq] at e48
                go_step
                refine hK undef _ ?_ trivial
                show Held w _ (blkR g5 24 #[.int .i64 F', vs 9] :: LF)
                rw [hq]
                exact S1.set (l1 := []) 1 (.slice A1 (0 + 1) c1)
            · intro vs gs W S hp
              have S : Held w W (rowR 5 1 (vs 7) x.length (bv x) :: rowR 25 1 (vs 8) 1 [vs 7] :: rowR 25 1 (vs 9) (0 + 1) (([] : List Value) ++ [vs 7]) :: blkR g5 24 #[.int .i64 F', vs 9] :: blkR g2 24 #[.int .i64 f, .slice (some ad) L.length c] :: blkR g4 24 #[.int .i64 0, .slice none 0 0] :: textR ([] : List (List UInt8)) ([] : List Value)) := by simpa only [List.flatMap_cons, List.flatMap_nil, List.append_nil, List.nil_append, List.cons_append, List.append_assoc] using S
              have p0 : vs 0 = .pointer (some ⟨g5, 1, none⟩) := hp 0 (Nat.le_of_ble_eq_true rfl)
              have p1 : vs 1 = .slice Au 0 cu := hp 1 (Nat.le_of_ble_eq_true rfl)
              have p2 : vs 2 = .pointer (some ⟨g2, 1, none⟩) := hp 2 (Nat.le_of_ble_eq_true rfl)
              have p3 : vs 3 = .slice (some ad) L.length c := hp 3 (Nat.le_of_ble_eq_true rfl)
              have p4 : vs 4 = .int .i64 (k : Int) := hp 4 (Nat.le_of_ble_eq_true rfl)
              have p5 : vs 5 = .pointer (some (ad.add k)) := hp 5 (Nat.le_of_ble_eq_true rfl)
              have p6 : vs 6 = .slice Ax x.length cx := hp 6 (Nat.le_of_ble_eq_true rfl)
              have p10 : vs 10 = .pointer (some ⟨g5, 1, none⟩) := hp 10 (Nat.le_of_ble_eq_true rfl)
              have HS2 := Lib.hid S
              clear S hp
              simp only [putAll, p0, p1, p2, p3, p4, p5, p6, p10, Act.put, List.setIfInBounds_toArray, List.set_cons_succ, List.set_cons_zero]
              go_wp2
              go_roundw
              case rel =>
                refine ⟨k + 1, F', ([] ++ [x]), vs 9, ([] : List Value) ++ [vs 7], by omega, by go_num, HN.out, by have := HB.out; simp; try omega, ?_⟩
                rw [textR_snoc _ _ _ _ HB.out, List.length_append]
                have h9 := HS2.out.sub (.cons_cons _ (.cons _ (List.Sublist.refl _)))
                exact h9.perm ((List.perm_append_singleton _ _).symm.trans (List.Perm.swap _ _ _))
              case measure => simp [intOf]; omega
            -- END2 rcut15A
        · have hm0 : ¬ (M.length : Int) = 0 := by have := Hml.out; omega
          obtain ⟨F', HF'⟩ : ∃ F', Hid (f + (s : Int) = F') := ⟨_, Lib.hid rfl⟩
          obtain rfl : F' = F := by rw [← HF'.out]; exact (HN.out.first (by omega)).symm
          have hMb : M.length ≤ 1073741824 := by have := Hml.out; omega
          have HN := Lib.hid (HN.out.next hlt (show s ≤ k by omega) HX.out)
          rw [HF'.out] at HN
          have S8 := HSR
          by_cases hfg : f < g
          · have hs := Hsw.out hfg
            go_wp2
            clear hs hfg
            clear d0 d1 d2 d3 c0 c1 c2 c3 c4 d4 e0 e1 e2 e3 e4
            -- SEP rcut15B
            refine wp_region_sep (Γ := Unit) 4 [0, 1, 2, 3, 4, 5, 6, 7, 8, 9, 10, 11, 14, 15]
              (fun i vs gs => match i with | 0 => vs 0 = .pointer (some ⟨g5, 1, none⟩) | 1 => vs 1 = .slice Au M.length cu | 2 => vs 2 = .pointer (some ⟨g2, 1, none⟩) | 3 => vs 3 = .slice (some ad) L.length c | 4 => vs 4 = .int .i64 (k : Int) | 5 => vs 5 = .pointer (some (ad.add k)) | 6 => vs 6 = .slice Ax x.length cx | 7 => ∃ A c, vs 7 = .slice A x.length c | 9 => ∃ A c, vs 9 = .slice A (M.length + 1) c | 10 => vs 10 = .pointer (some ⟨g5, 1, none⟩) | _ => True)
              (fun i vs gs => match i with | 7 => [rowR 5 1 (vs 7) x.length (bv x)] | 8 => [rowR 25 1 (vs 8) 1 [vs 7]] | 9 => [rowR 25 1 (vs 9) (M.length + 1) (Bs ++ [vs 7])] | 11 => [blkR g5 24 #[.int .i64 F', vs 9]] | 12 => [blkR g5 24 #[.int .i64 F', .slice Au M.length cu]] | 13 => [rowR 25 1 (.slice Au M.length cu) M.length Bs] | 14 => [blkR g2 24 #[.int .i64 f, .slice (some ad) L.length c]] | 15 => blkR g4 24 #[.int .i64 0, .slice none 0 0] :: textR M Bs | _ => [])
              (fun i => match i with | 9 => [13] | 11 => [12] | _ => []) (fun i => match i with | 1 => [12] | 3 => [14] | 9 => [8] | _ => []) S8.out (by kernel_rfl) (by kernel_rfl) (by kernel_rfl) (by kernel_rfl) (fun i => match i with | 0 => [0] | 1 => [1] | 2 => [2] | 3 => [3] | 4 => [4] | 5 => [5] | 6 => [6] | 7 => [7] | 8 => [7, 8] | 9 => [7, 9] | 10 => [10] | 11 => [9] | _ => []) (by kernel_rfl) ?_ (by kernel_rfl) ?_ ?_ ?_
            · intro s vs vs' gs gs' h
              iterate 16 (rcases s with _ | s; · (first | exact ⟨rfl, id⟩ | (simp only [List.mem_cons, List.not_mem_nil, or_false, forall_eq_or_imp, forall_eq] at h; simp [h])))
              exact ⟨rfl, id⟩
            · simp only [List.range, List.range.loop, List.flatMap_cons, List.flatMap_nil, List.append_nil, List.cons_append, List.nil_append]
              exact List.Perm.refl _
            · refine ⟨?_, ?_, ?_, ?_, ?_, ?_, ?_, ?_, ?_, ?_, ?_, ?_, trivial⟩
              · intro vs gs A' W LF hA S hR hd hu K hK
                replace hK := hK default
                have e5 : A'.tmps[5]?.getD undef = .pointer (some ⟨g5, 0, none⟩) := slot_is hA (by kernel_rfl) (Nat.le_of_ble_eq_true (by kernel_rfl)) (by kernel_rfl)
                go_step
                exact hK _ _ S rfl
              · intro vs gs A' W LF hA S hR hd hu K hK
                replace hK := hK default
                have f0 : vs 0 = .pointer (some ⟨g5, 1, none⟩) := hd 0 (by kernel_rfl)
                have e39 : A'.tmps[39]?.getD undef = vs 0 := slot_is hA (by kernel_rfl) (Nat.le_of_ble_eq_true (by kernel_rfl)) (by kernel_rfl)
                rw [f0] at e39
                obtain ⟨q0, q1, q2, q3, q4⟩ := Blk.c2 (S.ok (blkR g5 24 #[.int .i64 F', .slice Au M.length cu]) (hR 12 (List.mem_singleton.2 rfl) _ (List.mem_singleton.2 rfl)))
                go_step
                exact hK _ _ S rfl
              · intro vs gs A' W LF hA S hR hd hu K hK
                replace hK := hK default
                have e2 : A'.tmps[2]?.getD undef = .pointer (some ⟨g2, 0, none⟩) := slot_is hA (by kernel_rfl) (Nat.le_of_ble_eq_true (by kernel_rfl)) (by kernel_rfl)
                go_step
                exact hK _ _ S rfl
              · intro vs gs A' W LF hA S hR hd hu K hK
                replace hK := hK default
                have f2 : vs 2 = .pointer (some ⟨g2, 1, none⟩) := hd 2 (by kernel_rfl)
                have e41 : A'.tmps[41]?.getD undef = vs 2 := slot_is hA (by kernel_rfl) (Nat.le_of_ble_eq_true (by kernel_rfl)) (by kernel_rfl)
                rw [f2] at e41
                obtain ⟨q0, q1, q2, q3, q4⟩ := Blk.c2 (S.ok (blkR g2 24 #[.int .i64 f, .slice (some ad) L.length c]) (hR 14 (List.mem_singleton.2 rfl) _ (List.mem_singleton.2 rfl)))
                go_step
                exact hK _ _ S rfl
              · intro vs gs A' W LF hA S hR hd hu K hK
                replace hK := hK default
                have e6 : A'.tmps[6]?.getD undef = .int .i64 (k : Int) := slot_is hA (by kernel_rfl) (Nat.le_of_ble_eq_true (by kernel_rfl)) (by kernel_rfl)
                go_step
                exact hK _ _ S rfl
              · intro vs gs A' W LF hA S hR hd hu K hK
                replace hK := hK default
                have f3 : vs 3 = .slice (some ad) L.length c := hd 3 (by kernel_rfl)
                have e42 : A'.tmps[42]?.getD undef = vs 3 := slot_is hA (by kernel_rfl) (Nat.le_of_ble_eq_true (by kernel_rfl)) (by kernel_rfl)
                rw [f3] at e42
                have f4 : vs 4 = .int .i64 (k : Int) := hd 4 (by kernel_rfl)
                have e43 : A'.tmps[43]?.getD undef = vs 4 := slot_is hA (by kernel_rfl) (Nat.le_of_ble_eq_true (by kernel_rfl)) (by kernel_rfl)
                rw [f4] at e43
                go_step
                exact hK _ _ S rfl
              · intro vs gs A' W LF hA S hR hd hu K hK
                replace hK := hK default
                have f5 : vs 5 = .pointer (some (ad.add k)) := hd 5 (by kernel_rfl)
                have e44 : A'.tmps[44]?.getD undef = vs 5 := slot_is hA (by kernel_rfl) (Nat.le_of_ble_eq_true (by kernel_rfl)) (by kernel_rfl)
                rw [f5] at e44
                have q := C1.out _ S.k
                go_step
                exact hK _ _ S rfl
              · intro vs gs A' W LF hA S hR hd hu K hK
                replace hK := hK default
                have f6 : vs 6 = .slice Ax x.length cx := hd 6 (by kernel_rfl)
                have e45 : A'.tmps[45]?.getD undef = vs 6 := slot_is hA (by kernel_rfl) (Nat.le_of_ble_eq_true (by kernel_rfl)) (by kernel_rfl)
                rw [f6] at e45
                refine op_app_nil (.const (.slice none 0 0)) (.tmp 45) 25 5 rfl Try.infoU8 Try.underlying25 rfl (by decide) rfl S (.slice Ax x.length cx) x.length (bv x) (by simpa [Act.eval] using e45) (RX.out _ S.k) (bv_one _) (by unfold maxLen; omega) (by omega) (fun v' w' S' => hK v' w' S' ?_)
                obtain ⟨A1, c1, h1, _⟩ := ow_form (S'.at_ (l1 := []))
                exact ⟨A1, c1, h1⟩
              · intro vs gs A' W LF hA S hR hd hu K hK
                replace hK := hK default
                have f7 : ∃ A c, vs 7 = .slice A x.length c := hd 7 (by kernel_rfl)
                have e46 : A'.tmps[46]?.getD undef = vs 7 := slot_is hA (by kernel_rfl) (Nat.le_of_ble_eq_true (by kernel_rfl)) (by kernel_rfl)
                obtain ⟨A1, c1, hq⟩ := f7
                rw [hq] at e46
                go_step
                have S2 := S.rownew (ow_new W 25 1 1 #[.slice A1 x.length c1] rfl (by decide)) ((Kp.refl [] W).alloc _) (fun g hg => Nat.le_of_eq (Option.some.inj hg))
                rw [← hq] at S2 ⊢
                exact hK _ _ S2 trivial
              · intro vs gs A' W LF hA S hR hd hu K hK
                replace hK := hK default
                have f1 : vs 1 = .slice Au M.length cu := hd 1 (by kernel_rfl)
                have e40 : A'.tmps[40]?.getD undef = vs 1 := slot_is hA (by kernel_rfl) (Nat.le_of_ble_eq_true (by kernel_rfl)) (by kernel_rfl)
                rw [f1] at e40
                have e47 : A'.tmps[47]?.getD undef = vs 8 := slot_is hA (by kernel_rfl) (Nat.le_of_ble_eq_true (by kernel_rfl)) (by kernel_rfl)
                have hone : (vs 7).oneCell' = true := by obtain ⟨A, c, h⟩ := (hd 7 (by kernel_rfl) : ∃ A c, vs 7 = .slice A x.length c); rw [h]; rfl
                refine op_app (.tmp 40) (.tmp 47) 22 25 rfl Try.infoBytes Try.underlying22 rfl (by decide) (.slice Au M.length cu) M.length Bs (by simpa [Act.eval] using e40) S (vs 8) 1 [vs 7] (by simpa [Act.eval] using e47) (rd_of_row (e := 25) S (List.mem_cons_of_mem _ (hR 8 (List.mem_singleton.2 rfl) _ (List.mem_singleton.2 rfl)))) (by simpa using hone) (by unfold maxLen; omega) (by omega) (fun v' w' S' => hK v' w' S' ?_)
                obtain ⟨A1, c1, h1, _⟩ := ow_form (S'.at_ (l1 := []))
                exact ⟨A1, c1, h1⟩
              · intro vs gs A' W LF hA S hR hd hu K hK
                replace hK := hK default
                have e5 : A'.tmps[5]?.getD undef = .pointer (some ⟨g5, 0, none⟩) := slot_is hA (by kernel_rfl) (Nat.le_of_ble_eq_true (by kernel_rfl)) (by kernel_rfl)
                go_step
                exact hK _ _ S rfl
              · intro vs gs A' W LF hA S hR hd hu K hK
                replace hK := hK default
                have f10 : vs 10 = .pointer (some ⟨g5, 1, none⟩) := hd 10 (by kernel_rfl)
                have e49 : A'.tmps[49]?.getD undef = vs 10 := slot_is hA (by kernel_rfl) (Nat.le_of_ble_eq_true (by kernel_rfl)) (by kernel_rfl)
                rw [f10] at e49
                have f9 : ∃ A c, vs 9 = .slice A (M.length + 1) c := hd 9 (by kernel_rfl)
                have e48 : A'.tmps[48]?.getD undef = vs 9 := slot_is hA (by kernel_rfl) (Nat.le_of_ble_eq_true (by kernel_rfl)) (by kernel_rfl)
                have S1 : Held w W (blkR g5 24 #[.int .i64 F', .slice Au M.length cu] :: LF) := S
                obtain ⟨q0, q1, q2, q3, q4⟩ := Blk.c2 (S1.at_ (l1 := []))
                obtain ⟨A1, c1, hq⟩ := f9
                rw [hq] at e48
                go_step
                refine hK undef _ ?_ trivial
                show Held w _ (blkR g5 24 #[.int .i64 F', vs 9] :: LF)
                rw [hq]
                exact S1.set (l1 := []) 1 (.slice A1 (M.length + 1) c1)
            · intro vs gs W S hp
              have S : Held w W (rowR 5 1 (vs 7) x.length (bv x) :: rowR 25 1 (vs 8) 1 [vs 7] :: rowR 25 1 (vs 9) (M.length + 1) (Bs ++ [vs 7]) :: blkR g5 24 #[.int .i64 F', vs 9] :: blkR g2 24 #[.int .i64 f, .slice (some ad) L.length c] :: blkR g4 24 #[.int .i64 0, .slice none 0 0] :: textR M Bs) := by simpa only [List.flatMap_cons, List.flatMap_nil, List.append_nil, List.nil_append, List.cons_append, List.append_assoc] using S
              have p0 : vs 0 = .pointer (some ⟨g5, 1, none⟩) := hp 0 (Nat.le_of_ble_eq_true rfl)
              have p1 : vs 1 = .slice Au M.length cu := hp 1 (Nat.le_of_ble_eq_true rfl)
              have p2 : vs 2 = .pointer (some ⟨g2, 1, none⟩) := hp 2 (Nat.le_of_ble_eq_true rfl)
              have p3 : vs 3 = .slice (some ad) L.length c := hp 3 (Nat.le_of_ble_eq_true rfl)
              have p4 : vs 4 = .int .i64 (k : Int) := hp 4 (Nat.le_of_ble_eq_true rfl)
              have p5 : vs 5 = .pointer (some (ad.add k)) := hp 5 (Nat.le_of_ble_eq_true rfl)
              have p6 : vs 6 = .slice Ax x.length cx := hp 6 (Nat.le_of_ble_eq_true rfl)
              have p10 : vs 10 = .pointer (some ⟨g5, 1, none⟩) := hp 10 (Nat.le_of_ble_eq_true rfl)
              have HS2 := Lib.hid S
              clear S hp
              simp only [putAll, p0, p1, p2, p3, p4, p5, p6, p10, Act.put, List.setIfInBounds_toArray, List.set_cons_succ, List.set_cons_zero]
              go_wp2
              go_roundw
              case rel =>
                refine ⟨k + 1, F', M ++ [x], vs 9, Bs ++ [vs 7], by omega, by go_num, HN.out, by have := HB.out; simp; try omega, ?_⟩
                rw [textR_snoc _ _ _ _ HB.out, List.length_append]
                have h9 := HS2.out.sub (.cons_cons _ (.cons _ (List.Sublist.refl _)))
                exact h9.perm ((List.perm_append_singleton _ _).symm.trans (List.Perm.swap _ _ _))
              case measure => simp [intOf]; omega
            -- END rcut15B
          · go_wp2
            clear d0 d1 d2 d3 c0 c1 c2 c3 c4 d4 e0 e1 e2 e3 e4
            -- SEP2 rcut15B
            refine wp_region_sep (Γ := Unit) 4 [0, 1, 2, 3, 4, 5, 6, 7, 8, 9, 10, 11, 14, 15]
              (fun i vs gs => match i with | 0 => vs 0 = .pointer (some ⟨g5, 1, none⟩) | 1 => vs 1 = .slice Au M.length cu | 2 => vs 2 = .pointer (some ⟨g2, 1, none⟩) | 3 => vs 3 = .slice (some ad) L.length c | 4 => vs 4 = .int .i64 (k : Int) | 5 => vs 5 = .pointer (some (ad.add k)) | 6 => vs 6 = .slice Ax x.length cx | 7 => ∃ A c, vs 7 = .slice A x.length c | 9 => ∃ A c, vs 9 = .slice A (M.length + 1) c | 10 => vs 10 = .pointer (some ⟨g5, 1, none⟩) | _ => True)
              (fun i vs gs => match i with | 7 => [rowR 5 1 (vs 7) x.length (bv x)] | 8 => [rowR 25 1 (vs 8) 1 [vs 7]] | 9 => [rowR 25 1 (vs 9) (M.length + 1) (Bs ++ [vs 7])] | 11 => [blkR g5 24 #[.int .i64 F', vs 9]] | 12 => [blkR g5 24 #[.int .i64 F', .slice Au M.length cu]] | 13 => [rowR 25 1 (.slice Au M.length cu) M.length Bs] | 14 => [blkR g2 24 #[.int .i64 f, .slice (some ad) L.length c]] | 15 => blkR g4 24 #[.int .i64 0, .slice none 0 0] :: textR M Bs | _ => [])
              (fun i => match i with | 9 => [13] | 11 => [12] | _ => []) (fun i => match i with | 1 => [12] | 3 => [14] | 9 => [8] | _ => []) S8.out (by kernel_rfl) (by kernel_rfl) (by kernel_rfl) (by kernel_rfl) (fun i => match i with | 0 => [0] | 1 => [1] | 2 => [2] | 3 => [3] | 4 => [4] | 5 => [5] | 6 => [6] | 7 => [7] | 8 => [7, 8] | 9 => [7, 9] | 10 => [10] | 11 => [9] | _ => []) (by kernel_rfl) ?_ (by kernel_rfl) ?_ ?_ ?_
            · intro s vs vs' gs gs' h
              iterate 16 (rcases s with _ | s; · (first | exact ⟨rfl, id⟩ | (simp only [List.mem_cons, List.not_mem_nil, or_false, forall_eq_or_imp, forall_eq] at h; simp [h])))
              exact ⟨rfl, id⟩
            · simp only [List.range, List.range.loop, List.flatMap_cons, List.flatMap_nil, List.append_nil, List.cons_append, List.nil_append]
              exact List.Perm.refl _
            · refine ⟨?_, ?_, ?_, ?_, ?_, ?_, ?_, ?_, ?_, ?_, ?_, ?_, trivial⟩
              · intro vs gs A' W LF hA S hR hd hu K hK
                replace hK := hK default
                have e5 : A'.tmps[5]?.getD undef = .pointer (some ⟨g5, 0, none⟩) := slot_is hA (by kernel_rfl) (Nat.le_of_ble_eq_true (by kernel_rfl)) (by kernel_rfl)
                go_step
                exact hK _ _ S rfl
              · intro vs gs A' W LF hA S hR hd hu K hK
                replace hK := hK default
                have f0 : vs 0 = .pointer (some ⟨g5, 1, none⟩) := hd 0 (by kernel_rfl)
                have e39 : A'.tmps[39]?.getD undef = vs 0 := slot_is hA (by kernel_rfl) (Nat.le_of_ble_eq_true (by kernel_rfl)) (by kernel_rfl)
                rw [f0] at e39
                obtain ⟨q0, q1, q2, q3, q4⟩ := Blk.c2 (S.ok (blkR g5 24 #[.int .i64 F', .slice Au M.length cu]) (hR 12 (List.mem_singleton.2 rfl) _ (List.mem_singleton.2 rfl)))
                go_step
                exact hK _ _ S rfl
              · intro vs gs A' W LF hA S hR hd hu K hK
                replace hK := hK default
                have e2 : A'.tmps[2]?.getD undef = .pointer (some ⟨g2, 0, none⟩) := slot_is hA (by kernel_rfl) (Nat.le_of_ble_eq_true (by kernel_rfl)) (by kernel_rfl)
                go_step
                exact hK _ _ S rfl
              · intro vs gs A' W LF hA S hR hd hu K hK
                replace hK := hK default
                have f2 : vs 2 = .pointer (some ⟨g2, 1, none⟩) := hd 2 (by kernel_rfl)
                have e41 : A'.tmps[41]?.getD undef = vs 2 := slot_is hA (by kernel_rfl) (Nat.le_of_ble_eq_true (by kernel_rfl)) (by kernel_rfl)
                rw [f2] at e41
                obtain ⟨q0, q1, q2, q3, q4⟩ := Blk.c2 (S.ok (blkR g2 24 #[.int .i64 f, .slice (some ad) L.length c]) (hR 14 (List.mem_singleton.2 rfl) _ (List.mem_singleton.2 rfl)))
                go_step
                exact hK _ _ S rfl
              · intro vs gs A' W LF hA S hR hd hu K hK
                replace hK := hK default
                have e6 : A'.tmps[6]?.getD undef = .int .i64 (k : Int) := slot_is hA (by kernel_rfl) (Nat.le_of_ble_eq_true (by kernel_rfl)) (by kernel_rfl)
                go_step
                exact hK _ _ S rfl
              · intro vs gs A' W LF hA S hR hd hu K hK
                replace hK := hK default
                have f3 : vs 3 = .slice (some ad) L.length c := hd 3 (by kernel_rfl)
                have e42 : A'.tmps[42]?.getD undef = vs 3 := slot_is hA (by kernel_rfl) (Nat.le_of_ble_eq_true (by kernel_rfl)) (by kernel_rfl)
                rw [f3] at e42
                have f4 : vs 4 = .int .i64 (k : Int) := hd 4 (by kernel_rfl)
                have e43 : A'.tmps[43]?.getD undef = vs 4 := slot_is hA (by kernel_rfl) (Nat.le_of_ble_eq_true (by kernel_rfl)) (by kernel_rfl)
                rw [f4] at e43
                go_step
                exact hK _ _ S rfl
              · intro vs gs A' W LF hA S hR hd hu K hK
                replace hK := hK default
                have f5 : vs 5 = .pointer (some (ad.add k)) := hd 5 (by kernel_rfl)
                have e44 : A'.tmps[44]?.getD undef = vs 5 := slot_is hA (by kernel_rfl) (Nat.le_of_ble_eq_true (by kernel_rfl)) (by kernel_rfl)
                rw [f5] at e44
                have q := C1.out _ S.k
                go_step
                exact hK _ _ S rfl
              · intro vs gs A' W LF hA S hR hd hu K hK
                replace hK := hK default
                have f6 : vs 6 = .slice Ax x.length cx := hd 6 (by kernel_rfl)
                have e45 : A'.tmps[45]?.getD undef = vs 6 := slot_is hA (by kernel_rfl) (Nat.le_of_ble_eq_true (by kernel_rfl)) (by kernel_rfl)
                rw [f6] at e45
                refine op_app_nil (.const (.slice none 0 0)) (.tmp 45) 25 5 rfl Try.infoU8 Try.underlying25 rfl (by decide) rfl S (.slice Ax x.length cx) x.length (bv x) (by simpa [Act.eval] using e45) (RX.out _ S.k) (bv_one _) (by unfold maxLen; omega) (by omega) (fun v' w' S' => hK v' w' S' ?_)
                obtain ⟨A1, c1, h1, _⟩ := ow_form (S'.at_ (l1 := []))
                exact ⟨A1, c1, h1⟩
              · intro vs gs A' W LF hA S hR hd hu K hK
                replace hK := hK default
                have f7 : ∃ A c, vs 7 = .slice A x.length c := hd 7 (by kernel_rfl)
                have e46 : A'.tmps[46]?.getD undef = vs 7 := slot_is hA (by kernel_rfl) (Nat.le_of_ble_eq_true (by kernel_rfl)) (by kernel_rfl)
                obtain ⟨A1, c1, hq⟩ := f7
                rw [hq] at e46
                go_step
                have S2 := S.rownew (ow_new W 25 1 1 #[.slice A1 x.length c1] rfl (by decide)) ((Kp.refl [] W).alloc _) (fun g hg => Nat.le_of_eq (Option.some.inj hg))
                rw [← hq] at S2 ⊢
                exact hK _ _ S2 trivial
              · intro vs gs A' W LF hA S hR hd hu K hK
                replace hK := hK default
                have f1 : vs 1 = .slice Au M.length cu := hd 1 (by kernel_rfl)
                have e40 : A'.tmps[40]?.getD undef = vs 1 := slot_is hA (by kernel_rfl) (Nat.le_of_ble_eq_true (by kernel_rfl)) (by kernel_rfl)
                rw [f1] at e40
                have e47 : A'.tmps[47]?.getD undef = vs 8 := slot_is hA (by kernel_rfl) (Nat.le_of_ble_eq_true (by kernel_rfl)) (by kernel_rfl)
                have hone : (vs 7).oneCell' = true := by obtain ⟨A, c, h⟩ := (hd 7 (by kernel_rfl) : ∃ A c, vs 7 = .slice A x.length c); rw [h]; rfl
                refine op_app (.tmp 40) (.tmp 47) 22 25 rfl Try.infoBytes Try.underlying22 rfl (by decide) (.slice Au M.length cu) M.length Bs (by simpa [Act.eval] using e40) S (vs 8) 1 [vs 7] (by simpa [Act.eval] using e47) (rd_of_row (e := 25) S (List.mem_cons_of_mem _ (hR 8 (List.mem_singleton.2 rfl) _ (List.mem_singleton.2 rfl)))) (by simpa using hone) (by unfold maxLen; omega) (by omega) (fun v' w' S' => hK v' w' S' ?_)
                obtain ⟨A1, c1, h1, _⟩ := ow_form (S'.at_ (l1 := []))
                exact ⟨A1, c1, h1⟩
              · intro vs gs A' W LF hA S hR hd hu K hK
                replace hK := hK default
                have e5 : A'.tmps[5]?.getD undef = .pointer (some ⟨g5, 0, none⟩) := slot_is hA (by kernel_rfl) (Nat.le_of_ble_eq_true (by kernel_rfl)) (by kernel_rfl)
                go_step
                exact hK _ _ S rfl
              · intro vs gs A' W LF hA S hR hd hu K hK
                replace hK := hK default
                have f10 : vs 10 = .pointer (some ⟨g5, 1, none⟩) := hd 10 (by kernel_rfl)
                have e49 : A'.tmps[49]?.getD undef = vs 10 := slot_is hA (by kernel_rfl) (Nat.le_of_ble_eq_true (by kernel_rfl)) (by kernel_rfl)
                rw [f10] at e49
                have f9 : ∃ A c, vs 9 = .slice A (M.length + 1) c := hd 9 (by kernel_rfl)
                have e48 : A'.tmps[48]?.getD undef = vs 9 := slot_is hA (by kernel_rfl) (Nat.le_of_ble_eq_true (by kernel_rfl)) (by kernel_rfl)
                have S1 : Held w W (blkR g5 24 #[.int .i64 F', .slice Au M.length cu] :: LF) := S
                obtain ⟨q0, q1, q2, q3, q4⟩ := Blk.c2 (S1.at_ (l1 := []))
                obtain ⟨A1, c1, hq⟩ := f9
                rw [hq] at e48
                go_step
                refine hK undef _ ?_ trivial
                show Held w _ (blkR g5 24 #[.int .i64 F', vs 9] :: LF)
                rw [hq]
                exact S1.set (l1 := []) 1 (.slice A1 (M.length + 1) c1)
            · intro vs gs W S hp
              have S : Held w W (rowR 5 1 (vs 7) x.length (bv x) :: rowR 25 1 (vs 8) 1 [vs 7] :: rowR 25 1 (vs 9) (M.length + 1) (Bs ++ [vs 7]) :: blkR g5 24 #[.int .i64 F', vs 9] :: blkR g2 24 #[.int .i64 f, .slice (some ad) L.length c] :: blkR g4 24 #[.int .i64 0, .slice none 0 0] :: textR M Bs) := by simpa only [List.flatMap_cons, List.flatMap_nil, List.append_nil, List.nil_append, List.cons_append, List.append_assoc] using S
              have p0 : vs 0 = .pointer (some ⟨g5, 1, none⟩) := hp 0 (Nat.le_of_ble_eq_true rfl)
              have p1 : vs 1 = .slice Au M.length cu := hp 1 (Nat.le_of_ble_eq_true rfl)
              have p2 : vs 2 = .pointer (some ⟨g2, 1, none⟩) := hp 2 (Nat.le_of_ble_eq_true rfl)
              have p3 : vs 3 = .slice (some ad) L.length c := hp 3 (Nat.le_of_ble_eq_true rfl)
              have p4 : vs 4 = .int .i64 (k : Int) := hp 4 (Nat.le_of_ble_eq_true rfl)
              have p5 : vs 5 = .pointer (some (ad.add k)) := hp 5 (Nat.le_of_ble_eq_true rfl)
              have p6 : vs 6 = .slice Ax x.length cx := hp 6 (Nat.le_of_ble_eq_true rfl)
              have p10 : vs 10 = .pointer (some ⟨g5, 1, none⟩) := hp 10 (Nat.le_of_ble_eq_true rfl)
              have HS2 := Lib.hid S
              clear S hp
              simp only [putAll, p0, p1, p2, p3, p4, p5, p6, p10, Act.put, List.setIfInBounds_toArray, List.set_cons_succ, List.set_cons_zero]
              go_wp2
              go_roundw
              case rel =>
                refine ⟨k + 1, F', M ++ [x], vs 9, Bs ++ [vs 7], by omega, by go_num, HN.out, by have := HB.out; simp; try omega, ?_⟩
                rw [textR_snoc _ _ _ _ HB.out, List.length_append]
                have h9 := HS2.out.sub (.cons_cons _ (.cons _ (List.Sublist.refl _)))
                exact h9.perm ((List.perm_append_singleton _ _).symm.trans (List.Perm.swap _ _ _))
              case measure => simp [intOf]; omega
            -- END2 rcut15B
    · obtain rfl : k = L.length := by omega
      have HE := Lib.hid (show cutB f g L = (F, M) from (by have := HN.out; rw [← HS.out] at this; exact this.end_))
      have S9 := (HSR.out.set (l1 := [_, _, _]) 0 (.int .i64 F)).set (l1 := [_, _, _]) 1 (.slice Au M.length cu)
      simp only [List.setIfInBounds_toArray, List.set_cons_succ, List.set_cons_zero, List.cons_append, List.nil_append] at S9
      have S9 := Lib.hid S9
      go_wp2
      obtain ⟨h4, h5, -⟩ := Blk.c2 (S9.out.at_ (l1 := [_, _, _]))
      refine bodyPost_ret (v := .agg #[.int .i64 F, .slice Au M.length cu]) (by simp [results, Try.f33, go_sem, h4, h5]) rfl ?_
      refine ⟨_, Bs, by rw [HE.out], by rw [HE.out]; exact HB.out, ?_⟩
      rw [HE.out]
      exact S9.out.sub (.cons _ (.cons_cons _ (.cons _ (.cons _ (List.Sublist.refl _)))))
theorem txs_at' {w : World} {A : Option Addr} {n c : Nat} {L : List (List UInt8)} (h : Txs w (.slice A n c) L) : ∃ ad, ∀ k (hk : k < L.length), A = some ad ∧ ∃ Ax cx, ∀ V, Kp [] w V → V.cell? (ad.add k) = some (.slice Ax L[k].length cx) ∧ Rd V 1 (.slice Ax L[k].length cx) L[k].length (bv L[k]) := by
  by_cases h0 : 0 < L.length
  · obtain ⟨A', c', e, h1, -⟩ := h.open_
    cases e
    obtain ⟨ad, rfl⟩ := h1 h0
    exact ⟨ad, fun k hk => ⟨rfl, by obtain ⟨Ax, cx, h2, h3⟩ := h.at_ hk; exact ⟨Ax, cx, fun V kk => ⟨cell_kept h2 kk, rd_old h3 kk⟩⟩⟩⟩
  · exact ⟨⟨0, 0, none⟩, fun k hk => by omega⟩
set_option maxRecDepth 100000 in
set_option maxHeartbeats 4000000 in
theorem rfits15_any (f : Int) (hf : -9223372036854775808 ≤ f ∧ f ≤ 9223372036854775807) (v y : Value) (L G : List (List UInt8)) (w : World) (hv : Txs w v L) (hy : Txs w y G) :
    Calls Try.prog 35 #[.agg #[.int .i64 f, v], y] w fun e w' => e = .returned (.bool (fitsB f L G)) ∧ Kp [] w w' := by
  obtain ⟨A, c, rfl, -, -⟩ := hv.open_
  obtain ⟨B, d, rfl, -, -⟩ := hy.open_
  obtain ⟨-, hAc, hL⟩ := txs_len hv
  obtain ⟨-, hBd, hG⟩ := txs_len hy
  have K1 := Lib.hid ((Kp.refl [] w).alloc (.cells #[.int .i64 f, .slice A L.length c] 24))
  by_cases h1 : f < 0
  · have Hr : Hid (fitsB f L G = false) := Lib.hid (if_pos (.inl h1))
    go_enter Try.func35, Try.ntmps35
    go_wp2
    go_ret
    exact ⟨by rw [Hr.out]; rfl, K1.out⟩
  · by_cases h2 : (G.length : Int) < f
    · have Hr : Hid (fitsB f L G = false) := Lib.hid (if_pos (.inr h2))
      go_enter Try.func35, Try.ntmps35
      go_wp2
      go_ret
      exact ⟨by rw [Hr.out]; rfl, K1.out⟩
    · obtain ⟨lo, rfl⟩ : ∃ lo : Nat, f = lo := ⟨f.toNat, by omega⟩
      have hlo : lo ≤ G.length := by omega
      obtain ⟨n, HN⟩ : ∃ n, Hid (min (G.length - lo) L.length = n) := ⟨_, Lib.hid rfl⟩
      have hn1 : n ≤ G.length - lo := by rw [← HN.out]; omega
      have hn2 : n ≤ L.length := by rw [← HN.out]; omega
      have HR : Hid (fitsB lo L G = (L.take n == (G.drop lo).take n)) := Lib.hid (by unfold fitsB; rw [if_neg (by omega), Int.toNat_natCast, HN.out])
      obtain ⟨ad, hat⟩ := txs_at' hv
      obtain ⟨bd, hbt⟩ := txs_at' hy
      have Hat := Lib.hid hat
      have Hbt := Lib.hid hbt
      have BG := Lib.hid (Blk.new w 24 #[.int .i64 (lo : Int), .slice A L.length c])
      clear hv hy hat hbt hf
      go_enter Try.func35, Try.ntmps35
      go_wp2
      generalize hw1 : w.alloc (.cells #[.int .i64 (lo : Int), .slice A L.length c] 24) = w1 at *
      generalize hg1 : w.heap.size = g1 at *
      go_loopw [5] (fun i wr => ∃ k : Nat, k ≤ n ∧ i = .int .i64 k ∧ L.take k = (G.drop lo).take k ∧ Kp [] w1 wr) (fun i _ => n - (intOf i).toNat)
      case atStart => exact ⟨0, Nat.zero_le _, rfl, by simp, Kp.refl _ _⟩
      case round =>
        obtain ⟨k, hk, rfl, hpre, hkp⟩ := hrel
        have Hpre := Lib.hid hpre
        obtain ⟨c0, c1, c2, c3, c4⟩ := Blk.c2 (BG.out.kp hkp (by simp))
        have HK := Lib.hid hkp
        clear hpre hkp
        have hsum : -9223372036854775808 ≤ (lo : Int) + k ∧ (lo : Int) + k ≤ 9223372036854775807 := by omega
        have hs1 := hsum.1
        have hs2 := hsum.2
        clear hsum
        by_cases hlt : k < n
        · have hkL : k < L.length := by omega
          have hkG : lo + k < G.length := by omega
          have hkL' : (k : Int) < L.length := by omega
          have hkG' : (lo : Int) + k < G.length := by omega
          obtain ⟨rfl, Ax, cx, hx⟩ := Hat.out k hkL
          obtain ⟨rfl, Ay, cy, hy⟩ := Hbt.out (lo + k) hkG
          have HX := Lib.hid (fun V (kk : Kp [] w1 V) => hx V (K1.out.trans kk (by simp)))
          have HY := Lib.hid (fun V (kk : Kp [] w1 V) => hy V (K1.out.trans kk (by simp)))
          have HnL : Hid (L.take (k + 1) = L.take k ++ [L[k]] ∧ (G.drop lo).take (k + 1) = (G.drop lo).take k ++ [G[lo + k]]) := Lib.hid ⟨take_succ_of (List.getElem?_eq_getElem hkL), take_succ_of (by rw [List.getElem?_drop]; exact List.getElem?_eq_getElem hkG)⟩
          have HnE : Hid (L[k] ≠ G[lo + k] → (L.take n == (G.drop lo).take n) = false) := Lib.hid (fun hne => by
            apply Bool.eq_false_iff.2
            intro he
            have := eq_of_beq he
            have h3 := congrArg (fun l => l[k]?) this
            simp only [List.getElem?_take, if_pos hlt, List.getElem?_drop, List.getElem?_eq_getElem hkL, List.getElem?_eq_getElem hkG] at h3
            exact hne (Option.some.inj h3))
          clear hx hy
          generalize L[k] = a at *
          generalize G[lo + k] = b at *
          have T0 := Lib.hid (HK.out.drew)
          have hidx : ((lo : Int) + (k : Int)).toNat = lo + k := by omega
          go_wp2
          refine wp_region_lexf [] [] (fun V : World => Kp [] w1 V) (by kernel_rfl) (by kernel_rfl) T0.out (fun σ hne f hf hsur => ?_); have Hsur := Lib.hid hsur; clear hsur
          have hfa := fun y => (HX.out _ (hf y)).1
          have hfb := fun y => (HY.out _ (hf y)).1
          have q0 := fun y => (Blk.c2 (BG.out.kp (hf y) (by simp))).1
          have q1 := fun y => (Blk.c2 (BG.out.kp (hf y) (by simp))).2.1
          clear hf
          by_cases hab : a = b
          · subst hab
            have hkd : (a == a) = true := beq_self_eq_true a
            go_wp2_with (first
              | (refine lex_qk (.string ⟨a.toArray⟩) rfl rfl (fun V hV => exec_convT rfl rfl (strB (HX.out V hV).2)) ?_; intro K hK; go_simp; refine hK _ _ ?_; clear hK K)
              | (refine lex_qk (.string ⟨a.toArray⟩) rfl rfl (fun V hV => exec_convT rfl rfl (strB (HY.out V hV).2)) ?_; intro K hK; go_simp; refine hK _ _ ?_; clear hK K)
              | (refine lex_qq Hsur.out rfl rfl rfl ?_; intro K hK; go_big_quiet_op; go_big_quiet_on) | (refine lex_skipk rfl ?_; intro K hK; go_simp; refine hK _ _ ?_; clear hK K) | (refine lex_e rfl rfl ?_; intro K hK; go_step) | (refine lex_nil ?_)
              | ((with_reducible apply And.intro); · (intro hl; first | (exact ls_absurd hl rfl) | exact T0.out)))
            go_roundw
            case rel => exact ⟨k + 1, by omega, by go_num, by rw [HnL.out.1, HnL.out.2, Hpre.out], T0.out⟩
            case measure => simp [intOf]; omega
          · have hkd : (a == b) = false := beq_false_of_ne hab
            go_wp2_with (first
              | (refine lex_qk (.string ⟨a.toArray⟩) rfl rfl (fun V hV => exec_convT rfl rfl (strB (HX.out V hV).2)) ?_; intro K hK; go_simp; refine hK _ _ ?_; clear hK K)
              | (refine lex_qk (.string ⟨b.toArray⟩) rfl rfl (fun V hV => exec_convT rfl rfl (strB (HY.out V hV).2)) ?_; intro K hK; go_simp; refine hK _ _ ?_; clear hK K)
              | (refine lex_qq Hsur.out rfl rfl rfl ?_; intro K hK; go_big_quiet_op; go_big_quiet_on) | (refine lex_skipk rfl ?_; intro K hK; go_simp; refine hK _ _ ?_; clear hK K) | (refine lex_e rfl rfl ?_; intro K hK; go_step) | (refine lex_nil ?_)
              | ((with_reducible apply And.intro); · (intro hl; first | (exact ls_absurd hl rfl) | exact T0.out)))
            go_ret
            exact ⟨by rw [HR.out, HnE.out hab]; rfl, K1.out.trans T0.out (by simp)⟩
        · obtain rfl : k = n := by omega
          have Hres : Hid (fitsB lo L G = true) := Lib.hid (by rw [HR.out, Hpre.out]; simp)
          by_cases hkl : k = L.length
          · obtain rfl := hkl
            go_wp2
            go_ret
            exact ⟨by rw [Hres.out]; rfl, K1.out.trans HK.out (by simp)⟩
          · have hkL' : (k : Int) < L.length := by omega
            have hkG' : ¬ (lo : Int) + k < G.length := by have := HN.out; omega
            go_wp2
            go_ret
            exact ⟨by rw [Hres.out]; rfl, K1.out.trans HK.out (by simp)⟩
end Go.Proofs.Ytdmdnphbheomoaa
/- EntryCuts: the walk. -/
namespace Go.Proofs.Ytdmdnphbheomoaa
open Go.RowKit
def CutP (F : Int) (X : List (List UInt8)) (w : World) (e : Ending) (w' : World) : Prop := ∃ v Bs, e = .returned (.agg #[.int .i64 F, v]) ∧ X.length = Bs.length ∧ Held w w' (rowR 25 1 v X.length Bs :: textR X Bs)
theorem CutPost15.p {f g F : Int} {L X : List (List UInt8)} (hc : cutB f g L = (F, X)) {w : World} {e : Ending} {w' : World} (h : CutPost15 f g L w e w') : CutP F X w e w' := by
  unfold CutPost15 at h
  rw [hc] at h
  exact h
theorem cutB_mem {f g : Int} {L : List (List UInt8)} : (cutB f g L).2.length ≤ L.length ∧ ∀ x ∈ (cutB f g L).2, x ∈ L := by
  unfold cutB
  split
  · simp
  · exact ⟨by simp, fun x hx => List.mem_of_mem_drop hx⟩
set_option maxRecDepth 100000 in
set_option maxHeartbeats 8000000 in
theorem cuts15_true (f : Int) (hf : -9223372036854775808 ≤ f ∧ f ≤ 9223372036854775807) (v : Value) (L : List (List UInt8)) (n : Int) (hn : -9223372036854775808 ≤ n ∧ n ≤ 9223372036854775807) (y : Value) (G : List (List UInt8)) (w : World) (hv : Txs w v L) (hy : Txs w y G)
    (hL : L.length ≤ 1073741824) (hb : ∀ e ∈ L, e.length ≤ 1073741824) (hG : G.length ≤ 1073741824) (hbG : ∀ e ∈ G, e.length ≤ 1073741824) :
    Calls Try.prog 8 #[.agg #[.int .i64 f, v], .int .i64 n, y] w fun r w' => r = .returned (.bool true) ∧ Kp [] w w' := by
  obtain ⟨A, c, rfl, hA, -⟩ := hv.open_
  obtain ⟨Ay, cy, rfl, -, -⟩ := hy.open_
  have B0 := Lib.hid (Blk.new w 24 #[.int .i64 f, .slice A L.length c])
  have K0 := Lib.hid ((Kp.refl [] w).alloc (.cells #[.int .i64 f, .slice A L.length c] 24))
  have Hv := Lib.hid (hv.kp0 K0.out)
  have Hy := Lib.hid (hy.kp0 K0.out)
  have HA := Lib.hid hA
  have Hb := Lib.hid (fun e he => Nat.le_trans (hb e he) (by decide) : ∀ e ∈ L, e.length ≤ 140737488355200)
  have HbG := Lib.hid (fun e he => Nat.le_trans (hbG e he) (by decide) : ∀ e ∈ G, e.length ≤ 140737488355200)
  have Hb30 := Lib.hid hb
  clear hA hv hy hb hbG
  obtain ⟨d0, d1, d2, d3, d4⟩ := Blk.c2 B0.out
  obtain ⟨W0, hW0⟩ : ∃ W0, w.alloc (.cells #[.int .i64 f, .slice A L.length c] 24) = W0 := ⟨_, rfl⟩
  obtain ⟨g0, hg0⟩ : ∃ g0, w.heap.size = g0 := ⟨_, rfl⟩
  rw [hW0, hg0] at B0
  rw [hW0] at K0 Hv Hy
  have HW0 := Lib.hid hW0
  have Hg0 := Lib.hid hg0
  clear hW0 hg0
  by_cases hlen : 300 < L.length
  · have hlen' : (300 : Int) < L.length := by omega
    go_enter Try.func8, Try.ntmps8
    go_wp2_with fail
    rw [HW0.out]
    refine (known15_true _).mono ?_
    rintro e w1 ⟨rfl, k1⟩
    go_wp2
    go_ret
    exact ⟨rfl, K0.out.trans k1 (by simp)⟩
  · have hlen' : ¬ (300 : Int) < L.length := by omega
    by_cases hlenG : 300 < G.length
    · have hlenG' : (300 : Int) < G.length := by omega
      go_enter Try.func8, Try.ntmps8
      go_wp2_with fail
      rw [HW0.out]
      refine (known15_true _).mono ?_
      rintro e w1 ⟨rfl, k1⟩
      go_wp2
      go_ret
      exact ⟨rfl, K0.out.trans k1 (by simp)⟩
    · have hlenG' : ¬ (300 : Int) < G.length := by omega
      obtain ⟨F, X, HC⟩ : ∃ F X, Hid (cutB f n L = (F, X)) := ⟨_, _, Lib.hid rfl⟩
      have CUT : Hid (∀ W v, Txs W v L → Calls Try.prog 32 #[.agg #[.int .i64 f, v], .int .i64 n] W (CutP F X W)) := Lib.hid (fun W v h => (cut15_any f hf v n hn L W h hL Hb.out).mono (fun e w' h => h.p HC.out))
      have RCUT : Hid (∀ W v, Txs W v L → Calls Try.prog 33 #[.agg #[.int .i64 f, v], .int .i64 n] W (CutP F X W)) := Lib.hid (fun W v h => (rcut15_any f hf v n hn L W h hL Hb.out).mono (fun e w' h => h.p HC.out))
      have hX : X.length ≤ L.length ∧ ∀ x ∈ X, x ∈ L := by have := cutB_mem (f := f) (g := n) (L := L); rw [HC.out] at this; exact this
      have hXl := hX.1
      have HX := Lib.hid (fun x h => Hb30.out x (hX.2 x h) : ∀ x, x ∈ X → x.length ≤ 1073741824)
      clear HC hX
      go_enter Try.func8, Try.ntmps8
      go_wp2
      rw [HW0.out, Hg0.out]
      clear HW0 Hg0 d0 d1 d2 d3 d4
      -- SEP cuts15a
      refine wp_region_sep (Γ := LentG) 0 [0, 1, 2, 3, 4, 5, 7]
        (fun i vs gs => match i with | 0 => vs 0 = .pointer (some ⟨g0, 0, none⟩) | 1 => vs 1 = .int .i64 f | 2 => vs 2 = .pointer (some ⟨g0, 1, none⟩) | 3 => vs 3 = .slice A L.length c | 4 => vs 4 = .slice (some ⟨(gs 4).1, 0, none⟩) L.length (gs 4).2.1 ∧ (gs 4).2.2.1.length = L.length | 5 => vs 5 = Value.agg #[.int .i64 f, vs 4] | 6 => vs 6 = .pointer (some ⟨(gs 6).1, 0, none⟩) | _ => True)
        (fun i vs gs => match i with | 4 => lentL (gs 4) L | 6 => [blkR (gs 6).1 24 #[.int .i64 0, .slice none 0 0]] | 7 => [blkR (gs 6).1 24 #[.int .i64 f, vs 4]] | _ => [])
        (fun i => match i with | 7 => [6] | _ => []) (fun i => match i with  | _ => []) (Held.start W0) (by kernel_rfl) (by kernel_rfl) (by kernel_rfl) (by kernel_rfl) (fun i => match i with | 0 => [0] | 1 => [1] | 2 => [2] | 3 => [3] | 4 => [4] | 5 => [4, 5] | 6 => [6] | 7 => [4, 6] | _ => []) (by kernel_rfl) ?_ (by kernel_rfl) ?_ ?_ ?_
      · intro s vs vs' gs gs' h
        iterate 8 (rcases s with _ | s; · (first | exact ⟨rfl, id⟩ | (simp only [List.mem_cons, List.not_mem_nil, or_false, forall_eq_or_imp, forall_eq] at h; simp [h])))
        exact ⟨rfl, id⟩
      · exact List.Perm.refl _
      · refine ⟨?_, ?_, ?_, ?_, ?_, ?_, ?_, ?_, trivial⟩
        · intro vs gs A' W LF hA S hR hd hu K hK
          replace hK := hK default
          have e3 : A'.tmps[3]?.getD undef = .pointer (some ⟨g0, 0, none⟩) := slot_is hA (by kernel_rfl) (Nat.le_of_ble_eq_true (by kernel_rfl)) (by kernel_rfl)
          go_step
          exact hK _ _ S rfl
        · intro vs gs A' W LF hA S hR hd hu K hK
          replace hK := hK default
          have f0 : vs 0 = .pointer (some ⟨g0, 0, none⟩) := hd 0 (by kernel_rfl)
          have e22 : A'.tmps[22]?.getD undef = vs 0 := slot_is hA (by kernel_rfl) (Nat.le_of_ble_eq_true (by kernel_rfl)) (by kernel_rfl)
          rw [f0] at e22
          have q := (Blk.c2 (B0.out.kp S.k (by simp))).1
          go_step
          exact hK _ _ S rfl
        · intro vs gs A' W LF hA S hR hd hu K hK
          replace hK := hK default
          have e3 : A'.tmps[3]?.getD undef = .pointer (some ⟨g0, 0, none⟩) := slot_is hA (by kernel_rfl) (Nat.le_of_ble_eq_true (by kernel_rfl)) (by kernel_rfl)
          go_step
          exact hK _ _ S rfl
        · intro vs gs A' W LF hA S hR hd hu K hK
          replace hK := hK default
          have f2 : vs 2 = .pointer (some ⟨g0, 1, none⟩) := hd 2 (by kernel_rfl)
          have e24 : A'.tmps[24]?.getD undef = vs 2 := slot_is hA (by kernel_rfl) (Nat.le_of_ble_eq_true (by kernel_rfl)) (by kernel_rfl)
          rw [f2] at e24
          have q := (Blk.c2 (B0.out.kp S.k (by simp))).2.1
          go_step
          exact hK _ _ S rfl
        · intro vs gs A' W LF hA S hR hd hu K hK
          have f3 : vs 3 = .slice A L.length c := hd 3 (by kernel_rfl)
          have e25 : A'.tmps[25]?.getD undef = vs 3 := slot_is hA (by kernel_rfl) (Nat.le_of_ble_eq_true (by kernel_rfl)) (by kernel_rfl)
          rw [f3] at e25
          go_step
          refine (lent15_any _ L _ (Hv.out.kp0 S.k) (by omega) Hb.out).mono ?_
          rintro e w' ⟨g, c', Bs, M, rfl, hB, T⟩
          exact hK (g, c', Bs, M) _ _ ((S.join T).perm List.perm_append_comm) ⟨rfl, hB⟩
        · intro vs gs A' W LF hA S hR hd hu K hK
          replace hK := hK default
          have f1 : vs 1 = .int .i64 f := hd 1 (by kernel_rfl)
          have e23 : A'.tmps[23]?.getD undef = vs 1 := slot_is hA (by kernel_rfl) (Nat.le_of_ble_eq_true (by kernel_rfl)) (by kernel_rfl)
          rw [f1] at e23
          have f4 : vs 4 = .slice (some ⟨(gs 4).1, 0, none⟩) L.length (gs 4).2.1 ∧ (gs 4).2.2.1.length = L.length := hd 4 (by kernel_rfl)
          have e26 : A'.tmps[26]?.getD undef = vs 4 := slot_is hA (by kernel_rfl) (Nat.le_of_ble_eq_true (by kernel_rfl)) (by kernel_rfl)
          rw [f4.1] at e26
          go_step
          refine hK _ _ S ?_
          show _ = Value.agg #[.int .i64 f, vs 4]
          rw [f4.1]
          rfl
        · intro vs gs A' W LF hA S hR hd hu K hK
          go_step
          exact hK (W.heap.size, 0, [], undef) _ _ (S.newBlk _ _) rfl
        · intro vs gs A' W LF hA S hR hd hu K hK
          replace hK := hK default
          have f6 : vs 6 = .pointer (some ⟨(gs 6).1, 0, none⟩) := hd 6 (by kernel_rfl)
          have e7 : A'.tmps[7]?.getD undef = vs 6 := slot_is hA (by kernel_rfl) (Nat.le_of_ble_eq_true (by kernel_rfl)) (by kernel_rfl)
          rw [f6] at e7
          have f5 : vs 5 = Value.agg #[.int .i64 f, vs 4] := hd 5 (by kernel_rfl)
          have e27 : A'.tmps[27]?.getD undef = vs 5 := slot_is hA (by kernel_rfl) (Nat.le_of_ble_eq_true (by kernel_rfl)) (by kernel_rfl)
          rw [f5] at e27
          have S1 : Held W0 W (blkR (gs 6).1 24 #[.int .i64 0, .slice none 0 0] :: LF) := S
          obtain ⟨q0, q1, q2, q3, q4⟩ := Blk.c2 (S1.at_ (l1 := []))
          obtain ⟨hq, -⟩ : vs 4 = .slice (some ⟨(gs 4).1, 0, none⟩) L.length (gs 4).2.1 ∧ (gs 4).2.2.1.length = L.length := hd 4 (by kernel_rfl)
          rw [hq] at e27
          go_step
          refine hK undef _ ?_ trivial
          show Held W0 _ (blkR (gs 6).1 24 #[.int .i64 f, vs 4] :: LF)
          rw [hq]
          exact (S1.set (l1 := []) 0 (.int .i64 f)).set (l1 := []) 1 (.slice (some ⟨(gs 4).1, 0, none⟩) L.length (gs 4).2.1)
      · intro vs gs W S hp
        have S : Held W0 W (lentL (gs 4) L ++ (blkR (gs 6).1 24 #[.int .i64 f, vs 4] :: [])) := by simpa only [List.flatMap_cons, List.flatMap_nil, List.append_nil, List.nil_append, List.cons_append, List.append_assoc] using S
        have p0 := hp 0 (Nat.le_of_ble_eq_true rfl)
        have p1 := hp 1 (Nat.le_of_ble_eq_true rfl)
        have p2 := hp 2 (Nat.le_of_ble_eq_true rfl)
        have p3 := hp 3 (Nat.le_of_ble_eq_true rfl)
        obtain ⟨p4, hB⟩ := hp 4 (Nat.le_of_ble_eq_true rfl)
        have p5 := hp 5 (Nat.le_of_ble_eq_true rfl)
        have p6 := hp 6 (Nat.le_of_ble_eq_true rfl)
        simp only at p0 p1 p2 p3 p4 p5 p6 hB
        rw [p4] at p5 S
        clear hp
        generalize gs 4 = ge at *
        generalize (gs 6).1 = g7 at *
        obtain ⟨g, cm, Bs, M⟩ := ge
        simp only [lentL] at *
        have HS2 := Lib.hid S
        have HB := Lib.hid hB
        clear S hB
        simp only [putAll, p0, p1, p2, p3, p4, p5, p6, Act.put, List.setIfInBounds_toArray, List.set_cons_succ, List.set_cons_zero]
        clear p0 p1 p2 p3 p4 p5 p6
      -- END cuts15a
        have LM : Hid (∀ V LL, Held W0 V LL → (∀ r, r ∈ lentL (g, cm, Bs, M) L → r ∈ LL) → Lent V g cm Bs M L) := Lib.hid (fun V LL S h => Lent.of HB.out S (h _ (by simp)) (h _ (by simp)) (fun r hr => h r (by simp [hr])))
        go_wp2_with fail
        refine (lent15_any _ G _ (Hy.out.kp0 HS2.out.k) (by omega) HbG.out).mono ?_
        rintro r w1 ⟨g', cm', Bs', M', rfl, hB', T1⟩
        have HB' := Lib.hid hB'
        have S3 := Lib.hid (HS2.out.join T1)
        clear T1 hB' HS2
        have LO : Hid (∀ V LL, Held W0 V LL → (∀ r, r ∈ lentL (g', cm', Bs', M') G → r ∈ LL) → Lent V g' cm' Bs' M' G) := Lib.hid (fun V LL S h => Lent.of HB'.out S (h _ (by simp)) (h _ (by simp)) (fun r hr => h r (by simp [hr])))
        have S4 := Lib.hid (show Held W0 w1 (blkR g7 24 #[.int .i64 f, .slice (some ⟨g, 0, none⟩) L.length cm] :: (lentL (g, cm, Bs, M) L ++ lentL (g', cm', Bs', M') G)) from
          S3.out.perm ((List.perm_append_comm (l₁ := lentL (g, cm, Bs, M) L) (l₂ := [blkR g7 24 #[.int .i64 f, .slice (some ⟨g, 0, none⟩) L.length cm]])).append_right _))
        clear S3
        have BG : Hid (Blk w1 g7 24 #[.int .i64 f, .slice (some ⟨g, 0, none⟩) L.length cm]) := Lib.hid (S4.out.at_ (l1 := []))
        have LM1 := Lib.hid (LM.out _ _ S4.out (by intro r hr; exact List.mem_cons_of_mem _ (List.mem_append_left _ hr)))
        have LO1 := Lib.hid (LO.out _ _ S4.out (by intro r hr; exact List.mem_cons_of_mem _ (List.mem_append_right _ hr)))
        have TXM := Lib.hid (fun V (kk : Kp [] w1 V) => (LM1.out.kp kk).txs)
        go_wp2_with fail
        -- SEP cuts15b
        refine wp_region_sep (Γ := LentG) 0 [0, 1, 2, 3, 4, 5, 8, 9]
          (fun i vs gs => match i with | 0 => vs 0 = .agg #[.int .i64 f, .slice (some ⟨g, 0, none⟩) L.length cm] | 1 => vs 1 = .int .i64 n | 2 => vs 2 = .agg #[.int .i64 F, (gs 2).2.2.2] ∧ X.length = (gs 2).2.2.1.length ∧ ∃ A c, (gs 2).2.2.2 = .slice A X.length c | 3 => vs 3 = .agg #[.int .i64 f, .slice (some ⟨g, 0, none⟩) L.length cm] | 4 => vs 4 = .int .i64 n | 5 => vs 5 = .agg #[.int .i64 F, (gs 5).2.2.2] ∧ X.length = (gs 5).2.2.1.length ∧ ∃ A c, (gs 5).2.2.2 = .slice A X.length c | 6 => vs 6 = .pointer (some ⟨(gs 6).1, 0, none⟩) | 7 => vs 7 = .pointer (some ⟨(gs 7).1, 0, none⟩) | _ => True)
          (fun i vs gs => match i with | 2 => rowR 25 1 (gs 2).2.2.2 X.length (gs 2).2.2.1 :: textR X (gs 2).2.2.1 | 5 => rowR 25 1 (gs 5).2.2.2 X.length (gs 5).2.2.1 :: textR X (gs 5).2.2.1 | 6 => [blkR (gs 6).1 24 #[.int .i64 0, .slice none 0 0]] | 7 => [blkR (gs 7).1 24 #[.int .i64 0, .slice none 0 0]] | 8 => [blkR (gs 6).1 24 #[.int .i64 F, (gs 2).2.2.2]] | 9 => [blkR (gs 7).1 24 #[.int .i64 F, (gs 5).2.2.2]] | _ => [])
          (fun i => match i with | 8 => [6] | 9 => [7] | _ => []) (fun i => match i with  | _ => []) (Held.start w1) (by kernel_rfl) (by kernel_rfl) (by kernel_rfl) (by kernel_rfl) (fun i => match i with | 0 => [0] | 1 => [1] | 2 => [2] | 3 => [3] | 4 => [4] | 5 => [5] | 6 => [6] | 7 => [7] | 8 => [2, 6] | 9 => [5, 7] | _ => []) (by kernel_rfl) ?_ (by kernel_rfl) ?_ ?_ ?_
        · intro s vs vs' gs gs' h
          iterate 10 (rcases s with _ | s; · (first | exact ⟨rfl, id⟩ | (simp only [List.mem_cons, List.not_mem_nil, or_false, forall_eq_or_imp, forall_eq] at h; simp [h])))
          exact ⟨rfl, id⟩
        · exact List.Perm.refl _
        · refine ⟨?_, ?_, ?_, ?_, ?_, ?_, ?_, ?_, ?_, ?_, trivial⟩
          · intro vs gs A' W LF hA S hR hd hu K hK
            replace hK := hK default
            have e7 : A'.tmps[7]?.getD undef = .pointer (some ⟨g7, 0, none⟩) := slot_is hA (by kernel_rfl) (Nat.le_of_ble_eq_true (by kernel_rfl)) (by kernel_rfl)
            obtain ⟨q0, q1, -⟩ := Blk.c2 (BG.out.kp S.k (by simp))
            go_step
            exact hK _ _ S rfl
          · intro vs gs A' W LF hA S hR hd hu K hK
            replace hK := hK default
            have e1 : A'.tmps[1]?.getD undef = .int .i64 n := slot_is hA (by kernel_rfl) (Nat.le_of_ble_eq_true (by kernel_rfl)) (by kernel_rfl)
            go_step
            exact hK _ _ S rfl
          · intro vs gs A' W LF hA S hR hd hu K hK
            have f0 : vs 0 = .agg #[.int .i64 f, .slice (some ⟨g, 0, none⟩) L.length cm] := hd 0 (by kernel_rfl)
            have e30 : A'.tmps[30]?.getD undef = vs 0 := slot_is hA (by kernel_rfl) (Nat.le_of_ble_eq_true (by kernel_rfl)) (by kernel_rfl)
            rw [f0] at e30
            have f1 : vs 1 = .int .i64 n := hd 1 (by kernel_rfl)
            have e31 : A'.tmps[31]?.getD undef = vs 1 := slot_is hA (by kernel_rfl) (Nat.le_of_ble_eq_true (by kernel_rfl)) (by kernel_rfl)
            rw [f1] at e31
            go_step
            refine (CUT.out _ _ (TXM.out _ S.k)).mono ?_
            rintro e w' ⟨v, Bs, rfl, hB, T⟩
            obtain ⟨A1, c1, h1, _, _⟩ := ow_form (T.at_ (l1 := []))
            exact hK (0, 0, Bs, v) _ _ ((S.join T).perm List.perm_append_comm) ⟨rfl, hB, A1, c1, h1⟩
          · intro vs gs A' W LF hA S hR hd hu K hK
            replace hK := hK default
            have e7 : A'.tmps[7]?.getD undef = .pointer (some ⟨g7, 0, none⟩) := slot_is hA (by kernel_rfl) (Nat.le_of_ble_eq_true (by kernel_rfl)) (by kernel_rfl)
            obtain ⟨q0, q1, -⟩ := Blk.c2 (BG.out.kp S.k (by simp))
            go_step
            exact hK _ _ S rfl
          · intro vs gs A' W LF hA S hR hd hu K hK
            replace hK := hK default
            have e1 : A'.tmps[1]?.getD undef = .int .i64 n := slot_is hA (by kernel_rfl) (Nat.le_of_ble_eq_true (by kernel_rfl)) (by kernel_rfl)
            go_step
            exact hK _ _ S rfl
          · intro vs gs A' W LF hA S hR hd hu K hK
            have f3 : vs 3 = .agg #[.int .i64 f, .slice (some ⟨g, 0, none⟩) L.length cm] := hd 3 (by kernel_rfl)
            have e33 : A'.tmps[33]?.getD undef = vs 3 := slot_is hA (by kernel_rfl) (Nat.le_of_ble_eq_true (by kernel_rfl)) (by kernel_rfl)
            rw [f3] at e33
            have f4 : vs 4 = .int .i64 n := hd 4 (by kernel_rfl)
            have e34 : A'.tmps[34]?.getD undef = vs 4 := slot_is hA (by kernel_rfl) (Nat.le_of_ble_eq_true (by kernel_rfl)) (by kernel_rfl)
            rw [f4] at e34
            go_step
            refine (CUT.out _ _ (TXM.out _ S.k)).mono ?_
            rintro e w' ⟨v, Bs, rfl, hB, T⟩
            obtain ⟨A1, c1, h1, _, _⟩ := ow_form (T.at_ (l1 := []))
            exact hK (0, 0, Bs, v) _ _ ((S.join T).perm List.perm_append_comm) ⟨rfl, hB, A1, c1, h1⟩
          · intro vs gs A' W LF hA S hR hd hu K hK
            go_step
            exact hK (W.heap.size, 0, [], undef) _ _ (S.newBlk _ _) rfl
          · intro vs gs A' W LF hA S hR hd hu K hK
            go_step
            exact hK (W.heap.size, 0, [], undef) _ _ (S.newBlk _ _) rfl
          · intro vs gs A' W LF hA S hR hd hu K hK
            replace hK := hK default
            have f6 : vs 6 = .pointer (some ⟨(gs 6).1, 0, none⟩) := hd 6 (by kernel_rfl)
            have e9 : A'.tmps[9]?.getD undef = vs 6 := slot_is hA (by kernel_rfl) (Nat.le_of_ble_eq_true (by kernel_rfl)) (by kernel_rfl)
            rw [f6] at e9
            have f2 : vs 2 = .agg #[.int .i64 F, (gs 2).2.2.2] ∧ X.length = (gs 2).2.2.1.length ∧ ∃ A c, (gs 2).2.2.2 = .slice A X.length c := hd 2 (by kernel_rfl)
            have e32 : A'.tmps[32]?.getD undef = vs 2 := slot_is hA (by kernel_rfl) (Nat.le_of_ble_eq_true (by kernel_rfl)) (by kernel_rfl)
            have S1 : Held w1 W (blkR (gs 6).1 24 #[.int .i64 0, .slice none 0 0] :: LF) := S
            obtain ⟨q0, q1, q2, q3, q4⟩ := Blk.c2 (S1.at_ (l1 := []))
            obtain ⟨hq, -, A1, c1, hv⟩ := f2
            rw [hq, hv] at e32
            go_step
            refine hK undef _ ?_ trivial
            show Held w1 _ (blkR (gs 6).1 24 #[.int .i64 F, (gs 2).2.2.2] :: LF)
            rw [hv]
            exact (S1.set (l1 := []) 0 (.int .i64 F)).set (l1 := []) 1 (.slice A1 X.length c1)
          · intro vs gs A' W LF hA S hR hd hu K hK
            replace hK := hK default
            have f7 : vs 7 = .pointer (some ⟨(gs 7).1, 0, none⟩) := hd 7 (by kernel_rfl)
            have e10 : A'.tmps[10]?.getD undef = vs 7 := slot_is hA (by kernel_rfl) (Nat.le_of_ble_eq_true (by kernel_rfl)) (by kernel_rfl)
            rw [f7] at e10
            have f5 : vs 5 = .agg #[.int .i64 F, (gs 5).2.2.2] ∧ X.length = (gs 5).2.2.1.length ∧ ∃ A c, (gs 5).2.2.2 = .slice A X.length c := hd 5 (by kernel_rfl)
            have e35 : A'.tmps[35]?.getD undef = vs 5 := slot_is hA (by kernel_rfl) (Nat.le_of_ble_eq_true (by kernel_rfl)) (by kernel_rfl)
            have S1 : Held w1 W (blkR (gs 7).1 24 #[.int .i64 0, .slice none 0 0] :: LF) := S
            obtain ⟨q0, q1, q2, q3, q4⟩ := Blk.c2 (S1.at_ (l1 := []))
            obtain ⟨hq, -, A1, c1, hv⟩ := f5
            rw [hq, hv] at e35
            go_step
            refine hK undef _ ?_ trivial
            show Held w1 _ (blkR (gs 7).1 24 #[.int .i64 F, (gs 5).2.2.2] :: LF)
            rw [hv]
            exact (S1.set (l1 := []) 0 (.int .i64 F)).set (l1 := []) 1 (.slice A1 X.length c1)
        · intro vs gs W S hp
          have S : Held w1 W (rowR 25 1 (gs 2).2.2.2 X.length (gs 2).2.2.1 :: textR X (gs 2).2.2.1 ++ (rowR 25 1 (gs 5).2.2.2 X.length (gs 5).2.2.1 :: textR X (gs 5).2.2.1 ++ (blkR (gs 6).1 24 #[.int .i64 F, (gs 2).2.2.2] :: blkR (gs 7).1 24 #[.int .i64 F, (gs 5).2.2.2] :: []))) := by simpa only [List.flatMap_cons, List.flatMap_nil, List.append_nil, List.nil_append, List.cons_append, List.append_assoc] using S
          have p0 := hp 0 (Nat.le_of_ble_eq_true rfl)
          have p1 := hp 1 (Nat.le_of_ble_eq_true rfl)
          obtain ⟨p2, hB2, A2, c2, hv2⟩ := hp 2 (Nat.le_of_ble_eq_true rfl)
          have p3 := hp 3 (Nat.le_of_ble_eq_true rfl)
          have p4 := hp 4 (Nat.le_of_ble_eq_true rfl)
          obtain ⟨p5, hB5, A5, c5, hv5⟩ := hp 5 (Nat.le_of_ble_eq_true rfl)
          have p6 := hp 6 (Nat.le_of_ble_eq_true rfl)
          have p7 := hp 7 (Nat.le_of_ble_eq_true rfl)
          simp only at p0 p1 p2 p3 p4 p5 p6 p7 hB2 hB5 hv2 hv5
          rw [hv2] at p2 S
          rw [hv5] at p5 S
          clear hp
          generalize gs 2 = ge2 at *
          generalize gs 5 = ge5 at *
          generalize (gs 6).1 = g9 at *
          generalize (gs 7).1 = g10 at *
          obtain ⟨_, _, Bs2, v2⟩ := ge2
          obtain ⟨_, _, Bs5, v5⟩ := ge5
          simp only at p2 p5 hB2 hB5 S
          have HS5 := Lib.hid S
          have HB2 := Lib.hid hB2
          have HB5 := Lib.hid hB5
          clear S hB2 hB5 hv2 hv5
          simp only [putAll, p0, p1, p2, p3, p4, p5, p6, p7, Act.put, List.setIfInBounds_toArray, List.set_cons_succ, List.set_cons_zero]
          clear p0 p1 p2 p3 p4 p5 p6 p7
        -- END cuts15b
          have S5 := Lib.hid (S4.out.join HS5.out)
          have LMf := Lib.hid (fun V (kk : Kp [] w1 V) => LM1.out.kp kk)
          have LOf := Lib.hid (fun V (kk : Kp [] w1 V) => LO1.out.kp kk)
          obtain ⟨d0, d1, d2, d3, d4⟩ := Blk.c2 (B0.out.kp S5.out.k (by simp))
          go_wp2_with fail
          refine (RCUT.out _ _ (Hv.out.kp0 S5.out.k)).mono ?_
          rintro r w6 ⟨v6, Bs6, rfl, hB6, T6⟩
          obtain ⟨A6, c6, hv6, _, _⟩ := ow_form (T6.at_ (l1 := []))
          subst hv6
          have HB6 := Lib.hid hB6
          have S6 := Lib.hid ((S5.out.join T6).newBlk 24 #[.int .i64 F, .slice A6 X.length c6])
          clear T6 hB6 d0 d1 d2 d3 d4 S5
          go_wp2_with fail
          generalize hg11 : w6.heap.size = g11 at *
          generalize hw7 : w6.alloc (.cells #[.int .i64 F, .slice A6 X.length c6] 24) = w7 at *
          clear hg11 hw7
          obtain ⟨P, hP⟩ : ∃ P, P = blkR g11 24 #[.int .i64 F, .slice A6 X.length c6] :: blkR g7 24 #[.int .i64 f, .slice (some ⟨g, 0, none⟩) L.length cm] :: (lentL (g, cm, Bs, M) L ++ lentL (g', cm', Bs', M') G) := ⟨_, rfl⟩
          have S7 : Held W0 w7 (P ++ ((rowR 25 1 (.slice A2 X.length c2) X.length Bs2 :: textR X Bs2) ++ ((rowR 25 1 (.slice A5 X.length c5) X.length Bs5 :: textR X Bs5) ++ (blkR g9 24 #[.int .i64 F, .slice A2 X.length c2] :: blkR g10 24 #[.int .i64 F, .slice A5 X.length c5] :: (rowR 25 1 (.slice A6 X.length c6) X.length Bs6 :: textR X Bs6))))) := by
            rw [hP]
            simpa only [List.append_assoc, List.cons_append, List.nil_append] using S6.out
          have TX : Hid (∀ (V : World) (A' : Option Addr) (c' : Nat) (Bs' : List Value) (LL : List Res), X.length = Bs'.length → Held W0 V LL → rowR 25 1 (.slice A' X.length c') X.length Bs' ∈ LL → (∀ r, r ∈ textR X Bs' → r ∈ LL) → Txs V (.slice A' X.length c') X) := Lib.hid (fun V A' c' Bs' LL h1 h2 h3 h4 => txs_ok h1 h2 h3 h4)
          have X9 := TX.out _ A2 c2 Bs2 _ HB2.out S7 (by simp) (fun r hr => by simp [hr])
          have X11 := TX.out _ A6 c6 Bs6 _ HB6.out S7 (by simp) (fun r hr => by simp [hr])
          have TX9 := Lib.hid (fun V (kk : Kp [] w7 V) => X9.kp0 kk)
          have TX11 := Lib.hid (fun V (kk : Kp [] w7 V) => X11.kp0 kk)
          have B9 := Lib.hid (show Blk w7 g9 24 #[.int .i64 F, .slice A2 X.length c2] from S7.ok (blkR g9 24 #[.int .i64 F, .slice A2 X.length c2]) (by simp))
          have B11 := Lib.hid (show Blk w7 g11 24 #[.int .i64 F, .slice A6 X.length c6] from S7.ok (blkR g11 24 #[.int .i64 F, .slice A6 X.length c6]) (by rw [hP]; simp))
          have B7 := Lib.hid (show Blk w7 g7 24 #[.int .i64 f, .slice (some ⟨g, 0, none⟩) L.length cm] from S7.ok (blkR g7 24 #[.int .i64 f, .slice (some ⟨g, 0, none⟩) L.length cm]) (by rw [hP]; simp))
          have LM7 := Lib.hid (LM.out _ _ S7 (by intro r hr; rw [hP]; exact List.mem_append_left _ (List.mem_cons_of_mem _ (List.mem_cons_of_mem _ (List.mem_append_left _ hr)))))
          have LO7 := Lib.hid (LO.out _ _ S7 (by intro r hr; rw [hP]; exact List.mem_append_left _ (List.mem_cons_of_mem _ (List.mem_cons_of_mem _ (List.mem_append_right _ hr)))))
          have B0f := Lib.hid (fun V (kk : Kp [] w7 V) => B0.out.kp (S7.k.trans kk (by simp)) (by simp))
          have TL := Lib.hid (fun V (kk : Kp [] w7 V) => Hv.out.kp0 (S7.k.trans kk (by simp)))
          have TG := Lib.hid (fun V (kk : Kp [] w7 V) => Hy.out.kp0 (S7.k.trans kk (by simp)))
          have TLm := Lib.hid (fun V (kk : Kp [] w7 V) => (LM7.out.kp kk).txs)
          have TGm := Lib.hid (fun V (kk : Kp [] w7 V) => (LO7.out.kp kk).txs)
          have H7 := Lib.hid S7
          clear S7 X9 X11 S4 S6 HS5 BG TXM LMf LOf LM1 LO1
          obtain ⟨b1, Hb1⟩ : ∃ b1, Hid (fitsB f L G = b1) := ⟨_, Lib.hid rfl⟩
          obtain ⟨b2, Hb2⟩ : ∃ b2, Hid ((L == G) = b2) := ⟨_, Lib.hid rfl⟩
          have cSB : Hid (∀ V x y, Txs V x X → Txs V y X → Calls Try.prog 23 #[.agg #[.int .i64 F, x], .agg #[.int .i64 F, y]] V fun e w' => e = .returned (.bool true) ∧ Kp [] V w') := Lib.hid (fun V x y h1 h2 => by
            have := sameb_any F F x y X X V h1 h2
            rwa [show (decide (F = F) && (X == X)) = true by simp] at this)
          have cF : Hid (∀ V x y, Txs V x L → Txs V y G → Calls Try.prog 34 #[.agg #[.int .i64 f, x], y] V fun e w' => e = .returned (.bool b1) ∧ Kp [] V w') := Lib.hid (fun V x y h1 h2 => by
            have := fits_any f hf x y L G V h1 h2
            rwa [Hb1.out] at this)
          have cRF : Hid (∀ V x y, Txs V x L → Txs V y G → Calls Try.prog 35 #[.agg #[.int .i64 f, x], y] V fun e w' => e = .returned (.bool b1) ∧ Kp [] V w') := Lib.hid (fun V x y h1 h2 => by
            have := rfits15_any f hf x y L G V h1 h2
            rwa [Hb1.out] at this)
          have cS : Hid (∀ V x y, Txs V x L → Txs V y G → Calls Try.prog 30 #[x, y] V fun e w' => e = .returned (.bool b2) ∧ Kp [] V w') := Lib.hid (fun V x y h1 h2 => by
            have := esame_any x y L G V h1 h2
            rwa [Hb2.out] at this)
          have cRS : Hid (∀ V x y, Txs V x L → Txs V y G → Calls Try.prog 36 #[x, y] V fun e w' => e = .returned (.bool b2) ∧ Kp [] V w') := Lib.hid (fun V x y h1 h2 => by
            have := same15_any x y L G V h1 h2
            rwa [Hb2.out] at this)
          have cSG : Hid (∀ V x y, Txs V x G → Txs V y G → Calls Try.prog 30 #[x, y] V fun e w' => e = .returned (.bool true) ∧ Kp [] V w') := Lib.hid (fun V x y h1 h2 => by
            have := esame_any x y G G V h1 h2
            rwa [show (G == G) = true by simp] at this)
          have T0 := Lib.hid ((Kp.refl [] w7).drew)
          refine wp_region_lexf [2, 7, 10, 17, 21, 27] [] (fun V : World => Kp [] w7 V) (by kernel_rfl) (by kernel_rfl) T0.out (fun σ hne fw hf hsur => ?_); have Hsur := Lib.hid hsur; clear hsur
          have q1 := fun y => (Blk.c2 (B9.out.kp (hf y) (by simp))).1
          have q2 := fun y => (Blk.c2 (B9.out.kp (hf y) (by simp))).2.1
          have q3 := fun y => (Blk.c2 (B11.out.kp (hf y) (by simp))).1
          have q4 := fun y => (Blk.c2 (B11.out.kp (hf y) (by simp))).2.1
          have q5 := fun y => (Blk.c2 (B7.out.kp (hf y) (by simp))).1
          have q6 := fun y => (Blk.c2 (B7.out.kp (hf y) (by simp))).2.1
          have q7 := fun y => (Blk.c2 (B0f.out _ (hf y))).1
          have q8 := fun y => (Blk.c2 (B0f.out _ (hf y))).2.1
          clear hf
          go_wp2_with (first
            | (refine lex_qq Hsur.out rfl rfl rfl ?_; intro K hK; go_big_quiet_op; go_big_quiet_on) | (refine lex_skipk rfl ?_; intro K hK; go_simp; refine hK _ _ ?_; clear hK K) | (refine lex_e rfl rfl ?_; intro K hK; go_step) | (refine lex_nil ?_)
            | (go_at_call 23; ((with_reducible refine (cSB.out _ _ _ (TX9.out _ T0.out) (TX11.out _ T0.out)).mono ?_); rintro r wA ⟨rfl, kA⟩; have TA := Lib.hid (T0.out.trans kA (by simp)); clear kA))
            | (go_at_call 34; ((with_reducible refine (cF.out _ _ _ (TLm.out _ TA.out) (TGm.out _ TA.out)).mono ?_); rintro r wB ⟨rfl, kB⟩; have TB := Lib.hid (TA.out.trans kB (by simp)); clear kB))
            | (go_at_call 35; ((with_reducible refine (cRF.out _ _ _ (TL.out _ TB.out) (TG.out _ TB.out)).mono ?_); rintro r wC ⟨rfl, kC⟩; have TC := Lib.hid (TB.out.trans kC (by simp)); clear kC))
            | (go_at_call 30; ((with_reducible refine (cS.out _ _ _ (TLm.out _ TC.out) (TGm.out _ TC.out)).mono ?_); rintro r wD ⟨rfl, kD⟩; have TD := Lib.hid (TC.out.trans kD (by simp)); clear kD))
            | (go_at_call 36; ((with_reducible refine (cRS.out _ _ _ (TL.out _ TD.out) (TG.out _ TD.out)).mono ?_); rintro r wE ⟨rfl, kE⟩; have TE := Lib.hid (TD.out.trans kE (by simp)); clear kE))
            | (go_at_call 30; ((with_reducible refine (cSG.out _ _ _ (TGm.out _ TE.out) (TG.out _ TE.out)).mono ?_); rintro r wF ⟨rfl, kF⟩; have TF := Lib.hid (TE.out.trans kF (by simp)); clear kF; obtain ⟨z0, z1, -⟩ := Blk.c2 (B9.out.kp TF.out (by simp))))
            | ((with_reducible apply And.intro); · (intro hl; first | (exact ls_absurd hl rfl) | exact TF.out))
            | ((with_reducible apply And.intro); · (intro hl; first | (exact ls_absurd hl rfl) | exact TE.out))
            | ((with_reducible apply And.intro); · (intro hl; first | (exact ls_absurd hl rfl) | exact TD.out))
            | ((with_reducible apply And.intro); · (intro hl; first | (exact ls_absurd hl rfl) | exact TC.out))
            | ((with_reducible apply And.intro); · (intro hl; first | (exact ls_absurd hl rfl) | exact TB.out))
            | ((with_reducible apply And.intro); · (intro hl; first | (exact ls_absurd hl rfl) | exact TA.out)))
          clear q1 q2 q3 q4 q5 q6 q7 q8 TA TB TC TD TE T0 cF cRF cS cRS cSG TLm TGm TL TG TX9 TX11
          have S8 := Lib.hid ((H7.out.kp TF.out).perm (List.perm_append_comm_assoc _ _ _))
          refine (spoilt15_any (w0 := W0) _ X Bs2 _ HB2.out (fun l hl => HX.out l hl) (by omega) S8.out).mono ?_
          rintro r w9 ⟨rfl, T9⟩
          have Y10 := TX.out _ A5 c5 Bs5 _ HB5.out T9 (by simp) (fun r hr => by simp [hr])
          have Y11 := TX.out _ A6 c6 Bs6 _ HB6.out T9 (by simp) (fun r hr => by simp [hr])
          have B10 := Lib.hid (show Blk w9 g10 24 #[.int .i64 F, .slice A5 X.length c5] from T9.ok (blkR g10 24 #[.int .i64 F, .slice A5 X.length c5]) (by simp))
          have C11 := Lib.hid (show Blk w9 g11 24 #[.int .i64 F, .slice A6 X.length c6] from T9.ok (blkR g11 24 #[.int .i64 F, .slice A6 X.length c6]) (by rw [hP]; simp))
          have C7 := Lib.hid (show Blk w9 g7 24 #[.int .i64 f, .slice (some ⟨g, 0, none⟩) L.length cm] from T9.ok (blkR g7 24 #[.int .i64 f, .slice (some ⟨g, 0, none⟩) L.length cm]) (by rw [hP]; simp))
          have LM9 := Lib.hid (LM.out _ _ T9 (by intro r hr; rw [hP]; exact List.mem_append_left _ (List.mem_cons_of_mem _ (List.mem_cons_of_mem _ (List.mem_append_left _ hr)))))
          have LO9 := Lib.hid (LO.out _ _ T9 (by intro r hr; rw [hP]; exact List.mem_append_left _ (List.mem_cons_of_mem _ (List.mem_cons_of_mem _ (List.mem_append_right _ hr)))))
          have K9 := Lib.hid T9.k
          have Y10 := Lib.hid Y10
          have Y11 := Lib.hid Y11
          have hP := Lib.hid hP
          clear T9 B7 B9 B11 LM7 LO7 z0 z1
          obtain ⟨q1, q2, -⟩ := Blk.c2 B10.out
          obtain ⟨q3, q4, -⟩ := Blk.c2 C11.out
          go_wp2_with fail
          refine (cSB.out _ _ _ Y10.out Y11.out).mono ?_
          rintro r wA ⟨rfl, kA⟩
          have TA := Lib.hid kA
          clear q1 q2 q3 q4
          obtain ⟨q1, q2, -⟩ := Blk.c2 (C7.out.kp kA (by simp))
          obtain ⟨q3, q4, -⟩ := Blk.c2 (B0.out.kp (K9.out.trans kA (by simp)) (by simp))
          clear kA
          go_wp2_with fail
          refine (kept15_any g cm Bs M _ L _ (LM9.out.kp TA.out) (Hv.out.kp0 (K9.out.trans TA.out (by simp))) (by omega) Hb.out).mono ?_
          rintro r wB ⟨rfl, kB⟩
          have TB := Lib.hid (TA.out.trans kB (by simp))
          clear kB q1 q2 q3 q4
          go_wp2_with fail
          refine (kept15_any g' cm' Bs' M' _ G _ (LO9.out.kp TB.out) (Hy.out.kp0 (K9.out.trans TB.out (by simp))) (by omega) HbG.out).mono ?_
          rintro r wC ⟨rfl, kC⟩
          have TC := Lib.hid (TB.out.trans kC (by simp))
          clear kC
          go_wp2_with fail
          refine (known15_true _).mono ?_
          rintro r wD ⟨rfl, kD⟩
          have TD := Lib.hid (K0.out.trans (K9.out.trans (TC.out.trans kD (by simp)) (by simp)) (by simp))
          clear kD
          go_wp2
          go_ret
          exact ⟨rfl, TD.out⟩
theorem cuts15_upto (w : World) (f : Int) (hf : -9223372036854775808 ≤ f ∧ f ≤ 9223372036854775807) (v : Value) (L : List (List UInt8)) (hv : Txs w v L) (hb : TxsLe L 1048576) (n : Int) (hn : -9223372036854775808 ≤ n ∧ n ≤ 9223372036854775807) (y : Value) (G : List (List UInt8)) (hy : Txs w y G) (hG : TxsLe G 1048576) :
    Calls Try.prog 8 #[.agg #[.int .i64 f, v], .int .i64 n, y] w fun r w' => r = .returned (.bool true) ∧ Kp [] w w' :=
  cuts15_true f hf v L n hn y G w hv hy (by have := hb.n; omega) (fun l hl => by have := hb.each l hl; omega) (by have := hG.n; omega) (fun l hl => by have := hG.each l hl; omega)
end Go.Proofs.Ytdmdnphbheomoaa
