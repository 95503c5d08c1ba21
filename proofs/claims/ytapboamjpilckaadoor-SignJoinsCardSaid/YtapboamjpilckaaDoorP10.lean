/- Several texts in one: SigAX, SigAY, SigAZ. -/
import Derived.Test.YtapboamjpilckaaDoorP9
/- spoil of the law; Join of both. -/
namespace Go.Proofs.YtapboamjpilckaaDoor
open Go.RowKit
theorem results_0 {P : Program} {fn : Func} {w : World} {tmps : Array Value} (h : fn.results = #[]) : (results fn tmps).run P w = .ok (.tuple #[]) w := by
  simp [results, h]
set_option maxRecDepth 100000 in
set_option maxHeartbeats 4000000 in
theorem sspoil_any (w0 : World) (L : List Res) (z : Int) (h : List UInt8) (hh : h.length = 32) (v : Value) (n : Nat) (hn : n ≤ 1000000) (xs : List Value) (w : World) (S : Held w0 w (rowR 81 33 v n xs :: L)) :
    Calls Tryd.prog 26 #[.agg (ntA z h v)] w fun e w' => e = .returned (.tuple #[]) ∧ Held w0 w' L := by
  obtain ⟨A, c, rfl, hnc, hcm⟩ := ow_form (S.at_ (l1 := []))
  refine calls_fr Tryd.func26 rfl 22 rfl (fun a0 hsz hdf hAr => ?_)
  have hz0 : a0.tmps.size = 22 := hsz
  have D := hdf
  have o0 := hAr 0 _ rfl
  refine wp_seq (ssp_r0 w0 _ _ S hz0 o0 (fun a1 w1 hs1 h1 => ?_))
  have hz1 := hs1.size.trans hz0
  have o0 := hs1.keep 0 _ (by decide) o0
  have D := hs1.defers.trans D
  obtain ⟨g1, o1, S⟩ := h1
  refine wp_seq (wp_seq (ssp_r1 hz1 (fun a2 hs2 o2 => ?_)))
  have hz2 := hs2.size.trans hz1
  have o1 := hs2.keep 1 _ (by decide) o1
  have D := hs2.defers.trans D
  have hend : ∀ (a : Act) (W : World) (ys : List Value), a.tmps.size = 22 → a.defers = [] → Sl a 1 (.pointer (some ⟨g1, 0, none⟩)) → Held w0 W (rowR 81 33 (.slice A n c) n ys :: blkR g1 36 (ntA z h (.slice A n c)) :: L) → (tailOf 1 Tryd.f26).wp Tryd.prog (bodyPost Tryd.prog Tryd.f26 fun e w' => e = .returned (.tuple #[]) ∧ Held w0 w' L) a W := by
    intro a W ys hs hd o1 S
    conv => arg 2; whnf
    refine ssp_r5 w0 z h hh A n c g1 (by omega) ys L S hs o1 (fun a3 w3 hs3 S => ?_)
    exact ⟨hs3.defers.trans hd, _, results_0 (by rfl), rfl, S⟩
  by_cases h0 : n = 0
  · subst h0
    refine wp_block ?_
    conv => arg 2; whnf
    refine wp_loop (fun a' w' => a' = a2 ∧ w' = w1) (fun _ _ => 0) ⟨rfl, rfl⟩ ?_
    rintro a3 w3 ⟨rfl, rfl⟩
    refine wp_seq (wp_seq (ssp_r2 z h hh A 0 c g1 0 (S.at_ (l1 := [])) hz2 o1 o2 (fun a4 hs4 o7 => ?_)))
    have hz4 := hs4.size.trans hz2
    refine wp_cond_false ((o7.eval (by rw [hz4]; decide)).trans rfl) (wp_exit ?_)
    simp only [Exit.then, Exit.inBlock]
    exact hend a4 _ xs hz4 (hs4.defers.trans D) (hs4.keep 1 _ (by decide) o1) (S.pull 1 rfl)
  · have S := S.pull 1 rfl
    obtain ⟨gr, cr, hgr, -, -⟩ := ow_some (show Ow w1 81 33 (.slice A n c) n xs from S.at_ (l1 := [])) (by omega)
    cases hgr
    obtain ⟨cur, S, hcs, -, -, -⟩ := S.row_blk
    refine wp_block ?_
    conv => arg 2; whnf
    refine wp_loop (fun a' w' => ∃ (k : Nat) (cur : Array Value), k ≤ n ∧ cur.size = c * 33 ∧ a'.tmps.size = 22 ∧ a'.defers = [] ∧ Sl a' 1 (.pointer (some ⟨g1, 0, none⟩)) ∧ Sl a' 2 (.int .i64 ((k : Nat) : Int)) ∧ Held w0 w' (blkR gr 81 cur :: blkR g1 36 (ntA z h (.slice (some ⟨gr, 0, none⟩) n c)) :: L)) (fun a' _ => n - (intOf (a'.eval (.tmp 2))).toNat) ⟨0, cur, Nat.zero_le _, hcs, hz2, D, o1, o2, S⟩ ?_
    iterate 9 (try clear o1)
    iterate 9 (try clear o2)
    iterate 9 (try clear S)
    rintro a3 w3 ⟨k, cur, hk, hcs, hz3, D, o1, o2, S⟩
    have e2 := o2.eval (by rw [hz3]; decide)
    refine wp_seq (wp_seq (ssp_r2 z h hh (some ⟨gr, 0, none⟩) n c g1 k (S.at_ (l1 := [_])) hz3 o1 o2 (fun a4 hs4 o7 => ?_)))
    have hz4 := hs4.size.trans hz3
    have o1 := hs4.keep 1 _ (by decide) o1
    have o2 := hs4.keep 2 _ (by decide) o2
    have D := hs4.defers.trans D
    by_cases hlt : k < n
    · refine wp_cond_true ((o7.eval (by rw [hz4]; decide)).trans (by rw [decide_eq_true hlt])) (wp_skip ?_)
      simp only [Exit.then]
      refine wp_seq (wp_block ?_)
      refine ssp_r4 w0 z h hh n c g1 gr k hlt hnc cur hcs L S hz4 o1 o2 (fun a5 w5 hs5 h5 => ?_)
      obtain ⟨cur2, hcs2, S⟩ := h5
      have hz5 := hs5.size.trans hz4
      simp only [Exit.inBlock, Exit.then]
      refine ssp_r3 k (by omega) hz5 (hs5.keep 2 _ (by decide) o2) (fun a6 hs6 o2' => ?_)
      have hz6 := hs6.size.trans hz5
      refine ⟨⟨k + 1, cur2, by omega, hcs2, hz6, hs6.defers.trans (hs5.defers.trans D), hs6.keep 1 _ (by decide) (hs5.keep 1 _ (by decide) o1), o2', S⟩, ?_⟩
      show n - (intOf _).toNat < n - (intOf _).toNat
      rw [e2, o2'.eval (by rw [hz6]; decide)]
      simp only [intOf]; omega
    · refine wp_cond_false ((o7.eval (by rw [hz4]; decide)).trans (by rw [decide_eq_false hlt])) (wp_exit ?_)
      simp only [Exit.then, Exit.inBlock]
      exact hend a4 _ _ hz4 D o1 (S.blk_row hcs rfl hnc hcm)
/-- What Join says. -/
def joinE (z : Int) (h : List UInt8) (l : List SigD) (y : Int) (g : List UInt8) (m : List SigD) : Int :=
  if mayN z l = false then 2 else if mayN y m = false then 2 else if (!(decide (z = y) && (h == g))) = true then 2 else match joinF l m with
    | none => 8
    | some x => if 64 < x.length then 380 else 0
/-- What a call of Join leaves. -/
def JoinPost (z : Int) (h : List UInt8) (l : List SigD) (y : Int) (g : List UInt8) (m : List SigD) (w : World) (r : Ending) (w' : World) : Prop :=
  ∃ v, r = .returned (.tuple #[.agg (if joinE z h l y g m = 0 then ntA z h v else zeroN), .int .i64 (joinE z h l y g m)]) ∧ Kp [] w w' ∧ (joinE z h l y g m = 0 → ∃ x, joinF l m = some x ∧ Held w w' [rowR 81 33 v x.length (sgsC x)])
theorem joinF_cons (acc : List SigD) (s : SigD) (m : List SigD) : joinF acc (s :: m) = match lk s.1 acc with
    | some v => if v == s.2 then joinF acc m else none
    | none => joinF (insN acc s) m := by rw [joinF]; rfl
theorem joinF_nil (acc : List SigD) : joinF acc [] = some acc := by rw [joinF]
theorem join_ok {l m x : List SigD} (hl : SgOk l) (hm : SgOk m) : ∀ {acc}, SgOk acc → joinF acc m = some x → SgOk x := by
  induction m with
  | nil => intro acc ha h; unfold joinF at h; cases h; exact ha
  | cons s m ih =>
    intro acc ha h
    unfold joinF at h
    have hs := hm s (List.mem_cons_self ..)
    cases e : lk s.1 acc with
    | some v =>
      rw [e] at h
      simp only at h
      split at h
      · exact ih (fun t ht => hm t (List.mem_cons_of_mem _ ht)) ha h
      · cases h
    | none =>
      rw [e] at h
      exact ih (fun t ht => hm t (List.mem_cons_of_mem _ ht)) (insN_ok ha hs.1 hs.2) h
set_option maxRecDepth 100000 in
set_option maxHeartbeats 8000000 in
theorem sjoin_any (z : Int) (hz : -9223372036854775808 ≤ z ∧ z ≤ 9223372036854775807) (h : List UInt8) (hh : h.length = 32) (A : Option Addr) (c : Nat) (l : List SigD) (hok : SgOk l) (hll : l.length ≤ 9223372036854775807) (y : Int) (hy : -9223372036854775808 ≤ y ∧ y ≤ 9223372036854775807) (g : List UInt8) (hg : g.length = 32) (B : Option Addr) (e : Nat) (m : List SigD) (hmk : SgOk m) (hml : m.length ≤ 9223372036854775807) (w : World) (LDw : LD w) (hv : Rd w 33 (.slice A l.length c) l.length (sgsC l)) (hu : Rd w 33 (.slice B m.length e) m.length (sgsC m)) :
    Calls Tryd.prog 35 #[.agg (ntA z h (.slice A l.length c)), .agg (ntA y g (.slice B m.length e))] w (JoinPost z h l y g m w) := by
  refine calls_fr Tryd.func35 rfl 76 rfl (fun a0 hsz hdf hAr => ?_)
  have hz0 : a0.tmps.size = 76 := hsz
  have D := hdf
  have o0 := hAr 0 _ rfl
  have o1 := hAr 1 _ rfl
  refine wp_seq (sjn_r0 w _ _ [] (Held.start w) hz0 o0 o1 (fun a1 w1 hs1 o5 h1 => ?_))
  have hz1 := hs1.size.trans hz0
  have o0 := hs1.keep 0 _ (by decide) o0
  have o1 := hs1.keep 1 _ (by decide) o1
  have D := hs1.defers.trans D
  obtain ⟨g2, g3, g4, o2, o3, o4, S⟩ := h1
  have K := S.k
  have hb2 := S.at_ (l1 := [_, _])
  have hb3 := S.at_ (l1 := [_])
  have hv1 := rd_old hv K
  have hu1 := rd_old hu K
  have hfail : ∀ (a : Act) (W : World) (g4 : Nat) (L : List Res) (E : Int), a.tmps.size = 76 → a.defers = [] → Sl a 4 (.pointer (some ⟨g4, 0, none⟩)) → Sl a 5 (.int .i64 E) → Held w W (blkR g4 36 zeroN :: L) → joinE z h l y g m = E → E ≠ 0 → bodyPost Tryd.prog Tryd.f35 (JoinPost z h l y g m w) .ret a W := by
    intro a W g4 L E hs hd o4 o5 S hE h0
    refine (bodyPost_ret (results_cell_tmp (by rfl) (o4.eval (by rw [hs]; decide)) (S.at_ (l1 := [])) Tryd.underlying36 rfl (by rw [show zeroN.size = 34 from rfl]; exact Tryd.infoNote)) hd ⟨.slice none 0 0, ?_, S.k, fun h1 => absurd (hE.symm.trans h1) h0⟩)
    rw [hE, if_neg h0]
    exact congrArg (fun x => Ending.returned (.tuple #[.agg zeroN, x])) (o5.eval (by rw [hs]; decide))
  cases hm1 : mayN z l
  · skip
    refine wp_seq (wp_seq (sjn_r1N (LDw.kp K) z hz h hh A c l hok hll y hy g hg B e m hmk hml g2 g3 hb2 hb3 hv1 hu1 hm1 hz1 o2 o3 (fun a2 w2 hs2 k2 o25 => ?_)))
    have hz2 := hs2.size.trans hz1
    refine wp_cond_true ((o25.eval (by rw [hz2]; decide)).trans (by first | rfl | rw [hq])) ?_
    refine wp_seq (sjn_r2 w g4 _ (S.kp k2) hz2 (hs2.keep 4 _ (by decide) o4) (fun a3 w3 hs3 o5 S => ?_))
    refine wp_ret ?_
    simp only [Exit.then]
    exact hfail a3 w3 g4 _ 2 (hs3.size.trans hz2) (hs3.defers.trans (hs2.defers.trans D)) (hs3.keep 4 _ (by decide) (hs2.keep 4 _ (by decide) o4)) o5 S (by unfold joinE; rw [hm1]; rfl) (by decide)
  · cases hm2 : mayN y m
    · skip
      refine wp_seq (wp_seq (sjn_r1M (LDw.kp K) z hz h hh A c l hok hll y hy g hg B e m hmk hml g2 g3 hb2 hb3 hv1 hu1 hm1 hm2 hz1 o2 o3 (fun a2 w2 hs2 k2 o25 => ?_)))
      have hz2 := hs2.size.trans hz1
      refine wp_cond_true ((o25.eval (by rw [hz2]; decide)).trans (by first | rfl | rw [hq])) ?_
      refine wp_seq (sjn_r2 w g4 _ (S.kp k2) hz2 (hs2.keep 4 _ (by decide) o4) (fun a3 w3 hs3 o5 S => ?_))
      refine wp_ret ?_
      simp only [Exit.then]
      exact hfail a3 w3 g4 _ 2 (hs3.size.trans hz2) (hs3.defers.trans (hs2.defers.trans D)) (hs3.keep 4 _ (by decide) (hs2.keep 4 _ (by decide) o4)) o5 S (by unfold joinE; rw [hm1, hm2]; rfl) (by decide)
    · cases hq : (!(decide (z = y) && (h == g)))
      · refine wp_seq (wp_seq (sjn_r1Y (LDw.kp K) z hz h hh A c l hok hll y hy g hg B e m hmk hml g2 g3 hb2 hb3 hv1 hu1 hm1 hm2 _ hq hz1 o2 o3 (fun a2 w2 hs2 k2 o25 => ?_)))
        have hz2 := hs2.size.trans hz1
        have o2 := hs2.keep 2 _ (by decide) o2
        have o3 := hs2.keep 3 _ (by decide) o3
        have o4 := hs2.keep 4 _ (by decide) o4
        have D := hs2.defers.trans D
        refine wp_cond_false (o25.eval (by rw [hz2]; decide)) (wp_skip ?_)
        simp only [Exit.then]
        have hE : joinE z h l y g m = match joinF l m with
            | none => 8
            | some x => if 64 < x.length then 380 else 0 := by unfold joinE; rw [hm1, hm2, hq]; rfl
        obtain ⟨h64, hrl⟩ := mayN_64 hm1
        obtain ⟨hm64, hrm⟩ := mayN_64 hm2
        have S := S.kp k2
        have S : Held w w2 [blkR g2 36 (ntA z h (.slice A l.length c)), blkR g4 36 zeroN, blkR g3 36 (ntA y g (.slice B m.length e))] := S.pull 2 rfl
        refine wp_seq (sjn_r3 w z h hh A c l hok h64 (fun V kV => rd_old hv kV) g2 _ hz2 o2 S (fun a3 vs gs w3 hs3 o6 S => ?_))
        have hz3 := hs3.size.trans hz2
        have o2 := hs3.keep 2 _ (by decide) o2
        have o3 := hs3.keep 3 _ (by decide) o3
        have o4 := hs3.keep 4 _ (by decide) o4
        have D := hs3.defers.trans D
        obtain ⟨g6, hg6⟩ : ∃ g6, gs 6 = g6 := ⟨_, rfl⟩
        rw [hg6] at S o6
        obtain ⟨A1, c1, hv4, -, -⟩ := ow_form (show Ow w3 81 33 (vs 4) l.length (sgsC l) from S.at_ (l1 := []))
        rw [hv4] at S
        refine wp_seq (wp_seq (sjn_r4 w y g hg B _ e g3 (S.at_ (l1 := [_, _, _, _])) hz3 o3 (fun a4 hs4 o34 o35 o36 => ?_)))
        have hz4 := hs4.size.trans hz3
        have o2 := hs4.keep 2 _ (by decide) o2
        have o3 := hs4.keep 3 _ (by decide) o3
        have o4 := hs4.keep 4 _ (by decide) o4
        have o6 := hs4.keep 6 _ (by decide) o6
        have D := hs4.defers.trans D
        refine wp_block ?_
        conv => arg 2; whnf
        refine wp_loop (fun a' w' => ∃ (k : Nat) (x : List SigD) (A1 : Option Addr) (c1 : Nat), k ≤ m.length ∧ x.length ≤ 64 + k ∧ SgOk x ∧ rising [] x = true ∧ joinF x (m.drop k) = joinF l m ∧ a'.tmps.size = 76 ∧ a'.defers = [] ∧ Sl a' 4 (.pointer (some ⟨g4, 0, none⟩)) ∧ Sl a' 6 (.pointer (some ⟨g6, 0, none⟩)) ∧ Sl a' 34 (.slice B m.length e) ∧ Sl a' 35 (.int .i64 ((m.length : Nat) : Int)) ∧ Sl a' 36 (.int .i64 ((k : Nat) : Int)) ∧ Held w w' [rowR 81 33 (.slice A1 x.length c1) x.length (sgsC x), blkR g6 36 (ntA z h (.slice A1 x.length c1)), blkR g2 36 (ntA z h (.slice A l.length c)), blkR g4 36 zeroN, blkR g3 36 (ntA y g (.slice B m.length e))]) (fun a' _ => m.length - (intOf (a'.eval (.tmp 36))).toNat) ⟨0, l, A1, c1, Nat.zero_le _, by omega, hok, hrl, by rw [List.drop_zero], hz4, D, o4, o6, o34, o35, o36, S⟩ ?_
        iterate 9 (try clear o2)
        iterate 9 (try clear o3)
        iterate 9 (try clear o4)
        iterate 9 (try clear o6)
        iterate 9 (try clear o34)
        iterate 9 (try clear o35)
        iterate 9 (try clear o36)
        iterate 9 (try clear S)
        iterate 9 (try clear D)
        rintro a5 w5 ⟨k, x, A1, c1, hk, hxl, hxk, hrx, hF, hz5, D, o4, o6, o34, o35, o36, S⟩
        have e36 := o36.eval (by rw [hz5]; decide)
        refine wp_seq (sjn_r5 k m.length hz5 o35 o36 (fun a6 hs6 o37 => ?_))
        have hz6 := hs6.size.trans hz5
        have o4 := hs6.keep 4 _ (by decide) o4
        have o6 := hs6.keep 6 _ (by decide) o6
        have o34 := hs6.keep 34 _ (by decide) o34
        have o35 := hs6.keep 35 _ (by decide) o35
        have o36 := hs6.keep 36 _ (by decide) o36
        have D := hs6.defers.trans D
        by_cases hlt : k < m.length
        · refine wp_seq (wp_cond_true ((o37.eval (by rw [hz6]; decide)).trans (by rw [decide_eq_true hlt])) (wp_skip ?_))
          obtain ⟨ad, hB⟩ := sgs_addr hu (by omega)
          have hub := hu
          rw [hB] at hub
          have o34' := o34
          rw [hB] at o34'
          obtain ⟨s, hs⟩ : ∃ s, m[k]? = some s := ⟨_, List.getElem?_eq_getElem hlt⟩
          have hsk := hmk s (List.mem_of_getElem? hs)
          have hdr : m.drop k = s :: m.drop (k + 1) := by rw [List.drop_eq_getElem_cons hlt, (List.getElem?_eq_some_iff.1 hs).2]
          have hsn : nmOk s.1 = true := rising_nm hrm s (List.mem_of_getElem? hs)
          rw [hdr, joinF_cons] at hF
          refine wp_seq (wp_block ?_)
          refine wp_seq (sjn_r6 w ad k m.length e hlt s hsk.1 (sgs_at (rd_old hub S.k) hmk hs) _ S hz6 o34' o36 (fun a7 w7 hs7 h7 => ?_))
          obtain ⟨g8, o8, S⟩ := h7
          have hz7 := hs7.size.trans hz6
          have o4 := hs7.keep 4 _ (by decide) o4
          have o6 := hs7.keep 6 _ (by decide) o6
          have o34 := hs7.keep 34 _ (by decide) o34
          have o35 := hs7.keep 35 _ (by decide) o35
          have o36 := hs7.keep 36 _ (by decide) o36
          have o37 := hs7.keep 37 _ (by decide) o37
          have D := hs7.defers.trans D
          have S : Held w w7 (blkR g6 36 (ntA z h (.slice A1 x.length c1)) :: blkR g8 81 (sgA s) :: rowR 81 33 (.slice A1 x.length c1) x.length (sgsC x) :: [blkR g2 36 (ntA z h (.slice A l.length c)), blkR g4 36 zeroN, blkR g3 36 (ntA y g (.slice B m.length e))]) := (S.pull 1 rfl |>.pull 1 rfl |>.pull 2 rfl)
          refine wp_seq (sjn_r7 w g6 g8 z h hh A1 x.length c1 s hsk.1 (posN s.1 x) (hasN s.1 x) _ S (fun V SV => bsf_any A1 c1 x s hxk hsk.1 (by omega) (rising_mono _ hrx) V (Rd.of_own (SV.at_ (l1 := [_, _])))) hz7 o6 o8 (fun a8 w8 hs8 o9 o10 S => ?_))
          have hz8 := hs8.size.trans hz7
          have o4 := hs8.keep 4 _ (by decide) o4
          have o6 := hs8.keep 6 _ (by decide) o6
          have o34 := hs8.keep 34 _ (by decide) o34
          have o35 := hs8.keep 35 _ (by decide) o35
          have o36 := hs8.keep 36 _ (by decide) o36
          have o37 := hs8.keep 37 _ (by decide) o37
          have o8 := hs8.keep 8 _ (by decide) o8
          have D := hs8.defers.trans D
          have hhas := hasN_lk (nm := s.1) hrx
          -- what goes on behind the round
          have hback : ∀ (a9 : Act) (w9 : World) (x2 : List SigD) (A2 : Option Addr) (c2 : Nat), a9.tmps.size = 76 → a9.defers = [] → x2.length ≤ 64 + (k + 1) → SgOk x2 → rising [] x2 = true → joinF x2 (m.drop (k + 1)) = joinF l m → Sl a9 4 (.pointer (some ⟨g4, 0, none⟩)) → Sl a9 6 (.pointer (some ⟨g6, 0, none⟩)) → Sl a9 34 (.slice B m.length e) → Sl a9 35 (.int .i64 ((m.length : Nat) : Int)) → Sl a9 36 (.int .i64 ((k : Nat) : Int)) → Held w w9 [rowR 81 33 (.slice A2 x2.length c2) x2.length (sgsC x2), blkR g6 36 (ntA z h (.slice A2 x2.length c2)), blkR g2 36 (ntA z h (.slice A l.length c)), blkR g4 36 zeroN, blkR g3 36 (ntA y g (.slice B m.length e))] →
              ∀ R, (Code.region 12 (opsOf 12 Tryd.f35).toArray false).wp Tryd.prog (Exit.then (fun a' w' => (∃ (k : Nat) (x : List SigD) (A1 : Option Addr) (c1 : Nat), k ≤ m.length ∧ x.length ≤ 64 + k ∧ SgOk x ∧ rising [] x = true ∧ joinF x (m.drop k) = joinF l m ∧ a'.tmps.size = 76 ∧ a'.defers = [] ∧ Sl a' 4 (.pointer (some ⟨g4, 0, none⟩)) ∧ Sl a' 6 (.pointer (some ⟨g6, 0, none⟩)) ∧ Sl a' 34 (.slice B m.length e) ∧ Sl a' 35 (.int .i64 ((m.length : Nat) : Int)) ∧ Sl a' 36 (.int .i64 ((k : Nat) : Int)) ∧ Held w w' [rowR 81 33 (.slice A1 x.length c1) x.length (sgsC x), blkR g6 36 (ntA z h (.slice A1 x.length c1)), blkR g2 36 (ntA z h (.slice A l.length c)), blkR g4 36 zeroN, blkR g3 36 (ntA y g (.slice B m.length e))]) ∧ m.length - (intOf (a'.eval (.tmp 36))).toNat < m.length - (intOf (a5.eval (.tmp 36))).toNat) R) a9 w9 := by
            intro a9 w9 x2 A2 c2 hz9 D hl2 hk2 hr2 hF2 o4 o6 o34 o35 o36 S R
            refine sjn_r12 k (by omega) hz9 o36 (fun a10 hs10 o36' => ?_)
            have hz10 := hs10.size.trans hz9
            refine ⟨⟨k + 1, x2, A2, c2, by omega, hl2, hk2, hr2, hF2, hz10, hs10.defers.trans D, hs10.keep 4 _ (by decide) o4, hs10.keep 6 _ (by decide) o6, hs10.keep 34 _ (by decide) o34, hs10.keep 35 _ (by decide) o35, o36', S⟩, ?_⟩
            rw [e36, o36'.eval (by rw [hz10]; decide)]
            simp only [intOf]; omega
          refine wp_block ?_
          refine wp_seq (sjn_r8 _ hz8 o10 (fun a9 hs9 o47 => ?_))
          have hz9 := hs9.size.trans hz8
          have o4 := hs9.keep 4 _ (by decide) o4
          have o6 := hs9.keep 6 _ (by decide) o6
          have o34 := hs9.keep 34 _ (by decide) o34
          have o35 := hs9.keep 35 _ (by decide) o35
          have o36 := hs9.keep 36 _ (by decide) o36
          have o37 := hs9.keep 37 _ (by decide) o37
          have o8 := hs9.keep 8 _ (by decide) o8
          have o9 := hs9.keep 9 _ (by decide) o9
          have o10 := hs9.keep 10 _ (by decide) o10
          have D := hs9.defers.trans D
          cases hlk : lk s.1 x with
          | none =>
            rw [hlk] at hF hhas
            have hh0 : hasN s.1 x = false := hhas
            refine wp_cond_true ((o47.eval (by rw [hz9]; decide)).trans (by rw [hh0]; rfl)) ?_
            have S : Held w w8 (rowR 81 33 (.slice A1 x.length c1) x.length (sgsC x) :: blkR g6 36 (ntA z h (.slice A1 x.length c1)) :: blkR g8 81 (sgA s) :: [blkR g2 36 (ntA z h (.slice A l.length c)), blkR g4 36 zeroN, blkR g3 36 (ntA y g (.slice B m.length e))]) := S.pull 2 rfl
            refine sjn_r9 w z h hh A1 c1 x hxk (by omega) (posN s.1 x) (posN_le _ _) s hsk.1 g6 g8 _ S hz9 o6 o8 o9 (fun a10 w10 hs10 h10 => ?_)
            have hz10 := hs10.size.trans hz9
            have o4 := hs10.keep 4 _ (by decide) o4
            have o6 := hs10.keep 6 _ (by decide) o6
            have o34 := hs10.keep 34 _ (by decide) o34
            have o35 := hs10.keep 35 _ (by decide) o35
            have o36 := hs10.keep 36 _ (by decide) o36
            have o37 := hs10.keep 37 _ (by decide) o37
            have o8 := hs10.keep 8 _ (by decide) o8
            have o9 := hs10.keep 9 _ (by decide) o9
            have o10 := hs10.keep 10 _ (by decide) o10
            have o47 := hs10.keep 47 _ (by decide) o47
            have D := hs10.defers.trans D
            obtain ⟨A2, c2, S⟩ := h10
            have S : Held w w10 (rowR 81 33 (.slice A2 (x.length + 1) c2) (x.length + 1) (sgsC (insN x s)) :: blkR g6 36 (ntA z h (.slice A2 (x.length + 1) c2)) :: [blkR g2 36 (ntA z h (.slice A l.length c)), blkR g4 36 zeroN, blkR g3 36 (ntA y g (.slice B m.length e))]) := S.some_of (List.Sublist.cons_cons _ (List.Sublist.cons_cons _ (List.Sublist.cons _ (List.Sublist.refl _))))
            simp only [Exit.inBlock, Exit.then]
            rw [← insN_length s x] at S
            exact hback a10 w10 (insN x s) A2 c2 hz10 D (by rw [insN_length]; omega) (insN_ok hxk hsk.1 hsk.2) (rising_ins hsn hrx (cmp_nil hsn) hh0) hF o4 o6 o34 o35 o36 S _
          | some v =>
            rw [hlk] at hF hhas
            simp only at hF
            have hh0 : hasN s.1 x = true := hhas
            refine wp_cond_false ((o47.eval (by rw [hz9]; decide)).trans (by rw [hh0]; rfl)) ?_
            have hpx := posN_lk hrx hlk
            have hpl := (List.getElem?_eq_some_iff.1 hpx).1
            obtain ⟨gr, cr, hgr, -, -⟩ := ow_some (show Ow w8 81 33 (.slice A1 x.length c1) x.length (sgsC x) from S.at_ (l1 := [_, _])) (by omega)
            cases hgr
            have hvl : v.length = 32 := (hxk _ (List.mem_of_getElem? hpx)).1
            have hrx2 := Rd.of_own (show Ow w8 81 33 (.slice (some ⟨gr, 0, none⟩) x.length c1) x.length (sgsC x) from S.at_ (l1 := [_, _]))
            have hcell : ∀ V, Kp [] w8.drew V → ∀ j u, (hashA (s.1, v).2).toList[j]? = some u → V.cell? ((⟨gr, posN s.1 x * 33 + 1, none⟩ : Addr).add j) = some u := by
              intro V kV j u hu
              have := sgs_at (rd_old hrx2 (((Kp.refl [] w8).drew).trans kV (by simp))) hxk hpx (j + 1) u (by show (strV s.1 :: bv v)[j + 1]? = _; rw [List.getElem?_cons_succ]; exact hu)
              rw [add_of_add, Addr.add_lit, Nat.zero_add] at this
              rw [Addr.add_lit, show posN s.1 x * 33 + 1 + j = posN s.1 x * 33 + (j + 1) from by omega]
              exact this
            refine wp_seq (sjn_r10 z h hh gr x.length c1 (posN s.1 x) hpl g6 g8 ((S.at_ (l1 := [])).drew) s (s.1, v) hsk.1 hvl ((S.at_ (l1 := [_])).drew) hcell hz9 o6 o8 o9 (fun a10 w10 hs10 k10 o57 => ?_))
            have hz10 := hs10.size.trans hz9
            have o4 := hs10.keep 4 _ (by decide) o4
            have o6 := hs10.keep 6 _ (by decide) o6
            have o34 := hs10.keep 34 _ (by decide) o34
            have o35 := hs10.keep 35 _ (by decide) o35
            have o36 := hs10.keep 36 _ (by decide) o36
            have o37 := hs10.keep 37 _ (by decide) o37
            have o8 := hs10.keep 8 _ (by decide) o8
            have o9 := hs10.keep 9 _ (by decide) o9
            have o10 := hs10.keep 10 _ (by decide) o10
            have o47 := hs10.keep 47 _ (by decide) o47
            have D := hs10.defers.trans D
            have S := S.kp (((Kp.refl [] w8).drew).trans k10 (by simp))
            cases hvs : v == s.2
            · rw [hvs, if_neg (by decide)] at hF
              refine wp_cond_true ((o57.eval (by rw [hz10]; decide)).trans (by show Value.bool (!(v == s.2)) = _; rw [hvs]; rfl)) ?_
              have S : Held w w10 (blkR g4 36 zeroN :: _) := S.pull 4 rfl
              refine wp_seq (sjn_r11 w g4 _ S hz10 o4 (fun a11 w11 hs11 o5 S => ?_))
              have hz11 := hs11.size.trans hz10
              have o4 := hs11.keep 4 _ (by decide) o4
              have o6 := hs11.keep 6 _ (by decide) o6
              have o34 := hs11.keep 34 _ (by decide) o34
              have o35 := hs11.keep 35 _ (by decide) o35
              have o36 := hs11.keep 36 _ (by decide) o36
              have o37 := hs11.keep 37 _ (by decide) o37
              have o8 := hs11.keep 8 _ (by decide) o8
              have o9 := hs11.keep 9 _ (by decide) o9
              have o10 := hs11.keep 10 _ (by decide) o10
              have o47 := hs11.keep 47 _ (by decide) o47
              have o57 := hs11.keep 57 _ (by decide) o57
              have D := hs11.defers.trans D
              refine wp_ret ?_
              simp only [Exit.inBlock, Exit.then]
              exact hfail a11 w11 g4 _ 8 hz11 D o4 o5 S (by rw [hE, ← hF]) (by decide)
            · rw [hvs, if_pos rfl] at hF
              refine wp_cond_false ((o57.eval (by rw [hz10]; decide)).trans (by show Value.bool (!(v == s.2)) = _; rw [hvs]; rfl)) (wp_skip ?_)
              simp only [Exit.inBlock, Exit.then]
              have S : Held w w10 [rowR 81 33 (.slice (some ⟨gr, 0, none⟩) x.length c1) x.length (sgsC x), blkR g6 36 (ntA z h (.slice (some ⟨gr, 0, none⟩) x.length c1)), blkR g2 36 (ntA z h (.slice A l.length c)), blkR g4 36 zeroN, blkR g3 36 (ntA y g (.slice B m.length e))] := ((S.pull 1 rfl).drop.pull 1 rfl)
              exact hback a10 w10 x (some ⟨gr, 0, none⟩) c1 hz10 D (by omega) hxk hrx hF o4 o6 o34 o35 o36 S _
        · refine wp_seq (wp_cond_false ((o37.eval (by rw [hz6]; decide)).trans (by rw [decide_eq_false hlt])) (wp_exit ?_))
          have hkl : k = m.length := by omega
          rw [hkl, List.drop_length] at hF
          rw [joinF_nil] at hF
          have hE2 : joinE z h l y g m = if 64 < x.length then 380 else 0 := by rw [hE, ← hF]
          simp only [Exit.inBlock, Exit.then]
          refine wp_seq (wp_seq (sjn_r13 z h hh A1 x.length c1 g6 (S.at_ (l1 := [_])) hz6 o6 (fun a7 hs7 o73 => ?_)))
          have hz7 := hs7.size.trans hz6
          have o4 := hs7.keep 4 _ (by decide) o4
          have o6 := hs7.keep 6 _ (by decide) o6
          have D := hs7.defers.trans D
          by_cases hov : 64 < x.length
          · refine wp_cond_true ((o73.eval (by rw [hz7]; decide)).trans (by rw [decide_eq_true (by omega)])) ?_
            have S := S.pull 3 rfl
            refine wp_seq (sjn_r14 w g4 _ S hz7 o4 (fun a8 w21 hs8 o5 S => ?_))
            have hz8 := hs8.size.trans hz7
            have o4 := hs8.keep 4 _ (by decide) o4
            have o6 := hs8.keep 6 _ (by decide) o6
            have o73 := hs8.keep 73 _ (by decide) o73
            have D := hs8.defers.trans D
            refine wp_ret ?_
            simp only [Exit.then]
            exact hfail a8 w21 g4 _ 380 hz8 D o4 o5 S (by rw [hE2, if_pos hov]) (by decide)
          · refine wp_cond_false ((o73.eval (by rw [hz7]; decide)).trans (by rw [decide_eq_false (by omega)])) (wp_skip ?_)
            simp only [Exit.then]
            rw [if_neg hov] at hE2
            have S := (S.pull 1 rfl).pull 3 rfl
            refine wp_seq (sjn_r15 w g6 g4 _ (ntA_size hh) (ntA_one rfl) _ S hz7 o4 o6 (fun a8 w22 hs8 o5 S => ?_))
            have hz8 := hs8.size.trans hz7
            have o4 := hs8.keep 4 _ (by decide) o4
            have o6 := hs8.keep 6 _ (by decide) o6
            have o73 := hs8.keep 73 _ (by decide) o73
            have D := hs8.defers.trans D
            refine wp_ret ?_
            refine (bodyPost_ret (results_cell_tmp (by rfl) (o4.eval (by rw [hz8]; decide)) (S.at_ (l1 := [])) Tryd.underlying36 rfl (by rw [ntA_size hh]; exact Tryd.infoNote)) D ⟨.slice A1 x.length c1, ?_, S.k, fun _ => ⟨x, hF.symm, S.some_of (List.singleton_sublist.2 (by simp))⟩⟩)
            rw [hE2, if_pos rfl]
            exact congrArg (fun q => Ending.returned (.tuple #[.agg _, q])) (o5.eval (by rw [hz8]; decide))
      · refine wp_seq (wp_seq (sjn_r1Y (LDw.kp K) z hz h hh A c l hok hll y hy g hg B e m hmk hml g2 g3 hb2 hb3 hv1 hu1 hm1 hm2 _ hq hz1 o2 o3 (fun a2 w2 hs2 k2 o25 => ?_)))
        have hz2 := hs2.size.trans hz1
        refine wp_cond_true (o25.eval (by rw [hz2]; decide)) ?_
        refine wp_seq (sjn_r2 w g4 _ (S.kp k2) hz2 (hs2.keep 4 _ (by decide) o4) (fun a3 w3 hs3 o5 S => ?_))
        refine wp_ret ?_
        simp only [Exit.then]
        exact hfail a3 w3 g4 _ 2 (hs3.size.trans hz2) (hs3.defers.trans (hs2.defers.trans D)) (hs3.keep 4 _ (by decide) (hs2.keep 4 _ (by decide) o4)) o5 S (by unfold joinE; rw [hm1, hm2, hq]; rfl) (by decide)
end Go.Proofs.YtapboamjpilckaaDoor
/- Join of the reference. -/
namespace Go.Proofs.YtapboamjpilckaaDoor
open Go.RowKit
theorem findK_none {nm : List UInt8} : ∀ {l : List SigD} {k : Nat}, lk nm l = none → findK nm l k = -1
  | [], _, _ => rfl
  | s :: l, k, h => by
    rw [lk_cons] at h
    unfold findK
    cases e : s.1 == nm
    · rw [e, if_neg (by decide)] at h
      rw [if_neg (by decide)]
      exact findK_none h
    · rw [e, if_pos rfl] at h
      cases h
theorem findK_some {nm v : List UInt8} : ∀ {l : List SigD} {k : Nat}, lk nm l = some v → ∃ p, findK nm l k = ((k + p : Nat) : Int) ∧ l[p]? = some (nm, v)
  | [], _, h => by cases h
  | s :: l, k, h => by
    rw [lk_cons] at h
    unfold findK
    cases e : s.1 == nm
    · rw [e, if_neg (by decide)] at h
      rw [if_neg (by decide)]
      obtain ⟨p, h1, h2⟩ := findK_some (k := k + 1) h
      exact ⟨p + 1, by rw [h1]; congr 1; omega, by rw [List.getElem?_cons_succ]; exact h2⟩
    · rw [e, if_pos rfl] at h
      cases h
      rw [if_pos rfl]
      exact ⟨0, rfl, by rw [List.getElem?_cons_zero, ← eq_of_beq e]⟩
theorem rjoinF_cons (a acc : List SigD) (s : SigD) (m : List SigD) : rjoinF a acc (s :: m) = match lk s.1 a with
    | some v => if v == s.2 then rjoinF a acc m else none
    | none => rjoinF a (insN acc s) m := by rw [rjoinF]; rfl
theorem rjoinF_nil (a acc : List SigD) : rjoinF a acc [] = some acc := by rw [rjoinF]
set_option maxRecDepth 100000 in
set_option maxHeartbeats 8000000 in
theorem srjoin_any (z : Int) (hz : -9223372036854775808 ≤ z ∧ z ≤ 9223372036854775807) (h : List UInt8) (hh : h.length = 32) (A : Option Addr) (c : Nat) (l : List SigD) (hok : SgOk l) (hll : l.length ≤ 9223372036854775807) (y : Int) (hy : -9223372036854775808 ≤ y ∧ y ≤ 9223372036854775807) (g : List UInt8) (hg : g.length = 32) (B : Option Addr) (e : Nat) (m : List SigD) (hmk : SgOk m) (hml : m.length ≤ 9223372036854775807) (w : World) (hv : Rd w 33 (.slice A l.length c) l.length (sgsC l)) (hu : Rd w 33 (.slice B m.length e) m.length (sgsC m)) :
    Calls Tryd.prog 36 #[.agg (ntA z h (.slice A l.length c)), .agg (ntA y g (.slice B m.length e))] w (JoinPost z h l y g m w) := by
  refine calls_fr Tryd.func36 rfl 82 rfl (fun a0 hsz hdf hAr => ?_)
  have hz0 : a0.tmps.size = 82 := hsz
  have D := hdf
  have o0 := hAr 0 _ rfl
  have o1 := hAr 1 _ rfl
  refine wp_seq (rjn_r0 w _ _ [] (Held.start w) hz0 o0 o1 (fun a1 w1 hs1 o5 h1 => ?_))
  have hz1 := hs1.size.trans hz0
  have o0 := hs1.keep 0 _ (by decide) o0
  have o1 := hs1.keep 1 _ (by decide) o1
  have D := hs1.defers.trans D
  obtain ⟨g2, g3, g4, o2, o3, o4, S⟩ := h1
  have K := S.k
  have hb2 := S.at_ (l1 := [_, _])
  have hb3 := S.at_ (l1 := [_])
  have hv1 := rd_old hv K
  have hu1 := rd_old hu K
  have hfail : ∀ (a : Act) (W : World) (g4 : Nat) (L : List Res) (E : Int), a.tmps.size = 82 → a.defers = [] → Sl a 4 (.pointer (some ⟨g4, 0, none⟩)) → Sl a 5 (.int .i64 E) → Held w W (blkR g4 36 zeroN :: L) → joinE z h l y g m = E → E ≠ 0 → bodyPost Tryd.prog Tryd.f36 (JoinPost z h l y g m w) .ret a W := by
    intro a W g4 L E hs hd o4 o5 S hE h0
    refine (bodyPost_ret (results_cell_tmp (by rfl) (o4.eval (by rw [hs]; decide)) (S.at_ (l1 := [])) Tryd.underlying36 rfl (by rw [show zeroN.size = 34 from rfl]; exact Tryd.infoNote)) hd ⟨.slice none 0 0, ?_, S.k, fun h1 => absurd (hE.symm.trans h1) h0⟩)
    rw [hE, if_neg h0]
    exact congrArg (fun x => Ending.returned (.tuple #[.agg zeroN, x])) (o5.eval (by rw [hs]; decide))
  cases hm1 : mayN z l
  · skip
    refine wp_seq (wp_seq (rjn_r1N z hz h hh A c l hok hll y hy g hg B e m hmk hml g2 g3 hb2 hb3 hv1 hu1 hm1 hz1 o2 o3 (fun a2 w2 hs2 k2 o23 => ?_)))
    have hz2 := hs2.size.trans hz1
    refine wp_cond_true ((o23.eval (by rw [hz2]; decide)).trans (by first | rfl | rw [hq])) ?_
    refine wp_seq (rjn_r2 w g4 _ (S.kp k2) hz2 (hs2.keep 4 _ (by decide) o4) (fun a3 w3 hs3 o5 S => ?_))
    refine wp_ret ?_
    simp only [Exit.then]
    exact hfail a3 w3 g4 _ 2 (hs3.size.trans hz2) (hs3.defers.trans (hs2.defers.trans D)) (hs3.keep 4 _ (by decide) (hs2.keep 4 _ (by decide) o4)) o5 S (by unfold joinE; rw [hm1]; rfl) (by decide)
  · cases hm2 : mayN y m
    · skip
      refine wp_seq (wp_seq (rjn_r1M z hz h hh A c l hok hll y hy g hg B e m hmk hml g2 g3 hb2 hb3 hv1 hu1 hm1 hm2 hz1 o2 o3 (fun a2 w2 hs2 k2 o23 => ?_)))
      have hz2 := hs2.size.trans hz1
      refine wp_cond_true ((o23.eval (by rw [hz2]; decide)).trans (by first | rfl | rw [hq])) ?_
      refine wp_seq (rjn_r2 w g4 _ (S.kp k2) hz2 (hs2.keep 4 _ (by decide) o4) (fun a3 w3 hs3 o5 S => ?_))
      refine wp_ret ?_
      simp only [Exit.then]
      exact hfail a3 w3 g4 _ 2 (hs3.size.trans hz2) (hs3.defers.trans (hs2.defers.trans D)) (hs3.keep 4 _ (by decide) (hs2.keep 4 _ (by decide) o4)) o5 S (by unfold joinE; rw [hm1, hm2]; rfl) (by decide)
    · cases hq : (!(decide (z = y) && (h == g)))
      · refine wp_seq (wp_seq (rjn_r1Y z hz h hh A c l hok hll y hy g hg B e m hmk hml g2 g3 hb2 hb3 hv1 hu1 hm1 hm2 _ hq hz1 o2 o3 (fun a2 w2 hs2 k2 o23 => ?_)))
        have hz2 := hs2.size.trans hz1
        have o2 := hs2.keep 2 _ (by decide) o2
        have o3 := hs2.keep 3 _ (by decide) o3
        have o4 := hs2.keep 4 _ (by decide) o4
        have D := hs2.defers.trans D
        refine wp_cond_false (o23.eval (by rw [hz2]; decide)) (wp_skip ?_)
        simp only [Exit.then]
        have hE : joinE z h l y g m = match joinF l m with
            | none => 8
            | some x => if 64 < x.length then 380 else 0 := by unfold joinE; rw [hm1, hm2, hq]; rfl
        obtain ⟨h64, hrl⟩ := mayN_64 hm1
        obtain ⟨hm64, hrm⟩ := mayN_64 hm2
        have S := S.kp k2
        have S : Held w w2 [blkR g2 36 (ntA z h (.slice A l.length c)), blkR g4 36 zeroN, blkR g3 36 (ntA y g (.slice B m.length e))] := S.pull 2 rfl
        refine wp_seq (rjn_r3 w z h hh A c l hok h64 (fun V kV => rd_old hv kV) g2 _ hz2 o2 S (fun a3 vs gs w3 hs3 o6 S => ?_))
        have hz3 := hs3.size.trans hz2
        have o2 := hs3.keep 2 _ (by decide) o2
        have o3 := hs3.keep 3 _ (by decide) o3
        have o4 := hs3.keep 4 _ (by decide) o4
        have D := hs3.defers.trans D
        obtain ⟨g6, hg6⟩ : ∃ g6, gs 6 = g6 := ⟨_, rfl⟩
        rw [hg6] at S o6
        obtain ⟨A1, c1, hv4, -, -⟩ := ow_form (show Ow w3 81 33 (vs 4) l.length (sgsC l) from S.at_ (l1 := []))
        rw [hv4] at S
        refine wp_seq (wp_seq (rjn_r4 hz3 (fun a4 hs4 o7 => ?_)))
        have hz4 := hs4.size.trans hz3
        have o2 := hs4.keep 2 _ (by decide) o2
        have o3 := hs4.keep 3 _ (by decide) o3
        have o4 := hs4.keep 4 _ (by decide) o4
        have o6 := hs4.keep 6 _ (by decide) o6
        have D := hs4.defers.trans D
        refine wp_block ?_
        conv => arg 2; whnf
        refine wp_loop (fun a' w' => ∃ (k : Nat) (x : List SigD) (A1 : Option Addr) (c1 : Nat), k ≤ m.length ∧ x.length ≤ 64 + k ∧ SgOk x ∧ rjoinF l x (m.drop k) = joinF l m ∧ a'.tmps.size = 82 ∧ a'.defers = [] ∧ Sl a' 2 (.pointer (some ⟨g2, 0, none⟩)) ∧ Sl a' 3 (.pointer (some ⟨g3, 0, none⟩)) ∧ Sl a' 4 (.pointer (some ⟨g4, 0, none⟩)) ∧ Sl a' 6 (.pointer (some ⟨g6, 0, none⟩)) ∧ Sl a' 7 (.int .i64 ((k : Nat) : Int)) ∧ Held w w' [rowR 81 33 (.slice A1 x.length c1) x.length (sgsC x), blkR g6 36 (ntA z h (.slice A1 x.length c1)), blkR g2 36 (ntA z h (.slice A l.length c)), blkR g4 36 zeroN, blkR g3 36 (ntA y g (.slice B m.length e))]) (fun a' _ => m.length - (intOf (a'.eval (.tmp 7))).toNat) ⟨0, l, A1, c1, Nat.zero_le _, by omega, hok, ?_, hz4, D, o2, o3, o4, o6, o7, S⟩ ?_
        · rw [List.drop_zero]
          exact rjoin_eq l m l [] [] hrm hrl (fun t ht => cmp_nil (rising_nm hrm t ht)) (fun t _ => rfl)
        iterate 9 (try clear o2)
        iterate 9 (try clear o3)
        iterate 9 (try clear o4)
        iterate 9 (try clear o6)
        iterate 9 (try clear o7)
        iterate 9 (try clear S)
        iterate 9 (try clear D)
        rintro a5 w5 ⟨k, x, A1, c1, hk, hxl, hxk, hF, hz5, D, o2, o3, o4, o6, o7, S⟩
        have e7 := o7.eval (by rw [hz5]; decide)
        refine wp_seq (wp_seq (rjn_r5 y g hg B m.length e g3 k (S.at_ (l1 := [_, _, _, _])) hz5 o3 o7 (fun a6 hs6 o35 => ?_)))
        have hz6 := hs6.size.trans hz5
        have o2 := hs6.keep 2 _ (by decide) o2
        have o3 := hs6.keep 3 _ (by decide) o3
        have o4 := hs6.keep 4 _ (by decide) o4
        have o6 := hs6.keep 6 _ (by decide) o6
        have o7 := hs6.keep 7 _ (by decide) o7
        have D := hs6.defers.trans D
        by_cases hlt : k < m.length
        · refine wp_cond_true ((o35.eval (by rw [hz6]; decide)).trans (by rw [decide_eq_true hlt])) (wp_skip ?_)
          simp only [Exit.then]
          obtain ⟨ad, hB⟩ := sgs_addr hu (by omega)
          have hub := hu
          rw [hB] at hub
          obtain ⟨s, hs⟩ : ∃ s, m[k]? = some s := ⟨_, List.getElem?_eq_getElem hlt⟩
          have hsk := hmk s (List.mem_of_getElem? hs)
          have hdr : m.drop k = s :: m.drop (k + 1) := by rw [List.drop_eq_getElem_cons hlt, (List.getElem?_eq_some_iff.1 hs).2]
          have hsn : nmOk s.1 = true := rising_nm hrm s (List.mem_of_getElem? hs)
          rw [hdr, rjoinF_cons] at hF
          obtain ⟨ns, hns, hnl, -, -⟩ := str_of s.1
          have hb3' : Blk w5.drew g3 36 (ntA y g (.slice (some ad) m.length e)) := by rw [← hB]; exact (S.at_ (l1 := [_, _, _, _])).drew
          refine wp_seq (wp_block ?_)
          refine wp_seq (rjn_r7 z h hh A c l hok h64 y g hg ad m.length e k hlt g2 g3 ((S.at_ (l1 := [_, _])).drew) hb3' ns (fun V kV => (by have := sgs_at (rd_old hub (S.k.drew.trans kV (by simp))) hmk hs 0 (strV s.1) rfl; rwa [addr0, hns.out] at this)) (fun V kV => rd_old hv (S.k.drew.trans kV (by simp))) hz6 o2 o3 o7 (fun a7 w7 hs7 k7 o8 => ?_))
          have hz7 := hs7.size.trans hz6
          have o2 := hs7.keep 2 _ (by decide) o2
          have o3 := hs7.keep 3 _ (by decide) o3
          have o4 := hs7.keep 4 _ (by decide) o4
          have o6 := hs7.keep 6 _ (by decide) o6
          have o7 := hs7.keep 7 _ (by decide) o7
          have o35 := hs7.keep 35 _ (by decide) o35
          have D := hs7.defers.trans D
          have S := S.kp (((Kp.refl [] w5).drew).trans k7 (by simp))
          rw [hnl.out] at o8
          have hback : ∀ (a9 : Act) (w9 : World) (x2 : List SigD) (A2 : Option Addr) (c2 : Nat), a9.tmps.size = 82 → a9.defers = [] → x2.length ≤ 64 + (k + 1) → SgOk x2 → rjoinF l x2 (m.drop (k + 1)) = joinF l m → Sl a9 2 (.pointer (some ⟨g2, 0, none⟩)) → Sl a9 3 (.pointer (some ⟨g3, 0, none⟩)) → Sl a9 4 (.pointer (some ⟨g4, 0, none⟩)) → Sl a9 6 (.pointer (some ⟨g6, 0, none⟩)) → Sl a9 7 (.int .i64 ((k : Nat) : Int)) → Held w w9 [rowR 81 33 (.slice A2 x2.length c2) x2.length (sgsC x2), blkR g6 36 (ntA z h (.slice A2 x2.length c2)), blkR g2 36 (ntA z h (.slice A l.length c)), blkR g4 36 zeroN, blkR g3 36 (ntA y g (.slice B m.length e))] →
              ∀ R, (Code.region 6 (opsOf 6 Tryd.f36).toArray false).wp Tryd.prog (Exit.then (fun a' w' => (∃ (k : Nat) (x : List SigD) (A1 : Option Addr) (c1 : Nat), k ≤ m.length ∧ x.length ≤ 64 + k ∧ SgOk x ∧ rjoinF l x (m.drop k) = joinF l m ∧ a'.tmps.size = 82 ∧ a'.defers = [] ∧ Sl a' 2 (.pointer (some ⟨g2, 0, none⟩)) ∧ Sl a' 3 (.pointer (some ⟨g3, 0, none⟩)) ∧ Sl a' 4 (.pointer (some ⟨g4, 0, none⟩)) ∧ Sl a' 6 (.pointer (some ⟨g6, 0, none⟩)) ∧ Sl a' 7 (.int .i64 ((k : Nat) : Int)) ∧ Held w w' [rowR 81 33 (.slice A1 x.length c1) x.length (sgsC x), blkR g6 36 (ntA z h (.slice A1 x.length c1)), blkR g2 36 (ntA z h (.slice A l.length c)), blkR g4 36 zeroN, blkR g3 36 (ntA y g (.slice B m.length e))]) ∧ m.length - (intOf (a'.eval (.tmp 7))).toNat < m.length - (intOf (a5.eval (.tmp 7))).toNat) R) a9 w9 := by
            intro a9 w9 x2 A2 c2 hz9 D hl2 hk2 hF2 o2 o3 o4 o6 o7 S R
            refine rjn_r6 k (by omega) hz9 o7 (fun a10 hs10 o7' => ?_)
            have hz10 := hs10.size.trans hz9
            refine ⟨⟨k + 1, x2, A2, c2, by omega, hl2, hk2, hF2, hz10, hs10.defers.trans D, hs10.keep 2 _ (by decide) o2, hs10.keep 3 _ (by decide) o3, hs10.keep 4 _ (by decide) o4, hs10.keep 6 _ (by decide) o6, o7', S⟩, ?_⟩
            rw [e7, o7'.eval (by rw [hz10]; decide)]
            simp only [intOf]; omega
          cases hlk : lk s.1 l with
          | none =>
            rw [hlk] at hF
            have hfd : findN s.1 l = -1 := findK_none hlk
            rw [hfd] at o8
            refine wp_seq (wp_seq (rjn_r8N hz7 o8 (fun a8 w9 hs8 k9 o63 => ?_)))
            have hz8 := hs8.size.trans hz7
            have o2 := hs8.keep 2 _ (by decide) o2
            have o3 := hs8.keep 3 _ (by decide) o3
            have o4 := hs8.keep 4 _ (by decide) o4
            have o6 := hs8.keep 6 _ (by decide) o6
            have o7 := hs8.keep 7 _ (by decide) o7
            have o35 := hs8.keep 35 _ (by decide) o35
            have o8 := hs8.keep 8 _ (by decide) o8
            have D := hs8.defers.trans D
            have S := S.kp (((Kp.refl [] w7).drew).trans k9 (by simp))
            refine wp_cond_false (o63.eval (by rw [hz8]; decide)) (wp_skip ?_)
            simp only [Exit.then]
            refine wp_seq (rjn_r10 (-1) hz8 o8 (fun a9 hs9 o66 => ?_))
            have hz9 := hs9.size.trans hz8
            have o2 := hs9.keep 2 _ (by decide) o2
            have o3 := hs9.keep 3 _ (by decide) o3
            have o4 := hs9.keep 4 _ (by decide) o4
            have o6 := hs9.keep 6 _ (by decide) o6
            have o7 := hs9.keep 7 _ (by decide) o7
            have o35 := hs9.keep 35 _ (by decide) o35
            have o8 := hs9.keep 8 _ (by decide) o8
            have o63 := hs9.keep 63 _ (by decide) o63
            have D := hs9.defers.trans D
            refine wp_cond_true (o66.eval (by rw [hz9]; decide)) ?_
            have S := (((((S.pull 3 rfl).pull 3 rfl).pull 2 rfl).pull 4 rfl).pull 4 rfl)
            rw [hB] at S
            refine rjn_r11 w z h hh A1 c1 x hxk (by omega) y g hg ad m.length e k hlt g6 g3 s hsk.1 (fun V kV => sgs_at (rd_old hub kV) hmk hs) _ hz9 o3 o6 o7 S (fun a10 vs gs w11 hs10 S => ?_)
            have hz10 := hs10.size.trans hz9
            have o2 := hs10.keep 2 _ (by decide) o2
            have o3 := hs10.keep 3 _ (by decide) o3
            have o4 := hs10.keep 4 _ (by decide) o4
            have o6 := hs10.keep 6 _ (by decide) o6
            have o7 := hs10.keep 7 _ (by decide) o7
            have o35 := hs10.keep 35 _ (by decide) o35
            have o8 := hs10.keep 8 _ (by decide) o8
            have o63 := hs10.keep 63 _ (by decide) o63
            have o66 := hs10.keep 66 _ (by decide) o66
            have D := hs10.defers.trans D
            have S := (S.pull 3 rfl).drop
            have S := (((((S.pull 2 rfl).pull 4 rfl).pull 4 rfl).pull 4 rfl).pull 4 rfl)
            rw [← hB] at S
            obtain ⟨A2, c2, hv7, -, -⟩ := ow_form (show Ow w11 81 33 (vs 7) (x.length + 1) (sgsC (insN x s)) from S.at_ (l1 := []))
            rw [hv7] at S
            rw [← insN_length s x] at S
            simp only [Exit.inBlock, Exit.then]
            exact hback a10 w11 (insN x s) A2 c2 hz10 D (by rw [insN_length]; omega) (insN_ok hxk hsk.1 hsk.2) hF o2 o3 o4 o6 o7 S _
          | some v =>
            rw [hlk] at hF
            simp only at hF
            obtain ⟨p, hfd, hpx⟩ := findK_some (k := 0) hlk
            have hfd : findN s.1 l = ((p : Nat) : Int) := by unfold findN; rw [hfd, Nat.zero_add]
            rw [hfd] at o8
            have hpl := (List.getElem?_eq_some_iff.1 hpx).1
            obtain ⟨a2', hA⟩ := sgs_addr hv (by omega)
            have hva := hv
            rw [hA] at hva
            have hvl : v.length = 32 := (hok _ (List.mem_of_getElem? hpx)).1
            have hb2' : Blk w7.drew g2 36 (ntA z h (.slice (some a2') l.length c)) := by rw [← hA]; exact (S.at_ (l1 := [_, _])).drew
            have hb3'' : Blk w7.drew g3 36 (ntA y g (.slice (some ad) m.length e)) := by rw [← hB]; exact (S.at_ (l1 := [_, _, _, _])).drew
            have hcell : ∀ {L : List SigD} {ad : Addr} {e : Nat} {k : Nat} {s : SigD}, Rd w 33 (.slice (some ad) L.length e) L.length (sgsC L) → SgOk L → L[k]? = some s → ∀ V, Kp [] w7.drew V → ∀ j u, (hashA s.2).toList[j]? = some u → V.cell? (((ad.add (k * 33)).add 1).add j) = some u := by
              intro L ad e k s hR hO hk V kV j u hu
              have := sgs_at (rd_old hR (S.k.drew.trans kV (by simp))) hO hk (j + 1) u (by show (strV s.1 :: bv s.2)[j + 1]? = _; rw [List.getElem?_cons_succ]; exact hu)
              rw [add_of_add]
              rw [Nat.add_comm 1 j]
              exact this
            refine wp_seq (wp_seq (rjn_r8Y z h hh a2' c l hok h64 y g hg ad m.length e k hlt g2 g3 hb2' hb3'' p hpl (s.1, v) s hvl hsk.1 (hcell hva hok hpx) (hcell hub hmk hs) hz7 o2 o3 o7 o8 (fun a8 w9 hs8 k9 o63 => ?_)))
            have hz8 := hs8.size.trans hz7
            have o2 := hs8.keep 2 _ (by decide) o2
            have o3 := hs8.keep 3 _ (by decide) o3
            have o4 := hs8.keep 4 _ (by decide) o4
            have o6 := hs8.keep 6 _ (by decide) o6
            have o7 := hs8.keep 7 _ (by decide) o7
            have o35 := hs8.keep 35 _ (by decide) o35
            have o8 := hs8.keep 8 _ (by decide) o8
            have D := hs8.defers.trans D
            have S := S.kp (((Kp.refl [] w7).drew).trans k9 (by simp))
            cases hvs : v == s.2
            · rw [hvs, if_neg (by decide)] at hF
              refine wp_cond_true ((o63.eval (by rw [hz8]; decide)).trans (by show Value.bool (!(v == s.2)) = _; rw [hvs]; rfl)) ?_
              have S : Held w w9 (blkR g4 36 zeroN :: _) := S.pull 3 rfl
              refine wp_seq (rjn_r9 w g4 _ S hz8 o4 (fun a9 w11 hs9 o5 S => ?_))
              have hz9 := hs9.size.trans hz8
              have o2 := hs9.keep 2 _ (by decide) o2
              have o3 := hs9.keep 3 _ (by decide) o3
              have o4 := hs9.keep 4 _ (by decide) o4
              have o6 := hs9.keep 6 _ (by decide) o6
              have o7 := hs9.keep 7 _ (by decide) o7
              have o35 := hs9.keep 35 _ (by decide) o35
              have o8 := hs9.keep 8 _ (by decide) o8
              have o63 := hs9.keep 63 _ (by decide) o63
              have D := hs9.defers.trans D
              refine wp_ret ?_
              simp only [Exit.inBlock, Exit.then]
              exact hfail a9 w11 g4 _ 8 hz9 D o4 o5 S (by rw [hE, ← hF]) (by decide)
            · rw [hvs, if_pos rfl] at hF
              refine wp_cond_false ((o63.eval (by rw [hz8]; decide)).trans (by show Value.bool (!(v == s.2)) = _; rw [hvs]; rfl)) (wp_skip ?_)
              simp only [Exit.then]
              refine wp_seq (rjn_r10 ((p : Nat) : Int) hz8 o8 (fun a9 hs9 o66 => ?_))
              have hz9 := hs9.size.trans hz8
              have o2 := hs9.keep 2 _ (by decide) o2
              have o3 := hs9.keep 3 _ (by decide) o3
              have o4 := hs9.keep 4 _ (by decide) o4
              have o6 := hs9.keep 6 _ (by decide) o6
              have o7 := hs9.keep 7 _ (by decide) o7
              have o35 := hs9.keep 35 _ (by decide) o35
              have o8 := hs9.keep 8 _ (by decide) o8
              have o63 := hs9.keep 63 _ (by decide) o63
              have D := hs9.defers.trans D
              refine wp_cond_false ((o66.eval (by rw [hz9]; decide)).trans (by rw [decide_eq_false (by omega)])) (wp_skip ?_)
              simp only [Exit.inBlock, Exit.then]
              exact hback a9 w9 x A1 c1 hz9 D (by omega) hxk hF o2 o3 o4 o6 o7 S _
        · refine wp_cond_false ((o35.eval (by rw [hz6]; decide)).trans (by rw [decide_eq_false hlt])) (wp_exit ?_)
          have hkl : k = m.length := by omega
          rw [hkl, List.drop_length] at hF
          rw [rjoinF_nil] at hF
          have hE2 : joinE z h l y g m = if 64 < x.length then 380 else 0 := by rw [hE, ← hF]
          simp only [Exit.inBlock, Exit.then]
          refine wp_seq (wp_seq (rjn_r12 z h hh A1 x.length c1 g6 (S.at_ (l1 := [_])) hz6 o6 (fun a7 hs7 o79 => ?_)))
          have hz7 := hs7.size.trans hz6
          have o2 := hs7.keep 2 _ (by decide) o2
          have o3 := hs7.keep 3 _ (by decide) o3
          have o4 := hs7.keep 4 _ (by decide) o4
          have o6 := hs7.keep 6 _ (by decide) o6
          have D := hs7.defers.trans D
          by_cases hov : 64 < x.length
          · refine wp_cond_true ((o79.eval (by rw [hz7]; decide)).trans (by rw [decide_eq_true (by omega)])) ?_
            have S := S.pull 3 rfl
            refine wp_seq (rjn_r13 w g4 _ S hz7 o4 (fun a8 w21 hs8 o5 S => ?_))
            have hz8 := hs8.size.trans hz7
            have o2 := hs8.keep 2 _ (by decide) o2
            have o3 := hs8.keep 3 _ (by decide) o3
            have o4 := hs8.keep 4 _ (by decide) o4
            have o6 := hs8.keep 6 _ (by decide) o6
            have o79 := hs8.keep 79 _ (by decide) o79
            have D := hs8.defers.trans D
            refine wp_ret ?_
            simp only [Exit.then]
            exact hfail a8 w21 g4 _ 380 hz8 D o4 o5 S (by rw [hE2, if_pos hov]) (by decide)
          · refine wp_cond_false ((o79.eval (by rw [hz7]; decide)).trans (by rw [decide_eq_false (by omega)])) (wp_skip ?_)
            simp only [Exit.then]
            rw [if_neg hov] at hE2
            have S := (S.pull 1 rfl).pull 3 rfl
            refine wp_seq (rjn_r14 w g6 g4 _ (ntA_size hh) (ntA_one rfl) _ S hz7 o4 o6 (fun a8 w22 hs8 o5 S => ?_))
            have hz8 := hs8.size.trans hz7
            have o2 := hs8.keep 2 _ (by decide) o2
            have o3 := hs8.keep 3 _ (by decide) o3
            have o4 := hs8.keep 4 _ (by decide) o4
            have o6 := hs8.keep 6 _ (by decide) o6
            have o79 := hs8.keep 79 _ (by decide) o79
            have D := hs8.defers.trans D
            refine wp_ret ?_
            refine (bodyPost_ret (results_cell_tmp (by rfl) (o4.eval (by rw [hz8]; decide)) (S.at_ (l1 := [])) Tryd.underlying36 rfl (by rw [ntA_size hh]; exact Tryd.infoNote)) D ⟨.slice A1 x.length c1, ?_, S.k, fun _ => ⟨x, hF.symm, S.some_of (List.singleton_sublist.2 (by simp))⟩⟩)
            rw [hE2, if_pos rfl]
            exact congrArg (fun q => Ending.returned (.tuple #[.agg _, q])) (o5.eval (by rw [hz8]; decide))
      · refine wp_seq (wp_seq (rjn_r1Y z hz h hh A c l hok hll y hy g hg B e m hmk hml g2 g3 hb2 hb3 hv1 hu1 hm1 hm2 _ hq hz1 o2 o3 (fun a2 w2 hs2 k2 o23 => ?_)))
        have hz2 := hs2.size.trans hz1
        refine wp_cond_true (o23.eval (by rw [hz2]; decide)) ?_
        refine wp_seq (rjn_r2 w g4 _ (S.kp k2) hz2 (hs2.keep 4 _ (by decide) o4) (fun a3 w3 hs3 o5 S => ?_))
        refine wp_ret ?_
        simp only [Exit.then]
        exact hfail a3 w3 g4 _ 2 (hs3.size.trans hz2) (hs3.defers.trans (hs2.defers.trans D)) (hs3.keep 4 _ (by decide) (hs2.keep 4 _ (by decide) o4)) o5 S (by unfold joinE; rw [hm1, hm2, hq]; rfl) (by decide)
end Go.Proofs.YtapboamjpilckaaDoor
/- SignJoins: its regions. -/
namespace Go.Proofs.YtapboamjpilckaaDoor
open Go.RowKit
-- REG sgj0
set_option maxRecDepth 100000 in
set_option maxHeartbeats 2000000 in
theorem sgj_r0 {Q : Exit → Act → World → Prop} {a : Act} {w : World} (w0 : World) (ca cb : Array Value) (L : List Res) (S : Held w0 w L) (hsz : a.tmps.size = 99) (o0 : Sl a 0 (.agg ca)) (o1 : Sl a 1 (.agg cb))
    (hend : ∀ (a' : Act) (W : World), Same a a' [2, 3, 4] → Sl a' 4 (.bool false) → (∃ g2 g3, Sl a' 2 (.pointer (some ⟨g2, 0, none⟩)) ∧ Sl a' 3 (.pointer (some ⟨g3, 0, none⟩)) ∧ Held w0 W (blkR g2 36 ca :: blkR g3 36 cb :: L)) → Q .normal a' W) : (Code.region 0 (opsOf 0 Tryd.f7).toArray false).wp Tryd.prog Q a w := by
  refine wp_region_lit (l := (opsOf 0 Tryd.f7)) ?_
  conv => arg 4; whnf
  unfold Sl at o0 o1
  have S1 := Lib.hid ((S.newBlk 36 ca).newBlkN 36 cb (g := w.heap.size + 1) (by simp))
  go_wp2_with fail
  try simp only [Act.put]
  exact hend _ _ (by repeat (first | (with_reducible refine same_set (by decide) ?_) | (with_reducible exact same_nil))) (by unfold Sl; first | (simp [hsz]; done) | (simp [hsz]; omega)) (⟨_, _, (by unfold Sl; simp [hsz]), (by unfold Sl; simp [hsz]), S1.out.pull 1 rfl⟩)
-- END sgj0
-- REG sgj1
set_option maxRecDepth 100000 in
set_option maxHeartbeats 2000000 in
theorem sgj_r1 {Q : Exit → Act → World → Prop} {a : Act} {w : World} (w0 : World) (z : Int) (h : List UInt8) (hh : h.length = 32) (A : Option Addr) (c : Nat) (l : List SigD) (hok : SgOk l) (hll : (l.length + 1) * 48 ≤ 140737488355328) (hva : ∀ V, Kp [] w0 V → Rd V 33 (.slice A l.length c) l.length (sgsC l)) (y : Int) (g : List UInt8) (hg : g.length = 32) (B : Option Addr) (e : Nat) (m : List SigD) (hmk : SgOk m) (hml : (m.length + 1) * 48 ≤ 140737488355328) (hvb : ∀ V, Kp [] w0 V → Rd V 33 (.slice B m.length e) m.length (sgsC m)) (g2 g3 : Nat) (L : List Res) (hsz : a.tmps.size = 99) (o2 : Sl a 2 (.pointer (some ⟨g2, 0, none⟩))) (o3 : Sl a 3 (.pointer (some ⟨g3, 0, none⟩)))
    (S0 : Held w0 w (blkR g2 36 (ntA z h (.slice A l.length c)) :: blkR g3 36 (ntA y g (.slice B m.length e)) :: L))
    (hend : ∀ (a' : Act) (vs : Nat → Value) (gs : Nat → Nat × Nat) (W : World), Same a a' [15, 16, 17, 18, 5, 6] → Sl a' 5 (.pointer (some ⟨(gs 4).1, 0, none⟩)) → Sl a' 6 (.pointer (some ⟨(gs 5).1, 0, none⟩)) → Held w0 W (rowR 81 33 (.slice (some ⟨(gs 1).1, 0, none⟩) (l.length + 1) (gs 1).2) (l.length + 1) (sgsC (l ++ [roomS])) :: rowR 81 33 (.slice (some ⟨(gs 3).1, 0, none⟩) (m.length + 1) (gs 3).2) (m.length + 1) (sgsC (m ++ [roomS])) :: blkR (gs 4).1 36 (ntA z h (.slice (some ⟨(gs 1).1, 0, none⟩) l.length (gs 1).2)) :: blkR (gs 5).1 36 (ntA y g (.slice (some ⟨(gs 3).1, 0, none⟩) m.length (gs 3).2)) :: blkR g2 36 (ntA z h (.slice A l.length c)) :: blkR g3 36 (ntA y g (.slice B m.length e)) :: L) → Q .normal a' W) : (Code.region 1 (opsOf 1 Tryd.f7).toArray true).wp Tryd.prog Q a w := by
  have hap : apartB (opsOf 1 Tryd.f7) = true := by kernel_rfl
  refine wp_region_sep (Γ := Nat × Nat) (l := (opsOf 1 Tryd.f7)) 3 [0, 1, 2, 3, 6, 7, 8, 9, 10]
    (fun i vs gs => match i with | 0 => vs 0 = .agg (ntA z h (.slice A l.length c)) | 1 => vs 1 = .agg (ntA z h (.slice (some ⟨(gs 1).1, 0, none⟩) l.length (gs 1).2)) | 2 => vs 2 = .agg (ntA y g (.slice B m.length e)) | 3 => vs 3 = .agg (ntA y g (.slice (some ⟨(gs 3).1, 0, none⟩) m.length (gs 3).2)) | 4 => vs 4 = .pointer (some ⟨(gs 4).1, 0, none⟩) | 5 => vs 5 = .pointer (some ⟨(gs 5).1, 0, none⟩) | _ => True)
    (fun i vs gs => match i with | 1 => [rowR 81 33 (.slice (some ⟨(gs 1).1, 0, none⟩) (l.length + 1) (gs 1).2) (l.length + 1) (sgsC (l ++ [roomS]))] | 3 => [rowR 81 33 (.slice (some ⟨(gs 3).1, 0, none⟩) (m.length + 1) (gs 3).2) (m.length + 1) (sgsC (m ++ [roomS]))] | 4 => [blkR (gs 4).1 36 zeroN] | 5 => [blkR (gs 5).1 36 zeroN] | 6 => [blkR (gs 4).1 36 (ntA z h (.slice (some ⟨(gs 1).1, 0, none⟩) l.length (gs 1).2))] | 7 => [blkR (gs 5).1 36 (ntA y g (.slice (some ⟨(gs 3).1, 0, none⟩) m.length (gs 3).2))] | 8 => [blkR g2 36 (ntA z h (.slice A l.length c))] | 9 => [blkR g3 36 (ntA y g (.slice B m.length e))] | 10 => L | _ => [])
    (fun i => match i with | 6 => [4] | 7 => [5] | _ => []) (fun i => match i with | 0 => [8] | 2 => [9] | _ => []) S0 (by kernel_rfl) hap (by kernel_rfl) (by kernel_rfl) (fun i => match i with | 0 => [0] | 1 => [1] | 2 => [2] | 3 => [3] | 4 => [4] | 5 => [5] | 6 => [1, 4] | 7 => [3, 5] | _ => []) (by kernel_rfl) ?_ (by kernel_rfl) ?_ ?_ ?_
  · intro s vs vs' gs gs' h
    iterate 11 (rcases s with _ | s; · (first | exact ⟨rfl, id⟩ | (simp only [List.mem_cons, List.not_mem_nil, or_false, forall_eq_or_imp, forall_eq] at h; simp [h])))
    exact ⟨rfl, id⟩
  · simp only [List.range, List.range.loop, List.flatMap_cons, List.flatMap_nil, List.append_nil]
    exact List.Perm.refl _
  · clear S0 hend
    refine ⟨?_, ?_, ?_, ?_, ?_, ?_, ?_, ?_, trivial⟩
    · intro vs gs A' W LF hA S hR hd hu K hK
      replace hK := hK default
      have e2 : A'.tmps[2]?.getD undef = .pointer (some ⟨g2, 0, none⟩) := slot_out hA hap (Nat.lt_of_lt_of_eq (Nat.le_of_ble_eq_true rfl : 2 < 99) hsz.symm) (by kernel_rfl) o2
      clear hA o2 o3
      refine op_runs (v := .agg (ntA z h (.slice A l.length c))) (w' := W) (exec_load rfl (by simpa [Act.eval] using e2) (run_loadAt_agg W (⟨g2, 0, none⟩) 36 (ntA z h (.slice A l.length c)).toList _ (Blk.agg (show Blk W g2 36 (ntA z h (.slice A l.length c)) from (S.ok (blkR g2 36 (ntA z h (.slice A l.length c))) (hR 8 (List.mem_singleton.2 rfl) _ (List.mem_singleton.2 rfl))))) Tryd.underlying36 rfl (by rw [Array.length_toList, ntA_size hh]; exact Tryd.infoNote))) ?_
      exact hK _ _ S rfl
    · intro vs gs A' W LF hA S hR hd hu K hK
      have f0 : vs 0 = .agg (ntA z h (.slice A l.length c)) := hd 0 (by kernel_rfl)
      have e15 : A'.tmps[15]?.getD undef = vs 0 := slot_in hA hap (Nat.lt_of_lt_of_eq (Nat.le_of_ble_eq_true rfl : 15 < 99) hsz.symm) (by kernel_rfl)
      rw [f0] at e15
      clear hA o2 o3
      go_step
      refine (slent_any z h hh A c l hok hll W (hva _ S.k)).mono ?_
      rintro e w' ⟨gr, cr, rfl, -, H⟩
      exact hK (gr, cr) _ w' ((S.join H).perm (List.perm_append_singleton _ _)) rfl
    · intro vs gs A' W LF hA S hR hd hu K hK
      replace hK := hK default
      have e3 : A'.tmps[3]?.getD undef = .pointer (some ⟨g3, 0, none⟩) := slot_out hA hap (Nat.lt_of_lt_of_eq (Nat.le_of_ble_eq_true rfl : 3 < 99) hsz.symm) (by kernel_rfl) o3
      clear hA o2 o3
      refine op_runs (v := .agg (ntA y g (.slice B m.length e))) (w' := W) (exec_load rfl (by simpa [Act.eval] using e3) (run_loadAt_agg W (⟨g3, 0, none⟩) 36 (ntA y g (.slice B m.length e)).toList _ (Blk.agg (show Blk W g3 36 (ntA y g (.slice B m.length e)) from (S.ok (blkR g3 36 (ntA y g (.slice B m.length e))) (hR 9 (List.mem_singleton.2 rfl) _ (List.mem_singleton.2 rfl))))) Tryd.underlying36 rfl (by rw [Array.length_toList, ntA_size hg]; exact Tryd.infoNote))) ?_
      exact hK _ _ S rfl
    · intro vs gs A' W LF hA S hR hd hu K hK
      have f2 : vs 2 = .agg (ntA y g (.slice B m.length e)) := hd 2 (by kernel_rfl)
      have e17 : A'.tmps[17]?.getD undef = vs 2 := slot_in hA hap (Nat.lt_of_lt_of_eq (Nat.le_of_ble_eq_true rfl : 17 < 99) hsz.symm) (by kernel_rfl)
      rw [f2] at e17
      clear hA o2 o3
      go_step
      refine (slent_any y g hg B e m hmk hml W (hvb _ S.k)).mono ?_
      rintro e w' ⟨gr, cr, rfl, -, H⟩
      exact hK (gr, cr) _ w' ((S.join H).perm (List.perm_append_singleton _ _)) rfl
    · intro vs gs A' W LF hA S hR hd hu K hK
      clear hA o2 o3
      go_step
      exact hK (W.heap.size, 0) _ _ (S.newBlk 36 zeroN) rfl
    · intro vs gs A' W LF hA S hR hd hu K hK
      clear hA o2 o3
      go_step
      exact hK (W.heap.size, 0) _ _ (S.newBlk 36 zeroN) rfl
    · intro vs gs A' W LF hA S hR hd hu K hK
      replace hK := hK default
      have f4 : vs 4 = .pointer (some ⟨(gs 4).1, 0, none⟩) := hd 4 (by kernel_rfl)
      have e5 : A'.tmps[5]?.getD undef = vs 4 := slot_in hA hap (Nat.lt_of_lt_of_eq (Nat.le_of_ble_eq_true rfl : 5 < 99) hsz.symm) (by kernel_rfl)
      rw [f4] at e5
      have f1 : vs 1 = .agg (ntA z h (.slice (some ⟨(gs 1).1, 0, none⟩) l.length (gs 1).2)) := hd 1 (by kernel_rfl)
      have e16 : A'.tmps[16]?.getD undef = vs 1 := slot_in hA hap (Nat.lt_of_lt_of_eq (Nat.le_of_ble_eq_true rfl : 16 < 99) hsz.symm) (by kernel_rfl)
      rw [f1] at e16
      clear hA o2 o3
      have S1 : Held w0 W (blkR (gs 4).1 36 zeroN :: LF) := S
      refine op_store_blkS (.tmp 5) (.tmp 16) 36 rfl (gs 4).1 (by simpa [Act.eval] using e5) (ntA z h (.slice (some ⟨(gs 1).1, 0, none⟩) l.length (gs 1).2)) (by simpa [Act.eval] using e16) 36 zeroN S1 (by rw [ntA_size hh]; exact Tryd.infoNote) (by rw [ntA_size hh] <;> rfl) (ntA_one rfl) ?_
      intro w' S2
      exact hK _ _ S2 trivial
    · intro vs gs A' W LF hA S hR hd hu K hK
      replace hK := hK default
      have f5 : vs 5 = .pointer (some ⟨(gs 5).1, 0, none⟩) := hd 5 (by kernel_rfl)
      have e6 : A'.tmps[6]?.getD undef = vs 5 := slot_in hA hap (Nat.lt_of_lt_of_eq (Nat.le_of_ble_eq_true rfl : 6 < 99) hsz.symm) (by kernel_rfl)
      rw [f5] at e6
      have f3 : vs 3 = .agg (ntA y g (.slice (some ⟨(gs 3).1, 0, none⟩) m.length (gs 3).2)) := hd 3 (by kernel_rfl)
      have e18 : A'.tmps[18]?.getD undef = vs 3 := slot_in hA hap (Nat.lt_of_lt_of_eq (Nat.le_of_ble_eq_true rfl : 18 < 99) hsz.symm) (by kernel_rfl)
      rw [f3] at e18
      clear hA o2 o3
      have S1 : Held w0 W (blkR (gs 5).1 36 zeroN :: LF) := S
      refine op_store_blkS (.tmp 6) (.tmp 18) 36 rfl (gs 5).1 (by simpa [Act.eval] using e6) (ntA y g (.slice (some ⟨(gs 3).1, 0, none⟩) m.length (gs 3).2)) (by simpa [Act.eval] using e18) 36 zeroN S1 (by rw [ntA_size hg]; exact Tryd.infoNote) (by rw [ntA_size hg] <;> rfl) (ntA_one rfl) ?_
      intro w' S2
      exact hK _ _ S2 trivial
  · intro vs gs W S hp
    have S : Held w0 W (rowR 81 33 (.slice (some ⟨(gs 1).1, 0, none⟩) (l.length + 1) (gs 1).2) (l.length + 1) (sgsC (l ++ [roomS])) :: rowR 81 33 (.slice (some ⟨(gs 3).1, 0, none⟩) (m.length + 1) (gs 3).2) (m.length + 1) (sgsC (m ++ [roomS])) :: blkR (gs 4).1 36 (ntA z h (.slice (some ⟨(gs 1).1, 0, none⟩) l.length (gs 1).2)) :: blkR (gs 5).1 36 (ntA y g (.slice (some ⟨(gs 3).1, 0, none⟩) m.length (gs 3).2)) :: blkR g2 36 (ntA z h (.slice A l.length c)) :: blkR g3 36 (ntA y g (.slice B m.length e)) :: L) := by simpa only [List.flatMap_cons, List.flatMap_nil, List.append_nil, List.nil_append, List.cons_append, List.append_assoc] using S
    rw [show putAll vs (opsOf 1 Tryd.f7) 0 a = putD [(15, vs 0), (16, vs 1), (17, vs 2), (18, vs 3), (5, vs 4), (6, vs 5)] a from by kernel_rfl]
    exact hend _ vs gs W (same_putD _ a) (sl_putD _ a 5 _ (by rw [show vs 4 = _ from hp 4 (Nat.le_of_ble_eq_true (by kernel_rfl))]; kernel_rfl)) (sl_putD _ a 6 _ (by rw [show vs 5 = _ from hp 5 (Nat.le_of_ble_eq_true (by kernel_rfl))]; kernel_rfl)) S
-- END sgj1
-- REG sgj2
set_option maxRecDepth 100000 in
set_option maxHeartbeats 2000000 in
theorem sgj_r2 {Q : Exit → Act → World → Prop} {a : Act} {w : World} (w0 : World) (Z : Int) (H : List UInt8) (hH : H.length = 32) (n : Nat) (xs : List Value) (E : Int) (ga gb : Nat) (ca cb : Array Value) (hca : ca.size = 34) (hcb : cb.size = 34) (hba : Blk w ga 36 ca) (hbb : Blk w gb 36 cb) (HJ : Calls Tryd.prog 35 #[.agg ca, .agg cb] w fun r w' => ∃ v, r = .returned (.tuple #[.agg (ntA Z H v), .int .i64 E]) ∧ Held w w' [rowR 81 33 v n xs]) (L : List Res) (S : Held w0 w L) (hsz : a.tmps.size = 99) (o5 : Sl a 5 (.pointer (some ⟨ga, 0, none⟩))) (o6 : Sl a 6 (.pointer (some ⟨gb, 0, none⟩)))
    (hend : ∀ (a' : Act) (W : World), Same a a' [20, 21, 22, 19, 23, 24, 7, 8] → Sl a' 8 (.int .i64 E) → (∃ g v, Sl a' 7 (.pointer (some ⟨g, 0, none⟩)) ∧ Held w0 W (blkR g 36 (ntA Z H v) :: rowR 81 33 v n xs :: L)) → Q .normal a' W) : (Code.region 2 (opsOf 2 Tryd.f7).toArray false).wp Tryd.prog Q a w := by
  refine wp_region_lit (l := (opsOf 2 Tryd.f7)) ?_
  conv => arg 4; whnf
  unfold Sl at o5 o6
  have S := Lib.hid S
  have HJ := Lib.hid HJ
  have HBa := Lib.hid hba
  have hza := Lib.hid hca
  clear hba hca
  have HBb := Lib.hid hbb
  have hzb := Lib.hid hcb
  clear hbb hcb
  go_wp2_with (first | (refine wpList_load_blk rfl 36 (.tmp 5) rfl ga (by simp [Act.eval, Act.put, hsz, o5]) 36 _ HBa.out _ Tryd.underlying36 rfl (by rw [hza.out]; exact Tryd.infoNote) ?_) | (refine wpList_load_blk rfl 36 (.tmp 6) rfl gb (by simp [Act.eval, Act.put, hsz, o6]) 36 _ HBb.out _ Tryd.underlying36 rfl (by rw [hzb.out]; exact Tryd.infoNote) ?_))
  refine HJ.out.mono ?_
  rintro e w1 ⟨v1, rfl, H1⟩
  have S0 := (S.out.join H1).perm (List.perm_append_singleton _ _)
  obtain ⟨A1, c1, hv1, -, -⟩ := ow_form (S0.at_ (l1 := []))
  have HO : Hid (∀ u, u ∈ (ntA Z H v1).toList → u.oneCell' = true) := Lib.hid (ntA_one (by rw [hv1]; rfl))
  have hz2 : Hid ((ntA Z H v1).size = 34) := Lib.hid (ntA_size hH)
  have S1 := Lib.hid (S0.newBlk 36 zeroN)
  clear S0 H1
  obtain ⟨cn, hcn⟩ : ∃ cn, ntA Z H v1 = cn := ⟨_, rfl⟩
  rw [hcn] at HO hz2 ⊢
  have hcn := Lib.hid hcn
  clear hv1
  go_wp2_with (refine wpList_store_blk rfl 36 (.tmp 7) (.tmp 23) rfl w1.heap.size (by simp [Act.eval, Act.put, hsz]) cn (by simp [Act.eval, Act.put, hsz]) 36 _ (S1.out.at_ (l1 := [])) (by rw [hz2.out]; exact Tryd.infoNote) (by rw [hz2.out]; rfl) HO.out ?_; intro w7 b7 k7; have S7 := Lib.hid (Held.setBlk (l1 := []) S1.out b7 k7); clear b7 k7)
  try simp only [Act.put]
  exact hend _ _ (by repeat (first | (with_reducible refine same_set (by decide) ?_) | (with_reducible exact same_nil))) (by unfold Sl; first | (simp [hsz]; done) | (simp [hsz]; omega)) (⟨w1.heap.size, v1, (by unfold Sl; simp [hsz]), (by rw [hcn.out]; exact S7.out)⟩)
-- END sgj2
-- REG sgj3
set_option maxRecDepth 100000 in
set_option maxHeartbeats 2000000 in
theorem sgj_r3 {Q : Exit → Act → World → Prop} {a : Act} {w : World} (w0 : World) (Z : Int) (H : List UInt8) (hH : H.length = 32) (n : Nat) (xs : List Value) (E : Int) (ga gb : Nat) (ca cb : Array Value) (hca : ca.size = 34) (hcb : cb.size = 34) (hba : Blk w ga 36 ca) (hbb : Blk w gb 36 cb) (HJ : Calls Tryd.prog 35 #[.agg ca, .agg cb] w fun r w' => ∃ v, r = .returned (.tuple #[.agg (ntA Z H v), .int .i64 E]) ∧ Held w w' [rowR 81 33 v n xs]) (L : List Res) (S : Held w0 w L) (hsz : a.tmps.size = 99) (o5 : Sl a 5 (.pointer (some ⟨gb, 0, none⟩))) (o6 : Sl a 6 (.pointer (some ⟨ga, 0, none⟩)))
    (hend : ∀ (a' : Act) (W : World), Same a a' [26, 27, 28, 25, 29, 30, 9, 10] → Sl a' 10 (.int .i64 E) → (∃ g v, Sl a' 9 (.pointer (some ⟨g, 0, none⟩)) ∧ Held w0 W (blkR g 36 (ntA Z H v) :: rowR 81 33 v n xs :: L)) → Q .normal a' W) : (Code.region 3 (opsOf 3 Tryd.f7).toArray false).wp Tryd.prog Q a w := by
  refine wp_region_lit (l := (opsOf 3 Tryd.f7)) ?_
  conv => arg 4; whnf
  unfold Sl at o5 o6
  have S := Lib.hid S
  have HJ := Lib.hid HJ
  have HBa := Lib.hid hba
  have hza := Lib.hid hca
  clear hba hca
  have HBb := Lib.hid hbb
  have hzb := Lib.hid hcb
  clear hbb hcb
  go_wp2_with (first | (refine wpList_load_blk rfl 36 (.tmp 6) rfl ga (by simp [Act.eval, Act.put, hsz, o6]) 36 _ HBa.out _ Tryd.underlying36 rfl (by rw [hza.out]; exact Tryd.infoNote) ?_) | (refine wpList_load_blk rfl 36 (.tmp 5) rfl gb (by simp [Act.eval, Act.put, hsz, o5]) 36 _ HBb.out _ Tryd.underlying36 rfl (by rw [hzb.out]; exact Tryd.infoNote) ?_))
  refine HJ.out.mono ?_
  rintro e w1 ⟨v1, rfl, H1⟩
  have S0 := (S.out.join H1).perm (List.perm_append_singleton _ _)
  obtain ⟨A1, c1, hv1, -, -⟩ := ow_form (S0.at_ (l1 := []))
  have HO : Hid (∀ u, u ∈ (ntA Z H v1).toList → u.oneCell' = true) := Lib.hid (ntA_one (by rw [hv1]; rfl))
  have hz2 : Hid ((ntA Z H v1).size = 34) := Lib.hid (ntA_size hH)
  have S1 := Lib.hid (S0.newBlk 36 zeroN)
  clear S0 H1
  obtain ⟨cn, hcn⟩ : ∃ cn, ntA Z H v1 = cn := ⟨_, rfl⟩
  rw [hcn] at HO hz2 ⊢
  have hcn := Lib.hid hcn
  clear hv1
  go_wp2_with (refine wpList_store_blk rfl 36 (.tmp 9) (.tmp 29) rfl w1.heap.size (by simp [Act.eval, Act.put, hsz]) cn (by simp [Act.eval, Act.put, hsz]) 36 _ (S1.out.at_ (l1 := [])) (by rw [hz2.out]; exact Tryd.infoNote) (by rw [hz2.out]; rfl) HO.out ?_; intro w7 b7 k7; have S7 := Lib.hid (Held.setBlk (l1 := []) S1.out b7 k7); clear b7 k7)
  try simp only [Act.put]
  exact hend _ _ (by repeat (first | (with_reducible refine same_set (by decide) ?_) | (with_reducible exact same_nil))) (by unfold Sl; first | (simp [hsz]; done) | (simp [hsz]; omega)) (⟨w1.heap.size, v1, (by unfold Sl; simp [hsz]), (by rw [hcn.out]; exact S7.out)⟩)
-- END sgj3
-- REG sgj4
set_option maxRecDepth 100000 in
set_option maxHeartbeats 2000000 in
theorem sgj_r4 {Q : Exit → Act → World → Prop} {a : Act} {w : World} (w0 : World) (Z : Int) (H : List UInt8) (hH : H.length = 32) (n : Nat) (xs : List Value) (E : Int) (ga gb : Nat) (ca cb : Array Value) (hca : ca.size = 34) (hcb : cb.size = 34) (hba : Blk w ga 36 ca) (hbb : Blk w gb 36 cb) (HJ : Calls Tryd.prog 36 #[.agg ca, .agg cb] w fun r w' => ∃ v, r = .returned (.tuple #[.agg (ntA Z H v), .int .i64 E]) ∧ Held w w' [rowR 81 33 v n xs]) (L : List Res) (S : Held w0 w L) (hsz : a.tmps.size = 99) (o2 : Sl a 2 (.pointer (some ⟨ga, 0, none⟩))) (o3 : Sl a 3 (.pointer (some ⟨gb, 0, none⟩)))
    (hend : ∀ (a' : Act) (W : World), Same a a' [32, 33, 34, 31, 35, 36, 11, 12] → Sl a' 12 (.int .i64 E) → (∃ g v, Sl a' 11 (.pointer (some ⟨g, 0, none⟩)) ∧ Held w0 W (blkR g 36 (ntA Z H v) :: rowR 81 33 v n xs :: L)) → Q .normal a' W) : (Code.region 4 (opsOf 4 Tryd.f7).toArray false).wp Tryd.prog Q a w := by
  refine wp_region_lit (l := (opsOf 4 Tryd.f7)) ?_
  conv => arg 4; whnf
  unfold Sl at o2 o3
  have S := Lib.hid S
  have HJ := Lib.hid HJ
  have HBa := Lib.hid hba
  have hza := Lib.hid hca
  clear hba hca
  have HBb := Lib.hid hbb
  have hzb := Lib.hid hcb
  clear hbb hcb
  go_wp2_with (first | (refine wpList_load_blk rfl 36 (.tmp 2) rfl ga (by simp [Act.eval, Act.put, hsz, o2]) 36 _ HBa.out _ Tryd.underlying36 rfl (by rw [hza.out]; exact Tryd.infoNote) ?_) | (refine wpList_load_blk rfl 36 (.tmp 3) rfl gb (by simp [Act.eval, Act.put, hsz, o3]) 36 _ HBb.out _ Tryd.underlying36 rfl (by rw [hzb.out]; exact Tryd.infoNote) ?_))
  refine HJ.out.mono ?_
  rintro e w1 ⟨v1, rfl, H1⟩
  have S0 := (S.out.join H1).perm (List.perm_append_singleton _ _)
  obtain ⟨A1, c1, hv1, -, -⟩ := ow_form (S0.at_ (l1 := []))
  have HO : Hid (∀ u, u ∈ (ntA Z H v1).toList → u.oneCell' = true) := Lib.hid (ntA_one (by rw [hv1]; rfl))
  have hz2 : Hid ((ntA Z H v1).size = 34) := Lib.hid (ntA_size hH)
  have S1 := Lib.hid (S0.newBlk 36 zeroN)
  clear S0 H1
  obtain ⟨cn, hcn⟩ : ∃ cn, ntA Z H v1 = cn := ⟨_, rfl⟩
  rw [hcn] at HO hz2 ⊢
  have hcn := Lib.hid hcn
  clear hv1
  go_wp2_with (refine wpList_store_blk rfl 36 (.tmp 11) (.tmp 35) rfl w1.heap.size (by simp [Act.eval, Act.put, hsz]) cn (by simp [Act.eval, Act.put, hsz]) 36 _ (S1.out.at_ (l1 := [])) (by rw [hz2.out]; exact Tryd.infoNote) (by rw [hz2.out]; rfl) HO.out ?_; intro w7 b7 k7; have S7 := Lib.hid (Held.setBlk (l1 := []) S1.out b7 k7); clear b7 k7)
  try simp only [Act.put]
  exact hend _ _ (by repeat (first | (with_reducible refine same_set (by decide) ?_) | (with_reducible exact same_nil))) (by unfold Sl; first | (simp [hsz]; done) | (simp [hsz]; omega)) (⟨w1.heap.size, v1, (by unfold Sl; simp [hsz]), (by rw [hcn.out]; exact S7.out)⟩)
-- END sgj4
-- REG sgj8
set_option maxRecDepth 100000 in
set_option maxHeartbeats 2000000 in
theorem sgj_r8 {Q : Exit → Act → World → Prop} {a : Act} {w : World} (w0 : World) (Z : Int) (H : List UInt8) (hH : H.length = 32) (n : Nat) (xs : List Value) (E : Int) (ga : Nat) (ca : Array Value) (hca : ca.size = 34) (hba : Blk w ga 36 ca) (HJ : Calls Tryd.prog 35 #[.agg ca, .agg ca] w fun r w' => ∃ v, r = .returned (.tuple #[.agg (ntA Z H v), .int .i64 E]) ∧ Held w w' [rowR 81 33 v n xs]) (L : List Res) (S : Held w0 w L) (hsz : a.tmps.size = 99) (o5 : Sl a 5 (.pointer (some ⟨ga, 0, none⟩)))
    (hend : ∀ (a' : Act) (W : World), Same a a' [62, 63, 64, 61, 65, 66, 13, 14] → Sl a' 14 (.int .i64 E) → (∃ g v, Sl a' 13 (.pointer (some ⟨g, 0, none⟩)) ∧ Held w0 W (blkR g 36 (ntA Z H v) :: rowR 81 33 v n xs :: L)) → Q .normal a' W) : (Code.region 8 (opsOf 8 Tryd.f7).toArray false).wp Tryd.prog Q a w := by
  refine wp_region_lit (l := (opsOf 8 Tryd.f7)) ?_
  conv => arg 4; whnf
  unfold Sl at o5
  have S := Lib.hid S
  have HJ := Lib.hid HJ
  have HBa := Lib.hid hba
  have hza := Lib.hid hca
  clear hba hca
  go_wp2_with (refine wpList_load_blk rfl 36 (.tmp 5) rfl ga (by simp [Act.eval, Act.put, hsz, o5]) 36 _ HBa.out _ Tryd.underlying36 rfl (by rw [hza.out]; exact Tryd.infoNote) ?_)
  refine HJ.out.mono ?_
  rintro e w1 ⟨v1, rfl, H1⟩
  have S0 := (S.out.join H1).perm (List.perm_append_singleton _ _)
  obtain ⟨A1, c1, hv1, -, -⟩ := ow_form (S0.at_ (l1 := []))
  have HO : Hid (∀ u, u ∈ (ntA Z H v1).toList → u.oneCell' = true) := Lib.hid (ntA_one (by rw [hv1]; rfl))
  have hz2 : Hid ((ntA Z H v1).size = 34) := Lib.hid (ntA_size hH)
  have S1 := Lib.hid (S0.newBlk 36 zeroN)
  clear S0 H1
  obtain ⟨cn, hcn⟩ : ∃ cn, ntA Z H v1 = cn := ⟨_, rfl⟩
  rw [hcn] at HO hz2 ⊢
  have hcn := Lib.hid hcn
  clear hv1
  go_wp2_with (refine wpList_store_blk rfl 36 (.tmp 13) (.tmp 65) rfl w1.heap.size (by simp [Act.eval, Act.put, hsz]) cn (by simp [Act.eval, Act.put, hsz]) 36 _ (S1.out.at_ (l1 := [])) (by rw [hz2.out]; exact Tryd.infoNote) (by rw [hz2.out]; rfl) HO.out ?_; intro w7 b7 k7; have S7 := Lib.hid (Held.setBlk (l1 := []) S1.out b7 k7); clear b7 k7)
  try simp only [Act.put]
  exact hend _ _ (by repeat (first | (with_reducible refine same_set (by decide) ?_) | (with_reducible exact same_nil))) (by unfold Sl; first | (simp [hsz]; done) | (simp [hsz]; omega)) (⟨w1.heap.size, v1, (by unfold Sl; simp [hsz]), (by rw [hcn.out]; exact S7.out)⟩)
-- END sgj8
-- REG sgj5
set_option maxRecDepth 100000 in
set_option maxHeartbeats 2000000 in
theorem sgj_r5 {Q : Exit → Act → World → Prop} {a : Act} {w : World} (E : Int) (Z : Int) (H : List UInt8) (hH : H.length = 32) (X : List SigD) (hX : SgOk X) (hXl : X.length ≤ 64) (A1 : Option Addr) (c1 g7 : Nat) (hb7 : Blk w g7 36 (ntA Z H (.slice A1 X.length c1))) (hr1 : Rd w 33 (.slice A1 X.length c1) X.length (sgsC X)) (A2 : Option Addr) (c2 g9 : Nat) (hb9 : Blk w g9 36 (ntA Z H (.slice A2 X.length c2))) (hr2 : Rd w 33 (.slice A2 X.length c2) X.length (sgsC X)) (A3 : Option Addr) (c3 g11 : Nat) (hb11 : Blk w g11 36 (ntA Z H (.slice A3 X.length c3))) (hr3 : Rd w 33 (.slice A3 X.length c3) X.length (sgsC X)) (hsz : a.tmps.size = 99) (o7 : Sl a 7 (.pointer (some ⟨g7, 0, none⟩))) (o8 : Sl a 8 (.int .i64 E)) (o9 : Sl a 9 (.pointer (some ⟨g9, 0, none⟩))) (o10 : Sl a 10 (.int .i64 E)) (o11 : Sl a 11 (.pointer (some ⟨g11, 0, none⟩))) (o12 : Sl a 12 (.int .i64 E))
    (hend : ∀ (a' : Act) (W : World), Same a a' [37, 38, 39, 40, 41, 42, 43, 44, 45, 46, 47, 48, 49, 50, 51, 52, 53, 54, 55, 56, 57, 58] → Kp [] w W → Sl a' 58 (.bool false) → Q .normal a' W) : (Code.region 5 (opsOf 5 Tryd.f7).toArray false).wp Tryd.prog Q a w := by
  have hap : apartB (opsOf 5 Tryd.f7) = true := by kernel_rfl
  refine wp_region_invS (l := (opsOf 5 Tryd.f7)) (fun i v W => match i with | 0 => v = .int .i64 E | 1 => v = .int .i64 E | 2 => v = .int .i64 E | 3 => v = .bool false | 4 => v = .bool false | 5 => v = .int .i64 E | 6 => v = .int .i64 E | 7 => v = .int .i64 E | 8 => v = .bool false | 9 => v = .bool false | 10 => v = .bool false | 11 => v = .agg (ntA Z H (.slice A1 X.length c1)) | 12 => v = .agg (ntA Z H (.slice A3 X.length c3)) | 13 => v = .bool true | 14 => v = .bool false | 15 => v = .bool false | 16 => v = .bool false | 17 => v = .agg (ntA Z H (.slice A2 X.length c2)) | 18 => v = .agg (ntA Z H (.slice A3 X.length c3)) | 19 => v = .bool true | 20 => v = .bool false | 21 => v = .bool false | _ => True) hap ?_ ?_ ?_
  · intro i v W W' h _
    iterate 22 (rcases i with _ | i; · exact h)
    exact h
  · refine ⟨?_, ?_, ?_, ?_, ?_, ?_, ?_, ?_, ?_, ?_, ?_, ?_, ?_, ?_, ?_, ?_, ?_, ?_, ?_, ?_, ?_, ?_, trivial⟩
    · intro vs A' W hA hW hd hu K hK
      refine wpOp_free _ rfl rfl ?_
      conv => arg 2; whnf
      have e8 : A'.tmps[8]?.getD undef = .int .i64 E := slot_out hA hap (Nat.lt_of_lt_of_eq (Nat.le_of_ble_eq_true rfl : 8 < 99) hsz.symm) (by kernel_rfl) o8
      clear hA hd hu o7 o8 o9 o10 o11 o12
      go_step
      exact hK _ _ (Kp.refl _ _) rfl
    · intro vs A' W hA hW hd hu K hK
      refine wpOp_free _ rfl rfl ?_
      conv => arg 2; whnf
      have f0 : vs 0 = .int .i64 E := hd 0 (by kernel_rfl)
      have e37 : A'.tmps[37]?.getD undef = vs 0 := slot_in hA hap (Nat.lt_of_lt_of_eq (Nat.le_of_ble_eq_true rfl : 37 < 99) hsz.symm) (by kernel_rfl)
      rw [f0] at e37
      clear hA hd hu o7 o8 o9 o10 o11 o12
      go_step
      refine (lnum_any E W).mono ?_
      rintro e w' ⟨rfl, rfl⟩
      exact hK _ _ (Kp.refl _ _) rfl
    · intro vs A' W hA hW hd hu K hK
      refine wpOp_free _ rfl rfl ?_
      conv => arg 2; whnf
      have e12 : A'.tmps[12]?.getD undef = .int .i64 E := slot_out hA hap (Nat.lt_of_lt_of_eq (Nat.le_of_ble_eq_true rfl : 12 < 99) hsz.symm) (by kernel_rfl) o12
      clear hA hd hu o7 o8 o9 o10 o11 o12
      go_step
      exact hK _ _ (Kp.refl _ _) rfl
    · intro vs A' W hA hW hd hu K hK
      refine wpOp_free _ rfl rfl ?_
      conv => arg 2; whnf
      have f1 : vs 1 = .int .i64 E := hd 1 (by kernel_rfl)
      have e38 : A'.tmps[38]?.getD undef = vs 1 := slot_in hA hap (Nat.lt_of_lt_of_eq (Nat.le_of_ble_eq_true rfl : 38 < 99) hsz.symm) (by kernel_rfl)
      rw [f1] at e38
      have f2 : vs 2 = .int .i64 E := hd 2 (by kernel_rfl)
      have e39 : A'.tmps[39]?.getD undef = vs 2 := slot_in hA hap (Nat.lt_of_lt_of_eq (Nat.le_of_ble_eq_true rfl : 39 < 99) hsz.symm) (by kernel_rfl)
      rw [f2] at e39
      clear hA hd hu o7 o8 o9 o10 o11 o12
      go_step
      exact hK _ _ (Kp.refl _ _) (by first | rfl | exact (show Value.bool (E != E) = Value.bool false from by rw [bne_self_eq_false]))
    · intro vs A' W hA hW hd hu K hK
      refine wpOp_free _ rfl rfl ?_
      conv => arg 2; whnf
      have f3 : vs 3 = .bool false := hd 3 (by kernel_rfl)
      have e40 : A'.tmps[40]?.getD undef = vs 3 := slot_in hA hap (Nat.lt_of_lt_of_eq (Nat.le_of_ble_eq_true rfl : 40 < 99) hsz.symm) (by kernel_rfl)
      rw [f3] at e40
      clear hA hd hu o7 o8 o9 o10 o11 o12
      go_step
      exact hK _ _ (Kp.refl _ _) rfl
    · intro vs A' W hA hW hd hu K hK
      have f4 : vs 4 = .bool false := hd 4 (by kernel_rfl)
      have e41 : A'.tmps[41]?.getD undef = vs 4 := slot_in hA hap (Nat.lt_of_lt_of_eq (Nat.le_of_ble_eq_true rfl : 41 < 99) hsz.symm) (by kernel_rfl)
      rw [f4] at e41
      refine wpOp_go _ rfl 4 41 false rfl rfl e41 ?_
      conv => arg 2; whnf
      have e10 : A'.tmps[10]?.getD undef = .int .i64 E := slot_out hA hap (Nat.lt_of_lt_of_eq (Nat.le_of_ble_eq_true rfl : 10 < 99) hsz.symm) (by kernel_rfl) o10
      clear hA hd hu o7 o8 o9 o10 o11 o12
      go_step
      exact hK _ _ (Kp.refl _ _) rfl
    · intro vs A' W hA hW hd hu K hK
      have f4 : vs 4 = .bool false := hd 4 (by kernel_rfl)
      have e41 : A'.tmps[41]?.getD undef = vs 4 := slot_in hA hap (Nat.lt_of_lt_of_eq (Nat.le_of_ble_eq_true rfl : 41 < 99) hsz.symm) (by kernel_rfl)
      rw [f4] at e41
      refine wpOp_go _ rfl 4 41 false rfl rfl e41 ?_
      conv => arg 2; whnf
      have f5 : vs 5 = .int .i64 E := hd 5 (by kernel_rfl)
      have e42 : A'.tmps[42]?.getD undef = vs 5 := slot_in hA hap (Nat.lt_of_lt_of_eq (Nat.le_of_ble_eq_true rfl : 42 < 99) hsz.symm) (by kernel_rfl)
      rw [f5] at e42
      clear hA hd hu o7 o8 o9 o10 o11 o12
      go_step
      refine (lnum_any E W).mono ?_
      rintro e w' ⟨rfl, rfl⟩
      exact hK _ _ (Kp.refl _ _) rfl
    · intro vs A' W hA hW hd hu K hK
      have f4 : vs 4 = .bool false := hd 4 (by kernel_rfl)
      have e41 : A'.tmps[41]?.getD undef = vs 4 := slot_in hA hap (Nat.lt_of_lt_of_eq (Nat.le_of_ble_eq_true rfl : 41 < 99) hsz.symm) (by kernel_rfl)
      rw [f4] at e41
      refine wpOp_go _ rfl 4 41 false rfl rfl e41 ?_
      conv => arg 2; whnf
      have e12 : A'.tmps[12]?.getD undef = .int .i64 E := slot_out hA hap (Nat.lt_of_lt_of_eq (Nat.le_of_ble_eq_true rfl : 12 < 99) hsz.symm) (by kernel_rfl) o12
      clear hA hd hu o7 o8 o9 o10 o11 o12
      go_step
      exact hK _ _ (Kp.refl _ _) rfl
    · intro vs A' W hA hW hd hu K hK
      have f4 : vs 4 = .bool false := hd 4 (by kernel_rfl)
      have e41 : A'.tmps[41]?.getD undef = vs 4 := slot_in hA hap (Nat.lt_of_lt_of_eq (Nat.le_of_ble_eq_true rfl : 41 < 99) hsz.symm) (by kernel_rfl)
      rw [f4] at e41
      refine wpOp_go _ rfl 4 41 false rfl rfl e41 ?_
      conv => arg 2; whnf
      have f6 : vs 6 = .int .i64 E := hd 6 (by kernel_rfl)
      have e43 : A'.tmps[43]?.getD undef = vs 6 := slot_in hA hap (Nat.lt_of_lt_of_eq (Nat.le_of_ble_eq_true rfl : 43 < 99) hsz.symm) (by kernel_rfl)
      rw [f6] at e43
      have f7 : vs 7 = .int .i64 E := hd 7 (by kernel_rfl)
      have e44 : A'.tmps[44]?.getD undef = vs 7 := slot_in hA hap (Nat.lt_of_lt_of_eq (Nat.le_of_ble_eq_true rfl : 44 < 99) hsz.symm) (by kernel_rfl)
      rw [f7] at e44
      clear hA hd hu o7 o8 o9 o10 o11 o12
      go_step
      exact hK _ _ (Kp.refl _ _) (by first | rfl | exact (show Value.bool (E != E) = Value.bool false from by rw [bne_self_eq_false]))
    · intro vs A' W hA hW hd hu K hK
      refine wpOp_free _ rfl rfl ?_
      conv => arg 2; whnf
      have f4 : vs 4 = .bool false := hd 4 (by kernel_rfl)
      have e41 : A'.tmps[41]?.getD undef = vs 4 := slot_in hA hap (Nat.lt_of_lt_of_eq (Nat.le_of_ble_eq_true rfl : 41 < 99) hsz.symm) (by kernel_rfl)
      rw [f4] at e41
      have f8 : vs 8 = .bool false := hd 8 (by kernel_rfl)
      have e45 : A'.tmps[45]?.getD undef = vs 8 := slot_in hA hap (Nat.lt_of_lt_of_eq (Nat.le_of_ble_eq_true rfl : 45 < 99) hsz.symm) (by kernel_rfl)
      rw [f8] at e45
      clear hA hd hu o7 o8 o9 o10 o11 o12
      go_step
      exact hK _ _ (Kp.refl _ _) rfl
    · intro vs A' W hA hW hd hu K hK
      refine wpOp_free _ rfl rfl ?_
      conv => arg 2; whnf
      have f9 : vs 9 = .bool false := hd 9 (by kernel_rfl)
      have e46 : A'.tmps[46]?.getD undef = vs 9 := slot_in hA hap (Nat.lt_of_lt_of_eq (Nat.le_of_ble_eq_true rfl : 46 < 99) hsz.symm) (by kernel_rfl)
      rw [f9] at e46
      clear hA hd hu o7 o8 o9 o10 o11 o12
      go_step
      exact hK _ _ (Kp.refl _ _) rfl
    · intro vs A' W hA hW hd hu K hK
      have f10 : vs 10 = .bool false := hd 10 (by kernel_rfl)
      have e47 : A'.tmps[47]?.getD undef = vs 10 := slot_in hA hap (Nat.lt_of_lt_of_eq (Nat.le_of_ble_eq_true rfl : 47 < 99) hsz.symm) (by kernel_rfl)
      rw [f10] at e47
      refine wpOp_go _ rfl 10 47 false rfl rfl e47 ?_
      conv => arg 2; whnf
      have e7 : A'.tmps[7]?.getD undef = .pointer (some ⟨g7, 0, none⟩) := slot_out hA hap (Nat.lt_of_lt_of_eq (Nat.le_of_ble_eq_true rfl : 7 < 99) hsz.symm) (by kernel_rfl) o7
      clear hA hd hu o7 o8 o9 o10 o11 o12
      refine op_runs (v := .agg (ntA Z H (.slice A1 X.length c1))) (w' := W) (exec_load rfl (by simpa [Act.eval] using e7) (run_loadAt_agg W (⟨g7, 0, none⟩) 36 (ntA Z H (.slice A1 X.length c1)).toList _ (Blk.agg (hb7.kp hW (by simp))) Tryd.underlying36 rfl (by rw [Array.length_toList, ntA_size hH]; exact Tryd.infoNote))) ?_
      exact hK _ _ (Kp.refl _ _) rfl
    · intro vs A' W hA hW hd hu K hK
      have f10 : vs 10 = .bool false := hd 10 (by kernel_rfl)
      have e47 : A'.tmps[47]?.getD undef = vs 10 := slot_in hA hap (Nat.lt_of_lt_of_eq (Nat.le_of_ble_eq_true rfl : 47 < 99) hsz.symm) (by kernel_rfl)
      rw [f10] at e47
      refine wpOp_go _ rfl 10 47 false rfl rfl e47 ?_
      conv => arg 2; whnf
      have e11 : A'.tmps[11]?.getD undef = .pointer (some ⟨g11, 0, none⟩) := slot_out hA hap (Nat.lt_of_lt_of_eq (Nat.le_of_ble_eq_true rfl : 11 < 99) hsz.symm) (by kernel_rfl) o11
      clear hA hd hu o7 o8 o9 o10 o11 o12
      refine op_runs (v := .agg (ntA Z H (.slice A3 X.length c3))) (w' := W) (exec_load rfl (by simpa [Act.eval] using e11) (run_loadAt_agg W (⟨g11, 0, none⟩) 36 (ntA Z H (.slice A3 X.length c3)).toList _ (Blk.agg (hb11.kp hW (by simp))) Tryd.underlying36 rfl (by rw [Array.length_toList, ntA_size hH]; exact Tryd.infoNote))) ?_
      exact hK _ _ (Kp.refl _ _) rfl
    · intro vs A' W hA hW hd hu K hK
      have f10 : vs 10 = .bool false := hd 10 (by kernel_rfl)
      have e47 : A'.tmps[47]?.getD undef = vs 10 := slot_in hA hap (Nat.lt_of_lt_of_eq (Nat.le_of_ble_eq_true rfl : 47 < 99) hsz.symm) (by kernel_rfl)
      rw [f10] at e47
      refine wpOp_go _ rfl 10 47 false rfl rfl e47 ?_
      conv => arg 2; whnf
      have f11 : vs 11 = .agg (ntA Z H (.slice A1 X.length c1)) := hd 11 (by kernel_rfl)
      have e48 : A'.tmps[48]?.getD undef = vs 11 := slot_in hA hap (Nat.lt_of_lt_of_eq (Nat.le_of_ble_eq_true rfl : 48 < 99) hsz.symm) (by kernel_rfl)
      rw [f11] at e48
      have f12 : vs 12 = .agg (ntA Z H (.slice A3 X.length c3)) := hd 12 (by kernel_rfl)
      have e49 : A'.tmps[49]?.getD undef = vs 12 := slot_in hA hap (Nat.lt_of_lt_of_eq (Nat.le_of_ble_eq_true rfl : 49 < 99) hsz.symm) (by kernel_rfl)
      rw [f12] at e49
      clear hA hd hu o7 o8 o9 o10 o11 o12
      go_step
      refine (ssame_any Z Z H H hH hH A1 A3 c1 c3 X X hX hX (by omega) W (rd_old hr1 hW) (rd_old hr3 hW)).mono ?_
      rintro e w' ⟨rfl, k⟩
      exact hK _ _ k (show Value.bool (sameN Z H X Z H X) = Value.bool true from by rw [sameN_self])
    · intro vs A' W hA hW hd hu K hK
      have f10 : vs 10 = .bool false := hd 10 (by kernel_rfl)
      have e47 : A'.tmps[47]?.getD undef = vs 10 := slot_in hA hap (Nat.lt_of_lt_of_eq (Nat.le_of_ble_eq_true rfl : 47 < 99) hsz.symm) (by kernel_rfl)
      rw [f10] at e47
      refine wpOp_go _ rfl 10 47 false rfl rfl e47 ?_
      conv => arg 2; whnf
      have f13 : vs 13 = .bool true := hd 13 (by kernel_rfl)
      have e50 : A'.tmps[50]?.getD undef = vs 13 := slot_in hA hap (Nat.lt_of_lt_of_eq (Nat.le_of_ble_eq_true rfl : 50 < 99) hsz.symm) (by kernel_rfl)
      rw [f13] at e50
      clear hA hd hu o7 o8 o9 o10 o11 o12
      go_step
      exact hK _ _ (Kp.refl _ _) rfl
    · intro vs A' W hA hW hd hu K hK
      refine wpOp_free _ rfl rfl ?_
      conv => arg 2; whnf
      have f10 : vs 10 = .bool false := hd 10 (by kernel_rfl)
      have e47 : A'.tmps[47]?.getD undef = vs 10 := slot_in hA hap (Nat.lt_of_lt_of_eq (Nat.le_of_ble_eq_true rfl : 47 < 99) hsz.symm) (by kernel_rfl)
      rw [f10] at e47
      have f14 : vs 14 = .bool false := hd 14 (by kernel_rfl)
      have e51 : A'.tmps[51]?.getD undef = vs 14 := slot_in hA hap (Nat.lt_of_lt_of_eq (Nat.le_of_ble_eq_true rfl : 51 < 99) hsz.symm) (by kernel_rfl)
      rw [f14] at e51
      clear hA hd hu o7 o8 o9 o10 o11 o12
      go_step
      exact hK _ _ (Kp.refl _ _) rfl
    · intro vs A' W hA hW hd hu K hK
      refine wpOp_free _ rfl rfl ?_
      conv => arg 2; whnf
      have f15 : vs 15 = .bool false := hd 15 (by kernel_rfl)
      have e52 : A'.tmps[52]?.getD undef = vs 15 := slot_in hA hap (Nat.lt_of_lt_of_eq (Nat.le_of_ble_eq_true rfl : 52 < 99) hsz.symm) (by kernel_rfl)
      rw [f15] at e52
      clear hA hd hu o7 o8 o9 o10 o11 o12
      go_step
      exact hK _ _ (Kp.refl _ _) rfl
    · intro vs A' W hA hW hd hu K hK
      have f16 : vs 16 = .bool false := hd 16 (by kernel_rfl)
      have e53 : A'.tmps[53]?.getD undef = vs 16 := slot_in hA hap (Nat.lt_of_lt_of_eq (Nat.le_of_ble_eq_true rfl : 53 < 99) hsz.symm) (by kernel_rfl)
      rw [f16] at e53
      refine wpOp_go _ rfl 16 53 false rfl rfl e53 ?_
      conv => arg 2; whnf
      have e9 : A'.tmps[9]?.getD undef = .pointer (some ⟨g9, 0, none⟩) := slot_out hA hap (Nat.lt_of_lt_of_eq (Nat.le_of_ble_eq_true rfl : 9 < 99) hsz.symm) (by kernel_rfl) o9
      clear hA hd hu o7 o8 o9 o10 o11 o12
      refine op_runs (v := .agg (ntA Z H (.slice A2 X.length c2))) (w' := W) (exec_load rfl (by simpa [Act.eval] using e9) (run_loadAt_agg W (⟨g9, 0, none⟩) 36 (ntA Z H (.slice A2 X.length c2)).toList _ (Blk.agg (hb9.kp hW (by simp))) Tryd.underlying36 rfl (by rw [Array.length_toList, ntA_size hH]; exact Tryd.infoNote))) ?_
      exact hK _ _ (Kp.refl _ _) rfl
    · intro vs A' W hA hW hd hu K hK
      have f16 : vs 16 = .bool false := hd 16 (by kernel_rfl)
      have e53 : A'.tmps[53]?.getD undef = vs 16 := slot_in hA hap (Nat.lt_of_lt_of_eq (Nat.le_of_ble_eq_true rfl : 53 < 99) hsz.symm) (by kernel_rfl)
      rw [f16] at e53
      refine wpOp_go _ rfl 16 53 false rfl rfl e53 ?_
      conv => arg 2; whnf
      have e11 : A'.tmps[11]?.getD undef = .pointer (some ⟨g11, 0, none⟩) := slot_out hA hap (Nat.lt_of_lt_of_eq (Nat.le_of_ble_eq_true rfl : 11 < 99) hsz.symm) (by kernel_rfl) o11
      clear hA hd hu o7 o8 o9 o10 o11 o12
      refine op_runs (v := .agg (ntA Z H (.slice A3 X.length c3))) (w' := W) (exec_load rfl (by simpa [Act.eval] using e11) (run_loadAt_agg W (⟨g11, 0, none⟩) 36 (ntA Z H (.slice A3 X.length c3)).toList _ (Blk.agg (hb11.kp hW (by simp))) Tryd.underlying36 rfl (by rw [Array.length_toList, ntA_size hH]; exact Tryd.infoNote))) ?_
      exact hK _ _ (Kp.refl _ _) rfl
    · intro vs A' W hA hW hd hu K hK
      have f16 : vs 16 = .bool false := hd 16 (by kernel_rfl)
      have e53 : A'.tmps[53]?.getD undef = vs 16 := slot_in hA hap (Nat.lt_of_lt_of_eq (Nat.le_of_ble_eq_true rfl : 53 < 99) hsz.symm) (by kernel_rfl)
      rw [f16] at e53
      refine wpOp_go _ rfl 16 53 false rfl rfl e53 ?_
      conv => arg 2; whnf
      have f17 : vs 17 = .agg (ntA Z H (.slice A2 X.length c2)) := hd 17 (by kernel_rfl)
      have e54 : A'.tmps[54]?.getD undef = vs 17 := slot_in hA hap (Nat.lt_of_lt_of_eq (Nat.le_of_ble_eq_true rfl : 54 < 99) hsz.symm) (by kernel_rfl)
      rw [f17] at e54
      have f18 : vs 18 = .agg (ntA Z H (.slice A3 X.length c3)) := hd 18 (by kernel_rfl)
      have e55 : A'.tmps[55]?.getD undef = vs 18 := slot_in hA hap (Nat.lt_of_lt_of_eq (Nat.le_of_ble_eq_true rfl : 55 < 99) hsz.symm) (by kernel_rfl)
      rw [f18] at e55
      clear hA hd hu o7 o8 o9 o10 o11 o12
      go_step
      refine (ssame_any Z Z H H hH hH A2 A3 c2 c3 X X hX hX (by omega) W (rd_old hr2 hW) (rd_old hr3 hW)).mono ?_
      rintro e w' ⟨rfl, k⟩
      exact hK _ _ k (show Value.bool (sameN Z H X Z H X) = Value.bool true from by rw [sameN_self])
    · intro vs A' W hA hW hd hu K hK
      have f16 : vs 16 = .bool false := hd 16 (by kernel_rfl)
      have e53 : A'.tmps[53]?.getD undef = vs 16 := slot_in hA hap (Nat.lt_of_lt_of_eq (Nat.le_of_ble_eq_true rfl : 53 < 99) hsz.symm) (by kernel_rfl)
      rw [f16] at e53
      refine wpOp_go _ rfl 16 53 false rfl rfl e53 ?_
      conv => arg 2; whnf
      have f19 : vs 19 = .bool true := hd 19 (by kernel_rfl)
      have e56 : A'.tmps[56]?.getD undef = vs 19 := slot_in hA hap (Nat.lt_of_lt_of_eq (Nat.le_of_ble_eq_true rfl : 56 < 99) hsz.symm) (by kernel_rfl)
      rw [f19] at e56
      clear hA hd hu o7 o8 o9 o10 o11 o12
      go_step
      exact hK _ _ (Kp.refl _ _) rfl
    · intro vs A' W hA hW hd hu K hK
      refine wpOp_free _ rfl rfl ?_
      conv => arg 2; whnf
      have f16 : vs 16 = .bool false := hd 16 (by kernel_rfl)
      have e53 : A'.tmps[53]?.getD undef = vs 16 := slot_in hA hap (Nat.lt_of_lt_of_eq (Nat.le_of_ble_eq_true rfl : 53 < 99) hsz.symm) (by kernel_rfl)
      rw [f16] at e53
      have f20 : vs 20 = .bool false := hd 20 (by kernel_rfl)
      have e57 : A'.tmps[57]?.getD undef = vs 20 := slot_in hA hap (Nat.lt_of_lt_of_eq (Nat.le_of_ble_eq_true rfl : 57 < 99) hsz.symm) (by kernel_rfl)
      rw [f20] at e57
      clear hA hd hu o7 o8 o9 o10 o11 o12
      go_step
      exact hK _ _ (Kp.refl _ _) rfl
  · intro vs W hW hp
    rw [show putAll vs (opsOf 5 Tryd.f7) 0 a = putD [(37, vs 0), (38, vs 1), (39, vs 2), (40, vs 3), (41, vs 4), (42, vs 5), (43, vs 6), (44, vs 7), (45, vs 8), (46, vs 9), (47, vs 10), (48, vs 11), (49, vs 12), (50, vs 13), (51, vs 14), (52, vs 15), (53, vs 16), (54, vs 17), (55, vs 18), (56, vs 19), (57, vs 20), (58, vs 21)] a from by kernel_rfl]
    exact hend _ W (same_putD _ a) hW (sl_putD _ a 58 _ (by rw [show vs 21 = _ from hp 21 (Nat.le_of_ble_eq_true (by kernel_rfl))]; kernel_rfl))
-- END sgj5
-- REG sgj7
set_option maxRecDepth 100000 in
set_option maxHeartbeats 2000000 in
theorem sgj_r7 {Q : Exit → Act → World → Prop} {a : Act} {w : World} (w0 : World) (Z : Int) (H : List UInt8) (hH : H.length = 32) (v : Value) (n : Nat) (hn : n ≤ 1000000) (xs : List Value) (g7 : Nat) (hb : Blk w g7 36 (ntA Z H v)) (L : List Res) (S : Held w0 w (rowR 81 33 v n xs :: L)) (hsz : a.tmps.size = 99) (o7 : Sl a 7 (.pointer (some ⟨g7, 0, none⟩)))
    (hend : ∀ (a' : Act) (W : World), Same a a' [59, 60] → (Held w0 W L) → Q .normal a' W) : (Code.region 7 (opsOf 7 Tryd.f7).toArray false).wp Tryd.prog Q a w := by
  refine wp_region_lit (l := (opsOf 7 Tryd.f7)) ?_
  conv => arg 4; whnf
  unfold Sl at o7
  have HS := Lib.hid (sspoil_any w0 L Z H hH v n hn xs w S)
  have HB := Lib.hid hb
  have hz2 : Hid ((ntA Z H v).size = 34) := Lib.hid (ntA_size hH)
  clear hb S
  generalize ntA Z H v = cn at *
  go_wp2_with (refine wpList_load_blk rfl 36 (.tmp 7) rfl g7 (by simp [Act.eval, Act.put, hsz, o7]) 36 _ HB.out _ Tryd.underlying36 rfl (by rw [hz2.out]; exact Tryd.infoNote) ?_)
  refine HS.out.mono ?_
  rintro e w1 ⟨rfl, S1⟩
  have S1 := Lib.hid S1
  go_wp2_with fail
  try simp only [Act.put]
  exact hend _ _ (by repeat (first | (with_reducible refine same_set (by decide) ?_) | (with_reducible exact same_nil))) (S1.out)
-- END sgj7
-- REG sgj9Y
set_option maxRecDepth 100000 in
set_option maxHeartbeats 2000000 in
theorem sgj_r9Y {Q : Exit → Act → World → Prop} {a : Act} {w : World} (z : Int) (hz : -9223372036854775808 ≤ z ∧ z ≤ 9223372036854775807) (h : List UInt8) (hh : h.length = 32) (A : Option Addr) (c : Nat) (l : List SigD) (hok : SgOk l) (hll : l.length ≤ 9223372036854775806) (g2 : Nat) (hb2 : Blk w.drew g2 36 (ntA z h (.slice A l.length c))) (hv : Rd w.drew 33 (.slice A l.length c) l.length (sgsC l)) (C : Int) (hchk : chkN z l = C) (hC : (C == 0) = true) (A4 : Option Addr) (c4 g13 : Nat) (hb13 : Blk w.drew g13 36 (ntA z h (.slice A4 l.length c4))) (hr4 : Rd w.drew 33 (.slice A4 l.length c4) l.length (sgsC l)) (hsz : a.tmps.size = 99) (o2 : Sl a 2 (.pointer (some ⟨g2, 0, none⟩))) (o13 : Sl a 13 (.pointer (some ⟨g13, 0, none⟩))) (o14 : Sl a 14 (.int .i64 C))
    (hend : ∀ (a' : Act) (W : World), Same a a' [67, 68, 69, 70, 71, 72, 73, 74, 75, 76, 77, 78, 79, 80, 81, 82] → Kp [] w.drew W → Sl a' 82 (.bool false) → Q .normal a' W) : (Code.region 9 (opsOf 9 Tryd.f7).toArray true).wp Tryd.prog Q a w := by
  have hap : apartB (opsOf 9 Tryd.f7) = true := by kernel_rfl
  refine wp_region_invG (l := (opsOf 9 Tryd.f7)) (fun i v W => match i with | 0 => v = .int .i64 C | 1 => v = .int .i64 C | 2 => v = .agg (ntA z h (.slice A l.length c)) | 3 => v = .int .i64 C | 4 => v = .bool false | 5 => v = .bool false | 6 => v = .int .i64 C | 7 => v = .int .i64 C | 8 => v = .bool true | 9 => v = .bool true | 10 => v = .agg (ntA z h (.slice A4 l.length c4)) | 11 => v = .agg (ntA z h (.slice A l.length c)) | 12 => v = .bool true | 13 => v = .bool false | 14 => v = .bool false | 15 => v = .bool false | _ => True) (by kernel_rfl) hap (by kernel_rfl) ?_ ?_ ?_
  · intro i v W W' h _
    iterate 16 (rcases i with _ | i; · exact h)
    exact h
  · refine ⟨?_, ?_, ?_, ?_, ?_, ?_, ?_, ?_, ?_, ?_, ?_, ?_, ?_, ?_, ?_, ?_, trivial⟩
    · intro vs A' W hA hW hd K hK
      refine wpOp_free _ rfl rfl ?_
      conv => arg 2; whnf
      have e14 : A'.tmps[14]?.getD undef = .int .i64 C := slot_out hA hap (Nat.lt_of_lt_of_eq (Nat.le_of_ble_eq_true rfl : 14 < 99) hsz.symm) (by kernel_rfl) o14
      clear hA hd o2 o13 o14
      go_step
      exact hK _ _ (Kp.refl _ _) rfl
    · intro vs A' W hA hW hd K hK
      refine wpOp_free _ rfl rfl ?_
      conv => arg 2; whnf
      have f0 : vs 0 = .int .i64 C := hd 0 (by kernel_rfl)
      have e67 : A'.tmps[67]?.getD undef = vs 0 := slot_in hA hap (Nat.lt_of_lt_of_eq (Nat.le_of_ble_eq_true rfl : 67 < 99) hsz.symm) (by kernel_rfl)
      rw [f0] at e67
      clear hA hd o2 o13 o14
      go_step
      refine (lnum_any C W).mono ?_
      rintro e w' ⟨rfl, rfl⟩
      exact hK _ _ (Kp.refl _ _) rfl
    · intro vs A' W hA hW hd K hK
      refine wpOp_free _ rfl rfl ?_
      conv => arg 2; whnf
      have e2 : A'.tmps[2]?.getD undef = .pointer (some ⟨g2, 0, none⟩) := slot_out hA hap (Nat.lt_of_lt_of_eq (Nat.le_of_ble_eq_true rfl : 2 < 99) hsz.symm) (by kernel_rfl) o2
      clear hA hd o2 o13 o14
      refine op_runs (v := .agg (ntA z h (.slice A l.length c))) (w' := W) (exec_load rfl (by simpa [Act.eval] using e2) (run_loadAt_agg W (⟨g2, 0, none⟩) 36 (ntA z h (.slice A l.length c)).toList _ (Blk.agg (hb2.kp hW (by simp))) Tryd.underlying36 rfl (by rw [Array.length_toList, ntA_size hh]; exact Tryd.infoNote))) ?_
      exact hK _ _ (Kp.refl _ _) rfl
    · intro vs A' W hA hW hd K hK
      refine wpOp_free _ rfl rfl ?_
      conv => arg 2; whnf
      have f2 : vs 2 = .agg (ntA z h (.slice A l.length c)) := hd 2 (by kernel_rfl)
      have e69 : A'.tmps[69]?.getD undef = vs 2 := slot_in hA hap (Nat.lt_of_lt_of_eq (Nat.le_of_ble_eq_true rfl : 69 < 99) hsz.symm) (by kernel_rfl)
      rw [f2] at e69
      clear hA hd o2 o13 o14
      go_step
      refine (rscheck_any z hz h hh l hok (by omega) A c W (rd_old hv hW)).mono ?_
      rintro e w' ⟨rfl, k⟩
      exact hK _ _ k (show Value.int .i64 (chkN z l) = Value.int .i64 C from by rw [hchk])
    · intro vs A' W hA hW hd K hK
      refine wpOp_free _ rfl rfl ?_
      conv => arg 2; whnf
      have f1 : vs 1 = .int .i64 C := hd 1 (by kernel_rfl)
      have e68 : A'.tmps[68]?.getD undef = vs 1 := slot_in hA hap (Nat.lt_of_lt_of_eq (Nat.le_of_ble_eq_true rfl : 68 < 99) hsz.symm) (by kernel_rfl)
      rw [f1] at e68
      have f3 : vs 3 = .int .i64 C := hd 3 (by kernel_rfl)
      have e70 : A'.tmps[70]?.getD undef = vs 3 := slot_in hA hap (Nat.lt_of_lt_of_eq (Nat.le_of_ble_eq_true rfl : 70 < 99) hsz.symm) (by kernel_rfl)
      rw [f3] at e70
      clear hA hd o2 o13 o14
      go_step
      exact hK _ _ (Kp.refl _ _) (by first | rfl | exact (show Value.bool (C != C) = Value.bool false from by rw [bne_self_eq_false]))
    · intro vs A' W hA hW hd K hK
      refine wpOp_free _ rfl rfl ?_
      conv => arg 2; whnf
      have f4 : vs 4 = .bool false := hd 4 (by kernel_rfl)
      have e71 : A'.tmps[71]?.getD undef = vs 4 := slot_in hA hap (Nat.lt_of_lt_of_eq (Nat.le_of_ble_eq_true rfl : 71 < 99) hsz.symm) (by kernel_rfl)
      rw [f4] at e71
      clear hA hd o2 o13 o14
      go_step
      exact hK _ _ (Kp.refl _ _) rfl
    · intro vs A' W hA hW hd K hK
      have f5 : vs 5 = .bool false := hd 5 (by kernel_rfl)
      have e72 : A'.tmps[72]?.getD undef = vs 5 := slot_in hA hap (Nat.lt_of_lt_of_eq (Nat.le_of_ble_eq_true rfl : 72 < 99) hsz.symm) (by kernel_rfl)
      rw [f5] at e72
      refine wpOp_go _ rfl 5 72 false rfl rfl e72 ?_
      conv => arg 2; whnf
      have e14 : A'.tmps[14]?.getD undef = .int .i64 C := slot_out hA hap (Nat.lt_of_lt_of_eq (Nat.le_of_ble_eq_true rfl : 14 < 99) hsz.symm) (by kernel_rfl) o14
      clear hA hd o2 o13 o14
      go_step
      exact hK _ _ (Kp.refl _ _) rfl
    · intro vs A' W hA hW hd K hK
      have f5 : vs 5 = .bool false := hd 5 (by kernel_rfl)
      have e72 : A'.tmps[72]?.getD undef = vs 5 := slot_in hA hap (Nat.lt_of_lt_of_eq (Nat.le_of_ble_eq_true rfl : 72 < 99) hsz.symm) (by kernel_rfl)
      rw [f5] at e72
      refine wpOp_go _ rfl 5 72 false rfl rfl e72 ?_
      conv => arg 2; whnf
      have f6 : vs 6 = .int .i64 C := hd 6 (by kernel_rfl)
      have e73 : A'.tmps[73]?.getD undef = vs 6 := slot_in hA hap (Nat.lt_of_lt_of_eq (Nat.le_of_ble_eq_true rfl : 73 < 99) hsz.symm) (by kernel_rfl)
      rw [f6] at e73
      clear hA hd o2 o13 o14
      go_step
      refine (lnum_any C W).mono ?_
      rintro e w' ⟨rfl, rfl⟩
      exact hK _ _ (Kp.refl _ _) rfl
    · intro vs A' W hA hW hd K hK
      have f5 : vs 5 = .bool false := hd 5 (by kernel_rfl)
      have e72 : A'.tmps[72]?.getD undef = vs 5 := slot_in hA hap (Nat.lt_of_lt_of_eq (Nat.le_of_ble_eq_true rfl : 72 < 99) hsz.symm) (by kernel_rfl)
      rw [f5] at e72
      refine wpOp_go _ rfl 5 72 false rfl rfl e72 ?_
      conv => arg 2; whnf
      have f7 : vs 7 = .int .i64 C := hd 7 (by kernel_rfl)
      have e74 : A'.tmps[74]?.getD undef = vs 7 := slot_in hA hap (Nat.lt_of_lt_of_eq (Nat.le_of_ble_eq_true rfl : 74 < 99) hsz.symm) (by kernel_rfl)
      rw [f7] at e74
      clear hA hd o2 o13 o14
      go_step
      exact hK _ _ (Kp.refl _ _) (by first | exact (show Value.bool (C == 0) = Value.bool true from by rw [hC]) | (refine congrArg Value.bool ?_; simp; done))
    · intro vs A' W hA hW hd K hK
      have f5 : vs 5 = .bool false := hd 5 (by kernel_rfl)
      have e72 : A'.tmps[72]?.getD undef = vs 5 := slot_in hA hap (Nat.lt_of_lt_of_eq (Nat.le_of_ble_eq_true rfl : 72 < 99) hsz.symm) (by kernel_rfl)
      rw [f5] at e72
      refine wpOp_go _ rfl 5 72 false rfl rfl e72 ?_
      conv => arg 2; whnf
      have f8 : vs 8 = .bool true := hd 8 (by kernel_rfl)
      have e75 : A'.tmps[75]?.getD undef = vs 8 := slot_in hA hap (Nat.lt_of_lt_of_eq (Nat.le_of_ble_eq_true rfl : 75 < 99) hsz.symm) (by kernel_rfl)
      rw [f8] at e75
      clear hA hd o2 o13 o14
      go_step
      exact hK _ _ (Kp.refl _ _) rfl
    · intro vs A' W hA hW hd K hK
      have f9 : vs 9 = .bool true := hd 9 (by kernel_rfl)
      have e76 : A'.tmps[76]?.getD undef = vs 9 := slot_in hA hap (Nat.lt_of_lt_of_eq (Nat.le_of_ble_eq_true rfl : 76 < 99) hsz.symm) (by kernel_rfl)
      rw [f9] at e76
      refine wpOp_go _ rfl 9 76 true rfl rfl e76 ?_
      conv => arg 2; whnf
      have e13 : A'.tmps[13]?.getD undef = .pointer (some ⟨g13, 0, none⟩) := slot_out hA hap (Nat.lt_of_lt_of_eq (Nat.le_of_ble_eq_true rfl : 13 < 99) hsz.symm) (by kernel_rfl) o13
      clear hA hd o2 o13 o14
      refine op_runs (v := .agg (ntA z h (.slice A4 l.length c4))) (w' := W) (exec_load rfl (by simpa [Act.eval] using e13) (run_loadAt_agg W (⟨g13, 0, none⟩) 36 (ntA z h (.slice A4 l.length c4)).toList _ (Blk.agg (hb13.kp hW (by simp))) Tryd.underlying36 rfl (by rw [Array.length_toList, ntA_size hh]; exact Tryd.infoNote))) ?_
      exact hK _ _ (Kp.refl _ _) rfl
    · intro vs A' W hA hW hd K hK
      have f9 : vs 9 = .bool true := hd 9 (by kernel_rfl)
      have e76 : A'.tmps[76]?.getD undef = vs 9 := slot_in hA hap (Nat.lt_of_lt_of_eq (Nat.le_of_ble_eq_true rfl : 76 < 99) hsz.symm) (by kernel_rfl)
      rw [f9] at e76
      refine wpOp_go _ rfl 9 76 true rfl rfl e76 ?_
      conv => arg 2; whnf
      have e2 : A'.tmps[2]?.getD undef = .pointer (some ⟨g2, 0, none⟩) := slot_out hA hap (Nat.lt_of_lt_of_eq (Nat.le_of_ble_eq_true rfl : 2 < 99) hsz.symm) (by kernel_rfl) o2
      clear hA hd o2 o13 o14
      refine op_runs (v := .agg (ntA z h (.slice A l.length c))) (w' := W) (exec_load rfl (by simpa [Act.eval] using e2) (run_loadAt_agg W (⟨g2, 0, none⟩) 36 (ntA z h (.slice A l.length c)).toList _ (Blk.agg (hb2.kp hW (by simp))) Tryd.underlying36 rfl (by rw [Array.length_toList, ntA_size hh]; exact Tryd.infoNote))) ?_
      exact hK _ _ (Kp.refl _ _) rfl
    · intro vs A' W hA hW hd K hK
      have f9 : vs 9 = .bool true := hd 9 (by kernel_rfl)
      have e76 : A'.tmps[76]?.getD undef = vs 9 := slot_in hA hap (Nat.lt_of_lt_of_eq (Nat.le_of_ble_eq_true rfl : 76 < 99) hsz.symm) (by kernel_rfl)
      rw [f9] at e76
      refine wpOp_go _ rfl 9 76 true rfl rfl e76 ?_
      conv => arg 2; whnf
      have f10 : vs 10 = .agg (ntA z h (.slice A4 l.length c4)) := hd 10 (by kernel_rfl)
      have e77 : A'.tmps[77]?.getD undef = vs 10 := slot_in hA hap (Nat.lt_of_lt_of_eq (Nat.le_of_ble_eq_true rfl : 77 < 99) hsz.symm) (by kernel_rfl)
      rw [f10] at e77
      have f11 : vs 11 = .agg (ntA z h (.slice A l.length c)) := hd 11 (by kernel_rfl)
      have e78 : A'.tmps[78]?.getD undef = vs 11 := slot_in hA hap (Nat.lt_of_lt_of_eq (Nat.le_of_ble_eq_true rfl : 78 < 99) hsz.symm) (by kernel_rfl)
      rw [f11] at e78
      clear hA hd o2 o13 o14
      go_step
      refine (ssame_any z z h h hh hh A4 A c4 c l l hok hok (by omega) W (rd_old hr4 hW) (rd_old hv hW)).mono ?_
      rintro e w' ⟨rfl, k⟩
      exact hK _ _ k (show Value.bool (sameN z h l z h l) = Value.bool true from by rw [sameN_self])
    · intro vs A' W hA hW hd K hK
      have f9 : vs 9 = .bool true := hd 9 (by kernel_rfl)
      have e76 : A'.tmps[76]?.getD undef = vs 9 := slot_in hA hap (Nat.lt_of_lt_of_eq (Nat.le_of_ble_eq_true rfl : 76 < 99) hsz.symm) (by kernel_rfl)
      rw [f9] at e76
      refine wpOp_go _ rfl 9 76 true rfl rfl e76 ?_
      conv => arg 2; whnf
      have f12 : vs 12 = .bool true := hd 12 (by kernel_rfl)
      have e79 : A'.tmps[79]?.getD undef = vs 12 := slot_in hA hap (Nat.lt_of_lt_of_eq (Nat.le_of_ble_eq_true rfl : 79 < 99) hsz.symm) (by kernel_rfl)
      rw [f12] at e79
      clear hA hd o2 o13 o14
      go_step
      exact hK _ _ (Kp.refl _ _) rfl
    · intro vs A' W hA hW hd K hK
      have f5 : vs 5 = .bool false := hd 5 (by kernel_rfl)
      have e72 : A'.tmps[72]?.getD undef = vs 5 := slot_in hA hap (Nat.lt_of_lt_of_eq (Nat.le_of_ble_eq_true rfl : 72 < 99) hsz.symm) (by kernel_rfl)
      rw [f5] at e72
      refine wpOp_go _ rfl 5 72 false rfl rfl e72 ?_
      conv => arg 2; whnf
      have f9 : vs 9 = .bool true := hd 9 (by kernel_rfl)
      have e76 : A'.tmps[76]?.getD undef = vs 9 := slot_in hA hap (Nat.lt_of_lt_of_eq (Nat.le_of_ble_eq_true rfl : 76 < 99) hsz.symm) (by kernel_rfl)
      rw [f9] at e76
      have f13 : vs 13 = .bool false := hd 13 (by kernel_rfl)
      have e80 : A'.tmps[80]?.getD undef = vs 13 := slot_in hA hap (Nat.lt_of_lt_of_eq (Nat.le_of_ble_eq_true rfl : 80 < 99) hsz.symm) (by kernel_rfl)
      rw [f13] at e80
      clear hA hd o2 o13 o14
      go_step
      exact hK _ _ (Kp.refl _ _) rfl
    · intro vs A' W hA hW hd K hK
      refine wpOp_free _ rfl rfl ?_
      conv => arg 2; whnf
      have f5 : vs 5 = .bool false := hd 5 (by kernel_rfl)
      have e72 : A'.tmps[72]?.getD undef = vs 5 := slot_in hA hap (Nat.lt_of_lt_of_eq (Nat.le_of_ble_eq_true rfl : 72 < 99) hsz.symm) (by kernel_rfl)
      rw [f5] at e72
      have f14 : vs 14 = .bool false := hd 14 (by kernel_rfl)
      have e81 : A'.tmps[81]?.getD undef = vs 14 := slot_in hA hap (Nat.lt_of_lt_of_eq (Nat.le_of_ble_eq_true rfl : 81 < 99) hsz.symm) (by kernel_rfl)
      rw [f14] at e81
      clear hA hd o2 o13 o14
      go_step
      exact hK _ _ (Kp.refl _ _) rfl
  · intro vs W hW hp
    rw [show putAll vs (opsOf 9 Tryd.f7) 0 a = putD [(67, vs 0), (68, vs 1), (69, vs 2), (70, vs 3), (71, vs 4), (72, vs 5), (73, vs 6), (74, vs 7), (75, vs 8), (76, vs 9), (77, vs 10), (78, vs 11), (79, vs 12), (80, vs 13), (81, vs 14), (82, vs 15)] a from by kernel_rfl]
    exact hend _ W (same_putD _ a) hW (sl_putD _ a 82 _ (by rw [show vs 15 = _ from hp 15 (Nat.le_of_ble_eq_true (by kernel_rfl))]; kernel_rfl))
-- END sgj9Y
-- REG sgj9N
set_option maxRecDepth 100000 in
set_option maxHeartbeats 2000000 in
theorem sgj_r9N {Q : Exit → Act → World → Prop} {a : Act} {w : World} (z : Int) (hz : -9223372036854775808 ≤ z ∧ z ≤ 9223372036854775807) (h : List UInt8) (hh : h.length = 32) (A : Option Addr) (c : Nat) (l : List SigD) (hok : SgOk l) (hll : l.length ≤ 9223372036854775806) (g2 : Nat) (hb2 : Blk w.drew g2 36 (ntA z h (.slice A l.length c))) (hv : Rd w.drew 33 (.slice A l.length c) l.length (sgsC l)) (C : Int) (hchk : chkN z l = C) (hC : (C == 0) = false) (hsz : a.tmps.size = 99) (o2 : Sl a 2 (.pointer (some ⟨g2, 0, none⟩))) (o14 : Sl a 14 (.int .i64 C))
    (hend : ∀ (a' : Act) (W : World), Same a a' [67, 68, 69, 70, 71, 72, 73, 74, 75, 76, 77, 78, 79, 80, 81, 82] → Kp [] w.drew W → Sl a' 82 (.bool false) → Q .normal a' W) : (Code.region 9 (opsOf 9 Tryd.f7).toArray true).wp Tryd.prog Q a w := by
  have hap : apartB (opsOf 9 Tryd.f7) = true := by kernel_rfl
  refine wp_region_invG (l := (opsOf 9 Tryd.f7)) (fun i v W => match i with | 0 => v = .int .i64 C | 1 => v = .int .i64 C | 2 => v = .agg (ntA z h (.slice A l.length c)) | 3 => v = .int .i64 C | 4 => v = .bool false | 5 => v = .bool false | 6 => v = .int .i64 C | 7 => v = .int .i64 C | 8 => v = .bool false | 9 => v = .bool false | 14 => v = .bool false | 15 => v = .bool false | _ => True) (by kernel_rfl) hap (by kernel_rfl) ?_ ?_ ?_
  · intro i v W W' h _
    iterate 16 (rcases i with _ | i; · exact h)
    exact h
  · refine ⟨?_, ?_, ?_, ?_, ?_, ?_, ?_, ?_, ?_, ?_, ?_, ?_, ?_, ?_, ?_, ?_, trivial⟩
    · intro vs A' W hA hW hd K hK
      refine wpOp_free _ rfl rfl ?_
      conv => arg 2; whnf
      have e14 : A'.tmps[14]?.getD undef = .int .i64 C := slot_out hA hap (Nat.lt_of_lt_of_eq (Nat.le_of_ble_eq_true rfl : 14 < 99) hsz.symm) (by kernel_rfl) o14
      clear hA hd o2 o14
      go_step
      exact hK _ _ (Kp.refl _ _) rfl
    · intro vs A' W hA hW hd K hK
      refine wpOp_free _ rfl rfl ?_
      conv => arg 2; whnf
      have f0 : vs 0 = .int .i64 C := hd 0 (by kernel_rfl)
      have e67 : A'.tmps[67]?.getD undef = vs 0 := slot_in hA hap (Nat.lt_of_lt_of_eq (Nat.le_of_ble_eq_true rfl : 67 < 99) hsz.symm) (by kernel_rfl)
      rw [f0] at e67
      clear hA hd o2 o14
      go_step
      refine (lnum_any C W).mono ?_
      rintro e w' ⟨rfl, rfl⟩
      exact hK _ _ (Kp.refl _ _) rfl
    · intro vs A' W hA hW hd K hK
      refine wpOp_free _ rfl rfl ?_
      conv => arg 2; whnf
      have e2 : A'.tmps[2]?.getD undef = .pointer (some ⟨g2, 0, none⟩) := slot_out hA hap (Nat.lt_of_lt_of_eq (Nat.le_of_ble_eq_true rfl : 2 < 99) hsz.symm) (by kernel_rfl) o2
      clear hA hd o2 o14
      refine op_runs (v := .agg (ntA z h (.slice A l.length c))) (w' := W) (exec_load rfl (by simpa [Act.eval] using e2) (run_loadAt_agg W (⟨g2, 0, none⟩) 36 (ntA z h (.slice A l.length c)).toList _ (Blk.agg (hb2.kp hW (by simp))) Tryd.underlying36 rfl (by rw [Array.length_toList, ntA_size hh]; exact Tryd.infoNote))) ?_
      exact hK _ _ (Kp.refl _ _) rfl
    · intro vs A' W hA hW hd K hK
      refine wpOp_free _ rfl rfl ?_
      conv => arg 2; whnf
      have f2 : vs 2 = .agg (ntA z h (.slice A l.length c)) := hd 2 (by kernel_rfl)
      have e69 : A'.tmps[69]?.getD undef = vs 2 := slot_in hA hap (Nat.lt_of_lt_of_eq (Nat.le_of_ble_eq_true rfl : 69 < 99) hsz.symm) (by kernel_rfl)
      rw [f2] at e69
      clear hA hd o2 o14
      go_step
      refine (rscheck_any z hz h hh l hok (by omega) A c W (rd_old hv hW)).mono ?_
      rintro e w' ⟨rfl, k⟩
      exact hK _ _ k (show Value.int .i64 (chkN z l) = Value.int .i64 C from by rw [hchk])
    · intro vs A' W hA hW hd K hK
      refine wpOp_free _ rfl rfl ?_
      conv => arg 2; whnf
      have f1 : vs 1 = .int .i64 C := hd 1 (by kernel_rfl)
      have e68 : A'.tmps[68]?.getD undef = vs 1 := slot_in hA hap (Nat.lt_of_lt_of_eq (Nat.le_of_ble_eq_true rfl : 68 < 99) hsz.symm) (by kernel_rfl)
      rw [f1] at e68
      have f3 : vs 3 = .int .i64 C := hd 3 (by kernel_rfl)
      have e70 : A'.tmps[70]?.getD undef = vs 3 := slot_in hA hap (Nat.lt_of_lt_of_eq (Nat.le_of_ble_eq_true rfl : 70 < 99) hsz.symm) (by kernel_rfl)
      rw [f3] at e70
      clear hA hd o2 o14
      go_step
      exact hK _ _ (Kp.refl _ _) (by first | rfl | exact (show Value.bool (C != C) = Value.bool false from by rw [bne_self_eq_false]))
    · intro vs A' W hA hW hd K hK
      refine wpOp_free _ rfl rfl ?_
      conv => arg 2; whnf
      have f4 : vs 4 = .bool false := hd 4 (by kernel_rfl)
      have e71 : A'.tmps[71]?.getD undef = vs 4 := slot_in hA hap (Nat.lt_of_lt_of_eq (Nat.le_of_ble_eq_true rfl : 71 < 99) hsz.symm) (by kernel_rfl)
      rw [f4] at e71
      clear hA hd o2 o14
      go_step
      exact hK _ _ (Kp.refl _ _) rfl
    · intro vs A' W hA hW hd K hK
      have f5 : vs 5 = .bool false := hd 5 (by kernel_rfl)
      have e72 : A'.tmps[72]?.getD undef = vs 5 := slot_in hA hap (Nat.lt_of_lt_of_eq (Nat.le_of_ble_eq_true rfl : 72 < 99) hsz.symm) (by kernel_rfl)
      rw [f5] at e72
      refine wpOp_go _ rfl 5 72 false rfl rfl e72 ?_
      conv => arg 2; whnf
      have e14 : A'.tmps[14]?.getD undef = .int .i64 C := slot_out hA hap (Nat.lt_of_lt_of_eq (Nat.le_of_ble_eq_true rfl : 14 < 99) hsz.symm) (by kernel_rfl) o14
      clear hA hd o2 o14
      go_step
      exact hK _ _ (Kp.refl _ _) rfl
    · intro vs A' W hA hW hd K hK
      have f5 : vs 5 = .bool false := hd 5 (by kernel_rfl)
      have e72 : A'.tmps[72]?.getD undef = vs 5 := slot_in hA hap (Nat.lt_of_lt_of_eq (Nat.le_of_ble_eq_true rfl : 72 < 99) hsz.symm) (by kernel_rfl)
      rw [f5] at e72
      refine wpOp_go _ rfl 5 72 false rfl rfl e72 ?_
      conv => arg 2; whnf
      have f6 : vs 6 = .int .i64 C := hd 6 (by kernel_rfl)
      have e73 : A'.tmps[73]?.getD undef = vs 6 := slot_in hA hap (Nat.lt_of_lt_of_eq (Nat.le_of_ble_eq_true rfl : 73 < 99) hsz.symm) (by kernel_rfl)
      rw [f6] at e73
      clear hA hd o2 o14
      go_step
      refine (lnum_any C W).mono ?_
      rintro e w' ⟨rfl, rfl⟩
      exact hK _ _ (Kp.refl _ _) rfl
    · intro vs A' W hA hW hd K hK
      have f5 : vs 5 = .bool false := hd 5 (by kernel_rfl)
      have e72 : A'.tmps[72]?.getD undef = vs 5 := slot_in hA hap (Nat.lt_of_lt_of_eq (Nat.le_of_ble_eq_true rfl : 72 < 99) hsz.symm) (by kernel_rfl)
      rw [f5] at e72
      refine wpOp_go _ rfl 5 72 false rfl rfl e72 ?_
      conv => arg 2; whnf
      have f7 : vs 7 = .int .i64 C := hd 7 (by kernel_rfl)
      have e74 : A'.tmps[74]?.getD undef = vs 7 := slot_in hA hap (Nat.lt_of_lt_of_eq (Nat.le_of_ble_eq_true rfl : 74 < 99) hsz.symm) (by kernel_rfl)
      rw [f7] at e74
      clear hA hd o2 o14
      go_step
      exact hK _ _ (Kp.refl _ _) (by first | exact (show Value.bool (C == 0) = Value.bool false from by rw [hC]) | (refine congrArg Value.bool ?_; simp; done))
    · intro vs A' W hA hW hd K hK
      have f5 : vs 5 = .bool false := hd 5 (by kernel_rfl)
      have e72 : A'.tmps[72]?.getD undef = vs 5 := slot_in hA hap (Nat.lt_of_lt_of_eq (Nat.le_of_ble_eq_true rfl : 72 < 99) hsz.symm) (by kernel_rfl)
      rw [f5] at e72
      refine wpOp_go _ rfl 5 72 false rfl rfl e72 ?_
      conv => arg 2; whnf
      have f8 : vs 8 = .bool false := hd 8 (by kernel_rfl)
      have e75 : A'.tmps[75]?.getD undef = vs 8 := slot_in hA hap (Nat.lt_of_lt_of_eq (Nat.le_of_ble_eq_true rfl : 75 < 99) hsz.symm) (by kernel_rfl)
      rw [f8] at e75
      clear hA hd o2 o14
      go_step
      exact hK _ _ (Kp.refl _ _) rfl
    · intro vs A' W hA hW hd K hK
      have f9 : vs 9 = .bool false := hd 9 (by kernel_rfl)
      have e76 : A'.tmps[76]?.getD undef = vs 9 := slot_in hA hap (Nat.lt_of_lt_of_eq (Nat.le_of_ble_eq_true rfl : 76 < 99) hsz.symm) (by kernel_rfl)
      rw [f9] at e76
      refine wpOp_skip _ rfl 9 76 true rfl rfl e76 ?_
      exact hK _ _ (Kp.refl _ _) trivial
    · intro vs A' W hA hW hd K hK
      have f9 : vs 9 = .bool false := hd 9 (by kernel_rfl)
      have e76 : A'.tmps[76]?.getD undef = vs 9 := slot_in hA hap (Nat.lt_of_lt_of_eq (Nat.le_of_ble_eq_true rfl : 76 < 99) hsz.symm) (by kernel_rfl)
      rw [f9] at e76
      refine wpOp_skip _ rfl 9 76 true rfl rfl e76 ?_
      exact hK _ _ (Kp.refl _ _) trivial
    · intro vs A' W hA hW hd K hK
      have f9 : vs 9 = .bool false := hd 9 (by kernel_rfl)
      have e76 : A'.tmps[76]?.getD undef = vs 9 := slot_in hA hap (Nat.lt_of_lt_of_eq (Nat.le_of_ble_eq_true rfl : 76 < 99) hsz.symm) (by kernel_rfl)
      rw [f9] at e76
      refine wpOp_skip _ rfl 9 76 true rfl rfl e76 ?_
      exact hK _ _ (Kp.refl _ _) trivial
    · intro vs A' W hA hW hd K hK
      have f9 : vs 9 = .bool false := hd 9 (by kernel_rfl)
      have e76 : A'.tmps[76]?.getD undef = vs 9 := slot_in hA hap (Nat.lt_of_lt_of_eq (Nat.le_of_ble_eq_true rfl : 76 < 99) hsz.symm) (by kernel_rfl)
      rw [f9] at e76
      refine wpOp_skip _ rfl 9 76 true rfl rfl e76 ?_
      exact hK _ _ (Kp.refl _ _) trivial
    · intro vs A' W hA hW hd K hK
      have f5 : vs 5 = .bool false := hd 5 (by kernel_rfl)
      have e72 : A'.tmps[72]?.getD undef = vs 5 := slot_in hA hap (Nat.lt_of_lt_of_eq (Nat.le_of_ble_eq_true rfl : 72 < 99) hsz.symm) (by kernel_rfl)
      rw [f5] at e72
      refine wpOp_go _ rfl 5 72 false rfl rfl e72 ?_
      conv => arg 2; whnf
      have f9 : vs 9 = .bool false := hd 9 (by kernel_rfl)
      have e76 : A'.tmps[76]?.getD undef = vs 9 := slot_in hA hap (Nat.lt_of_lt_of_eq (Nat.le_of_ble_eq_true rfl : 76 < 99) hsz.symm) (by kernel_rfl)
      rw [f9] at e76
      have e80 : A'.tmps[80]?.getD undef = vs 13 := slot_in hA hap (Nat.lt_of_lt_of_eq (Nat.le_of_ble_eq_true rfl : 80 < 99) hsz.symm) (by kernel_rfl)
      clear hA hd o2 o14
      go_step
      exact hK _ _ (Kp.refl _ _) rfl
    · intro vs A' W hA hW hd K hK
      refine wpOp_free _ rfl rfl ?_
      conv => arg 2; whnf
      have f5 : vs 5 = .bool false := hd 5 (by kernel_rfl)
      have e72 : A'.tmps[72]?.getD undef = vs 5 := slot_in hA hap (Nat.lt_of_lt_of_eq (Nat.le_of_ble_eq_true rfl : 72 < 99) hsz.symm) (by kernel_rfl)
      rw [f5] at e72
      have f14 : vs 14 = .bool false := hd 14 (by kernel_rfl)
      have e81 : A'.tmps[81]?.getD undef = vs 14 := slot_in hA hap (Nat.lt_of_lt_of_eq (Nat.le_of_ble_eq_true rfl : 81 < 99) hsz.symm) (by kernel_rfl)
      rw [f14] at e81
      clear hA hd o2 o14
      go_step
      exact hK _ _ (Kp.refl _ _) rfl
  · intro vs W hW hp
    rw [show putAll vs (opsOf 9 Tryd.f7) 0 a = putD [(67, vs 0), (68, vs 1), (69, vs 2), (70, vs 3), (71, vs 4), (72, vs 5), (73, vs 6), (74, vs 7), (75, vs 8), (76, vs 9), (77, vs 10), (78, vs 11), (79, vs 12), (80, vs 13), (81, vs 14), (82, vs 15)] a from by kernel_rfl]
    exact hend _ W (same_putD _ a) hW (sl_putD _ a 82 _ (by rw [show vs 15 = _ from hp 15 (Nat.le_of_ble_eq_true (by kernel_rfl))]; kernel_rfl))
-- END sgj9N
-- REG sgj11
set_option maxRecDepth 100000 in
set_option maxHeartbeats 2000000 in
theorem sgj_r11 {Q : Exit → Act → World → Prop} {a : Act} {w : World} (LDw : LD w) (Z : Int) (H : List UInt8) (hH : H.length = 32) (X : List SigD) (hX : SgOk X) (hXl : X.length ≤ 64) (A2 : Option Addr) (c2 g9 : Nat) (hb9 : Blk w g9 36 (ntA Z H (.slice A2 X.length c2))) (hr2 : Rd w 33 (.slice A2 X.length c2) X.length (sgsC X)) (A3 : Option Addr) (c3 g11 : Nat) (hb11 : Blk w g11 36 (ntA Z H (.slice A3 X.length c3))) (hr3 : Rd w 33 (.slice A3 X.length c3) X.length (sgsC X)) (z : Int) (h : List UInt8) (hh : h.length = 32) (A : Option Addr) (c : Nat) (l : List SigD) (gr cr : Nat) (y : Int) (g : List UInt8) (hg : g.length = 32) (B : Option Addr) (e : Nat) (m : List SigD) (gs cs : Nat) (g2 g3 g5 g6 : Nat) (hb2 : Blk w g2 36 (ntA z h (.slice A l.length c))) (hb3 : Blk w g3 36 (ntA y g (.slice B m.length e))) (hb5 : Blk w g5 36 (ntA z h (.slice (some ⟨gr, 0, none⟩) l.length cr))) (hb6 : Blk w g6 36 (ntA y g (.slice (some ⟨gs, 0, none⟩) m.length cs))) (hl1 : ∀ V, Kp [] w V → Calls Tryd.prog 33 #[.agg (ntA z h (.slice (some ⟨gr, 0, none⟩) l.length cr)), .agg (ntA z h (.slice A l.length c))] V fun e w' => e = .returned (.bool true) ∧ Kp [] V w') (hl2 : ∀ V, Kp [] w V → Calls Tryd.prog 33 #[.agg (ntA y g (.slice (some ⟨gs, 0, none⟩) m.length cs)), .agg (ntA y g (.slice B m.length e))] V fun e w' => e = .returned (.bool true) ∧ Kp [] V w') (hsz : a.tmps.size = 99) (o2 : Sl a 2 (.pointer (some ⟨g2, 0, none⟩))) (o3 : Sl a 3 (.pointer (some ⟨g3, 0, none⟩))) (o5 : Sl a 5 (.pointer (some ⟨g5, 0, none⟩))) (o6 : Sl a 6 (.pointer (some ⟨g6, 0, none⟩))) (o9 : Sl a 9 (.pointer (some ⟨g9, 0, none⟩))) (o11 : Sl a 11 (.pointer (some ⟨g11, 0, none⟩)))
    (hend : ∀ (a' : Act) (W : World), Same a a' [83, 84, 85, 86, 87, 88, 89, 90, 91, 92, 93, 94, 95, 96, 97, 98, 4] → Kp [] w W → Sl a' 4 (.bool true) → Q .normal a' W) : (Code.region 11 (opsOf 11 Tryd.f7).toArray false).wp Tryd.prog Q a w := by
  have hap : apartB (opsOf 11 Tryd.f7) = true := by kernel_rfl
  refine wp_region_invS (l := (opsOf 11 Tryd.f7)) (fun i v W => match i with | 0 => v = .agg (ntA Z H (.slice A2 X.length c2)) | 1 => v = .agg (ntA Z H (.slice A3 X.length c3)) | 2 => v = .bool true | 3 => v = .bool true | 4 => v = .agg (ntA z h (.slice (some ⟨gr, 0, none⟩) l.length cr)) | 5 => v = .agg (ntA z h (.slice A l.length c)) | 6 => v = .bool true | 7 => v = .bool true | 8 => v = .bool true | 9 => v = .agg (ntA y g (.slice (some ⟨gs, 0, none⟩) m.length cs)) | 10 => v = .agg (ntA y g (.slice B m.length e)) | 11 => v = .bool true | 12 => v = .bool true | 13 => v = .bool true | 14 => v = .bool true | 15 => v = .bool true | 16 => v = .bool true | _ => True) hap ?_ ?_ ?_
  · intro i v W W' h _
    iterate 17 (rcases i with _ | i; · exact h)
    exact h
  · refine ⟨?_, ?_, ?_, ?_, ?_, ?_, ?_, ?_, ?_, ?_, ?_, ?_, ?_, ?_, ?_, ?_, ?_, trivial⟩
    · intro vs A' W hA hW hd hu K hK
      refine wpOp_free _ rfl rfl ?_
      conv => arg 2; whnf
      have e9 : A'.tmps[9]?.getD undef = .pointer (some ⟨g9, 0, none⟩) := slot_out hA hap (Nat.lt_of_lt_of_eq (Nat.le_of_ble_eq_true rfl : 9 < 99) hsz.symm) (by kernel_rfl) o9
      clear hA hd hu o2 o3 o5 o6 o9 o11
      refine op_runs (v := .agg (ntA Z H (.slice A2 X.length c2))) (w' := W) (exec_load rfl (by simpa [Act.eval] using e9) (run_loadAt_agg W (⟨g9, 0, none⟩) 36 (ntA Z H (.slice A2 X.length c2)).toList _ (Blk.agg (hb9.kp hW (by simp))) Tryd.underlying36 rfl (by rw [Array.length_toList, ntA_size hH]; exact Tryd.infoNote))) ?_
      exact hK _ _ (Kp.refl _ _) rfl
    · intro vs A' W hA hW hd hu K hK
      refine wpOp_free _ rfl rfl ?_
      conv => arg 2; whnf
      have e11 : A'.tmps[11]?.getD undef = .pointer (some ⟨g11, 0, none⟩) := slot_out hA hap (Nat.lt_of_lt_of_eq (Nat.le_of_ble_eq_true rfl : 11 < 99) hsz.symm) (by kernel_rfl) o11
      clear hA hd hu o2 o3 o5 o6 o9 o11
      refine op_runs (v := .agg (ntA Z H (.slice A3 X.length c3))) (w' := W) (exec_load rfl (by simpa [Act.eval] using e11) (run_loadAt_agg W (⟨g11, 0, none⟩) 36 (ntA Z H (.slice A3 X.length c3)).toList _ (Blk.agg (hb11.kp hW (by simp))) Tryd.underlying36 rfl (by rw [Array.length_toList, ntA_size hH]; exact Tryd.infoNote))) ?_
      exact hK _ _ (Kp.refl _ _) rfl
    · intro vs A' W hA hW hd hu K hK
      refine wpOp_free _ rfl rfl ?_
      conv => arg 2; whnf
      have f0 : vs 0 = .agg (ntA Z H (.slice A2 X.length c2)) := hd 0 (by kernel_rfl)
      have e83 : A'.tmps[83]?.getD undef = vs 0 := slot_in hA hap (Nat.lt_of_lt_of_eq (Nat.le_of_ble_eq_true rfl : 83 < 99) hsz.symm) (by kernel_rfl)
      rw [f0] at e83
      have f1 : vs 1 = .agg (ntA Z H (.slice A3 X.length c3)) := hd 1 (by kernel_rfl)
      have e84 : A'.tmps[84]?.getD undef = vs 1 := slot_in hA hap (Nat.lt_of_lt_of_eq (Nat.le_of_ble_eq_true rfl : 84 < 99) hsz.symm) (by kernel_rfl)
      rw [f1] at e84
      clear hA hd hu o2 o3 o5 o6 o9 o11
      go_step
      refine (ssame_any Z Z H H hH hH A2 A3 c2 c3 X X hX hX (by omega) W (rd_old hr2 hW) (rd_old hr3 hW)).mono ?_
      rintro e w' ⟨rfl, k⟩
      exact hK _ _ k (show Value.bool (sameN Z H X Z H X) = Value.bool true from by rw [sameN_self])
    · intro vs A' W hA hW hd hu K hK
      refine wpOp_free _ rfl rfl ?_
      conv => arg 2; whnf
      have f2 : vs 2 = .bool true := hd 2 (by kernel_rfl)
      have e85 : A'.tmps[85]?.getD undef = vs 2 := slot_in hA hap (Nat.lt_of_lt_of_eq (Nat.le_of_ble_eq_true rfl : 85 < 99) hsz.symm) (by kernel_rfl)
      rw [f2] at e85
      clear hA hd hu o2 o3 o5 o6 o9 o11
      go_step
      exact hK _ _ (Kp.refl _ _) rfl
    · intro vs A' W hA hW hd hu K hK
      have f3 : vs 3 = .bool true := hd 3 (by kernel_rfl)
      have e86 : A'.tmps[86]?.getD undef = vs 3 := slot_in hA hap (Nat.lt_of_lt_of_eq (Nat.le_of_ble_eq_true rfl : 86 < 99) hsz.symm) (by kernel_rfl)
      rw [f3] at e86
      refine wpOp_go _ rfl 3 86 true rfl rfl e86 ?_
      conv => arg 2; whnf
      have e5 : A'.tmps[5]?.getD undef = .pointer (some ⟨g5, 0, none⟩) := slot_out hA hap (Nat.lt_of_lt_of_eq (Nat.le_of_ble_eq_true rfl : 5 < 99) hsz.symm) (by kernel_rfl) o5
      clear hA hd hu o2 o3 o5 o6 o9 o11
      refine op_runs (v := .agg (ntA z h (.slice (some ⟨gr, 0, none⟩) l.length cr))) (w' := W) (exec_load rfl (by simpa [Act.eval] using e5) (run_loadAt_agg W (⟨g5, 0, none⟩) 36 (ntA z h (.slice (some ⟨gr, 0, none⟩) l.length cr)).toList _ (Blk.agg (hb5.kp hW (by simp))) Tryd.underlying36 rfl (by rw [Array.length_toList, ntA_size hh]; exact Tryd.infoNote))) ?_
      exact hK _ _ (Kp.refl _ _) rfl
    · intro vs A' W hA hW hd hu K hK
      have f3 : vs 3 = .bool true := hd 3 (by kernel_rfl)
      have e86 : A'.tmps[86]?.getD undef = vs 3 := slot_in hA hap (Nat.lt_of_lt_of_eq (Nat.le_of_ble_eq_true rfl : 86 < 99) hsz.symm) (by kernel_rfl)
      rw [f3] at e86
      refine wpOp_go _ rfl 3 86 true rfl rfl e86 ?_
      conv => arg 2; whnf
      have e2 : A'.tmps[2]?.getD undef = .pointer (some ⟨g2, 0, none⟩) := slot_out hA hap (Nat.lt_of_lt_of_eq (Nat.le_of_ble_eq_true rfl : 2 < 99) hsz.symm) (by kernel_rfl) o2
      clear hA hd hu o2 o3 o5 o6 o9 o11
      refine op_runs (v := .agg (ntA z h (.slice A l.length c))) (w' := W) (exec_load rfl (by simpa [Act.eval] using e2) (run_loadAt_agg W (⟨g2, 0, none⟩) 36 (ntA z h (.slice A l.length c)).toList _ (Blk.agg (hb2.kp hW (by simp))) Tryd.underlying36 rfl (by rw [Array.length_toList, ntA_size hh]; exact Tryd.infoNote))) ?_
      exact hK _ _ (Kp.refl _ _) rfl
    · intro vs A' W hA hW hd hu K hK
      have f3 : vs 3 = .bool true := hd 3 (by kernel_rfl)
      have e86 : A'.tmps[86]?.getD undef = vs 3 := slot_in hA hap (Nat.lt_of_lt_of_eq (Nat.le_of_ble_eq_true rfl : 86 < 99) hsz.symm) (by kernel_rfl)
      rw [f3] at e86
      refine wpOp_go _ rfl 3 86 true rfl rfl e86 ?_
      conv => arg 2; whnf
      have f4 : vs 4 = .agg (ntA z h (.slice (some ⟨gr, 0, none⟩) l.length cr)) := hd 4 (by kernel_rfl)
      have e87 : A'.tmps[87]?.getD undef = vs 4 := slot_in hA hap (Nat.lt_of_lt_of_eq (Nat.le_of_ble_eq_true rfl : 87 < 99) hsz.symm) (by kernel_rfl)
      rw [f4] at e87
      have f5 : vs 5 = .agg (ntA z h (.slice A l.length c)) := hd 5 (by kernel_rfl)
      have e88 : A'.tmps[88]?.getD undef = vs 5 := slot_in hA hap (Nat.lt_of_lt_of_eq (Nat.le_of_ble_eq_true rfl : 88 < 99) hsz.symm) (by kernel_rfl)
      rw [f5] at e88
      clear hA hd hu o2 o3 o5 o6 o9 o11
      go_step
      refine (hl1 _ hW).mono ?_
      rintro e w' ⟨rfl, k⟩
      exact hK _ _ k rfl
    · intro vs A' W hA hW hd hu K hK
      refine wpOp_free _ rfl rfl ?_
      conv => arg 2; whnf
      have f3 : vs 3 = .bool true := hd 3 (by kernel_rfl)
      have e86 : A'.tmps[86]?.getD undef = vs 3 := slot_in hA hap (Nat.lt_of_lt_of_eq (Nat.le_of_ble_eq_true rfl : 86 < 99) hsz.symm) (by kernel_rfl)
      rw [f3] at e86
      have f6 : vs 6 = .bool true := hd 6 (by kernel_rfl)
      have e89 : A'.tmps[89]?.getD undef = vs 6 := slot_in hA hap (Nat.lt_of_lt_of_eq (Nat.le_of_ble_eq_true rfl : 89 < 99) hsz.symm) (by kernel_rfl)
      rw [f6] at e89
      clear hA hd hu o2 o3 o5 o6 o9 o11
      go_step
      exact hK _ _ (Kp.refl _ _) rfl
    · intro vs A' W hA hW hd hu K hK
      refine wpOp_free _ rfl rfl ?_
      conv => arg 2; whnf
      have f7 : vs 7 = .bool true := hd 7 (by kernel_rfl)
      have e90 : A'.tmps[90]?.getD undef = vs 7 := slot_in hA hap (Nat.lt_of_lt_of_eq (Nat.le_of_ble_eq_true rfl : 90 < 99) hsz.symm) (by kernel_rfl)
      rw [f7] at e90
      clear hA hd hu o2 o3 o5 o6 o9 o11
      go_step
      exact hK _ _ (Kp.refl _ _) rfl
    · intro vs A' W hA hW hd hu K hK
      have f8 : vs 8 = .bool true := hd 8 (by kernel_rfl)
      have e91 : A'.tmps[91]?.getD undef = vs 8 := slot_in hA hap (Nat.lt_of_lt_of_eq (Nat.le_of_ble_eq_true rfl : 91 < 99) hsz.symm) (by kernel_rfl)
      rw [f8] at e91
      refine wpOp_go _ rfl 8 91 true rfl rfl e91 ?_
      conv => arg 2; whnf
      have e6 : A'.tmps[6]?.getD undef = .pointer (some ⟨g6, 0, none⟩) := slot_out hA hap (Nat.lt_of_lt_of_eq (Nat.le_of_ble_eq_true rfl : 6 < 99) hsz.symm) (by kernel_rfl) o6
      clear hA hd hu o2 o3 o5 o6 o9 o11
      refine op_runs (v := .agg (ntA y g (.slice (some ⟨gs, 0, none⟩) m.length cs))) (w' := W) (exec_load rfl (by simpa [Act.eval] using e6) (run_loadAt_agg W (⟨g6, 0, none⟩) 36 (ntA y g (.slice (some ⟨gs, 0, none⟩) m.length cs)).toList _ (Blk.agg (hb6.kp hW (by simp))) Tryd.underlying36 rfl (by rw [Array.length_toList, ntA_size hg]; exact Tryd.infoNote))) ?_
      exact hK _ _ (Kp.refl _ _) rfl
    · intro vs A' W hA hW hd hu K hK
      have f8 : vs 8 = .bool true := hd 8 (by kernel_rfl)
      have e91 : A'.tmps[91]?.getD undef = vs 8 := slot_in hA hap (Nat.lt_of_lt_of_eq (Nat.le_of_ble_eq_true rfl : 91 < 99) hsz.symm) (by kernel_rfl)
      rw [f8] at e91
      refine wpOp_go _ rfl 8 91 true rfl rfl e91 ?_
      conv => arg 2; whnf
      have e3 : A'.tmps[3]?.getD undef = .pointer (some ⟨g3, 0, none⟩) := slot_out hA hap (Nat.lt_of_lt_of_eq (Nat.le_of_ble_eq_true rfl : 3 < 99) hsz.symm) (by kernel_rfl) o3
      clear hA hd hu o2 o3 o5 o6 o9 o11
      refine op_runs (v := .agg (ntA y g (.slice B m.length e))) (w' := W) (exec_load rfl (by simpa [Act.eval] using e3) (run_loadAt_agg W (⟨g3, 0, none⟩) 36 (ntA y g (.slice B m.length e)).toList _ (Blk.agg (hb3.kp hW (by simp))) Tryd.underlying36 rfl (by rw [Array.length_toList, ntA_size hg]; exact Tryd.infoNote))) ?_
      exact hK _ _ (Kp.refl _ _) rfl
    · intro vs A' W hA hW hd hu K hK
      have f8 : vs 8 = .bool true := hd 8 (by kernel_rfl)
      have e91 : A'.tmps[91]?.getD undef = vs 8 := slot_in hA hap (Nat.lt_of_lt_of_eq (Nat.le_of_ble_eq_true rfl : 91 < 99) hsz.symm) (by kernel_rfl)
      rw [f8] at e91
      refine wpOp_go _ rfl 8 91 true rfl rfl e91 ?_
      conv => arg 2; whnf
      have f9 : vs 9 = .agg (ntA y g (.slice (some ⟨gs, 0, none⟩) m.length cs)) := hd 9 (by kernel_rfl)
      have e92 : A'.tmps[92]?.getD undef = vs 9 := slot_in hA hap (Nat.lt_of_lt_of_eq (Nat.le_of_ble_eq_true rfl : 92 < 99) hsz.symm) (by kernel_rfl)
      rw [f9] at e92
      have f10 : vs 10 = .agg (ntA y g (.slice B m.length e)) := hd 10 (by kernel_rfl)
      have e93 : A'.tmps[93]?.getD undef = vs 10 := slot_in hA hap (Nat.lt_of_lt_of_eq (Nat.le_of_ble_eq_true rfl : 93 < 99) hsz.symm) (by kernel_rfl)
      rw [f10] at e93
      clear hA hd hu o2 o3 o5 o6 o9 o11
      go_step
      refine (hl2 _ hW).mono ?_
      rintro e w' ⟨rfl, k⟩
      exact hK _ _ k rfl
    · intro vs A' W hA hW hd hu K hK
      refine wpOp_free _ rfl rfl ?_
      conv => arg 2; whnf
      have f8 : vs 8 = .bool true := hd 8 (by kernel_rfl)
      have e91 : A'.tmps[91]?.getD undef = vs 8 := slot_in hA hap (Nat.lt_of_lt_of_eq (Nat.le_of_ble_eq_true rfl : 91 < 99) hsz.symm) (by kernel_rfl)
      rw [f8] at e91
      have f11 : vs 11 = .bool true := hd 11 (by kernel_rfl)
      have e94 : A'.tmps[94]?.getD undef = vs 11 := slot_in hA hap (Nat.lt_of_lt_of_eq (Nat.le_of_ble_eq_true rfl : 94 < 99) hsz.symm) (by kernel_rfl)
      rw [f11] at e94
      clear hA hd hu o2 o3 o5 o6 o9 o11
      go_step
      exact hK _ _ (Kp.refl _ _) rfl
    · intro vs A' W hA hW hd hu K hK
      refine wpOp_free _ rfl rfl ?_
      conv => arg 2; whnf
      have f12 : vs 12 = .bool true := hd 12 (by kernel_rfl)
      have e95 : A'.tmps[95]?.getD undef = vs 12 := slot_in hA hap (Nat.lt_of_lt_of_eq (Nat.le_of_ble_eq_true rfl : 95 < 99) hsz.symm) (by kernel_rfl)
      rw [f12] at e95
      clear hA hd hu o2 o3 o5 o6 o9 o11
      go_step
      exact hK _ _ (Kp.refl _ _) rfl
    · intro vs A' W hA hW hd hu K hK
      have f13 : vs 13 = .bool true := hd 13 (by kernel_rfl)
      have e96 : A'.tmps[96]?.getD undef = vs 13 := slot_in hA hap (Nat.lt_of_lt_of_eq (Nat.le_of_ble_eq_true rfl : 96 < 99) hsz.symm) (by kernel_rfl)
      rw [f13] at e96
      refine wpOp_go _ rfl 13 96 true rfl rfl e96 ?_
      conv => arg 2; whnf
      clear hA hd hu o2 o3 o5 o6 o9 o11
      go_step
      refine (sknown_any W (LDw.kp hW)).mono ?_
      rintro e w' ⟨rfl, k⟩
      exact hK _ _ k rfl
    · intro vs A' W hA hW hd hu K hK
      refine wpOp_free _ rfl rfl ?_
      conv => arg 2; whnf
      have f13 : vs 13 = .bool true := hd 13 (by kernel_rfl)
      have e96 : A'.tmps[96]?.getD undef = vs 13 := slot_in hA hap (Nat.lt_of_lt_of_eq (Nat.le_of_ble_eq_true rfl : 96 < 99) hsz.symm) (by kernel_rfl)
      rw [f13] at e96
      have f14 : vs 14 = .bool true := hd 14 (by kernel_rfl)
      have e97 : A'.tmps[97]?.getD undef = vs 14 := slot_in hA hap (Nat.lt_of_lt_of_eq (Nat.le_of_ble_eq_true rfl : 97 < 99) hsz.symm) (by kernel_rfl)
      rw [f14] at e97
      clear hA hd hu o2 o3 o5 o6 o9 o11
      go_step
      exact hK _ _ (Kp.refl _ _) rfl
    · intro vs A' W hA hW hd hu K hK
      refine wpOp_free _ rfl rfl ?_
      conv => arg 2; whnf
      have f15 : vs 15 = .bool true := hd 15 (by kernel_rfl)
      have e98 : A'.tmps[98]?.getD undef = vs 15 := slot_in hA hap (Nat.lt_of_lt_of_eq (Nat.le_of_ble_eq_true rfl : 98 < 99) hsz.symm) (by kernel_rfl)
      rw [f15] at e98
      clear hA hd hu o2 o3 o5 o6 o9 o11
      go_step
      exact hK _ _ (Kp.refl _ _) rfl
  · intro vs W hW hp
    rw [show putAll vs (opsOf 11 Tryd.f7) 0 a = putD [(83, vs 0), (84, vs 1), (85, vs 2), (86, vs 3), (87, vs 4), (88, vs 5), (89, vs 6), (90, vs 7), (91, vs 8), (92, vs 9), (93, vs 10), (94, vs 11), (95, vs 12), (96, vs 13), (97, vs 14), (98, vs 15), (4, vs 16)] a from by kernel_rfl]
    exact hend _ W (same_putD _ a) hW (sl_putD _ a 4 _ (by rw [show vs 16 = _ from hp 16 (Nat.le_of_ble_eq_true (by kernel_rfl))]; kernel_rfl))
-- END sgj11
end Go.Proofs.YtapboamjpilckaaDoor
