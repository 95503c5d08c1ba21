/- Several texts in one: SigBA, Open, WireOpen, PtOpen, SgOpen, KyOpen, PtOpens, NtOpen, SgLaid, Post, PostKept. -/
import Derived.ProofKit
import Derived.OpenShut
import Derived.Deep.Slices
import Derived.JoinedCond
import Derived.Carry
import Derived.SizedLaws
import Derived.Test.YtapboamjpilckaaDoorCards
import Derived.Test.YtapboamjpilckaaDoorTie
import Derived.Deep.DeepHandedRow
import Derived.Deep.DeepWitnessRowRef
import Derived.Lib.LaidTab
import Derived.LaidMore
import Derived.Stop.LaidErr
import Derived.Test.YtapboamjpilckaaDoorRows
import Derived.Test.YtapboamjpilckaaDoorP10
/- SignJoins, whole. -/
namespace Go.Proofs.YtapboamjpilckaaDoor
open Go.RowKit
/-- The note that Join leaves. -/
def jN (z : Int) (h : List UInt8) (l : List SigD) (y : Int) (g : List UInt8) (m : List SigD) : Int × List UInt8 × List SigD :=
  if joinE z h l y g m = 0 then (z, h, (joinF l m).getD []) else (0, List.replicate 32 0, [])
theorem joinE_zero {z : Int} {h : List UInt8} {l : List SigD} {y : Int} {g : List UInt8} {m : List SigD} (h0 : joinE z h l y g m = 0) : mayN z l = true ∧ mayN y m = true ∧ z = y ∧ h = g ∧ ∃ x, joinF l m = some x ∧ x.length ≤ 64 := by
  unfold joinE at h0
  cases h1 : mayN z l
  · rw [h1] at h0; simp at h0
  cases h2 : mayN y m
  · rw [h1, h2] at h0; simp at h0
  rw [h1, h2] at h0
  by_cases e1 : z = y
  · by_cases e2 : h = g
    · subst e1; subst e2
      rw [decide_eq_true rfl, beq_self_eq_true] at h0
      cases e3 : joinF l m with
      | none => rw [e3] at h0; simp at h0
      | some x =>
        rw [e3] at h0
        by_cases e4 : 64 < x.length
        · simp [e4] at h0
        · exact ⟨rfl, rfl, rfl, rfl, x, rfl, by omega⟩
    · rw [show (h == g) = false from beq_false_of_ne e2] at h0
      simp at h0
  · rw [decide_eq_false e1] at h0
    simp at h0
theorem joinE_sym (z : Int) (h : List UInt8) (l : List SigD) (y : Int) (g : List UInt8) (m : List SigD) : joinE y g m z h l = joinE z h l y g m := by
  unfold joinE
  cases h1 : mayN z l
  · cases h2 : mayN y m <;> simp
  cases h2 : mayN y m
  · simp
  have hd : (decide (y = z) && (g == h)) = (decide (z = y) && (h == g)) := by
    have a1 : decide (y = z) = decide (z = y) := by by_cases e : z = y <;> simp [e, eq_comm]
    have a2 : (g == h) = (h == g) := by
      by_cases e : h = g
      · rw [e]
      · rw [beq_false_of_ne e, beq_false_of_ne (fun e2 => e e2.symm)]
    rw [a1, a2]
  rw [hd, join_sym (mayN_64 h2).2 (mayN_64 h1).2]
theorem jN_sym (z : Int) (h : List UInt8) (l : List SigD) (y : Int) (g : List UInt8) (m : List SigD) : jN y g m z h l = jN z h l y g m := by
  unfold jN
  rw [joinE_sym z h l y g m]
  by_cases e : joinE z h l y g m = 0
  · rw [if_pos e, if_pos e]
    obtain ⟨h1, h2, rfl, rfl, -⟩ := joinE_zero e
    rw [join_sym (mayN_64 h2).2 (mayN_64 h1).2]
  · rw [if_neg e, if_neg e]
theorem joinE_self (z : Int) (h : List UInt8) (l : List SigD) : joinE z h l z h l = chkN z l := by
  unfold joinE chkN
  cases h1 : mayN z l
  · simp
  · have h64 := mayN_64 h1
    rw [join_self l l h64.2 (fun t ht => ht)]
    simp
    omega
theorem jN_self {z : Int} {h : List UInt8} {l : List SigD} (h1 : mayN z l = true) : jN z h l z h l = (z, h, l) := by
  unfold jN
  rw [joinE_self, show chkN z l = 0 from by unfold chkN; rw [h1]; rfl, if_pos rfl, join_self l l (mayN_64 h1).2 (fun t ht => ht)]
  rfl
theorem jN_ok {z : Int} {h : List UInt8} {l : List SigD} {y : Int} {g : List UInt8} {m : List SigD} (hh : h.length = 32) (hl : SgOk l) (hm : SgOk m) : (jN z h l y g m).2.1.length = 32 ∧ SgOk (jN z h l y g m).2.2 ∧ (jN z h l y g m).2.2.length ≤ 64 := by
  unfold jN
  by_cases e : joinE z h l y g m = 0
  · rw [if_pos e]
    obtain ⟨-, -, -, -, x, hx, hx64⟩ := joinE_zero e
    rw [hx]
    exact ⟨hh, join_ok hl hm hl hx, hx64⟩
  · rw [if_neg e]
    exact ⟨by simp, fun s hs => (by cases hs), by simp⟩
theorem joinU {z : Int} {h : List UInt8} {l : List SigD} {y : Int} {g : List UInt8} {m : List SigD} {w w' : World} {r : Ending} (P : JoinPost z h l y g m w r w') : ∃ v, r = .returned (.tuple #[.agg (ntA (jN z h l y g m).1 (jN z h l y g m).2.1 v), .int .i64 (joinE z h l y g m)]) ∧ Held w w' [rowR 81 33 v (jN z h l y g m).2.2.length (sgsC (jN z h l y g m).2.2)] := by
  obtain ⟨v, hr, k, hp⟩ := P
  unfold jN
  by_cases e : joinE z h l y g m = 0
  · rw [if_pos e] at hr ⊢
    obtain ⟨x, hx, S⟩ := hp e
    rw [hx]
    exact ⟨v, hr, S⟩
  · rw [if_neg e] at hr ⊢
    refine ⟨.slice none 0 0, hr, ?_⟩
    exact (Held.of_kp k).new (rowR 81 33 (.slice none 0 0) 0 []) (Kp.refl _ _) (show Ow w' 81 33 (.slice none 0 0) 0 [] from ⟨rfl, .inl ⟨rfl, rfl⟩⟩) (fun b hb => by simp [rowR, Value.ownBlock] at hb)
theorem ok_room {l : List SigD} (hok : SgOk l) : SgOk (l ++ [roomS]) := by
  intro s hs
  rcases List.mem_append.1 hs with hs | hs
  · exact hok s hs
  · rw [List.mem_singleton.1 hs]; exact ⟨rfl, by decide⟩
theorem rd_room {w : World} {gr cr : Nat} {l : List SigD} (hok : SgOk l) (ho : Ow w 81 33 (.slice (some ⟨gr, 0, none⟩) (l.length + 1) cr) (l.length + 1) (sgsC (l ++ [roomS]))) : Rd w 33 (.slice (some ⟨gr, 0, none⟩) l.length cr) l.length (sgsC l) := by
  have := rd_hiS (ok_room hok) (Rd.of_own ho) (by rw [List.length_append]; rfl) (show l.length ≤ l.length + 1 by omega)
  rwa [List.take_left' rfl] at this
theorem cap_room {w : World} {gr cr : Nat} {l : List SigD} (ho : Ow w 81 33 (.slice (some ⟨gr, 0, none⟩) (l.length + 1) cr) (l.length + 1) (sgsC (l ++ [roomS]))) : l.length + 1 ≤ cr := by
  obtain ⟨A, c, hv, h1, -⟩ := ow_form ho
  cases hv
  exact h1
set_option maxRecDepth 100000 in
set_option maxHeartbeats 8000000 in
theorem signjoins_any (z : Int) (hz : -9223372036854775808 ≤ z ∧ z ≤ 9223372036854775807) (h : List UInt8) (hh : h.length = 32) (A : Option Addr) (c : Nat) (l : List SigD) (hok : SgOk l) (hll : (l.length + 1) * 48 ≤ 140737488355328) (y : Int) (hy : -9223372036854775808 ≤ y ∧ y ≤ 9223372036854775807) (g : List UInt8) (hg : g.length = 32) (B : Option Addr) (e : Nat) (m : List SigD) (hmk : SgOk m) (hml : (m.length + 1) * 48 ≤ 140737488355328) (w : World) (LDw : LD w) (hv : Rd w 33 (.slice A l.length c) l.length (sgsC l)) (hu : Rd w 33 (.slice B m.length e) m.length (sgsC m)) :
    Calls Tryd.prog 7 #[.agg (ntA z h (.slice A l.length c)), .agg (ntA y g (.slice B m.length e))] w fun e w' => e = .returned (.bool true) ∧ Kp [] w w' := by
  refine calls_fr Tryd.func7 rfl 99 rfl (fun a0 hsz hdf hAr => ?_)
  have hz0 : a0.tmps.size = 99 := hsz
  have D := hdf
  have o0 := hAr 0 _ rfl
  have o1 := hAr 1 _ rfl
  refine wp_seq (sgj_r0 w _ _ [] (Held.start w) hz0 o0 o1 (fun a1 w1 hs1 o4 h1 => ?_))
  have hz1 := hs1.size.trans hz0
  have o0 := hs1.keep 0 _ (by decide) o0
  have o1 := hs1.keep 1 _ (by decide) o1
  have D := hs1.defers.trans D
  obtain ⟨g2, g3, o2, o3, S⟩ := h1
  refine wp_seq (sgj_r1 w z h hh A c l hok hll (fun V kV => rd_old hv kV) y g hg B e m hmk hml (fun V kV => rd_old hu kV) g2 g3 [] hz1 o2 o3 S (fun a2 vs gs w2 hs2 o5 o6 S => ?_))
  have hz2 := hs2.size.trans hz1
  have o2 := hs2.keep 2 _ (by decide) o2
  have o3 := hs2.keep 3 _ (by decide) o3
  have D := hs2.defers.trans D
  obtain ⟨⟨gr, cr⟩, q1⟩ : ∃ p, gs 1 = p := ⟨_, rfl⟩
  obtain ⟨⟨gt, ct⟩, q3⟩ : ∃ p, gs 3 = p := ⟨_, rfl⟩
  obtain ⟨g5, q5⟩ : ∃ p, (gs 4).1 = p := ⟨_, rfl⟩
  obtain ⟨g6, q6⟩ : ∃ p, (gs 5).1 = p := ⟨_, rfl⟩
  rw [q1, q3, q5, q6] at S
  rw [q5] at o5
  rw [q6] at o6
  simp only at S
  clear q1 q3 q5 q6
  have hcr := cap_room (show Ow w2 81 33 (.slice (some ⟨gr, 0, none⟩) (l.length + 1) cr) (l.length + 1) (sgsC (l ++ [roomS])) from S.at_ (l1 := []))
  have hct := cap_room (show Ow w2 81 33 (.slice (some ⟨gt, 0, none⟩) (m.length + 1) ct) (m.length + 1) (sgsC (m ++ [roomS])) from S.at_ (l1 := [_]))
  have hx := rd_room hok (show Ow w2 81 33 (.slice (some ⟨gr, 0, none⟩) (l.length + 1) cr) (l.length + 1) (sgsC (l ++ [roomS])) from S.at_ (l1 := []))
  have ht := rd_room hmk (show Ow w2 81 33 (.slice (some ⟨gt, 0, none⟩) (m.length + 1) ct) (m.length + 1) (sgsC (m ++ [roomS])) from S.at_ (l1 := [_]))
  have hl63 : l.length ≤ 9223372036854775807 := by omega
  have hm63 : m.length ≤ 9223372036854775807 := by omega
  obtain ⟨hH, hX, hX64⟩ := jN_ok (z := z) (y := y) (g := g) hh hok hmk
  have HJ1 := (sjoin_any z hz h hh (some ⟨gr, 0, none⟩) cr l hok hl63 y hy g hg (some ⟨gt, 0, none⟩) ct m hmk hm63 w2 (LDw.kp S.k) hx ht).mono (fun r w' P => joinU P)
  refine wp_seq (sgj_r2 w _ _ hH _ _ _ g5 g6 _ _ (ntA_size hh) (ntA_size hg) (S.at_ (l1 := [_, _])) (S.at_ (l1 := [_, _, _])) HJ1 _ S hz2 o5 o6 (fun a3 w3 hs3 o8 h3 => ?_))
  have hz3 := hs3.size.trans hz2
  have o2 := hs3.keep 2 _ (by decide) o2
  have o3 := hs3.keep 3 _ (by decide) o3
  have o5 := hs3.keep 5 _ (by decide) o5
  have o6 := hs3.keep 6 _ (by decide) o6
  have D := hs3.defers.trans D
  clear HJ1
  obtain ⟨g7, v1, o7, S3⟩ := h3
  have HJ2 := (sjoin_any y hy g hg (some ⟨gt, 0, none⟩) ct m hmk hm63 z hz h hh (some ⟨gr, 0, none⟩) cr l hok hl63 w3 (LDw.kp S3.k) (rd_room hmk (S3.at_ (l1 := [_, _, _]))) (rd_room hok (S3.at_ (l1 := [_, _])))).mono (fun r w' P => joinU P)
  rw [joinE_sym z h l y g m, jN_sym z h l y g m] at HJ2
  clear S
  refine wp_seq (sgj_r3 w _ _ hH _ _ _ g6 g5 _ _ (ntA_size hg) (ntA_size hh) (S3.at_ (l1 := [_, _, _, _, _])) (S3.at_ (l1 := [_, _, _, _])) HJ2 _ S3 hz3 o5 o6 (fun a4 w4 hs4 o10 h4 => ?_))
  have hz4 := hs4.size.trans hz3
  have o2 := hs4.keep 2 _ (by decide) o2
  have o3 := hs4.keep 3 _ (by decide) o3
  have o5 := hs4.keep 5 _ (by decide) o5
  have o6 := hs4.keep 6 _ (by decide) o6
  have o8 := hs4.keep 8 _ (by decide) o8
  have o7 := hs4.keep 7 _ (by decide) o7
  have D := hs4.defers.trans D
  clear HJ2
  obtain ⟨g9, v2, o9, S4⟩ := h4
  have HJ3 := (srjoin_any z hz h hh A c l hok hl63 y hy g hg B e m hmk hm63 w4 (rd_old hv S4.k) (rd_old hu S4.k)).mono (fun r w' P => joinU P)
  clear S3
  refine wp_seq (sgj_r4 w _ _ hH _ _ _ g2 g3 _ _ (ntA_size hh) (ntA_size hg) (S4.at_ (l1 := [_, _, _, _, _, _, _, _])) (S4.at_ (l1 := [_, _, _, _, _, _, _, _, _])) HJ3 _ S4 hz4 o2 o3 (fun a5 w5 hs5 o12 h5 => ?_))
  have hz5 := hs5.size.trans hz4
  have o2 := hs5.keep 2 _ (by decide) o2
  have o3 := hs5.keep 3 _ (by decide) o3
  have o5 := hs5.keep 5 _ (by decide) o5
  have o6 := hs5.keep 6 _ (by decide) o6
  have o8 := hs5.keep 8 _ (by decide) o8
  have o7 := hs5.keep 7 _ (by decide) o7
  have o10 := hs5.keep 10 _ (by decide) o10
  have o9 := hs5.keep 9 _ (by decide) o9
  have D := hs5.defers.trans D
  clear HJ3
  obtain ⟨g11, v3, o11, S⟩ := h5
  clear S4
  generalize joinE z h l y g m = E at *
  generalize jN z h l y g m = J at *
  obtain ⟨Z, H, X⟩ := J
  simp only at hH hX hX64 S
  obtain ⟨A1, c1, hv1, -, -⟩ := ow_form (show Ow w5 81 33 v1 X.length (sgsC X) from S.at_ (l1 := [_, _, _, _, _]))
  obtain ⟨A2, c2, hv2, -, -⟩ := ow_form (show Ow w5 81 33 v2 X.length (sgsC X) from S.at_ (l1 := [_, _, _]))
  obtain ⟨A3, c3, hv3, -, -⟩ := ow_form (show Ow w5 81 33 v3 X.length (sgsC X) from S.at_ (l1 := [_]))
  subst hv1
  subst hv2
  subst hv3
  refine wp_seq (wp_seq (sgj_r5 E Z H hH X hX hX64 A1 c1 g7 (S.at_ (l1 := [_, _, _, _])) (Rd.of_own (S.at_ (l1 := [_, _, _, _, _]))) A2 c2 g9 (S.at_ (l1 := [_, _])) (Rd.of_own (S.at_ (l1 := [_, _, _]))) A3 c3 g11 (S.at_ (l1 := [])) (Rd.of_own (S.at_ (l1 := [_]))) hz5 o7 o8 o9 o10 o11 o12 (fun a6 w6 hs6 k6 o58 => ?_)))
  have hz6 := hs6.size.trans hz5
  have o2 := hs6.keep 2 _ (by decide) o2
  have o3 := hs6.keep 3 _ (by decide) o3
  have o5 := hs6.keep 5 _ (by decide) o5
  have o6 := hs6.keep 6 _ (by decide) o6
  have o8 := hs6.keep 8 _ (by decide) o8
  have o7 := hs6.keep 7 _ (by decide) o7
  have o10 := hs6.keep 10 _ (by decide) o10
  have o9 := hs6.keep 9 _ (by decide) o9
  have o12 := hs6.keep 12 _ (by decide) o12
  have o11 := hs6.keep 11 _ (by decide) o11
  have D := hs6.defers.trans D
  have S := S.kp k6
  refine wp_cond_false (o58.eval (by rw [hz6]; decide)) (wp_skip ?_)
  simp only [Exit.then]
  have hb7 := S.at_ (l1 := [_, _, _, _])
  have S := S.pull 5 rfl
  refine wp_seq (sgj_r7 w Z H hH _ X.length (by omega) _ g7 hb7 _ S hz6 o7 (fun a7 w7 hs7 S => ?_))
  have hz7 := hs7.size.trans hz6
  have o2 := hs7.keep 2 _ (by decide) o2
  have o3 := hs7.keep 3 _ (by decide) o3
  have o5 := hs7.keep 5 _ (by decide) o5
  have o6 := hs7.keep 6 _ (by decide) o6
  have o7 := hs7.keep 7 _ (by decide) o7
  have o9 := hs7.keep 9 _ (by decide) o9
  have o11 := hs7.keep 11 _ (by decide) o11
  have D := hs7.defers.trans D
  have hx := rd_room hok (S.at_ (l1 := [_, _, _, _, _]))
  have HJ4 := (sjoin_any z hz h hh (some ⟨gr, 0, none⟩) cr l hok hl63 z hz h hh (some ⟨gr, 0, none⟩) cr l hok hl63 w7 (LDw.kp S.k) hx hx).mono (fun r w' P => joinU P)
  rw [joinE_self] at HJ4
  obtain ⟨hH4, -, -⟩ := jN_ok (z := z) (y := z) (g := h) hh hok hok
  have hb5 := S.at_ (l1 := [_, _, _, _, _, _, _])
  refine wp_seq (sgj_r8 w _ _ hH4 _ _ _ g5 _ (ntA_size hh) hb5 HJ4 _ S hz7 o5 (fun a8 w8 hs8 o14 h8 => ?_))
  have hz8 := hs8.size.trans hz7
  have o2 := hs8.keep 2 _ (by decide) o2
  have o3 := hs8.keep 3 _ (by decide) o3
  have o5 := hs8.keep 5 _ (by decide) o5
  have o6 := hs8.keep 6 _ (by decide) o6
  have o9 := hs8.keep 9 _ (by decide) o9
  have o11 := hs8.keep 11 _ (by decide) o11
  have D := hs8.defers.trans D
  clear HJ4
  obtain ⟨g13, v4, o13, S⟩ := h8
  have hb2 := S.at_ (l1 := [_, _, _, _, _, _, _, _, _, _, _])
  have hend : ∀ (a : Act) (W : World), a.tmps.size = 99 → a.defers = [] → Sl a 2 (.pointer (some ⟨g2, 0, none⟩)) → Sl a 3 (.pointer (some ⟨g3, 0, none⟩)) → Sl a 5 (.pointer (some ⟨g5, 0, none⟩)) → Sl a 6 (.pointer (some ⟨g6, 0, none⟩)) → Sl a 9 (.pointer (some ⟨g9, 0, none⟩)) → Sl a 11 (.pointer (some ⟨g11, 0, none⟩)) → Kp [] w8 W → (tailOf 9 Tryd.f7).wp Tryd.prog (bodyPost Tryd.prog Tryd.f7 fun e w' => e = .returned (.bool true) ∧ Kp [] w w') a W := by
    intro a W hsa da o2 o3 o5 o6 o9 o11 kW
    conv => arg 2; whnf
    have S := S.kp kW
    refine wp_seq (sgj_r11 (LDw.kp S.k) Z H hH X hX hX64 A2 c2 g9 (S.at_ (l1 := [_, _, _, _])) (Rd.of_own (S.at_ (l1 := [_, _, _, _, _]))) A3 c3 g11 (S.at_ (l1 := [_, _])) (Rd.of_own (S.at_ (l1 := [_, _, _]))) z h hh A c l gr cr y g hg B e m gt ct g2 g3 g5 g6 (S.at_ (l1 := [_, _, _, _, _, _, _, _, _, _, _])) (S.at_ (l1 := [_, _, _, _, _, _, _, _, _, _, _, _])) (S.at_ (l1 := [_, _, _, _, _, _, _, _, _])) (S.at_ (l1 := [_, _, _, _, _, _, _, _, _, _])) (fun V kV => sleft_any z h hh A c l hok hll gr cr hcr V (rd_old hv (S.kp kV).k) ((S.kp kV).at_ (l1 := [_, _, _, _, _, _, _]))) (fun V kV => sleft_any y g hg B e m hmk hml gt ct hct V (rd_old hu (S.kp kV).k) ((S.kp kV).at_ (l1 := [_, _, _, _, _, _, _, _]))) hsa o2 o3 o5 o6 o9 o11 (fun a2 w2 hs2 k2 o4 => ?_))
    refine wp_ret ?_
    exact (bodyPost_ret (results_t1 (by rfl) (o4.eval (by rw [hs2.size, hsa]; decide))) (hs2.defers.trans da) ⟨rfl, S.k.trans k2 (by simp)⟩)
  cases hmay : mayN z l
  · have hchk : chkN z l = 2 := by unfold chkN; rw [hmay]; rfl
    rw [hchk] at o14
    refine wp_seq (wp_seq (sgj_r9N z hz h hh A c l hok (by omega) g2 hb2.drew ((rd_old hv S.k).drew) _ hchk (by decide) hz8 o2 o14 (fun a9 w9 hs9 k9 o82 => ?_)))
    have hz9 := hs9.size.trans hz8
    have o2 := hs9.keep 2 _ (by decide) o2
    have o3 := hs9.keep 3 _ (by decide) o3
    have o5 := hs9.keep 5 _ (by decide) o5
    have o6 := hs9.keep 6 _ (by decide) o6
    have o9 := hs9.keep 9 _ (by decide) o9
    have o11 := hs9.keep 11 _ (by decide) o11
    have o14 := hs9.keep 14 _ (by decide) o14
    have o13 := hs9.keep 13 _ (by decide) o13
    have D := hs9.defers.trans D
    refine wp_cond_false (o82.eval (by rw [hz9]; decide)) (wp_skip ?_)
    simp only [Exit.then]
    exact hend a9 w9 hz9 D o2 o3 o5 o6 o9 o11 (((Kp.refl [] w8).drew).trans k9 (by simp))
  · have hchk : chkN z l = 0 := by unfold chkN; rw [hmay]; rfl
    rw [hchk] at o14
    rw [jN_self hmay] at S
    simp only at S
    obtain ⟨A4, c4, hv4, -, -⟩ := ow_form (show Ow w8 81 33 v4 l.length (sgsC l) from S.at_ (l1 := [_]))
    subst hv4
    refine wp_seq (wp_seq (sgj_r9Y z hz h hh A c l hok (by omega) g2 hb2.drew ((rd_old hv S.k).drew) _ hchk (by decide) A4 c4 g13 ((S.at_ (l1 := [])).drew) ((Rd.of_own (show Ow w8 81 33 (.slice A4 l.length c4) l.length (sgsC l) from S.at_ (l1 := [_]))).drew) hz8 o2 o13 o14 (fun a9 w9 hs9 k9 o82 => ?_)))
    have hz9 := hs9.size.trans hz8
    have o2 := hs9.keep 2 _ (by decide) o2
    have o3 := hs9.keep 3 _ (by decide) o3
    have o5 := hs9.keep 5 _ (by decide) o5
    have o6 := hs9.keep 6 _ (by decide) o6
    have o9 := hs9.keep 9 _ (by decide) o9
    have o11 := hs9.keep 11 _ (by decide) o11
    have o14 := hs9.keep 14 _ (by decide) o14
    have o13 := hs9.keep 13 _ (by decide) o13
    have D := hs9.defers.trans D
    refine wp_cond_false (o82.eval (by rw [hz9]; decide)) (wp_skip ?_)
    simp only [Exit.then]
    exact hend a9 w9 hz9 D o2 o3 o5 o6 o9 o11 (((Kp.refl [] w8).drew).trans k9 (by simp))
theorem signjoins_law (w : World) (z : Int) (hz : -9223372036854775808 ≤ z ∧ z ≤ 9223372036854775807) (h : List UInt8) (hh : h.length = 32) (A : Option Addr) (c : Nat) (l : List SigD) (hok : SgOk l) (hll : (l.length + 1) * 48 ≤ 140737488355328) (hv : Rd w 33 (.slice A l.length c) l.length (sgsC l)) (y : Int) (hy : -9223372036854775808 ≤ y ∧ y ≤ 9223372036854775807) (g : List UInt8) (hg : g.length = 32) (B : Option Addr) (e : Nat) (m : List SigD) (hmk : SgOk m) (hml : (m.length + 1) * 48 ≤ 140737488355328) (hu : Rd w 33 (.slice B m.length e) m.length (sgsC m)) (LDw : LD w) :
    Calls Tryd.prog 7 #[.agg (ntA z h (.slice A l.length c)), .agg (ntA y g (.slice B m.length e))] w fun e w' => e = .returned (.bool true) ∧ Kp [] w w' := signjoins_any z hz h hh A c l hok hll y hy g hg B e m hmk hml w LDw hv hu
end Go.Proofs.YtapboamjpilckaaDoor
/- What comes in, opened: slices of bytes; how much there is of it. -/
namespace Go.Proofs.YtapboamjpilckaaDoor
open Go.RowKit Go.WideShapes Go.ChangeShapes

section
variable {H : Type} {enc : TypeId × Value → H} {P : Program}
/-! ### Bulk -/
theorem bulk_pos (d : DataW H) : 1 ≤ Rows.uptoBulk d := by
  cases d with
  | lit l => cases l <;> simp [Rows.uptoBulk]
  | nil => simp [Rows.uptoBulk]
  | ptr d => simp [Rows.uptoBulk]
  | slice elems spare => simp [Rows.uptoBulk]
  | agg parts => simp [Rows.uptoBulk]
  | iface t d => simp [Rows.uptoBulk]
  | map entries => simp [Rows.uptoBulk]
  | held h => simp [Rows.uptoBulk]
theorem bulk_len (l : List (DataW H)) : l.length ≤ Rows.uptoBulkAll l := by
  induction l with
  | nil => simp [Rows.uptoBulkAll]
  | cons x r ih => have := bulk_pos x; simp only [Rows.uptoBulkAll, List.length_cons]; omega
/-! ### A slice of bytes -/
theorem u8_lit {z : Int} (h : (Lit.int .u8 z).wf = true) : 0 ≤ z ∧ z ≤ 255 := by simpa [Lit.wf, IntKind.min, IntKind.max, IntKind.signed, IntKind.bits] using h
end
end Go.Proofs.YtapboamjpilckaaDoor
/- What comes in, opened: slices of Puts. -/
namespace Go.Proofs.YtapboamjpilckaaDoor
open Go.RowKit Go.WideShapes Go.ChangeShapes

section
variable {H : Type} {enc : TypeId × Value → H}
/-- An array of 32 bytes. -/
theorem open_hash {P : Program} {W : World} {n m : Nat} {t e : TypeId} {cs : List Value} {x : DataW H × List MemPlace} (ht : P.underlying t = some (.array m e)) (he : P.underlying e = some (.int .u8)) (hc : P.cellsOf e = 1) (hct : P.cellsOf t = m)
    (h : DataW.trod enc P W 0 (fun _ => true) true n t cs = some x) : ∃ h : List UInt8, h.length = m ∧ cs = bv h ∧ m + 1 ≤ Rows.uptoBulk x.1 := by
  obtain ⟨xs, k, rfl, rfl, hl, hxl, hel⟩ := DataW.trod_array ht h
  rw [hct] at hl
  have one : ∀ i, i < m → ∃ z : Int, cs[i]? = some (.int .u8 z) ∧ 0 ≤ z ∧ z ≤ 255 := fun i hi => by
    have h1 := hel i hi
    rw [hc, Nat.mul_one, cut_one] at h1
    have hx : xs[i]? = some xs[i] := List.getElem?_eq_getElem (by omega)
    rw [hx] at h1
    obtain ⟨z, hz, _, hw⟩ := DataW.trod_int he h1
    have hw := u8_lit hw
    cases hcs : cs[i]? with
    | none => rw [hcs] at hz; cases hz
    | some v => rw [hcs] at hz; cases hz; exact ⟨z, rfl, hw.1, hw.2⟩
  refine ⟨(List.range m).map fun i => (match (cs[i]? : Option Value) with | some (Value.int _ z) => UInt8.ofNat z.toNat | _ => 0), by simp, ?_, ?_⟩
  · apply List.ext_getElem?
    intro i
    rw [bv_get, List.getElem?_map]
    by_cases hi : i < m
    · obtain ⟨z, hz, h1, h2⟩ := one i hi
      rw [hz, List.getElem?_range hi]
      simp only [Option.map_some]
      rw [hz]
      simp only [UInt8.toNat_ofNat', Nat.mod_eq_of_lt (show z.toNat < 2 ^ 8 by omega)]
      congr 2
      omega
    · rw [List.getElem?_eq_none (by omega), List.getElem?_eq_none (by simp; omega)]
      rfl
  · simp only [Rows.uptoBulk]
    have := bulk_len (xs.map (·.1))
    rw [List.length_map, hxl] at this
    omega

theorem Tryd.cellsHash : Tryd.prog.cellsOf 25 = 32 := by kernel_rfl
end
end Go.Proofs.YtapboamjpilckaaDoor
/- Points that came in, opened. -/
namespace Go.Proofs.YtapboamjpilckaaDoor
open Go.RowKit Go.WideShapes Go.ChangeShapes
section
variable {H : Type} {enc : TypeId × Value → H}
theorem Tryd.cellsPoint : Tryd.prog.cellsOf 33 = 33 := by kernel_rfl
theorem Tryd.cellsI64 : Tryd.prog.cellsOf 2 = 1 := by kernel_rfl
set_option maxRecDepth 100000 in
theorem open_pt {W : World} {n : Nat} {cs : List Value} {x : DataW H × List MemPlace} (h : DataW.trod enc Tryd.prog W 0 (fun _ => true) true n 33 cs = some x) :
    ∃ (z : Int) (hh : List UInt8), cs = (ptA z hh).toList ∧ (-9223372036854775808 ≤ z ∧ z ≤ 9223372036854775807) ∧ hh.length = 32 := by
  obtain ⟨xs, k, rfl, rfl, hl, hxl, hf⟩ := DataW.trod_struct Tryd.underlying33 h
  rw [Tryd.cellsPoint] at hl
  obtain ⟨x0, x1, rfl⟩ : ∃ x0 x1, xs = [x0, x1] := by
    match xs, hxl with
    | [x0, x1], _ => exact ⟨x0, x1, rfl⟩
  have f0 : DataW.trod enc Tryd.prog W 0 (fun _ => true) true k 2 ((cs.drop 0).take (Tryd.prog.cellsOf 2)) = some x0 := hf 0 _ rfl
  have f1 : DataW.trod enc Tryd.prog W 0 (fun _ => true) true k 25 ((cs.drop 1).take (Tryd.prog.cellsOf 25)) = some x1 := hf 1 _ rfl
  rw [Tryd.cellsI64] at f0
  rw [Tryd.cellsHash] at f1
  clear hf hxl
  obtain ⟨z, e0, _, w0⟩ := DataW.trod_int Tryd.underlying2 f0
  obtain ⟨hh, hhl, e1, _⟩ := open_hash Tryd.underlying25 Tryd.underlying5 Tryd.cellsU8 Tryd.cellsHash f1
  have w0 := i64_lit w0
  have g0 := at_of_cut (i := 0) e0
  refine ⟨z, hh, ?_, w0, hhl⟩
  obtain ⟨a, l, rfl⟩ := List.exists_cons_of_length_pos (l := cs) (by omega)
  rw [List.length_cons] at hl
  have g0 := Option.some.inj g0
  subst g0
  have : l = bv hh := by
    rw [← e1, List.drop_succ_cons, List.drop_zero, List.take_of_length_le (by omega)]
  rw [this]
  rfl
end
end Go.Proofs.YtapboamjpilckaaDoor
/- Hashes that came in, opened. -/
namespace Go.Proofs.YtapboamjpilckaaDoor
open Go.RowKit Go.WideShapes Go.ChangeShapes
section
variable {H : Type} {enc : TypeId × Value → H}
end
end Go.Proofs.YtapboamjpilckaaDoor
/- Keys that came in, opened. -/
namespace Go.Proofs.YtapboamjpilckaaDoor
open Go.RowKit Go.WideShapes Go.ChangeShapes
section
variable {H : Type} {enc : TypeId × Value → H}
theorem Tryd.cellsStr : Tryd.prog.cellsOf 9 = 1 := by kernel_rfl
theorem str_back (s : ByteArray) : strV s.data.toList = .string s := by
  unfold strV
  congr 1
end
end Go.Proofs.YtapboamjpilckaaDoor
/- Lists of points that came in, opened. -/
namespace Go.Proofs.YtapboamjpilckaaDoor
open Go.RowKit Go.WideShapes Go.ChangeShapes
section
variable {H : Type} {enc : TypeId × Value → H}
end
end Go.Proofs.YtapboamjpilckaaDoor
/- Notes that came in, opened. -/
namespace Go.Proofs.YtapboamjpilckaaDoor
open Go.RowKit Go.WideShapes Go.ChangeShapes
section
variable {H : Type} {enc : TypeId × Value → H}
theorem Tryd.cellsSig : Tryd.prog.cellsOf 81 = 33 := by kernel_rfl
theorem Tryd.cellsNote : Tryd.prog.cellsOf 36 = 34 := by kernel_rfl
theorem Tryd.cellsSigs : Tryd.prog.cellsOf 34 = 1 := by kernel_rfl
set_option maxRecDepth 100000 in
theorem open_sig {W : World} {n : Nat} {cs : List Value} {x : DataW H × List MemPlace} (h : DataW.trod enc Tryd.prog W 0 (fun _ => true) true n 81 cs = some x) :
    ∃ s : SigD, cs = sgL s ∧ s.2.length = 32 ∧ s.1.length ≤ 9223372036854775807 := by
  obtain ⟨xs, k, rfl, rfl, hl, hxl, hf⟩ := DataW.trod_struct Tryd.underlying81 h
  rw [Tryd.cellsSig] at hl
  obtain ⟨x0, x1, rfl⟩ : ∃ x0 x1, xs = [x0, x1] := by
    match xs, hxl with
    | [x0, x1], _ => exact ⟨x0, x1, rfl⟩
  have f0 : DataW.trod enc Tryd.prog W 0 (fun _ => true) true k 9 ((cs.drop 0).take (Tryd.prog.cellsOf 9)) = some x0 := hf 0 _ rfl
  have f1 : DataW.trod enc Tryd.prog W 0 (fun _ => true) true k 25 ((cs.drop 1).take (Tryd.prog.cellsOf 25)) = some x1 := hf 1 _ rfl
  rw [Tryd.cellsStr] at f0
  rw [Tryd.cellsHash] at f1
  clear hf hxl
  obtain ⟨s, e0, rfl, hs⟩ := DataW.trod_string Tryd.underlying9 f0
  obtain ⟨hh, hhl, e1, _⟩ := open_hash Tryd.underlying25 Tryd.underlying5 Tryd.cellsU8 Tryd.cellsHash f1
  have g0 := at_of_cut (i := 0) e0
  rw [Lib.size_eq] at hs
  refine ⟨(s.data.toList, hh), ?_, hhl, Nat.le_trans hs (by unfold maxLen; omega)⟩
  obtain ⟨a, l, rfl⟩ := List.exists_cons_of_length_pos (l := cs) (by omega)
  rw [List.length_cons] at hl
  have g0 := Option.some.inj g0
  subst g0
  have : l = bv hh := by
    rw [← e1, List.drop_succ_cons, List.drop_zero, List.take_of_length_le (by omega)]
  rw [this]
  unfold sgL
  rw [str_back]
theorem sgsC_inv {l : List SigD} (hok : SgOk l) {j : Nat} {u : Value} (h : (sgsC l)[j]? = some u) : ∃ s, l[j / 33]? = some s ∧ (sgL s)[j % 33]? = some u := by
  have hl := sgsC_length hok
  have hj := (List.getElem?_eq_some_iff.1 h).1
  obtain ⟨q, hq⟩ : ∃ q, l[j / 33]? = some q := ⟨_, List.getElem?_eq_getElem (by omega)⟩
  have hs := sgL_length (s := q) (hok q (List.mem_of_getElem? hq)).1
  obtain ⟨v, hv⟩ : ∃ v, (sgL q)[j % 33]? = some v := ⟨_, List.getElem?_eq_getElem (by rw [hs]; omega)⟩
  have := sgsC_at hok hq _ _ hv
  rw [show j / 33 * 33 + j % 33 = j from by omega, h] at this
  exact ⟨q, hq, by rw [hv, ← this]⟩
theorem open_sigs {W : World} {n : Nat} {v : Value} {x : DataW H × List MemPlace} (h : DataW.trod enc Tryd.prog W 0 (fun _ => true) true n 34 [v] = some x) :
    ∃ l, Rd W 33 v l.length (sgsC l) ∧ SgOk l ∧ (l = [] ∨ ∃ elems spare, x.1 = .slice elems spare ∧ elems.length = l.length) := by
  rcases Deep.open_slice Tryd.underlying34 h with ⟨hv, rfl⟩ | ⟨a, len, cap, m, k, D, Pl, hv, _, hl, hm, hmm, rfl, hel⟩
  · cases hv
    exact ⟨[], Rd.nil _ _, (fun _ h => by cases h), .inl rfl⟩
  · cases hv
    simp only [if_true] at hmm
    obtain ⟨G, hG⟩ := Deep.choose_lt (α := SigD) (n := len) (p := fun i q => (∀ j u, (sgL q)[j]? = some u → W.cell? ((a.add (i * 33)).add j) = some u) ∧ q.2.length = 32 ∧ q.1.length ≤ 9223372036854775807) (fun i hi => by
      obtain ⟨cs, h1, h2⟩ := hel i (by omega)
      rw [Tryd.cellsSig] at h1
      obtain ⟨s, rfl, hs1, hs2⟩ := open_sig h2
      obtain ⟨_, hlen, hcell⟩ := World.cells?_some h1
      exact ⟨s, (fun j u hu => by rw [hcell j (by have := (List.getElem?_eq_some_iff.1 hu).1; rw [sgL_length hs1] at this; omega)]; exact hu), hs1, hs2⟩)
    have hget : ∀ i q, ((List.range len).map G)[i]? = some q → i < len ∧ q = G i := fun i q h => by
      rw [List.getElem?_map] at h
      by_cases hi : i < len
      · rw [List.getElem?_range hi] at h
        exact ⟨hi, (Option.some.inj h).symm⟩
      · rw [List.getElem?_eq_none (by simp; omega)] at h; cases h
    have hok : SgOk ((List.range len).map G) := fun q hq => by
      obtain ⟨i, hi, rfl⟩ := List.mem_map.1 hq
      exact (hG i (List.mem_range.1 hi)).2
    refine ⟨(List.range len).map G, ?_, hok, .inr ⟨_, _, rfl, by simp⟩⟩
    have hlen : ((List.range len).map G).length = len := by simp
    have hC := sgsC_length hok
    rw [hlen] at hC ⊢
    refine rd_some hC hl hm (fun ad had j u hu => ?_)
    cases had
    obtain ⟨q, hq, hqu⟩ := sgsC_inv hok hu
    obtain ⟨hi, rfl⟩ := hget _ _ hq
    have := (hG _ hi).1 _ _ hqu
    rw [add_of_add, show j / 33 * 33 + j % 33 = j from by omega] at this
    exact this
set_option maxRecDepth 100000 in
theorem open_nt {W : World} {n : Nat} {cs : List Value} {x : DataW H × List MemPlace} (h : DataW.trod enc Tryd.prog W 0 (fun _ => true) true n 36 cs = some x) :
    ∃ (z : Int) (hh : List UInt8) (v : Value) (l : List SigD), cs = ntL z hh v ∧ (-9223372036854775808 ≤ z ∧ z ≤ 9223372036854775807) ∧ hh.length = 32 ∧ Rd W 33 v l.length (sgsC l) ∧ SgOk l ∧ ∃ d0 d1, x.1 = .agg [d0, d1] ∧ (l = [] ∨ ∃ elems spare, d1 = .slice elems spare ∧ elems.length = l.length) := by
  obtain ⟨xs, k, rfl, rfl, hl, hxl, hf⟩ := DataW.trod_struct Tryd.underlying36 h
  rw [Tryd.cellsNote] at hl
  obtain ⟨x0, x1, rfl⟩ : ∃ x0 x1, xs = [x0, x1] := by
    match xs, hxl with
    | [x0, x1], _ => exact ⟨x0, x1, rfl⟩
  have f0 : DataW.trod enc Tryd.prog W 0 (fun _ => true) true k 33 ((cs.drop 0).take (Tryd.prog.cellsOf 33)) = some x0 := hf 0 _ rfl
  have f1 : DataW.trod enc Tryd.prog W 0 (fun _ => true) true k 34 ((cs.drop 33).take (Tryd.prog.cellsOf 34)) = some x1 := hf 1 _ rfl
  rw [Tryd.cellsPoint] at f0
  rw [Tryd.cellsSigs] at f1
  clear hf hxl
  obtain ⟨z, hh, e0, hz, hhl⟩ := open_pt f0
  obtain ⟨v, hv⟩ : ∃ v, (cs.drop 33).take 1 = [v] := by
    obtain ⟨a, ha⟩ : ∃ a, cs.drop 33 = [a] := List.length_eq_one_iff.1 (by rw [List.length_drop, hl])
    exact ⟨a, by rw [ha]; rfl⟩
  rw [hv] at f1
  obtain ⟨l, hr, hok, hb⟩ := open_sigs f1
  refine ⟨z, hh, v, l, ?_, hz, hhl, hr, hok, _, _, rfl, hb⟩
  have h2 : cs.drop 33 = [v] := by rw [← hv, List.take_of_length_le (by rw [List.length_drop, hl]; decide)]
  rw [← List.take_append_drop 33 cs, h2]
  rw [List.drop_zero] at e0
  rw [e0]
  rfl
set_option maxRecDepth 100000 in
theorem open_nt_arg {W : World} {b0 : Nat} {v : Value} {d : DataW H} {pl : List MemPlace} (hv : Value.okWide Tryd.prog W .any b0 36 v) (h : DataW.Trod enc Tryd.prog W 0 (fun _ => true) true 36 v d pl) :
    ∃ (z : Int) (hh : List UInt8) (A : Option Addr) (c : Nat) (l : List SigD), v = .agg (ntA z hh (.slice A l.length c)) ∧ (-9223372036854775808 ≤ z ∧ z ≤ 9223372036854775807) ∧ hh.length = 32 ∧ Rd W 33 (.slice A l.length c) l.length (sgsC l) ∧ SgOk l ∧ ∃ d0 d1, d = .agg [d0, d1] ∧ (l = [] ∨ ∃ elems spare, d1 = .slice elems spare ∧ elems.length = l.length) := by
  obtain ⟨cs, rfl, hsz⟩ := okWide_struct Tryd.underlying36 hv
  obtain ⟨fuel, hf⟩ := h
  obtain ⟨z, hh, v, l, h1, h2, h3, h4, h5, h6⟩ := open_nt hf
  obtain ⟨A, c, rfl⟩ := rd_form h4
  refine ⟨z, hh, A, c, l, ?_, h2, h3, h4, h5, h6⟩
  congr 1
  apply Array.ext'
  exact h1
theorem bytes_of_sg : Tryd.prog.bytesOf 81 = 48 := by kernel_rfl
theorem sized_nt {ts : List TypeId} {ds : List (DataW H)} (h : (DataW.weightsEach Tryd.prog ts ds).all (· ≤ reachBytes) = true) (j : Nat) {d0 d1 : DataW H} {l : List SigD} (ht : ts[j]? = some 36) (hd : ds[j]? = some (.agg [d0, d1]))
    (hb : l = [] ∨ ∃ elems spare, d1 = .slice elems spare ∧ elems.length = l.length) : (l.length + 1) * 48 ≤ 140737488355328 := by
  rcases hb with rfl | ⟨elems, spare, rfl, hl⟩
  · simp
  · have hm : (elems.length + spare.length) * Tryd.prog.bytesOf 81 ∈ (DataW.agg [d0, .slice elems spare] : DataW H).weights Tryd.prog 36 := by
      rw [DataW.weights, Tryd.underlying36]
      exact DataW.weights_mem_each (j := 1) (t := 34) rfl rfl _ (by simp [DataW.weights, Tryd.underlying34])
    have := List.all_eq_true.1 h _ (DataW.weights_mem_each ht hd _ hm)
    rw [bytes_of_sg] at this
    simp only [decide_eq_true_eq] at this
    unfold reachBytes at this
    omega
end
end Go.Proofs.YtapboamjpilckaaDoor
/- What the listed variables give; a world for the witness. -/
namespace Go.Proofs.YtapboamjpilckaaDoor
open Go.ChangeShapes Go.WideShapes Go.ChangeAt Go.RowKit
theorem door_met (os : Os) (args : Array Value) : laidMet Tryd.prog Rows.signMacsRow.laid ((World.doorLaid Tryd.prog 2000 os).forCall (fun _ _ => 0) ⟨#[], args, []⟩).memory :=
  laidMet_of_run' 8 (by kernel_rfl) (by kernel_rfl)
theorem LD_laid {W : World} (h : laidMet Tryd.prog Rows.signMacsRow.laid W) : LD W := by
  have h3 := h.tail.tail
  first
    | exact ⟨Lib.tabIs_of_head (g := 0) (by decide +kernel) (by decide +kernel) Tryd.underlying166 Tryd.underlying136 (by kernel_rfl) (by kernel_rfl) h3⟩
    | exact ⟨Lib.tabIs_of_head (g := 1) (by decide +kernel) (by decide +kernel) Tryd.underlying166 Tryd.underlying136 (by kernel_rfl) (by kernel_rfl) h3⟩
    | exact ⟨Lib.tabIs_of_head (g := 2) (by decide +kernel) (by decide +kernel) Tryd.underlying166 Tryd.underlying136 (by kernel_rfl) (by kernel_rfl) h3⟩
    | exact ⟨Lib.tabIs_of_head (g := 3) (by decide +kernel) (by decide +kernel) Tryd.underlying166 Tryd.underlying136 (by kernel_rfl) (by kernel_rfl) h3⟩
    | exact ⟨Lib.tabIs_of_head (g := 4) (by decide +kernel) (by decide +kernel) Tryd.underlying166 Tryd.underlying136 (by kernel_rfl) (by kernel_rfl) h3⟩
    | exact ⟨Lib.tabIs_of_head (g := 5) (by decide +kernel) (by decide +kernel) Tryd.underlying166 Tryd.underlying136 (by kernel_rfl) (by kernel_rfl) h3⟩
end Go.Proofs.YtapboamjpilckaaDoor
/- The row's last step, where a walk has left 'Below' of the world it began in. -/
namespace Go.Proofs.YtapboamjpilckaaDoor
open Go.RowKit Go.WideShapes Go.ChangeShapes

theorem own_knob : ownKnob Tryd.prog.godebug = none := by kernel_rfl

section
variable {H : Type} {enc : TypeId × Value → H} {P : Program}
/-- 'post_of_same' for a world of which 'Below' alone is known (old cells and old marks are as they were). -/
theorem post_below {f : Func} {s : ChangeSpec} {apart fresh handsOn again : Bool} {W W' : World} {args : Array Value} {v : Value} {ds gs : List (DataW H)} {before pa pv : List MemPlace}
    (hW : DataW.Whole enc P f.params.toList s.vars apart W args.toList ds gs before)
    (hres : ∀ (b : Nat) (sp : Nat → Bool) (hd : Bool), DataW.TrodAll enc P W' b sp hd f.resultTypes.toList (v.resultList f.resultTypes.size) (s.fn H (ds ++ gs)).results [])
    (hargs : ∀ sp : Nat → Bool, (∀ p ∈ before, sp p.block = true) → DataW.TrodAll enc P W' 0 sp true f.params.toList args.toList (s.fn H (ds ++ gs)).args pa)
    (hvars : ∀ sp : Nat → Bool, (∀ p ∈ before, sp p.block = true) → DataW.TrodVars enc P W' sp s.vars (s.fn H (ds ++ gs)).vars pv)
    (hps : before = pa ++ pv) (hb : Below W.heap.size W W')
    (hok : ∀ (j : Nat) (t : TypeId) (r : Value), f.resultTypes[j]? = some t → (v.resultList f.resultTypes.size)[j]? = some r → Value.okWide P W' .any 0 t r) :
    s.post enc P f apart fresh handsOn again W args v W' := by
  have hlt : ∀ p ∈ before, p.block < W.heap.size := fun p hp => hW.lt p hp
  have hold : ∀ p ∈ before, (fun b => decide (b < W.heap.size)) p.block = true := fun p hp => by simpa using hlt p hp
  refine ⟨ds, gs, before, [], pa, pv, hW, hres _ _ _, hargs _ hold, hvars _ hold, World.keptBut_mono (fun p hp => ⟨hp, ?_⟩) (hb.frame (· ∈ before)), fun _ => ?_⟩
  · rw [hps, List.mem_append] at hp
    exact Or.inr hp
  · obtain ⟨_, _, _, _, _, hz, hn⟩ := hW
    refine ⟨hok, _, _, ([] ++ pa) ++ pv, ⟨[] ++ pa, pv, trodAll_append (hargs _ (fun _ _ => rfl)) (hres _ _ _), hvars _ (fun _ _ => rfl), rfl, ?_, ?_⟩, ?_⟩
    · intro b off hp
      have hin : MemPlace.cell b off ∈ before := by rw [hps]; simpa using hp
      rw [hb.frozen (hlt _ hin)]
      exact hz b off hin
    · intro ha
      have := hn ha
      rw [hps] at this
      simpa using this
    · intro p hp _
      rw [hps]
      simpa using hp
end
theorem Kp.below0 {w w' : World} (h : Kp [] w w') : Below w.heap.size w w' := h.below (Nat.le_refl _) (by simp)
end Go.Proofs.YtapboamjpilckaaDoor
/- The row's last step, where the arguments read as they did (out of 'Below' alone). -/
namespace Go.Proofs.YtapboamjpilckaaDoor
open Go.RowKit Go.WideShapes Go.ChangeShapes

section
variable {H : Type} {enc : TypeId × Value → H} {P : Program}
theorem trodAll_stays (hl : laidOutB P = true) {W W' : World} {sp' : Nat → Bool} : ∀ {ts : List TypeId} {vs : List Value} {ds : List (DataW H)} {ps : List MemPlace}, ts.all (fun t => P.readableRec t && decide (t < P.types.size)) = true →
    DataW.TrodAll enc P W 0 (fun _ => true) true ts vs ds ps → (∀ p ∈ ps, W.sameAt W' p) → (∀ p ∈ ps, sp' p.block = true) → DataW.TrodAll enc P W' 0 sp' true ts vs ds ps
  | [], [], [], _, _, h, _, _ => h
  | t :: ts, v :: vs, d :: ds, _, hr, ⟨p, q, h1, h2, e⟩, hm, hs => by
    simp only [List.all_cons, Bool.and_eq_true, decide_eq_true_eq] at hr
    exact ⟨p, q, WideElems.Trod_stays hl hr.1.1 hr.1.2 h1 (fun x hx => hm x (by rw [e]; exact List.mem_append_left _ hx)) (fun x hx => hs x (by rw [e]; exact List.mem_append_left _ hx)),
      trodAll_stays hl hr.2 h2 (fun x hx => hm x (by rw [e]; exact List.mem_append_right _ hx)) (fun x hx => hs x (by rw [e]; exact List.mem_append_right _ hx)), e⟩

theorem post_kept {f : Func} {s : ChangeSpec} {apart fresh handsOn again : Bool} {W W' : World} {args : Array Value} {v : Value} {ds gs : List (DataW H)} {before : List MemPlace}
    (hl : laidOutB P = true) (hr : f.params.toList.all (fun t => P.readableRec t && decide (t < P.types.size)) = true) (hsv : s.vars = [])
    (hW : DataW.Whole enc P f.params.toList s.vars apart W args.toList ds gs before)
    (hres : ∀ (b : Nat) (sp : Nat → Bool) (hd : Bool), DataW.TrodAll enc P W' b sp hd f.resultTypes.toList (v.resultList f.resultTypes.size) (s.fn H (ds ++ gs)).results [])
    (hfa : (s.fn H (ds ++ gs)).args = ds) (hfv : (s.fn H (ds ++ gs)).vars = []) (hb : Below W.heap.size W W')
    (hok : ∀ (j : Nat) (t : TypeId) (r : Value), f.resultTypes[j]? = some t → (v.resultList f.resultTypes.size)[j]? = some r → Value.okWide P W' .any 0 t r) :
    s.post enc P f apart fresh handsOn again W args v W' := by
  have hlt : ∀ p ∈ before, p.block < W.heap.size := fun p hp => hW.lt p hp
  have hW2 := hW
  obtain ⟨p, q, hA, hV, rfl, hz, hn⟩ := hW2
  rw [hsv] at hV
  obtain ⟨rfl, rfl⟩ := trodVars_none hV
  refine post_below (pa := p) (pv := []) hW hres (fun sp hs => ?_) (fun sp hs => ?_) rfl hb hok
  · rw [hfa]
    exact trodAll_stays hl hr hA (fun x hx => hb.same (hlt x (List.mem_append_left _ hx))) (fun x hx => hs x (List.mem_append_left _ hx))
  · rw [hsv, hfv]; exact rfl
end
theorem laid_out : laidOutB Tryd.prog = true := by kernel_rfl
end Go.Proofs.YtapboamjpilckaaDoor
