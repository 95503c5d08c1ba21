/- WireWrites: the walk. -/
import Derived.Test.YtdcmncmpoinlaaaWireAB
namespace Go.Proofs.Ytdcmncmpoinlaaa
open Go.RowKit

set_option maxRecDepth 100000 in
set_option maxHeartbeats 2000000 in
theorem writes_true (ps qs : List PutD) (va vb : Value) (w : World) (ha : PutsIn w va ps) (hb : PutsIn w vb qs) (hl : ps.length ≤ 1073741824 ∧ qs.length ≤ 1073741824)
    (hp : ∀ i, (encs ps i).length ≤ 1073741824) (hq : ∀ i, (encs qs i).length ≤ 1073741824) (hpb : ∀ p, p ∈ ps → p.b.length ≤ 1073741824) (hqb : ∀ p, p ∈ qs → p.b.length ≤ 1073741824) :
    Calls Try.prog 4 #[va, vb] w fun e w' => e = .returned (.bool true) ∧ Kp [] w w' := by
  obtain ⟨i0, hi0, hz0, hz1, hz2⟩ := info_parts Try.infoU8
  have HL := Lib.hid (And.intro hp (And.intro hq (And.intro hpb hqb)))
  have S0 := Held.start w
  have Ha := Lib.hid ha
  have Hb := Lib.hid hb
  obtain ⟨A, ca, rfl, -⟩ := ha.form
  obtain ⟨B, cb, rfl, -⟩ := hb.form
  clear ha hb hp hq hpb hqb
  go_enter Try.func4, Try.ntmps4
  go_wp2_with fail
  refine (new_writer w).mono ?_; rintro e w1 ⟨rfl, hw1, k1⟩
  have S1 := S0.wnew hw1 k1
  clear S0 hw1 k1
  have T0 := St.start S1 (.slice A ps.length ca) (.slice B qs.length cb)
  generalize w.heap.size = q0 at *
  clear S1
  go_wp2_with fail
  generalize w1.heap.size = q1 at *
  generalize q1 + 1 + 1 + 1 = g7 at *
  generalize q1 + 1 + 1 = g6 at *
  generalize q1 + 1 = g5 at *
  obtain ⟨M, hM⟩ : ∃ M, M = max ps.length qs.length := ⟨_, rfl⟩
  go_loopw [8] (fun t wr => ∃ i : Nat, i ≤ M ∧ t = .int .i64 (i : Int) ∧ St w wr g5 g6 g7 q0 q1 (.slice A ps.length ca) (.slice B qs.length cb) (encs ps i) (encs qs i)) (fun t _ => M - (intOf t).toNat)
  case atStart => exact ⟨0, Nat.zero_le _, rfl, T0⟩
  case round =>
    obtain ⟨i, hi, rfl, hst⟩ := hrel
    by_cases hlt : i < M
    · have hor : i < ps.length ∨ (¬ i < ps.length ∧ i < qs.length) := by omega
      have Hst := Lib.hid hst
      have HM := Lib.hid hM
      clear hst hM T0
      go_wp2_with fail
      all_goals
        obtain ⟨wo, rfl⟩ : ∃ wo : World, wo = wr := ⟨_, rfl⟩
        go_loopw [9] (fun t wr => ∃ k : Nat, k ≤ 2 ∧ t = .int .i64 (k : Int) ∧ St w wr g5 g6 g7 q0 q1 (.slice A ps.length ca) (.slice B qs.length cb) (encs ps (if 0 < k then i + 1 else i)) (encs qs (if 1 < k then i + 1 else i))) (fun t _ => 2 - (intOf t).toNat)
        case atStart => exact ⟨0, Nat.zero_le _, rfl, Hst.out⟩
        case round =>
          obtain ⟨k, hk, rfl, hst⟩ := hrel
          by_cases hk2 : k < 2
          · obtain ⟨u, v, A7, L, hv7, h7, S, back⟩ := hst.pick k hk2
            have Back := Lib.hid back
            obtain ⟨Ar, cr, hsel, hin⟩ := sel_in Ha.out Hb.out k
            have hc5 := (S.at_ (l1 := [])).cell k
            have hc6 := (S.at_ (l1 := [_])).cell k
            have hc7 := ((S.at_ (l1 := [_, _])).cell k).trans hv7
            rw [sel_cell _ _ k hk2] at hc5 hc6
            rw [hsel] at hc6
            rw [show sel k (Value.pointer (some ⟨q0, 0, none⟩)) (Value.pointer (some ⟨q1, 0, none⟩)) = .pointer (some ⟨sel k q0 q1, 0, none⟩) from by unfold sel; split <;> rfl] at hc5
            rw [sel_encs ps qs i k hk2] at S
            obtain ⟨rs, hrs⟩ : ∃ rs, rs = sel k ps qs := ⟨_, rfl⟩
            rw [← hrs] at hc6 hin S
            have hrl : rs.length ≤ 1073741824 := by rw [hrs]; exact sel_ind (fun l : List PutD => l.length ≤ 1073741824) k hl.1 hl.2
            have hbl : ∀ j, (encs rs j).length ≤ 1073741824 := fun j => by rw [hrs]; exact sel_ind (fun l : List PutD => (encs l j).length ≤ 1073741824) k (HL.out.1 j) (HL.out.2.1 j)
            have hpl : ∀ p, p ∈ rs → p.b.length ≤ 1073741824 := by rw [hrs]; exact sel_ind (fun l : List PutD => ∀ p, p ∈ l → p.b.length ≤ 1073741824) k HL.out.2.2.1 HL.out.2.2.2
            generalize sel k q0 q1 = q at *
            have Hv7 := Lib.hid hv7
            have Hc5 := Lib.hid (((S.at_ (l1 := [])).cell k).symm.trans hc5)
            have Hc6 := Lib.hid (((S.at_ (l1 := [_])).cell k).symm.trans hc6)
            have Hst2 := Lib.hid hst
            have Hrs := Lib.hid hrs
            clear back hst hsel hrs
            by_cases hir : i < rs.length
            · have hrp : rs[i]? = some rs[i] := List.getElem?_eq_getElem hir
              generalize rs[i] = p at hrp
              obtain ⟨_, _, hv, hnc, hcm, hA, hel⟩ := hin.form
              cases hv
              obtain ⟨ad, rfl⟩ : ∃ ad, Ar = some ad := by cases Ar with
                | none => rw [hA rfl] at hir; simp at hir
                | some ad => exact ⟨ad, rfl⟩
              obtain ⟨cs, Bv, hpa⟩ := hel ad rfl i p hrp
              have hbi := hbl i
              have hb1 := hbl (i + 1)
              rw [encs_succ rs i p hrp] at hb1
              have hps := hpl p (List.mem_of_getElem? hrp)
              generalize hbs : encs rs i = bs at *
              have Hbs := Lib.hid hbs
              have hnn : bs.length + p.b.length + 40 ≤ 140737488355328 := by omega
              have Hn := Lib.hid hnn
              rw [List.length_append] at hb1
              have Hn63 := Lib.hid (show bs.length + p.enc.length ≤ maxLen by unfold maxLen; omega)
              have Hn47 := Lib.hid (show (bs.length + p.enc.length) * 1 ≤ 140737488355328 by omega)
              have Hpa := Lib.hid hpa
              have Hrp := Lib.hid hrp
              clear hel hA hin hpa hrp hbl hpl hbi hb1 hps hnn hbs
              have S' := Lib.hid S
              clear S
              go_wp2_with fail
              have s0 : (fun W => W.cell? ⟨g5, k, none⟩ = some (.pointer (some ⟨q, 0, none⟩)) ∧ W.cell? ⟨g6, k, none⟩ = some (.slice (some ad) rs.length cr) ∧ (∀ j u, cs.toList[j]? = some u → W.cell? ((ad.add (i * 36)).add j) = some u)) wr.drew := ⟨hc5, hc6, (Hpa.out.old S'.out.k).at_⟩
              refine wp_region_lexf [9] [] (fun W => W.cell? ⟨g5, k, none⟩ = some (.pointer (some ⟨q, 0, none⟩)) ∧ W.cell? ⟨g6, k, none⟩ = some (.slice (some ad) rs.length cr) ∧ (∀ j u, cs.toList[j]? = some u → W.cell? ((ad.add (i * 36)).add j) = some u)) (by kernel_rfl) (by kernel_rfl) s0 (fun σ hne f hf hsur => ?_); have Hsur := Lib.hid hsur; clear hsur
              have hfa := fun x => (hf x).1
              have hfb := fun x => (hf x).2.1
              clear hf s0
              go_wp2_with (first
                | (refine lex_qk (.agg cs) rfl rfl (fun W hW => exec_load rfl rfl (run_put hW.2.2 Hpa.out.c.size)) ?_; intro K hK; go_simp; refine hK _ _ ?_; clear hK K)
                | (refine lex_qq Hsur.out rfl rfl rfl ?_; intro K hK; go_big_quiet_op; go_big_quiet_on) | (refine lex_skipk rfl ?_; intro K hK; go_simp; refine hK _ _ ?_; clear hK K) | (refine lex_e rfl rfl ?_; intro K hK; go_step) | (refine lex_nil ?_)
                | (go_at_call 18; go_loud (refine (puts_any q u bs cs p Bv wr.drew Hpa.out.c (show Wr wr q u bs from S'.out.at_ (l1 := [_, _, _])) (rd_old Hpa.out.b S'.out.k.drew) (fun g hg hne => S'.out.old_ne (l1 := [_, _, _]) (Hpa.out.lt g hg hne)) Hn.out).mono ?_); rintro e w2 ⟨v2, u2, rfl, hw2, hs2, r2⟩; have S2 := Lib.hid (S'.out.wturn (l1 := [_, _, _]) hw2 ⟨Kp.of_drew hs2.1, hs2.2⟩); clear hw2 hs2; have s2 := And.intro (((S2.out.at_ (l1 := [])).cell k).trans Hc5.out) (And.intro (((S2.out.at_ (l1 := [_])).cell k).trans Hc6.out) (Hpa.out.old S2.out.k).at_); have hc7' := ((S2.out.at_ (l1 := [_, _])).cell k).trans Hv7.out)
                | (at_builtin; go_loud (refine wpList_app _ rfl (.tmp 64) (.tmp 65) _ rfl 5 i0 _ 1 1 Try.underlying36 hi0 hz0 hz1 hz2 rfl (by decide) v bs.length (bv bs) rfl (S2.out.at_ (l1 := [_, _, _, _])) v2 p.enc.length (bv p.enc) rfl r2 (bv_one _) Hn63.out Hn47.out ?_))
                | ((with_reducible apply And.intro); · (intro hl; first | (exact ls_absurd hl rfl) | assumption)))
              clear hc5 hc6 hc7
              intro v3 w3 o3 g3 a3
              rw [← bv_append] at o3
              have S3 := Lib.hid (S2.out.grow (l1 := [_, _, _, _]) o3 g3 a3)
              clear S2 g3 a3
              obtain ⟨A3, c3, rfl, _, _⟩ := ow_form o3
              have hc7'' := ((S3.out.at_ (l1 := [_, _])).cell k).trans Hv7.out
              have hz7 := (S3.out.at_ (l1 := [_, _])).frozen k
              have hl7 := (S3.out.at_ (l1 := [_, _])).lt
              go_wp2
              have S4 := Lib.hid (S3.out.set (l1 := [_, _]) k (.slice A3 (bs.length + p.enc.length) c3))
              clear S3
              generalize w3.setCell ⟨g7, k, none⟩ (.slice A3 (bs.length + p.enc.length) c3) = w4 at *
              have s4 : (fun W => W.cell? ⟨g5, k, none⟩ = some (.pointer (some ⟨q, 0, none⟩)) ∧ W.cell? ⟨g7, k, none⟩ = some (.slice A3 (bs.length + p.enc.length) c3)) w4.drew := ⟨((S4.out.at_ (l1 := [])).cell k).trans Hc5.out, ((S4.out.at_ (l1 := [_, _])).cell k).trans (by rw [Array.getElem?_setIfInBounds_self_of_lt (by omega)])⟩
              refine wp_region_lexf [6] [] (fun W => W.cell? ⟨g5, k, none⟩ = some (.pointer (some ⟨q, 0, none⟩)) ∧ W.cell? ⟨g7, k, none⟩ = some (.slice A3 (bs.length + p.enc.length) c3)) (by kernel_rfl) (by kernel_rfl) s4 (fun σ hne f hf hsur => ?_); have Hsur := Lib.hid hsur; clear hsur
              have hfa := fun x => (hf x).1
              have hfb := fun x => (hf x).2
              clear hf
              go_wp2_with (first
                | (refine lex_qq Hsur.out rfl rfl rfl ?_; intro K hK; go_big_quiet_op; go_big_quiet_on) | (refine lex_skipk rfl ?_; intro K hK; go_simp; refine hK _ _ ?_; clear hK K) | (refine lex_e rfl rfl ?_; intro K hK; go_step) | (refine lex_nil ?_)
                | (go_at_call 19; go_loud (refine (w_len q u2 (bs ++ p.enc) w4.drew (show Wr w4 q u2 (bs ++ p.enc) from S4.out.at_ (l1 := [_, _, _]))).mono ?_); rintro e w' ⟨rfl, rfl⟩)
                | ((with_reducible apply And.intro); · (intro hl; first | (exact ls_absurd hl rfl) | assumption)))
              go_roundw
              case rel =>
                refine ⟨k + 1, by omega, by go_num, St.step hk2 (Back.out _ u2 (.slice A3 (bs.length + p.enc.length) c3) (bs ++ p.enc) ?_) ?_⟩
                · have S5 := S4.out.kp ((Kp.refl [] _).drew)
                  rw [← List.length_append] at S5
                  rw [← List.length_append]
                  exact S5
                · rw [← Hrs.out, encs_succ rs i p Hrp.out, Hbs.out]
              case measure => simp [intOf]; omega
            · go_wp2_with fail
              go_roundw
              case rel => exact ⟨k + 1, by omega, by go_num, Hst2.out.skip hk2 (by rw [← Hrs.out]; omega)⟩
              case measure => simp [intOf]; omega
          · obtain rfl : k = 2 := by omega
            have Hs2 := Lib.hid hst
            clear hst
            go_wp2_with fail
            go_roundw
            case rel => exact ⟨i + 1, by omega, by go_num, Hs2.out⟩
            case measure => simp [intOf]; omega
    · obtain rfl : i = M := by omega
      have e1 : encs ps i = encs ps ps.length := by unfold encs; rw [List.take_of_length_le (by omega), List.take_of_length_le (Nat.le_refl _)]
      have e2 : encs qs i = encs qs qs.length := by unfold encs; rw [List.take_of_length_le (by omega), List.take_of_length_le (Nat.le_refl _)]
      rw [e1, e2] at hst
      have hb1 := HL.out.1 ps.length
      have hb2 := HL.out.2.1 qs.length
      generalize encs ps ps.length = b0 at *
      generalize encs qs qs.length = b1 at *
      have Hst := Lib.hid hst
      clear hst T0
      have hn1 : ¬ i < ps.length := by omega
      have hn2 : ¬ i < qs.length := by omega
      clear hM
      go_wp2_with fail
      obtain ⟨wo, rfl⟩ : ∃ wo : World, wo = wr := ⟨_, rfl⟩
      go_loopw [12] (fun t wr => ∃ k : Nat, k ≤ 2 ∧ t = .int .i64 (k : Int) ∧ St w wr g5 g6 g7 q0 q1 (.slice A ps.length ca) (.slice B qs.length cb) b0 b1) (fun t _ => 2 - (intOf t).toNat)
      case atStart => exact ⟨0, Nat.zero_le _, rfl, Hst.out⟩
      case round =>
        obtain ⟨k, hk, rfl, hst⟩ := hrel
        by_cases hk2 : k < 2
        · obtain ⟨u, v, A7, L, hv7, h7, S, back⟩ := hst.pick k hk2
          have Back := Lib.hid back
          have hc5 := (S.at_ (l1 := [])).cell k
          rw [sel_cell _ _ k hk2] at hc5
          rw [show sel k (Value.pointer (some ⟨q0, 0, none⟩)) (Value.pointer (some ⟨q1, 0, none⟩)) = .pointer (some ⟨sel k q0 q1, 0, none⟩) from by unfold sel; split <;> rfl] at hc5
          have hbl : (sel k b0 b1).length ≤ 1073741824 := sel_ind (fun l : List UInt8 => l.length ≤ 1073741824) k hb1 hb2
          have hbk : sel k (sel k b0 b1) b0 = b0 ∧ sel k b1 (sel k b0 b1) = b1 := by
            have : k = 0 ∨ k = 1 := by omega
            rcases this with rfl | rfl <;> simp [sel]
          generalize sel k q0 q1 = q at *
          obtain ⟨b, hb⟩ : ∃ b, b = sel k b0 b1 := ⟨_, rfl⟩
          rw [← hb] at S hbl
          have Hb3 := Lib.hid hb
          have Hc5 := Lib.hid (((S.at_ (l1 := [])).cell k).symm.trans hc5)
          have Hv7 := Lib.hid hv7
          have S' := Lib.hid S
          have Hbk := Lib.hid hbk
          clear S back hst hv7 hb hbk
          go_wp2_with fail
          refine wp_region_lexf [3, 7] [] (fun W => W.cell? ⟨g5, k, none⟩ = some (.pointer (some ⟨q, 0, none⟩))) (by kernel_rfl) (by kernel_rfl) hc5 (fun σ hne f hf hsur => ?_); have Hsur := Lib.hid hsur; clear hsur
          go_wp2_with (first
            | (refine lex_qq Hsur.out rfl rfl rfl ?_; intro K hK; go_big_quiet_op; go_big_quiet_on) | (refine lex_skipk rfl ?_; intro K hK; go_simp; refine hK _ _ ?_; clear hK K) | (refine lex_e rfl rfl ?_; intro K hK; go_step) | (refine lex_nil ?_)
            | (go_at_call 15; refine (w_bytes q u b w1 (S1.out.at_ (l1 := [_, _, _, _])) (by omega)).mono ?_; rintro e w2 ⟨y, rfl, o2, k2, f2⟩; obtain ⟨Ay, cy, rfl, _, _⟩ := ow_form o2; have S2 := Lib.hid (S1.out.rownew o2 k2 f2); have d2 := ((S2.out.at_ (l1 := [_, _])).cell k).trans Hc5.out; have e2 := ((S2.out.at_ (l1 := [_, _, _, _])).cell k).trans Hv7.out)
            | (go_at_call 15; refine (w_bytes q u b wr.drew (show Wr wr q u b from S'.out.at_ (l1 := [_, _, _])) (by omega)).mono ?_; rintro e w1 ⟨x, rfl, o1, k1, f1⟩; obtain ⟨Ax, cx, rfl, _, _⟩ := ow_form o1; have S1 := Lib.hid (S'.out.rownew o1 (Kp.of_drew k1) f1); have d1 := ((S1.out.at_ (l1 := [_])).cell k).trans Hc5.out)
            | ((with_reducible apply And.intro); · (intro hl; first | (exact ls_absurd hl rfl) | assumption)))
          go_wp2_with (first
            | (go_at_call 16; go_loud (refine (same_true _ _ b _ _ w2 (Rd.of_own (S2.out.at_ (l1 := [_]))) (Rd.of_own (S2.out.at_ (l1 := [_, _, _, _, _, _])))).mono ?_); rintro e w' ⟨rfl, rfl⟩)
            | (go_at_call 20; go_loud (refine (spoil_any _ b.length _ w2 (S2.out.at_ (l1 := [_])) (by omega)).mono ?_); rintro e w3 ⟨rfl, o3, k3⟩; have S3 := Lib.hid (S2.out.rowset (l1 := [_]) o3 k3)))
          go_loopw [13, 15] (fun x t wr => ∃ j : Nat, j ≤ 20 ∧ t = .int .i64 (j : Int) ∧ ∃ xs, Held w wr (rowR 5 1 (.slice Ay b.length cy) b.length (bv b) :: rowR 5 1 x (b.length + j) xs ::
            blkR g5 44 #[.pointer (some ⟨q0, 0, none⟩), .pointer (some ⟨q1, 0, none⟩)] :: blkR g6 45 #[.slice A ps.length ca, .slice B qs.length cb] :: blkR g7 46 A7 ::
            wrR q u b :: rowR 5 1 v b.length (bv b) :: L)) (fun _ t _ => 20 - (intOf t).toNat)
          case atStart => exact ⟨0, Nat.zero_le _, rfl, _, S3.out⟩
          case round =>
            obtain ⟨j, hj, rfl, xs, hS⟩ := hrel
            by_cases hj2 : j < 20
            · have S5 := Lib.hid hS
              have h63 := Lib.hid (show b.length + j + 1 ≤ maxLen by unfold maxLen; omega)
              have h47 := Lib.hid (show (b.length + j + 1) * 1 ≤ 140737488355328 by omega)
              clear hS
              go_wp2_with (at_builtin; go_loud (refine wpList_app _ rfl (.tmp 105) (.tmp 106) _ rfl 5 i0 _ 1 1 Try.underlying36 hi0 hz0 hz1 hz2 rfl (by decide) _ (b.length + j) xs rfl (ow_kp (S5.out.at_ (l1 := [_])) ((Kp.refl [] _).alloc _) (by simp)) (.slice (some ⟨wr.heap.size, 0, none⟩) 1 1) 1 (bv [99]) rfl (rd_new _ _ _) (bv_one _) h63.out h47.out ?_))
              intro v' w4 hown4 hg4 hat4
              have S6 := (S5.out.alloc _).grow (l1 := [_]) hown4 hg4 (by rw [World.size_alloc]; exact hat4)
              go_wp2
              go_roundw
              case rel => exact ⟨j + 1, by omega, by go_num, _, S6⟩
              case measure => simp [intOf]; omega
            · obtain rfl : j = 20 := by omega
              have ox := hS.at_ (l1 := [_])
              obtain ⟨Ax2, cx2, rfl, _, _⟩ := ow_form ox
              have S5 := Lib.hid hS
              have d5 : (fun W => W.cell? ⟨g5, k, none⟩ = some (.pointer (some ⟨q, 0, none⟩)) ∧ W.cell? ⟨g7, k, none⟩ = some v) wr.drew := ⟨((hS.at_ (l1 := [_, _])).cell k).trans Hc5.out, ((hS.at_ (l1 := [_, _, _, _])).cell k).trans Hv7.out⟩
              clear hS ox
              go_wp2_with fail
              have hlen : decide (((b.length + 20 : Nat) : Int) < 20) = false := by rw [decide_eq_false_iff_not]; omega
              refine wp_region_lexf [8, 15, 19] [] (fun W => W.cell? ⟨g5, k, none⟩ = some (.pointer (some ⟨q, 0, none⟩)) ∧ W.cell? ⟨g7, k, none⟩ = some v) (by kernel_rfl) (by kernel_rfl) d5 (fun σ hne f hf hsur => ?_); have Hsur := Lib.hid hsur; clear hsur
              have hfa := fun x => (hf x).1
              have hfb := fun x => (hf x).2
              clear hf
              go_wp2_with (first
                | (refine lex_qq Hsur.out rfl rfl rfl ?_; intro K hK; go_big_quiet_op; go_big_quiet_on) | (refine lex_skipk rfl ?_; intro K hK; go_simp; refine hK _ _ ?_; clear hK K) | (refine lex_e rfl rfl ?_; intro K hK; go_step) | (refine lex_nil ?_)
                | (go_at_call 16; refine (same_true _ _ b _ _ w5 (Rd.of_own (S6.out.at_ (l1 := []))) (Rd.of_own (S6.out.at_ (l1 := [_, _, _, _, _, _, _])))).mono ?_; rintro e w' ⟨rfl, rfl⟩)
                | (go_at_call 16; go_loud (refine (same_true _ _ b _ _ wr.drew (Rd.of_own (S5.out.at_ (l1 := []))) (Rd.of_own (S5.out.at_ (l1 := [_, _, _, _, _, _])))).mono ?_); rintro e w' ⟨rfl, rfl⟩)
                | (go_at_call 15; go_loud (refine (w_bytes q u b wr.drew (show Wr wr q u b from S5.out.at_ (l1 := [_, _, _, _, _])) (by omega)).mono ?_); rintro e w5 ⟨z, rfl, o5, k5, f5⟩; obtain ⟨Az, cz, rfl, _, _⟩ := ow_form o5; have S6 := Lib.hid (S5.out.rownew o5 (Kp.of_drew k5) f5); have d6 := And.intro (((S6.out.at_ (l1 := [_, _, _])).cell k).trans Hc5.out) (((S6.out.at_ (l1 := [_, _, _, _, _])).cell k).trans Hv7.out))
                | ((with_reducible apply And.intro); · (intro hl; first | (exact ls_absurd hl rfl) | assumption)))
              go_roundw
              case rel =>
                refine ⟨k + 1, by omega, by go_num, ?_⟩
                have S7 := S6.out.drop.drop.drop
                rw [← set_same A7 k v Hv7.out] at S7
                have h := Back.out _ u v b S7
                rw [Hb3.out, Hbk.out.1, Hbk.out.2] at h
                exact h
              case measure => simp [intOf]; omega
        · have hS := hst.choose_spec.choose_spec.choose_spec.choose_spec.k
          go_wp2_with fail
          refine (known_true wr).mono ?_; rintro e w9 ⟨rfl, k9⟩
          have k10 := hS.trans k9 (by simp)
          clear hS k9 hst
          go_wp2
          go_ret
          exact ⟨rfl, k10⟩
end Go.Proofs.Ytdcmncmpoinlaaa
