/- WireReads: the walk. -/
import Derived.Test.YtdcmncmpoinlaaaWireBL
import Derived.Test.YtdcmncmpoinlaaaLexs
namespace Go.Proofs.Ytdcmncmpoinlaaa
open Go.RowKit

/-- A slice of Asks. -/
structure AsksIn (w : World) (v : Value) (qs : List AskD) : Prop where
  form : ∃ A c, v = .slice A qs.length c ∧ qs.length ≤ c ∧ c ≤ maxLen ∧ (A = none → qs = []) ∧ ∀ ad, A = some ad → ∀ (i : Nat) q, qs[i]? = some q → ∀ (j : Nat) u, q.cells.toList[j]? = some u → w.cell? ((ad.add (i * 3)).add j) = some u
theorem AsksIn.old {w w' : World} {v : Value} {qs : List AskD} (h : AsksIn w v qs) (hk : Kp [] w w') : AsksIn w' v qs := by
  obtain ⟨A, c, h1, h2, h3, h4, h5⟩ := h.form
  exact ⟨A, c, h1, h2, h3, h4, fun ad hA i q hq j u hu => cell_old (h5 ad hA i q hq j u hu) hk⟩
theorem Try.infoAsk : (Try.prog.info? 63).map (·.size) = some 3 := by kernel_rfl
theorem run_ask {W : World} {ad : Addr} {q : AskD} (hc : ∀ (j : Nat) u, q.cells.toList[j]? = some u → W.cell? (ad.add j) = some u) :
    (Instr.loadAt 63 (.pointer (some ad))).run Try.prog W = .ok (.agg q.cells) W :=
  run_loadAt_agg W ad _ q.cells.toList _ hc Try.underlying63 rfl (by rw [Try.infoAsk]; rfl)

set_option maxRecDepth 100000 in
set_option maxHeartbeats 2000000 in
theorem reads_true (bs : List UInt8) (qs : List AskD) (vb vs : Value) (w : World) (hb : Rd w 1 vb bs.length (bv bs)) (hs : AsksIn w vs qs) (hl : bs.length + 9 ≤ 140737488355328) :
    Calls Try.prog 5 #[vb, vs] w fun e w' => e = .returned (.bool true) ∧ Kp [] w w' := by
  obtain ⟨B, cb, rfl⟩ := rd_form hb
  obtain ⟨A, c, rfl, hqc, hcm, hA, hcells⟩ := hs.form
  have Hs := Lib.hid hs
  have Hb := Lib.hid hb
  have hxl : ∀ g, (Value.slice B bs.length cb).ownBlock = some g → bs ≠ [] → g < w.heap.size := fun g hg hne => rd_lt hb hg (fun e => hne (by cases bs with | nil => rfl | cons b bs => cases e))
  have Hxl := Lib.hid hxl
  clear hb hs hxl hA hcells
  have hq63 : qs.length ≤ 9223372036854775807 := by unfold maxLen at hcm; omega
  go_enter Try.func5, Try.ntmps5
  go_wp2_with fail
  refine (lent_any _ bs bs.length w Hb.out (by omega)).mono ?_
  rintro e w1 ⟨g, cm, rfl, o1, k1, hg⟩
  go_wp2_with fail
  refine (new_reader _ bs w1 (Rd.of_own (rd_lent o1 rfl)) (by omega)).mono ?_
  rintro e w2 ⟨p, v, rfl, hp, r2, hv, k2⟩
  have gl := ow_lt o1 (g := g) rfl
  have o2 := ow_kp o1 k2 (by simp)
  have k12 := k1.trans k2 (by simp)
  have b2 : Blk (w2.alloc (.cells #[.slice B bs.length cb, .int .i64 0] 60)) w2.heap.size 60 #[.slice B bs.length cb, .int .i64 0] := Blk.new _ _ _
  have k3 : Kp [] w2 (w2.alloc (.cells #[.slice B bs.length cb, .int .i64 0] 60)) := (Kp.refl [] w2).alloc _
  have Hb3 := Lib.hid ((rd_old Hb.out k12).alloc (.cells #[.slice B bs.length cb, .int .i64 0] 60))
  have o3 := ow_kp o2 k3 (by simp)
  go_wp2_with (first
    | (go_at_call 22; refine (left_any g cm bs.length _ bs _ o3 Hb3.out (by omega)).mono ?_; rintro e w' ⟨rfl, rfl⟩)
    | (go_at_call 20; refine (spoil_any _ bs.length _ _ (rd_lent o3 rfl) (by omega)).mono ?_; rintro e w4 ⟨rfl, o4, k4⟩))
  have hpl := r2.blk.lt
  have R4 : RD w4 p v 0 w2.heap.size (.slice B bs.length cb) 0 bs := by
    have hsz := k1.size
    have r3 := r2.kp' k3
    have hgm : ∀ g', g' ∈ (Value.slice (some ⟨g, 0, none⟩) bs.length cm).ownBlock.toList → g' = g := fun g' hg' => by simpa [Value.ownBlock, eq_comm] using hg'
    refine ⟨r3.kp k4 (fun hm => ?_) (fun g' hg' hm => ?_), ⟨b2.kp k4 (fun hm => ?_), Hb3.out.kpl k4 (fun g' hg' hne hm => ?_), Nat.zero_le _, by omega, fun hne e => ?_⟩, by omega, fun e => ?_, fun hne e => ?_⟩
    · have := hgm _ hm; omega
    · have := hgm _ hm; have := hv _ hg'; omega
    · have := hgm _ hm; have := k2.size; omega
    · have := hgm _ hm; have := Hxl.out _ hg' (bv_ne hne); omega
    · have := Hxl.out _ e hne; have := k12.size; omega
    · have := r2.vlt _ e; omega
    · have := Hxl.out _ e hne; omega
  have K4 : Kp [] w w4 := (k12.trans k3 (by simp)).trans k4 (fun g' hg' => .inr (by
    have : g' = g := by simpa [Value.ownBlock, eq_comm] using hg'
    omega))
  have hd0 : w.heap.size ≤ w2.heap.size := k12.size
  have hp0 : w.heap.size ≤ p := by have := k1.size; omega
  generalize w2.heap.size = d at *
  clear r2 o1 o2 o3 o4 b2 k1 k2 k3 k4 k12 hv hp hpl
  go_loopw [8] (fun t wr => ∃ i : Nat, i ≤ qs.length ∧ t = .int .i64 (i : Int) ∧ Kp [] w wr ∧ ∃ a, RD wr p v a d (.slice B bs.length cb) a bs) (fun t _ => qs.length - (intOf t).toNat)
  case atStart => exact ⟨0, Nat.zero_le _, rfl, K4, 0, R4⟩
  case round =>
    obtain ⟨i, hi, rfl, hk, a, hR⟩ := hrel
    by_cases hlt : i < qs.length
    · obtain ⟨q, hq⟩ : ∃ q, qs[i]? = some q := ⟨_, List.getElem?_eq_getElem hlt⟩
      obtain ⟨A', c', hA', _, _, hAn, hcells⟩ := (Hs.out.old hk).form
      cases hA'
      obtain ⟨ad, rfl⟩ : ∃ ad, A = some ad := by cases A with
        | none => rw [hAn rfl] at hlt; simp at hlt
        | some ad => exact ⟨ad, rfl⟩
      have hc0 := hcells ad rfl i q hq
      clear hcells hAn
      have HR := Lib.hid hR
      have HK := Lib.hid hk
      have Hq := Lib.hid hq
      have hcl2 : ∀ w5, Kp [p, d] wr.drew w5 → ∀ (j : Nat) u, q.cells.toList[j]? = some u → w5.cell? ((ad.add (i * 3)).add j) = some u := fun w5 k5 => by
        have h1 := ((HK.out.drew).trans k5 (fun g hg => by simp at hg; rcases hg with rfl | rfl <;> right <;> omega) : Kp [] w w5)
        obtain ⟨A', c', hA', _, _, _, hcells⟩ := (Hs.out.old h1).form
        cases hA'
        exact hcells ad rfl i q Hq.out
      have Hcells := Lib.hid hcl2
      clear hR hk hq K4 R4 hcl2
      obtain ⟨a', ha'⟩ : ∃ a', a' = q.next bs a := ⟨_, rfl⟩
      have Ha' := Lib.hid ha'
      clear ha'
      have hG := Lib.hid (show Grows (fun m W => (∀ (j : Nat) u, q.cells.toList[j]? = some u → W.cell? ((ad.add (i * 3)).add j) = some u) ∧ (7 ≤ m → W.cell? ⟨d, 1, none⟩ = some (.int .i64 (a' : Int)))) from fun m m' W h hW => ⟨hW.1, fun h2 => hW.2 (by omega)⟩)
      go_wp2_with fail
      have s0 : (fun (m : Nat) (W : World) => (∀ (j : Nat) u, q.cells.toList[j]? = some u → W.cell? ((ad.add (i * 3)).add j) = some u) ∧ (7 ≤ m → W.cell? ⟨d, 1, none⟩ = some (.int .i64 (a' : Int)))) 0 wr.drew := ⟨hc0, fun h => by omega⟩
      refine wp_region_lexs [6, 10, 19, 21] [] _ hG.out (by kernel_rfl) (by kernel_rfl) s0 (fun σ hne f hf hsur => ?_); have Hsur := Lib.hid hsur; clear hsur
      have hfb := fun x => (hf 7 x).2 (by decide)
      clear hf s0
      go_wp2_with (first
        | (refine lexs_qk (.agg q.cells) 0 hG.out rfl (by kernel_rfl) rfl (fun W hW => exec_load rfl rfl (run_ask hW.1)) ?_; intro K hK; go_simp; refine hK _ _ ?_; clear hK K)
        | (refine lexs_qq (f := f 7) 7 hG.out (Hsur.out 7) rfl (by decide +kernel) rfl rfl ?_; intro K hK; go_big_quiet_op; go_big_quiet_on) | (refine lexs_qq (f := f 0) 0 hG.out (Hsur.out 0) rfl (by decide +kernel) rfl rfl ?_; intro K hK; go_big_quiet_op; go_big_quiet_on) | (refine lexs_skipk rfl rfl ?_; intro K hK; go_simp; refine hK _ _ ?_; clear hK K) | (refine lexs_skipe rfl rfl ?_; intro K hK; go_simp; refine hK _ _ ?_; clear hK K) | (refine lexs_e rfl rfl ?_; intro K hK; go_step) | (refine lexs_nil ?_)
        | (go_at_call 23; go_loud (refine (asks_any p v a d _ bs q wr.drew (HR.out.kp0 (Kp.drew' 1)) hl).mono ?_); rintro e w5 ⟨rfl, k5, r5⟩; rw [← Ha'.out] at r5; have s5 : ∀ m, (fun (m : Nat) (W : World) => (∀ (j : Nat) u, q.cells.toList[j]? = some u → W.cell? ((ad.add (i * 3)).add j) = some u) ∧ (7 ≤ m → W.cell? ⟨d, 1, none⟩ = some (.int .i64 (a' : Int)))) m w5 := fun _ => ⟨(Hcells.out w5 k5), fun _ => by simpa using r5.dr.blk.cell 1⟩; have hne7 : Nonempty (σ 7) := (Hsur.out 7 w5 (s5 7)).elim fun u _ => ⟨u⟩; obtain ⟨m, hm⟩ : ∃ m, m = bs.length - a' := ⟨_, rfl⟩; have hml : bs.length = a' + m := by {have := r5.rr.le; omega}; have Hml := Lib.hid hml; clear hm hml)
        | (go_at_call 24; go_loud (refine (r_place p v a' bs _ r5.rr).mono ?_); rintro e w' ⟨rfl, rfl⟩)
        | (go_at_call 26; go_loud (refine (d_leftn d _ a' bs m Hml.out _ r6.dr).mono ?_); rintro e w7 ⟨rfl, n7, hw7⟩; have k7 : Kp [] w6 w7 := hw7 ▸ Kp.drew' n7; have r7 := r6.kp0 k7; have s7 : ∀ m, (fun (m : Nat) (W : World) => (∀ (j : Nat) u, q.cells.toList[j]? = some u → W.cell? ((ad.add (i * 3)).add j) = some u) ∧ (7 ≤ m → W.cell? ⟨d, 1, none⟩ = some (.int .i64 (a' : Int)))) m w7 := (fun m => ⟨fun j u hu => cell_old ((s6 m).1 j u hu) k7, fun hm => cell_old ((s6 m).2 hm) k7⟩); clear hw7)
        | (go_at_call 25; go_loud (refine (r_leftn p v a' bs m Hml.out _ r5.rr).mono ?_); rintro e w6 ⟨rfl, n6, hw6⟩; have k6 : Kp [] w5 w6 := hw6 ▸ Kp.drew' n6; have r6 := r5.kp0 k6; have s6 : ∀ m, (fun (m : Nat) (W : World) => (∀ (j : Nat) u, q.cells.toList[j]? = some u → W.cell? ((ad.add (i * 3)).add j) = some u) ∧ (7 ≤ m → W.cell? ⟨d, 1, none⟩ = some (.int .i64 (a' : Int)))) m w6 := (fun m => ⟨fun j u hu => cell_old ((s5 m).1 j u hu) k6, fun hm => cell_old ((s5 m).2 hm) k6⟩); clear hw6)
        | ((with_reducible apply And.intro); · (intro hl; first | (exact ls_absurd hl rfl) | (first | exact s5 _ | exact s6 _ | exact s7 _))))
      go_roundw
      case rel => exact ⟨i + 1, by omega, by go_num, ((HK.out.drew.trans k5 (fun g hg => by simp at hg; rcases hg with rfl | rfl <;> right <;> omega)).trans k6 (by simp)).trans k7 (by simp), a', r7⟩
      case measure => simp [intOf]; omega
    · obtain rfl : i = qs.length := by omega
      clear hR K4 R4
      go_wp2_with fail
      refine (known_true wr).mono ?_
      rintro e w9 ⟨rfl, k9⟩
      have k10 := hk.trans k9 (by simp)
      go_wp2
      go_ret
      exact ⟨rfl, k10⟩
end Go.Proofs.Ytdcmncmpoinlaaa
