/- Several texts in one: Join, SigAC, SigAD, InvS, Ops, Make, SigAE, SigAF, SigAG, SigAM, SigAN, SigAO, SigAH, SigAR. -/
import Derived.Great.BuildSlice
import Derived.Test.YtapboamjpilckaaDoorP5
set_option linter.unusedVariables false
set_option linter.unusedSimpArgs false
set_option maxRecDepth 100000
set_option maxHeartbeats 8000000
namespace Go.Proofs.YtapboamjpilckaaDoor
/- Held lists: pull things to the front by number. -/
section
theorem Held.pull {w0 w : World} {L : List Res} (S : Held w0 w L) (i : Nat) {r : Res} (h : L[i]? = some r) : Held w0 w (r :: L.eraseIdx i) := by
 refine S.perm ?_
 clear S
 induction L generalizing i with
 | nil => simp at h
 | cons x L ih =>
  rcases i with _ | i
  · simp at h; subst h; exact List.Perm.refl _
  · exact ((ih i (by simpa using h)).cons x).trans (List.Perm.swap _ _ _)
theorem Held.back {w0 w1 w : World} {L : List Res} (k : Kp [] w0 w1) (h : Held w1 w L) : Held w0 w L :=
 ⟨k.trans h.k (by simp), h.ok, fun r hr b hb => Nat.le_trans k.size (h.base r hr b hb), h.apart⟩
theorem Held.some_of {w0 w : World} {L L' : List Res} (S : Held w0 w L) (h : L'.Sublist L) : Held w0 w L' :=
 ⟨S.k, fun r hr => S.ok r (h.subset hr), fun r hr => S.base r (h.subset hr), List.Pairwise.sublist h S.apart⟩
end
/- sign.Right: its inner loop. -/
section
open Go.RowKit
def dsRt2 : List Nat := [10, 11, 12, 30, 31, 32, 33, 34, 35, 36, 37, 38, 39, 40, 41, 42, 43, 44, 45, 46, 47, 48, 49, 50, 51, 52, 53, 54, 55, 56, 57, 58, 59]
def stepF (base : List UInt8 → Nat) (z : Int) (h : List UInt8) (k : KeyD) (l : List SigD) : List UInt8 → Nat := fun t => base t + if t = k.1 then cntOne z h k l else 0
theorem stepF_nil (base : List UInt8 → Nat) (z : Int) (h : List UInt8) (k : KeyD) : stepF base z h k [] = base := by
 funext t; unfold stepF cntOne; simp
theorem stepF_no {base : List UInt8 → Nat} {z : Int} {h : List UInt8} {k : KeyD} {l : List SigD} {s : SigD} (hm : matchS z h k s = false) : stepF base z h k (l ++ [s]) = stepF base z h k l := by
 funext t; unfold stepF; rw [cntOne_snoc, hm]; simp
theorem stepF_yes {base : List UInt8 → Nat} {z : Int} {h : List UInt8} {k : KeyD} {l : List SigD} {s : SigD} (hm : matchS z h k s = true) : (fun t => if t = k.1 then stepF base z h k l k.1 + 1 else stepF base z h k l t) = stepF base z h k (l ++ [s]) := by
 funext t; unfold stepF; rw [cntOne_snoc, hm]
 by_cases e : t = k.1
 · subst e; simp; omega
 · simp [e]
def dsRt3b : List Nat := [10, 11, 12, 32, 33, 34, 35, 36, 37, 38, 39, 40, 41, 42, 43, 44, 45, 46, 47, 48, 49, 50, 51, 52, 53, 54, 55, 56, 57, 58]
def upF (f : List UInt8 → Nat) (m : Bool) (n : List UInt8) : List UInt8 → Nat := if m then (fun t => if t = n then f n + 1 else f t) else f
theorem match_no {z : Int} {h : List UInt8} {k : KeyD} {s : SigD} (e : (s.1 == k.1) = false) : matchS z h k s = false := by unfold matchS; rw [e, Bool.false_and]
theorem match_bad {z : Int} {h : List UInt8} {k : KeyD} {s : SigD} (e : sumOk z k.1 k.2 = false) : matchS z h k s = false := by unfold matchS; rw [e, Bool.false_and, Bool.and_false]
theorem match_is {z : Int} {h : List UInt8} {k : KeyD} {s : SigD} (e : (s.1 == k.1) = true) (o : sumOk z k.1 k.2 = true) : matchS z h k s = (sumV z h k.1 k.2 == s.2) := by unfold matchS; rw [e, o, Bool.true_and, Bool.true_and]
theorem srt_b3 {Q : Exit → Act → World → Prop} {a : Act} {w0 w : World} (gM gN gK m : Nat) (hm : m < maxLen) (f : List UInt8 → Nat) (z : Int) (hz : -9223372036854775808 ≤ z ∧ z ≤ 9223372036854775807) (h : List UInt8) (hh : h.length = 32) (v0 : Value) (ad : Addr) (n c : Nat) (j : Nat) (hlt : j < n) (s : SigD) (hsk : s.2.length = 32) (hc : ∀ V, Kp [] w0 V → ∀ i u, (sgL s)[i]? = some u → V.cell? ((ad.add (j * 33)).add i) = some u) (k : KeyD) (hf : f k.1 < 4611686018427387904) (nm : ByteArray) (hnl : nm.toList = k.1) (hnd : nm.data.toList = k.1) (hnz : nm.size ≤ maxLen) (Ak : Option Addr) (ck : Nat) (LDw : LD w0) (L : List Res)
 (hsz : a.tmps.size = 80) (o2 : Sl a 2 (.pointer (some ⟨gN, 0, none⟩))) (o6 : Sl a 6 (.map (some gM))) (o8 : Sl a 8 (.pointer (some ⟨gK, 0, none⟩))) (o28 : Sl a 28 (.slice (some ad) n c)) (o30 : Sl a 30 (.int .i64 ((j : Nat) : Int))) (hkr : Rd w0 1 (.slice Ak k.2.length ck) k.2.length (bv k.2))
 (S : Held w0 w (cntR gM m f :: blkR gN 36 (ntA z h v0) :: blkR gK 42 #[.string nm, .slice Ak k.2.length ck] :: L))
 (hend : ∀ (e : Exit) (a' : Act) (W : World) (m2 : Nat), (e = .normal ∨ e = .exit 3) → Same a a' dsRt3b → m2 ≤ m + 1 → Held w0 W (cntR gM m2 (upF f (matchS z h k s) k.1) :: blkR gN 36 (ntA z h v0) :: blkR gK 42 #[.string nm, .slice Ak k.2.length ck] :: L) → Q e a' W) :
 (blockOf 3 Tryd.f27).wp Tryd.prog Q a w := by
 (conv => arg 2; whnf)
 obtain ⟨ns, hns, hnsl, hnsz, hnsd⟩ := str_of s.1
 refine wp_seq (srt_r10 w0 ad j n c hlt s hsk (hc _ S.k) _ S hsz o28 o30 (fun a3 w3 hs3 h3 => ?_))
 obtain ⟨g, o10, S⟩ := h3
 have hz3 := hs3.size.trans hsz
 have o2 := hs3.k o2; have o6 := hs3.k o6; have o8 := hs3.k o8
 have T := hs3
 have S := S.perm (show List.Perm _ (blkR g 81 (sgA s) :: blkR gK 42 #[.string nm, .slice Ak k.2.length ck] :: cntR gM m f :: blkR gN 36 (ntA z h v0) :: L) from List.Perm.cons _ ((List.perm_append_comm (l₁ := [_, _]) (l₂ := [_])).append_right L))
 refine wp_seq (wp_seq (srt_r11 w0 g gK s ns nm _ hns.out (!(s.1 == k.1)) (by rw [hnsl.out, hnl]) _ S hz3 o8 o10 (fun a4 hs4 o38 => ?_)))
 have hz4 := hs4.size.trans hz3; have o2 := hs4.k o2; have o6 := hs4.k o6; have o8 := hs4.k o8; have o10 := hs4.k o10
 have T := T.trans hs4
 cases hn : (s.1 == k.1)
 · refine wp_cond_true ((o38.eval (by rw [hz4]; decide)).trans (by rw [hn]; rfl)) (wp_exit ?_)
   have S := S.perm (show List.Perm _ (cntR gM m f :: blkR gN 36 (ntA z h v0) :: blkR gK 42 #[.string nm, .slice Ak k.2.length ck] :: blkR g 81 (sgA s) :: L) from ((List.perm_append_comm (l₁ := [_, _]) (l₂ := [_, _])).trans ((List.Perm.cons _ (List.Perm.cons _ (List.Perm.swap _ _ _))))).append_right L)
   have e : upF f (matchS z h k s) k.1 = f := by rw [match_no hn]; rfl
   rw [← e] at S
   exact hend _ _ _ m (.inr rfl) (T.more (by decide +kernel)) (by omega) (S.some_of (List.Sublist.append_left (List.sublist_append_right [_] _) [_, _, _]))
 · refine wp_cond_false ((o38.eval (by rw [hz4]; decide)).trans (by rw [hn]; rfl)) (wp_skip ?_)
   have S := S.perm (show List.Perm _ (blkR gN 36 (ntA z h v0) :: blkR gK 42 #[.string nm, .slice Ak k.2.length ck] :: blkR g 81 (sgA s) :: cntR gM m f :: L) from ((List.perm_append_comm (l₁ := [_, _, _]) (l₂ := [_])).trans (List.Perm.cons _ (List.Perm.swap _ _ _))).append_right L)
   obtain ⟨se, hse⟩ : ∃ se : Int, se = if sumOk z nm.data.toList k.2 then 0 else 2 := ⟨_, rfl⟩
   refine wp_seq (srt_r12 w0 gN gK z h hh _ _ _ (sumV z h nm.data.toList k.2) (sumV_length ..) se _ S (fun V SV => hse ▸ ssm_any z hz h hh nm (by unfold maxLen at hnz; omega) Ak ck k.2 V (LDw.kp SV.k) (rd_old hkr SV.k)) hz4 o2 o8 (fun a5 w5 hs5 o12 h5 => ?_))
   obtain ⟨gS, o11, S⟩ := h5
   have hz5 := hs5.size.trans hz4; have o6 := hs5.k o6; have o8 := hs5.k o8; have o10 := hs5.k o10
   have T := T.trans hs5
   rw [hnd] at S hse
   have S := S.perm (show List.Perm _ (blkR gS 25 (hashA (sumV z h k.1 k.2)) :: blkR g 81 (sgA s) :: cntR gM m f :: blkR gN 36 (ntA z h v0) :: blkR gK 42 #[.string nm, .slice Ak k.2.length ck] :: L) from List.Perm.cons _ ((List.perm_append_comm (l₁ := [_, _]) (l₂ := [_, _])).append_right L))
   cases ho : sumOk z k.1 k.2
   · rw [ho] at hse
     refine wp_seq (srt_r13N se (by rw [hse]; rfl) hz5 o12 (fun a6 hs6 o53 => ?_))
     have hz6 := hs6.size.trans hz5
     have T := T.trans hs6
     refine wp_cond_false ((o53.eval (by rw [hz6]; decide)).trans rfl) (wp_skip ?_)
     have S := S.perm (show List.Perm _ (cntR gM m f :: blkR gN 36 (ntA z h v0) :: blkR gK 42 #[.string nm, .slice Ak k.2.length ck] :: blkR gS 25 (hashA (sumV z h k.1 k.2)) :: blkR g 81 (sgA s) :: L) from (List.perm_append_comm (l₁ := [_, _]) (l₂ := [_, _, _])).append_right L)
     have e : upF f (matchS z h k s) k.1 = f := by rw [match_bad ho]; rfl
     rw [← e] at S
     exact hend _ _ _ m (.inl rfl) (T.more (by decide +kernel)) (by omega) (S.some_of (List.Sublist.append_left (List.sublist_append_right [_, _] _) [_, _, _]))
   · rw [ho] at hse
     obtain rfl : se = 0 := hse
     refine wp_seq (srt_r13Y w0 gS g _ (sumV_length ..) s hsk _ S hz5 o12 o11 o10 (fun a6 w6 hs6 o53 S => ?_))
     have hz6 := hs6.size.trans hz5; have o6 := hs6.k o6; have o8 := hs6.k o8
     have T := T.trans hs6
     cases hv : (sumV z h k.1 k.2 == s.2)
     · refine wp_cond_false ((o53.eval (by rw [hz6]; decide)).trans (by rw [hv])) (wp_skip ?_)
       have S := S.perm (show List.Perm _ (cntR gM m f :: blkR gN 36 (ntA z h v0) :: blkR gK 42 #[.string nm, .slice Ak k.2.length ck] :: blkR gS 25 (hashA (sumV z h k.1 k.2)) :: blkR g 81 (sgA s) :: L) from (List.perm_append_comm (l₁ := [_, _]) (l₂ := [_, _, _])).append_right L)
       have e : upF f (matchS z h k s) k.1 = f := by rw [match_is hn ho, hv]; rfl
       rw [← e] at S
       exact hend _ _ _ m (.inl rfl) (T.more (by decide +kernel)) (by omega) (S.some_of (List.Sublist.append_left (List.sublist_append_right [_, _] _) [_, _, _]))
     · refine wp_cond_true ((o53.eval (by rw [hz6]; decide)).trans (by rw [hv])) ?_
       have S := S.perm (show List.Perm _ (cntR gM m f :: blkR gK 42 #[.string nm, .slice Ak k.2.length ck] :: blkR gN 36 (ntA z h v0) :: blkR gS 25 (hashA (sumV z h k.1 k.2)) :: blkR g 81 (sgA s) :: L) from ((List.perm_append_comm (l₁ := [_, _]) (l₂ := [_, _, _])).trans (List.Perm.cons _ (List.Perm.swap _ _ _))).append_right L)
       refine srt_r14 w0 gM gK m hm f nm hnz _ (by rw [hnd]; exact hf) _ S hz6 o6 o8 (fun a7 w7 hs7 S => ?_)
       have T := T.trans hs7
       rw [hnd] at S
       have S := S.perm (show List.Perm _ (cntR gM (m + 1) (fun t => if t = k.1 then f k.1 + 1 else f t) :: blkR gN 36 (ntA z h v0) :: blkR gK 42 #[.string nm, .slice Ak k.2.length ck] :: blkR gS 25 (hashA (sumV z h k.1 k.2)) :: blkR g 81 (sgA s) :: L) from List.Perm.cons _ (List.Perm.swap _ _ _))
       have e : upF f (matchS z h k s) k.1 = (fun t => if t = k.1 then f k.1 + 1 else f t) := by rw [match_is hn ho, hv]; rfl
       rw [← e] at S
       exact hend _ _ _ (m + 1) (.inl rfl) (T.more (by decide +kernel)) (by omega) (S.some_of (List.Sublist.append_left (List.sublist_append_right [_, _] _) [_, _, _]))
theorem srt_l2 {Q : Exit → Act → World → Prop} {a : Act} {w0 w : World} (gM gN gK m0 : Nat) (base : List UInt8 → Nat) (hbs : ∀ t, base t < 2305843009213693952) (hm0 : m0 < 4611686018427387904) (z : Int) (hz : -9223372036854775808 ≤ z ∧ z ≤ 9223372036854775807) (h : List UInt8) (hh : h.length = 32) (A : Option Addr) (c : Nat) (l : List SigD) (hok : SgOk l) (hll : l.length < 1000000) (k : KeyD) (nm : ByteArray) (hnl : nm.toList = k.1) (hnd : nm.data.toList = k.1) (hnz : nm.size ≤ maxLen) (Ak : Option Addr) (ck : Nat) (LDw : LD w0) (L : List Res)
 (hsz : a.tmps.size = 80) (o2 : Sl a 2 (.pointer (some ⟨gN, 0, none⟩))) (o6 : Sl a 6 (.map (some gM))) (o8 : Sl a 8 (.pointer (some ⟨gK, 0, none⟩))) (o28 : Sl a 28 (.slice A l.length c)) (o29 : Sl a 29 (.int .i64 ((l.length : Nat) : Int))) (o30 : Sl a 30 (.int .i64 ((0 : Nat) : Int))) (hv : Rd w0 33 (.slice A l.length c) l.length (sgsC l)) (hkr : Rd w0 1 (.slice Ak k.2.length ck) k.2.length (bv k.2))
 (S : Held w0 w (cntR gM m0 base :: blkR gN 36 (ntA z h (.slice A l.length c)) :: blkR gK 42 #[.string nm, .slice Ak k.2.length ck] :: L))
 (hend : ∀ (a' : Act) (W : World) (m : Nat), Same a a' dsRt2 → m ≤ m0 + l.length → Held w0 W (cntR gM m (stepF base z h k l) :: blkR gN 36 (ntA z h (.slice A l.length c)) :: blkR gK 42 #[.string nm, .slice Ak k.2.length ck] :: L) → Q (.exit 2) a' W) :
 (blockOf 2 Tryd.f27).wp Tryd.prog Q a w := by
 (conv => arg 2; whnf)
 refine wp_loop (fun a' w' => ∃ (j m : Nat), j ≤ l.length ∧ m ≤ m0 + j ∧ Same a a' dsRt2 ∧ Sl a' 30 (.int .i64 ((j : Nat) : Int)) ∧ Held w0 w' (cntR gM m (stepF base z h k (l.take j)) :: blkR gN 36 (ntA z h (.slice A l.length c)) :: blkR gK 42 #[.string nm, .slice Ak k.2.length ck] :: L)) (fun a' _ => l.length - (intOf (a'.eval (.tmp 30))).toNat) ⟨0, m0, Nat.zero_le _, Nat.le_refl _, Same.refl _ _, o30, by rw [List.take_zero, stepF_nil]; exact S⟩ ?_
 clear o30 S
 rintro a1 w1 ⟨j, m, hj, hmj, T, o30, S⟩
 have hz1 := T.size.trans hsz
 have o2 := T.keep 2 _ (by decide) o2
 have o6 := T.keep 6 _ (by decide) o6
 have o8 := T.keep 8 _ (by decide) o8
 have o28 := T.keep 28 _ (by decide) o28
 have o29 := T.keep 29 _ (by decide) o29
 have e30 := o30.eval (by rw [hz1]; decide)
 refine wp_seq (srt_r9 j l.length hz1 o29 o30 (fun a2 hs2 o31 => ?_))
 have hz2 := hs2.size.trans hz1; have o2 := hs2.k o2; have o6 := hs2.k o6; have o8 := hs2.k o8; have o28 := hs2.k o28; have o30 := hs2.k o30
 have T := T.trans hs2
 by_cases hlt : j < l.length
 · refine wp_seq (wp_cond_true ((o31.eval (by rw [hz2]; decide)).trans (by rw [decide_eq_true hlt])) (wp_skip ?_))
   have hv1 := rd_old hv S.k
   obtain ⟨ad, rfl⟩ := sgs_addr hv1 (by omega)
   obtain ⟨s, hs⟩ : ∃ s, l[j]? = some s := ⟨_, List.getElem?_eq_getElem hlt⟩
   have hsk := hok s (List.mem_of_getElem? hs)
   have htk : l.take (j + 1) = l.take j ++ [s] := by rw [List.take_add_one, hs]; rfl
   refine wp_seq (wp_block (srt_b3 gM gN gK m (by unfold maxLen; omega) _ z hz h hh _ ad l.length c j hlt s hsk.1 (fun V kV => sgs_at (rd_old hv kV) hok hs) k ?_ nm hnl hnd hnz Ak ck LDw _ hz2 o2 o6 o8 o28 o30 hkr S (fun e a3 w3 m3 he hs3 hm3 S => ?_)))
   · have := cntOne_le z h k (l.take j)
     have := hbs k.1
     unfold stepF
     rw [if_pos rfl]
     rw [List.length_take] at *
     omega
   have hz3 := hs3.size.trans hz2; have o30 := hs3.k o30
   have T := T.trans hs3
   have S2 : Held w0 w3 (cntR gM m3 (stepF base z h k (l.take (j + 1))) :: blkR gN 36 (ntA z h (.slice (some ad) l.length c)) :: blkR gK 42 #[.string nm, .slice Ak k.2.length ck] :: L) := by
    rw [htk]
    cases hm : matchS z h k s
    · rw [hm] at S
      rw [stepF_no hm]
      exact S
    · rw [hm] at S
      rw [← stepF_yes hm]
      exact S
   have hR : (Code.region 15 (opsOf 15 Tryd.f27).toArray false).wp Tryd.prog (Exit.then (fun a' w' => (∃ (j m : Nat), j ≤ l.length ∧ m ≤ m0 + j ∧ Same a a' dsRt2 ∧ Sl a' 30 (.int .i64 ((j : Nat) : Int)) ∧ Held w0 w' (cntR gM m (stepF base z h k (l.take j)) :: blkR gN 36 (ntA z h (.slice (some ad) l.length c)) :: blkR gK 42 #[.string nm, .slice Ak k.2.length ck] :: L)) ∧ l.length - (intOf (a'.eval (.tmp 30))).toNat < l.length - (intOf (a1.eval (.tmp 30))).toNat) Q) a3 w3 := by
    refine srt_r15 j (by omega) hz3 o30 (fun a6 hs6 o30' => ?_)
    have hz6 := hs6.size.trans hz3
    have T := T.trans hs6
    refine ⟨⟨j + 1, m3, by omega, by omega, T.more (by decide +kernel), o30', S2⟩, ?_⟩
    rw [e30, o30'.eval (by rw [hz6]; decide)]
    simp only [intOf]; omega
   rcases he with rfl | rfl
   · exact hR
   · exact hR
 · refine wp_seq (wp_cond_false ((o31.eval (by rw [hz2]; decide)).trans (by rw [decide_eq_false hlt])) (wp_exit ?_))
   obtain rfl : j = l.length := by omega
   rw [List.take_length] at S
   exact hend _ _ m (T.more (by decide +kernel)) hmj S
end
/- sign.Right, whole. -/
section
open Go.RowKit
def dsRt0 : List Nat := [8, 10, 11, 12, 24, 25, 26, 27, 28, 29, 30, 31, 32, 33, 34, 35, 36, 37, 38, 39, 40, 41, 42, 43, 44, 45, 46, 47, 48, 49, 50, 51, 52, 53, 54, 55, 56, 57, 58, 59, 60, 23]
theorem stepF_all (z : Int) (h : List UInt8) (ks : List KeyD) (k : KeyD) (l : List SigD) : stepF (cntAll z h ks l) z h k l = cntAll z h (ks ++ [k]) l := by
 funext t; unfold stepF; rw [cntAll_snoc]
theorem kys_addr {W : World} {A : Option Addr} {c : Nat} {vs : List Value} {ks : List KeyD} (h : KysF W (.slice A ks.length c) vs ks) (hn : 0 < ks.length) : ∃ ad, A = some ad := by
 cases A with
 | some ad => exact ⟨ad, rfl⟩
 | none =>
  obtain ⟨hvl, A', c', he, -, -, hnil, -⟩ := h.1
  cases he
  obtain ⟨-, -, e1, -⟩ := h.2 0 hn
  have := hnil rfl
  omega
theorem cntAll_nil (z : Int) (h : List UInt8) (l : List SigD) : cntAll z h [] l = fun _ => 0 := by funext t; rfl
def rightA (z : Int) (h : List UInt8) (l : List SigD) (ks : List KeyD) : List (List UInt8) := if mayN z l then rightN z h l ks else []
theorem rightN_is {z : Int} {h : List UInt8} {l : List SigD} {ks : List KeyD} (hr : rising [] l = true) : ((l.filter fun s => decide (0 < cntAll z h ks l s.1)).map (·.1)) = rightN z h l ks := by
 unfold rightN
 congr 1
 exact List.filter_congr fun s hs => cnt_pos hr hs ks
theorem KysF.at2 {w0 : World} {ad : Addr} {n c : Nat} {vs : List Value} {ks : List KeyD} (h : KysF w0 (.slice (some ad) n c) vs ks) {i : Nat} {k : KeyD} (hk : ks[i]? = some k) : ∃ A c, (∀ W, Kp [] w0 W → ∀ j u, ([strV k.1, .slice A k.2.length c] : List Value)[j]? = some u → W.cell? ((ad.add (i * 2)).add j) = some u) ∧ Rd w0 1 (.slice A k.2.length c) k.2.length (bv k.2) := by
 obtain ⟨hi, rfl⟩ := List.getElem?_eq_some_iff.1 hk
 obtain ⟨A, c2, h1, h2, h3⟩ := h.2 i hi
 refine ⟨A, c2, fun W kW j u hu => ?_, h3⟩
 obtain ⟨-, A', c', he, -, -, -, hc⟩ := (h.kp0 kW).1
 cases he
 rw [add_of_add]
 rcases j with _ | _ | j
 · cases hu; exact hc ad rfl _ _ h1
 · cases hu; exact hc ad rfl _ _ h2
 · cases hu
theorem srt_l0 {Q : Exit → Act → World → Prop} {a : Act} {w0 w : World} (gM gN : Nat) (z : Int) (hz : -9223372036854775808 ≤ z ∧ z ≤ 9223372036854775807) (h : List UInt8) (hh : h.length = 32) (A : Option Addr) (c : Nat) (l : List SigD) (hok : SgOk l) (hll : l.length ≤ 64) (Ak : Option Addr) (ck : Nat) (ks : List KeyD) (hks : ks.length ≤ 35184372088832) (hnm : ∀ k, k ∈ ks → k.1.length ≤ maxLen) (vs : List Value) (LDw : LD w0) (L : List Res)
 (hsz : a.tmps.size = 80) (o2 : Sl a 2 (.pointer (some ⟨gN, 0, none⟩))) (o6 : Sl a 6 (.map (some gM))) (o21 : Sl a 21 (.slice Ak ks.length ck)) (o22 : Sl a 22 (.int .i64 ((ks.length : Nat) : Int))) (o23 : Sl a 23 (.int .i64 ((0 : Nat) : Int))) (hv : Rd w0 33 (.slice A l.length c) l.length (sgsC l)) (hkv : KysF w0 (.slice Ak ks.length ck) vs ks)
 (S : Held w0 w (cntR gM 0 (fun _ => 0) :: blkR gN 36 (ntA z h (.slice A l.length c)) :: L))
 (hend : ∀ (a' : Act) (W : World) (m : Nat), Same a a' dsRt0 → Held w0 W (cntR gM m (cntAll z h ks l) :: blkR gN 36 (ntA z h (.slice A l.length c)) :: L) → Q .normal a' W) :
 (Code.block 0 (blockOf 0 Tryd.f27)).wp Tryd.prog Q a w := by
 refine wp_block ?_
 (conv => arg 2; whnf)
 refine wp_loop (fun a' w' => ∃ (j m : Nat), j ≤ ks.length ∧ m ≤ j * 64 ∧ Same a a' dsRt0 ∧ Sl a' 23 (.int .i64 ((j : Nat) : Int)) ∧ Held w0 w' (cntR gM m (cntAll z h (ks.take j) l) :: blkR gN 36 (ntA z h (.slice A l.length c)) :: L)) (fun a' _ => ks.length - (intOf (a'.eval (.tmp 23))).toNat) ⟨0, 0, Nat.zero_le _, Nat.le_refl _, Same.refl _ _, o23, by rw [List.take_zero, cntAll_nil]; exact S⟩ ?_
 clear o23 S
 rintro a1 w1 ⟨j, m, hj, hmj, T, o23, S⟩
 have hz1 := T.size.trans hsz
 have o2 := T.keep 2 _ (by decide) o2
 have o6 := T.keep 6 _ (by decide) o6
 have o21 := T.keep 21 _ (by decide) o21
 have o22 := T.keep 22 _ (by decide) o22
 have e23 := o23.eval (by rw [hz1]; decide)
 refine wp_seq (srt_r6 j ks.length hz1 o22 o23 (fun a2 hs2 o24 => ?_))
 have hz2 := hs2.size.trans hz1; have o2 := hs2.k o2; have o6 := hs2.k o6; have o21 := hs2.k o21; have o23 := hs2.k o23
 have T := T.trans hs2
 by_cases hlt : j < ks.length
 · refine wp_seq (wp_cond_true ((o24.eval (by rw [hz2]; decide)).trans (by rw [decide_eq_true hlt])) (wp_skip ?_))
   obtain ⟨adk, rfl⟩ := kys_addr hkv (by omega)
   obtain ⟨k, hk⟩ : ∃ k, ks[j]? = some k := ⟨_, List.getElem?_eq_getElem hlt⟩
   have htk : ks.take (j + 1) = ks.take j ++ [k] := by rw [List.take_add_one, hk]; rfl
   obtain ⟨Ak2, ck2, hc0, hkr⟩ := hkv.at2 hk
   have hc := hc0 _ S.k
   obtain ⟨nm, hnv, hnl, hnz, hnd⟩ := str_of k.1
   rw [hnv.out] at hc
   refine wp_seq (wp_block ?_)
   refine wp_seq (srt_r7 w0 adk j ks.length ck hlt nm _ ⟨_, _, _, rfl⟩ hc _ S hz2 o21 o23 (fun a3 w3 hs3 h3 => ?_))
   have hz3 := hs3.size.trans hz2; have o2 := hs3.k o2; have o6 := hs3.k o6; have o21 := hs3.k o21; have o23 := hs3.k o23; have o24 := hs3.k o24
   have T := T.trans hs3
   obtain ⟨gK, o8, S⟩ := h3
   have S : Held w0 w3 (blkR gN 36 (ntA z h (.slice A l.length c)) :: cntR gM m (cntAll z h (ks.take j) l) :: blkR gK 42 #[.string nm, .slice Ak2 k.2.length ck2] :: L) := (S.pull 1 rfl).pull 2 rfl
   refine wp_seq (srt_r8 w0 gN z h hh _ _ _ _ S hz3 o2 (fun a4 hs4 o28 o29 o30 => ?_))
   have hz4 := hs4.size.trans hz3; have o2 := hs4.k o2; have o6 := hs4.k o6; have o21 := hs4.k o21; have o23 := hs4.k o23; have o24 := hs4.k o24; have o8 := hs4.k o8
   have T := T.trans hs4
   have S : Held w0 w3 (cntR gM m (cntAll z h (ks.take j) l) :: blkR gN 36 (ntA z h (.slice A l.length c)) :: blkR gK 42 #[.string nm, .slice Ak2 k.2.length ck2] :: L) := S.pull 1 rfl
   refine wp_block ?_
   have hbs : ∀ t, cntAll z h (ks.take j) l t < 2305843009213693952 := by
    intro t
    have h1 := cntAll_le z h l t (ks.take j)
    rw [List.length_take, Nat.min_eq_left hj] at h1
    have h2 : j * l.length ≤ 35184372088832 * 64 := Nat.mul_le_mul (by omega) hll
    omega
   refine srt_l2 gM gN gK m _ hbs (by omega) z hz h hh A c l hok (by omega) k nm hnl.out hnd.out (by rw [hnz]; exact hnm k (List.mem_of_getElem? hk)) Ak2 ck2 LDw _ hz4 o2 o6 o8 o28 o29 o30 hv hkr S (fun a5 w5 m5 hs5 hm5 S => ?_)
   have hz5 := hs5.size.trans hz4; have o2 := hs5.k o2; have o6 := hs5.k o6; have o21 := hs5.k o21; have o23 := hs5.k o23; have o24 := hs5.k o24; have o28 := hs5.k o28; have o29 := hs5.k o29
   have T := T.trans hs5
   simp only [Exit.inBlock, if_true, Exit.then]
   rw [stepF_all, ← htk] at S
   refine srt_r16 j (by omega) hz5 o23 (fun a6 hs6 o23 => ?_)
   have hz6 := hs6.size.trans hz5; have o2 := hs6.k o2; have o6 := hs6.k o6; have o21 := hs6.k o21; have o24 := hs6.k o24; have o28 := hs6.k o28; have o29 := hs6.k o29
   have T := T.trans hs6
   have S : Held w0 w5 (cntR gM m5 (cntAll z h (ks.take (j + 1)) l) :: blkR gN 36 (ntA z h (.slice A l.length c)) :: L) := S.some_of (List.Sublist.append_left (List.sublist_append_right [_] _) [_, _])
   refine ⟨⟨j + 1, m5, by omega, by omega, T.more (by decide +kernel), o23, S⟩, ?_⟩
   show ks.length - (intOf _).toNat < ks.length - (intOf _).toNat
   rw [e23, o23.eval (by rw [hz6]; decide)]
   simp only [intOf]; omega
 · refine wp_seq (wp_cond_false ((o24.eval (by rw [hz2]; decide)).trans (by rw [decide_eq_false hlt])) (wp_exit ?_))
   obtain rfl : j = ks.length := by omega
   rw [List.take_length] at S
   exact hend _ _ m (T.more (by decide +kernel)) S
theorem sright_any (z : Int) (hz : -9223372036854775808 ≤ z ∧ z ≤ 9223372036854775807) (h : List UInt8) (hh : h.length = 32) (A : Option Addr) (c : Nat) (l : List SigD) (hok : SgOk l) (hll : l.length ≤ 9223372036854775807) (Ak : Option Addr) (ck : Nat) (ks : List KeyD) (hks : ks.length ≤ 35184372088832) (hnm : ∀ k, k ∈ ks → k.1.length ≤ maxLen) (vs : List Value) (w : World) (LDw : LD w) (hv : Rd w 33 (.slice A l.length c) l.length (sgsC l)) (hkv : KysF w (.slice Ak ks.length ck) vs ks) :
 Calls Tryd.prog 27 #[.agg (ntA z h (.slice A l.length c)), .slice Ak ks.length ck] w fun e w' => ∃ v, e = .returned v ∧ Held w w' [rowR 9 1 v (rightA z h l ks).length ((rightA z h l ks).map strV)] := by
 refine calls_fr Tryd.func27 rfl 80 rfl (fun a0 hsz hdf hAr => ?_)
 have hz0 : a0.tmps.size = 80 := hsz
 have D := hdf
 have o0 := hAr 0 _ rfl
 have o1 := hAr 1 _ rfl
 have hcz := ntA_size (z := z) (v := .slice A l.length c) hh
 refine wp_seq (srt_r0 w _ [] (Held.start w) hz0 o0 (fun a1 w1 hs1 h1 => ?_))
 have hz1 := hs1.size.trans hz0; have o0 := hs1.k o0; have o1 := hs1.k o1; have D := hs1.defers.trans D
 obtain ⟨gN, o2, S⟩ := h1
 refine wp_seq (srt_r1 w _ S hz1 (fun a2 w2 hs2 h2 => ?_))
 have hz2 := hs2.size.trans hz1; have o0 := hs2.k o0; have o1 := hs2.k o1; have o2 := hs2.k o2; have D := hs2.defers.trans D
 obtain ⟨v0, o5, S⟩ := h2
 have S : Held w w2 (blkR gN 36 (ntA z h (.slice A l.length c)) :: rowR 9 1 v0 0 [] :: []) := S.pull 1 rfl
 obtain ⟨b, hb⟩ : ∃ b, ((chkN z l : Int) != 0) = b := ⟨_, rfl⟩
 have hb2 : b = !mayN z l := by rw [← hb]; unfold chkN; cases mayN z l <;> rfl
 refine wp_seq (wp_seq (srt_r2 w gN _ hcz (chkN z l) b hb _ S (fun V SV => scheck_any z hz h hh l hok hll A c V (LDw.kp SV.k) (rd_old hv SV.k)) hz2 o2 (fun a3 w3 hs3 o18 S => ?_)))
 have hz3 := hs3.size.trans hz2; have o0 := hs3.k o0; have o1 := hs3.k o1; have o2 := hs3.k o2; have o5 := hs3.k o5; have D := hs3.defers.trans D
 cases hm : mayN z l
 · rw [hm] at hb2
   have hA : rightA z h l ks = [] := by unfold rightA; rw [hm]; rfl
   refine wp_cond_true ((o18.eval (by rw [hz3]; decide)).trans (by rw [hb2]; rfl)) ?_
   refine wp_seq (srt_r3 v0 hz3 o5 (fun a4 hs4 o4 => ?_))
   have hz4 := hs4.size.trans hz3; have o0 := hs4.k o0; have o1 := hs4.k o1; have o2 := hs4.k o2; have o5 := hs4.k o5; have o18 := hs4.k o18; have D := hs4.defers.trans D
   refine wp_ret ?_
   simp only [Exit.then]
   refine (bodyPost_ret (results_t1 (by rfl) (o4.eval (by rw [hz4]; decide))) D ⟨_, rfl, ?_⟩)
   rw [hA]
   exact S.some_of (List.Sublist.cons _ (List.Sublist.refl _))
 · rw [hm] at hb2
   refine wp_cond_false ((o18.eval (by rw [hz3]; decide)).trans (by rw [hb2]; rfl)) (wp_skip ?_)
   obtain ⟨h64, hris⟩ := mayN_64 hm
   have hA : rightA z h l ks = rightN z h l ks := by unfold rightA; rw [hm]; rfl
   refine wp_seq (srt_r4 w _ S hz3 (fun a4 w4 hs4 h4 => ?_))
   have hz4 := hs4.size.trans hz3; have o0 := hs4.k o0; have o1 := hs4.k o1; have o2 := hs4.k o2; have o5 := hs4.k o5; have o18 := hs4.k o18; have D := hs4.defers.trans D
   obtain ⟨gM, o6, S⟩ := h4
   refine wp_seq (wp_seq (srt_r5 Ak _ ck hz4 o1 (fun a5 hs5 o21 o22 o23 => ?_)))
   have hz5 := hs5.size.trans hz4; have o0 := hs5.k o0; have o1 := hs5.k o1; have o2 := hs5.k o2; have o5 := hs5.k o5; have o18 := hs5.k o18; have o6 := hs5.k o6; have D := hs5.defers.trans D
   refine srt_l0 gM gN z hz h hh A c l hok h64 Ak ck ks hks hnm vs LDw _ hz5 o2 o6 o21 o22 o23 hv hkv S (fun a6 w5 m5 hs6 S => ?_)
   have hz6 := hs6.size.trans hz5; have o0 := hs6.k o0; have o1 := hs6.k o1; have o2 := hs6.k o2; have o5 := hs6.k o5; have o18 := hs6.k o18; have o6 := hs6.k o6; have o21 := hs6.k o21; have o22 := hs6.k o22; have D := hs6.defers.trans D
   have S : Held w w5 (blkR gN 36 (ntA z h (.slice A l.length c)) :: cntR gM m5 (cntAll z h ks l) :: rowR 9 1 v0 0 [] :: []) := S.pull 1 rfl
   refine wp_seq (wp_seq (srt_r17 w gN z h hh _ _ _ _ S hz6 o2 (fun a7 hs7 o62 o63 o64 => ?_)))
   have hz7 := hs7.size.trans hz6; have o0 := hs7.k o0; have o1 := hs7.k o1; have o2 := hs7.k o2; have o5 := hs7.k o5; have o18 := hs7.k o18; have o6 := hs7.k o6; have o21 := hs7.k o21; have o22 := hs7.k o22; have D := hs7.defers.trans D
   have S : Held w w5 (rowR 9 1 v0 0 [] :: cntR gM m5 (cntAll z h ks l) :: blkR gN 36 (ntA z h (.slice A l.length c)) :: []) := (S.pull 1 rfl).pull 2 rfl
   refine srt_l4 gM m5 (cntAll z h ks l) A c l hok (by omega) _ v0 hz7 o5 o6 o62 o63 o64 hv S (fun a8 w6 v6 L6 hs8 o5 S => ?_)
   have hz8 := hs8.size.trans hz7; have D := hs8.defers.trans D
   rw [rightN_is hris, ← hA] at S
   refine wp_seq (srt_r23 v6 hz8 o5 (fun a9 hs9 o4 => ?_))
   have hz9 := hs9.size.trans hz8; have o5 := hs9.k o5; have D := hs9.defers.trans D
   refine wp_ret ?_
   refine (bodyPost_ret (results_t1 (by rfl) (o4.eval (by rw [hz9]; decide))) D ⟨_, rfl, ?_⟩)
   exact S.some_of (List.singleton_sublist.2 (by simp))
end
/- An ORDERED region, operation by operation, with guards: XInvG's way for regions that draw no order. -/
section
section
variable {P : Program} {Q : Exit → Act → World → Prop}
def InvStepS (P : Program) (Q : Exit → Act → World → Prop) (PV : Nat → Value → World → Prop) (W0 : World) (fr : (Nat → Value) → Act) (u0 : Nat → Value) (ops : Array Oper) (o : Oper) (i : Nat) : Prop :=
 ∀ (vs : Nat → Value) (A : Act) (W : World), fr vs = A → Kp [] W0 W → (∀ j, Nat.blt j i = true → PV j (vs j) W) → (∀ j, Nat.ble i j = true → vs j = u0 j) →
  ∀ K : Act → World → Prop, (∀ v W', Kp [] W W' → PV i v W' → K (A.put o.dst v) W') → wpOp P ops (Qn Q) i K A W
def InvStepsS (P : Program) (Q : Exit → Act → World → Prop) (PV : Nat → Value → World → Prop) (W0 : World) (fr : (Nat → Value) → Act) (u0 : Nat → Value) (ops : Array Oper) : List Oper → Nat → Prop
 | [], _ => True
 | o :: l, i => InvStepS P Q PV W0 fr u0 ops o i ∧ InvStepsS P Q PV W0 fr u0 ops l (i + 1)
theorem wpList_of_op {ops : Array Oper} {o : Oper} {rest : List Oper} {a : Act} {w : World} {i : Nat} (ho : ops[i]? = some o) (h : wpOp P ops Q i (wpList P ops Q rest) a w) : wpList P ops Q (o :: rest) a w := by
 unfold wpOp at h
 simp only [ho] at h
 unfold wpList
 exact h
theorem seq_inv {PV : Nat → Value → World → Prop} {W0 : World} {a0 : Act} {l l2 : List Oper} {ops : Array Oper} (hops : ∀ (i : Nat) (o : Oper), l[i]? = some o → ops[i]? = some o) (hst : ∀ i v W W', PV i v W → Kp [] W W' → PV i v W') (hap : apartB l = true)
 (hend : ∀ vs W, Kp [] W0 W → (∀ i, i < l.length → PV i (vs i) W) → wpList P ops Q l2 (putAll vs l 0 a0) W) :
 ∀ (rest : List Oper) (i : Nat) (vs : Nat → Value) (W : World), l.drop i = rest → InvStepsS P Q PV W0 (fun vs => putAll vs l 0 a0) (at0 a0 l) ops rest i → Kp [] W0 W → (∀ j, j < i → PV j (vs j) W) → (∀ j, i ≤ j → vs j = at0 a0 l j) →
  wpList P ops Q (rest ++ l2) (putAll vs l 0 a0) W
 | [], i, vs, W, hr, _, hk, hp, _ => by
  have hi : l.length ≤ i := List.drop_eq_nil_iff.1 hr
  exact hend vs W hk (fun j hj => hp j (by omega))
 | o :: rest, i, vs, W, hr, hs, hk, hp, hu => by
  have hol : l[i]? = some o := by
   have : (l.drop i)[0]? = some o := by rw [hr]; rfl
   rwa [List.getElem?_drop, Nat.add_zero] at this
  have hr2 : l.drop (i + 1) = rest := by
   rw [← List.drop_drop, hr]; rfl
  refine wpList_of_op (i := i) (hops i o hol) (wpOp_n ?_)
  refine hs.1 vs _ W rfl hk (fun j hj => hp j (by simpa [Nat.blt_eq] using hj)) (fun j hj => hu j (by simpa [Nat.ble_eq] using hj)) _ fun v W' hk' hv => ?_
  rw [putAll_upd vs i v l 0 a0 o hap (Nat.zero_le _) (by simpa using hol)]
  refine seq_inv hops hst hap hend rest (i + 1) _ W' hr2 hs.2 (hk.trans hk' (by simp)) (fun j hj => ?_) (fun j hj => ?_)
  · by_cases e : j = i
    · subst e; simpa [upd] using hv
    · simp only [upd, if_neg e]
      exact hst j _ W W' (hp j (by omega)) hk'
  · simp only [upd, if_neg (show j ≠ i by omega)]
    exact hu j (by omega)
theorem wp_region_invSL {id : Nat} {a : Act} {w : World} {l : List Oper} (k : Nat) (PV : Nat → Value → World → Prop) (hap : apartB (l.take k) = true)
 (hst : ∀ i v W W', PV i v W → Kp [] W W' → PV i v W')
 (hs : InvStepsS P Q PV w (fun vs => putAll vs (l.take k) 0 a) (at0 a (l.take k)) l.toArray (l.take k) 0)
 (hend : ∀ vs W, Kp [] w W → (∀ i, i < (l.take k).length → PV i (vs i) W) → wpList P l.toArray Q (l.drop k) (putAll vs (l.take k) 0 a) W) : (Code.region id l.toArray false).wp P Q a w := by
 refine wp_region_lit (l := l) ?_
 have h := seq_inv (P := P) (Q := Q) (a0 := a) (l := l.take k) (l2 := l.drop k) (ops := l.toArray) (fun i o h => by
  rw [List.getElem?_take] at h
  split at h
  · simpa using h
  · cases h) hst hap hend (l.take k) 0 (at0 a (l.take k)) w rfl hs kR (fun j hj => by omega) (fun _ _ => rfl)
 rwa [List.take_append_drop, putAll_at a (l.take k) 0 (at0 a (l.take k)) (fun j o ho => by simp only [at0, Nat.zero_add, ho])] at h
theorem wp_region_invS {id : Nat} {a : Act} {w : World} {l : List Oper} (PV : Nat → Value → World → Prop) (hap : apartB l = true)
 (hst : ∀ i v W W', PV i v W → Kp [] W W' → PV i v W')
 (hs : InvStepsS P Q PV w (fun vs => putAll vs l 0 a) (at0 a l) l.toArray l 0)
 (hend : ∀ vs W, Kp [] w W → (∀ i, i < l.length → PV i (vs i) W) → Q .normal (putAll vs l 0 a) W) : (Code.region id l.toArray false).wp P Q a w := by
 refine wp_region_lit (l := l) ?_
 have h := seq_inv (P := P) (Q := Q) (a0 := a) (l := l) (l2 := []) (ops := l.toArray) (fun i o h => by simpa using h) hst hap hend l 0 (at0 a l) w rfl hs kR (fun j hj => by omega) (fun _ _ => rfl)
 rwa [List.append_nil, putAll_at a l 0 (at0 a l) (fun j o ho => by simp [at0, ho])] at h
end
end
/- Single operations: struct and slice literals of parts that are known. -/
section
theorem op_build {P : Program} {o : Oper} {a : Act} {w : World} {K : Act → World → Prop} {Q : Exit → Act → World → Prop} (t : TypeId) (parts : Array (Nat × Operand)) (ho : o.op = .build t parts) (ps : List (Nat × Value)) (hp : (parts.map fun (i, x) => (i, a.eval x)).toList = ps)
 (cells : Array Value) (hb : P.built t ps = some cells) (h : K (a.put o.dst (.agg cells)) w) : o.wp P a w K Q := by
 refine wp_build t parts ho (by rw [hp, hb]; rfl) ?_
 rw [hp, hb]
 exact h
theorem wpList_buildP {P : Program} {ops : Array Oper} {rest : List Oper} {o : Oper} {a : Act} {w : World} {Q : Exit → Act → World → Prop} (hg : o.guard = none) (t : TypeId) (parts : Array (Nat × Operand)) (ho : o.op = .build t parts) (ps : List (Nat × Value)) (hp : (parts.map fun (i, x) => (i, a.eval x)).toList = ps)
 (cells : Array Value) (hb : P.built t ps = some cells) (h : wpList P ops Q rest (a.put o.dst (.agg cells)) w) : wpList P ops Q (o :: rest) a w := by
 refine wpList_build hg t parts ho (by rw [hp, hb]; rfl) ?_
 rw [hp, hb]
 exact h
theorem Held.of_kp {w w' : World} (k : Kp [] w w') : Held w w' [] := ⟨k, by simp, by simp, List.Pairwise.nil⟩
end
/- 'make([]byte, n)' of a constant. -/
section
open Go.RowKit
theorem make_noughts {ops : Array Oper} {rest : List Oper} {o : Oper} {a : Act} {w : World} {Q : Exit → Act → World → Prop} (hgd : Region.wanted o (yielded ops a.tmps) = true) (n : Nat) (hn : n ≤ 1073741824)
 (ho : o.op = .makeSlice 22 (.const (.int .i64 (n : Int))) (.const (.int .i64 (n : Int))))
 (h : ∀ w1, Ow w1 5 1 (.slice (some ⟨w.heap.size, 0, none⟩) n n) n (bv (List.replicate n 0)) → Kp [] w w1 → wpList Tryd.prog ops Q rest (a.put o.dst (.slice (some ⟨w.heap.size, 0, none⟩) n n)) w1) : wpList Tryd.prog ops Q (o :: rest) a w := by
 obtain ⟨i0, hi, hz0, hz1, hz2⟩ := info_parts Tryd.infoU8
 obtain ⟨w1, hr, h1, h2⟩ := run_make_full (P := Tryd.prog) w 0 22 5 i0 _ 1 Tryd.underlying22 hi hz0 hz1 .i64 .i64 n (by rw [hz2]; omega) (by unfold maxLen; omega) (Nat.zero_le _)
 refine wpList_step fun K hK => ?_
 rw [if_pos hgd]
 unfold Oper.wp execOp
 simp only [ho, BigFrame.eval_const, Sem.run_bind, hr, Result.andThen_ok, Sem.run_pure]
 refine hK _ _ (h w1 ?_ (Kp.of_grown h2))
 rw [show (Value.int .u8 0).cells = #[.int .u8 0] from rfl, Nat.mul_one, toList_madeCells_one] at h1
 have e : bv (List.replicate n 0) = List.replicate n (.int .u8 0) := by simp [bv]
 rw [e]
 exact h1
end
/- known of layer 28: its regions. -/
section
open Go.RowKit
def zH : List UInt8 := List.replicate 32 0
theorem zH_length : zH.length = 32 := rfl
def k20 : List UInt8 := List.replicate 20 11
def hiL : List UInt8 := [72, 105]
def thL : List UInt8 := [32, 84, 104, 101, 114, 101]
def sec12 : List UInt8 := [1, 2]
def sec13 : List UInt8 := [1, 3]
def wN : List UInt8 := [119]
def sum1 : List UInt8 := sumF 0 zH wN sec12
theorem sum1_length : sum1.length = 32 := by unfold sum1; exact sumF_length 0 zH wN sec12
def sig1 : SigD := (wN, sum1)
theorem sig1_2 : sig1.2 = sum1 := by simp only [sig1]
theorem sig1_1 : sig1.1 = wN := by simp only [sig1]
def kn20 : List UInt8 := macF k20 (hiL ++ thL)
theorem kn20_at : kn20[0]? = some 176 ∧ kn20[1]? = some 52 ∧ kn20[31]? = some 247 := by decide +kernel
theorem sig1_ne : (sumV 0 zH wN sec13 == sig1.2) = false := by decide +kernel
theorem signE_0 : signE 0 [] wN sec12 = 0 := by decide +kernel
theorem sig1_ok : SgOk [sig1] := by
 intro s hs
 rw [List.mem_singleton.1 hs]
 refine ⟨?_, ?_⟩
 · rw [sig1_2]; exact sum1_length
 · rw [sig1_1]; unfold wN; rw [List.length_singleton]; omega
theorem may_1 : mayN 0 [sig1] = true := by
 unfold mayN
 rw [show rising [] [sig1] = true from by unfold rising sig1; decide +kernel]
 rfl
theorem signE_8 : signE 0 [sig1] wN sec12 = 8 := by
 unfold signE
 rw [may_1, if_neg (by decide), show sumOk 0 wN sec12 = true from by decide +kernel, if_neg (by decide), show hasN wN [sig1] = true from by unfold hasN posN sig1; decide +kernel]
 rfl
theorem right_1 : rightA 0 zH [sig1] [(wN, sec12)] = [wN] := by
 have e : matchS 0 zH (wN, sec12) sig1 = true := by
  unfold matchS sig1 sum1 sumV
  rw [show sumOk 0 (wN, sec12).1 (wN, sec12).2 = true from by decide +kernel]
  simp
 unfold rightA rightN
 rw [may_1]
 rw [if_pos rfl, List.filter_cons, if_pos (by rw [List.any_cons, e]; rfl)]
 rfl
theorem right_0 : rightA 0 zH [sig1] [(wN, sec13)] = [] := by
 have e : matchS 0 zH (wN, sec13) sig1 = false := by
  unfold matchS
  rw [show sumV 0 zH (wN, sec13).1 (wN, sec13).2 = sumV 0 zH wN sec13 from rfl, sig1_ne]
  simp
 unfold rightA rightN
 rw [may_1]
 rw [if_pos rfl, List.filter_cons, if_neg (by rw [List.any_cons, e]; decide)]
 rfl
theorem lnum_any (x : Int) (w : World) : Calls Tryd.prog 16 #[.int .i64 x] w fun e w' => e = .returned (.int .i64 x) ∧ w = w' := by
 go_enter Tryd.func16, Tryd.ntmps16
 go_wp2
 go_ret
 exact ⟨rfl, rfl⟩
theorem kys1 {w : World} {g : Nat} {A : Option Addr} {c : Nat} (t : TypeId) (hg : g = w.heap.size) (nm : ByteArray) (sec : List UInt8) (h : Rd w 1 (.slice A sec.length c) sec.length (bv sec)) (k : List UInt8) (hk : strV k = .string nm) :
 KysF (w.alloc (.cells #[.string nm, .slice A sec.length c] t)) (.slice (some ⟨g, 0, none⟩) 1 1) [.string nm, .slice A sec.length c] [(k, sec)] := by
 subst hg
 refine ⟨Rd.of_own (ow_new w t 2 1 #[.string nm, .slice A sec.length c] rfl (by decide)), fun i hi => ?_⟩
 obtain rfl : i = 0 := by simpa using hi
 exact ⟨A, c, by rw [show ([(k, sec)] : List KeyD)[0].1 = k from rfl, hk]; rfl, rfl, h.alloc _⟩
theorem Tryd.built_key2 (s : ByteArray) (A : Option Addr) (n c : Nat) : Tryd.prog.built 42 [(0, .string s), (1, .slice A n c)] = some #[.string s, .slice A n c] := by kernel_rfl
theorem Tryd.infoKeyZ : (Tryd.prog.info? 42).map (fun i => (i.zero, i.size, i.bytes)) = some (some (.agg #[.string ⟨#[]⟩, .slice none 0 0]), 2, 40) := by kernel_rfl
theorem op_keys1 {o : Oper} {a : Act} {w : World} {K : Act → World → Prop} {Q : Exit → Act → World → Prop} (x : Operand) (ho : o.op = .buildSlice 46 1 #[(0, x)]) (nm : ByteArray) (A : Option Addr) (n c : Nat) (hx : a.eval x = .agg #[.string nm, .slice A n c])
 (h : K (a.put o.dst (.slice (some ⟨w.heap.size, 0, none⟩) 1 1)) (w.alloc (.cells #[.string nm, .slice A n c] 42))) : o.wp Tryd.prog a w K Q := by
 obtain ⟨i0, hi, hz, hsize, -⟩ := info_parts Tryd.infoKeyZ
 refine wp_buildSlice 46 42 1 #[(0, x)] ho #[.string nm, .slice A n c] i0 _ Tryd.underlying46 hi hz (by rw [hsize]; decide) (by rw [hsize]; decide) ?_ h
 rw [hsize, show ((#[(0, x)] : Array (Nat × Operand)).map fun (i, x) => (i, a.eval x)).toList = [(0, .agg #[.string nm, .slice A n c])] from by simp [hx]]
 kernel_rfl
theorem wpList_keys1 {ops : Array Oper} {rest : List Oper} {o : Oper} {a : Act} {w : World} {Q : Exit → Act → World → Prop} (hg : o.guard = none) (t e : TypeId) (x : Operand) (ho : o.op = .buildSlice 46 1 #[(0, x)]) (nm : ByteArray) (A : Option Addr) (n c : Nat) (hx : a.eval x = .agg #[.string nm, .slice A n c])
 (h : wpList Tryd.prog ops Q rest (a.put o.dst (.slice (some ⟨w.heap.size, 0, none⟩) 1 1)) (w.alloc (.cells #[.string nm, .slice A n c] 42))) : wpList Tryd.prog ops Q (o :: rest) a w :=
 wpList_plain hg fun _ hK => op_keys1 x ho nm A n c hx (hK _ _ h)
end
/- known of layer 28: its regions. -/
section
variable {Q : Exit → Act → World → Prop} {a : Act} {w : World}
open Go.RowKit
theorem skn_r0  (hsz : a.tmps.size = 104) 
 (hend : ∀ a', Same a a' [0] → Sl a' 0 (.bool false) → Q .normal a' (w)) : (Code.region 0 (opsOf 0 Tryd.f13).toArray false).wp Tryd.prog Q a w := by
 refine wp_region_lit ?_
 (conv => arg 4; whnf)
 go_wp2_with fail
 try simp only [Act.put]
 exact hend _ sS sP
theorem skn_r1 (w0 : World) (L : List Res) (S : Held w0 w L) (hsz : a.tmps.size = 104) 
 (hend : ∀ a' W, Same a a' [11, 1] → (∃ gk, Sl a' 1 (.slice (some ⟨gk, 0, none⟩) 20 20) ∧ Held w0 W (rowR 5 1 (.slice (some ⟨gk, 0, none⟩) 20 20) 20 (bv (List.replicate 20 0)) :: L)) → Q .normal a' W) : (Code.region 1 (opsOf 1 Tryd.f13).toArray false).wp Tryd.prog Q a w := by
 refine wp_region_lit ?_
 (conv => arg 4; whnf)
 go_wp2_with (refine make_noughts rfl 20 (by decide) rfl ?_; intro w1 o1 k1; have S1 := Lib.hid (S.rownew o1 k1 (by simp [Value.ownBlock])))
 try simp only [Act.put]
 exact hend _ _ sS (⟨_, sP0, S1.out⟩)
theorem skn_r2  (hsz : a.tmps.size = 104) 
 (hend : ∀ a', Same a a' [2] → Sl a' 2 (.int .i64 (0 : Int)) → Q .normal a' (w)) : (Code.region 2 (opsOf 2 Tryd.f13).toArray false).wp Tryd.prog Q a w := by
 refine wp_region_lit ?_
 (conv => arg 4; whnf)
 go_wp2_with fail
 try simp only [Act.put]
 exact hend _ sS sP
theorem skn_r3 (j : Nat) (hsz : a.tmps.size = 104) (o2 : Sl a 2 (.int .i64 (j : Int)))
 (hend : ∀ a', Same a a' [12, 13] → Sl a' 13 (.bool (decide ((j : Int) < 20))) → Q .normal a' (w)) : (Code.region 3 (opsOf 3 Tryd.f13).toArray false).wp Tryd.prog Q a w := by
 refine wp_region_lit ?_
 (conv => arg 4; whnf)
 unfold Sl at o2
 go_wp2_with fail
 try simp only [Act.put]
 exact hend _ sS sP
theorem skn_r5 (w0 : World) (gk j : Nat) (hj : j < 20) (xs : List Value) (L : List Res) (S : Held w0 w (rowR 5 1 (.slice (some ⟨gk, 0, none⟩) 20 20) 20 xs :: L)) (hsz : a.tmps.size = 104) (o1 : Sl a 1 (.slice (some ⟨gk, 0, none⟩) 20 20)) (o2 : Sl a 2 (.int .i64 (j : Int)))
 (hend : ∀ a' W, Same a a' [16, 17, 18] → (Held w0 W (rowR 5 1 (.slice (some ⟨gk, 0, none⟩) 20 20) 20 (xs.set j (.int .u8 11)) :: L)) → Q .normal a' W) : (Code.region 5 (opsOf 5 Tryd.f13).toArray false).wp Tryd.prog Q a w := by
 refine wp_region_lit ?_
 (conv => arg 4; whnf)
 unfold Sl at o1 o2
 have S := Lib.hid S
 have hrow := S.out.at_ (l1 := [])
 have h0 : 0 ≤ (j : Int) := by omega
 have h1 : (j : Int) < 20 := by omega
 have hc0 := hrow.cellAt j (by omega)
 have hf0 := hrow.frozenAt j
 have hlw := ow_lt hrow (g := gk) rfl
 have S2 := Lib.hid (S.out.rowset (l1 := []) ((hrow.stored (g := gk) j (.int .u8 11)).1) ((Kp.refl [gk] _).setCell (p := ⟨gk, j, none⟩) (.inl (by simp)) (.int .u8 11)))
 have hlen := hrow.1
 obtain ⟨ux, hx⟩ : ∃ u, xs[j]? = some u := ⟨_, List.getElem?_eq_getElem (by omega)⟩
 rw [hx] at hc0
 clear hrow hlen
 go_wp2_with fail
 try simp only [Act.put]
 exact hend _ _ sS (S2.out)
theorem skn_r4 (j : Nat) (hj : j < 20) (hsz : a.tmps.size = 104) (o2 : Sl a 2 (.int .i64 (j : Int)))
 (hend : ∀ a', Same a a' [14, 15, 2] → Sl a' 2 (.int .i64 ((j + 1 : Nat) : Int)) → Q .normal a' (w)) : (Code.region 4 (opsOf 4 Tryd.f13).toArray false).wp Tryd.prog Q a w := by
 refine wp_region_lit ?_
 (conv => arg 4; whnf)
 unfold Sl at o2
 have hw : wrap64 ((j : Int) + 1) = (j : Int) + 1 := by unfold wrap64; omega
 go_wp2_with fail
 try simp only [Act.put]
 exact hend _ sS sP
theorem skn_r6 (gk : Nat) (hk : Rd w 1 (.slice (some ⟨gk, 0, none⟩) 20 20) 20 (bv k20)) (hsz : a.tmps.size = 104) (o1 : Sl a 1 (.slice (some ⟨gk, 0, none⟩) 20 20))
 (hend : ∀ a' W, Same a a' [19, 20, 21, 22, 23, 24, 25, 3] → (∃ gh, Sl a' 3 (.pointer (some ⟨gh, 0, none⟩)) ∧ Held w W [blkR gh 25 (hashA (macF k20 (hiL ++ thL)))]) → Q .normal a' W) : (Code.region 6 (opsOf 6 Tryd.f13).toArray false).wp Tryd.prog Q a w := by
 refine wp_region_lit ?_
 (conv => arg 4; whnf)
 unfold Sl at o1
 have kc := conv_txt
 have HK := Lib.hid hk
 clear hk
 have HO := Lib.hid (hashA_one (macF k20 (hiL ++ thL)))
 have hz2 : Hid ((hashA (macF k20 (hiL ++ thL))).size = 32) := Lib.hid (by rw [hashA_size, macF_length])
 obtain ⟨ch, hch⟩ : ∃ ch, Hid (hashA (macF k20 (hiL ++ thL)) = ch) := ⟨_, Lib.hid rfl⟩
 rw [hch.out] at hend HO hz2
 go_wp2_with fail
 have K3 : Kp [] w (((w.alloc (.cells #[.int .u8 72, .int .u8 105] 5 (2, 3))).alloc (.cells #[.int .u8 32, .int .u8 84, .int .u8 104, .int .u8 101, .int .u8 114, .int .u8 101] 5 (6, 7))).alloc (.cells #[.slice (some ⟨w.heap.size, 0, none⟩) 2 2, .slice (some ⟨w.heap.size + 1, 0, none⟩) 6 6] 22)) := (((Kp.refl [] w).alloc _).alloc _).alloc _
 have R1 : Rd (w.alloc (.cells #[.int .u8 72, .int .u8 105] 5 (2, 3))) 1 (.slice (some ⟨w.heap.size, 0, none⟩) 2 2) 2 (bv hiL) := rd_txt w 5 _ hiL (2, 3) rfl (by decide) rfl
 have R2 : Rd ((w.alloc (.cells #[.int .u8 72, .int .u8 105] 5 (2, 3))).alloc (.cells #[.int .u8 32, .int .u8 84, .int .u8 104, .int .u8 101, .int .u8 114, .int .u8 101] 5 (6, 7))) 1 (.slice (some ⟨w.heap.size + 1, 0, none⟩) 6 6) 6 (bv thL) := rd_txt _ 5 _ thL (6, 7) rfl (by decide) (by simp)
 obtain ⟨us, R3⟩ := (txs2 (g := w.heap.size + 2) 22 (by simp) (R1.alloc _) R2).f
 refine (mac_any _ [] (some ⟨gk, 0, none⟩) 20 k20 (by decide) _ us [hiL, thL] (by decide) _ (Held.start _) (fun V SV => rd_old (rd_old HK.out K3) SV.k) (fun V SV => R3.kp0 SV.k)).mono ?_
 rintro e w4 ⟨rfl, S⟩
 have S1 := Lib.hid ((Held.of_kp (K3.trans S.k (by simp))).newBlk 25 (hashA zH))
 clear S R3 R2 R1 K3 kc
 rw [show macF k20 [hiL, thL].flatten = macF k20 (hiL ++ thL) from rfl, hch.out]
 go_wp2_with (refine wpList_store_blk rfl 25 (.tmp 3) (.tmp 25) rfl w4.heap.size (by simp [Act.eval, Act.put, hsz]) ch (by simp [Act.eval, Act.put, hsz]) 25 _ (S1.out.at_ (l1 := [])) (by rw [hz2.out]; exact Tryd.infoHashP) (by rw [hz2.out]; rfl) HO.out ?_; intro w7 b7 k7; have S7 := Lib.hid (Held.setBlk (l1 := []) S1.out b7 k7); clear b7 k7)
 try simp only [Act.put]
 exact hend _ _ sS (⟨_, sP0, S7.out⟩)
theorem skn_r7 (LDw : LD w) (hsz : a.tmps.size = 104) 
 (hend : ∀ a' W, Same a a' [27, 28, 26, 29, 30, 4, 5] → Sl a' 5 (.int .i64 (0 : Int)) → (∃ gn, Sl a' 4 (.pointer (some ⟨gn, 0, none⟩)) ∧ Held w W [blkR gn 36 (ntA 0 zH (.slice none 0 0))]) → Q .normal a' W) : (Code.region 7 (opsOf 7 Tryd.f13).toArray false).wp Tryd.prog Q a w := by
 refine wp_region_lit ?_
 (conv => arg 4; whnf)
 have HL := Lib.hid LDw
 clear LDw
 have HO := Lib.hid (ntA_one (z := 0) (h := zH) (v := .slice none 0 0) rfl)
 have hz2 : Hid ((ntA 0 zH (.slice none 0 0)).size = 34) := Lib.hid (ntA_size zH_length)
 have e1 : Hid (newA 0 zH = ntA 0 zH (.slice none 0 0)) := Lib.hid (by unfold newA; rw [if_pos (by decide)])
 have e2 : Hid (chkN 0 [] = 0) := Lib.hid (by unfold chkN; rw [mayN_nil]; rfl)
 have hst0 : ntA 0 zH (.slice none 0 0) = zeroN := rfl
 obtain ⟨ch, hch⟩ : ∃ ch, Hid (ntA 0 zH (.slice none 0 0) = ch) := ⟨_, Lib.hid rfl⟩
 rw [hch.out] at hend HO hz2 hst0
 have e1 := Lib.hid (e1.out.trans hch.out)
 have hst := Lib.hid hst0
 clear hst0
 go_wp2_with (refine wpList_buildP rfl 33 _ rfl [] rfl _ Tryd.built_pt0 ?_)
 refine (sgnew_any 0 (by decide) zH zH_length w HL.out).mono ?_
 rintro e w1 ⟨rfl, k1⟩
 rw [e1.out, e2.out]
 have S1 := Lib.hid ((Held.of_kp k1).newBlk 36 zeroN)
 clear k1
 go_wp2_with (refine wpList_store_blk rfl 36 (.tmp 4) (.tmp 29) rfl w1.heap.size (by simp [Act.eval, Act.put, hsz]) ch (by simp [Act.eval, Act.put, hsz]) 36 _ (S1.out.at_ (l1 := [])) (by rw [hz2.out]; exact Tryd.infoNote) (by rw [hz2.out]; rfl) HO.out ?_; intro w7 b7 k7; have S7 := Lib.hid (Held.setBlk (l1 := []) S1.out b7 k7); clear b7 k7)
 try simp only [Act.put]
 exact hend _ _ sS sP (⟨_, sP0, S7.out⟩)
theorem skn_r8 (LDw : LD w) (gn : Nat) (hb : Blk w gn 36 (ntA 0 zH (.slice none 0 0))) (hv : Rd w 33 (.slice none 0 0) 0 (sgsC [])) (hsz : a.tmps.size = 104) (o4 : Sl a 4 (.pointer (some ⟨gn, 0, none⟩)))
 (hend : ∀ a' W, Same a a' [32, 33, 34, 35, 31, 36, 37, 6, 7] → Sl a' 7 (.int .i64 (0 : Int)) → (∃ A c gm, Sl a' 6 (.pointer (some ⟨gm, 0, none⟩)) ∧ Held w W [blkR gm 36 (ntA 0 zH (.slice A 1 c)), rowR 81 33 (.slice A 1 c) 1 (sgsC [sig1])]) → Q .normal a' W) : (Code.region 8 (opsOf 8 Tryd.f13).toArray false).wp Tryd.prog Q a w := by
 refine wp_region_lit ?_
 (conv => arg 4; whnf)
 unfold Sl at o4
 have HL := Lib.hid LDw
 have HB := Lib.hid hb
 have HV := Lib.hid hv
 clear LDw hb hv
 obtain ⟨cn, hcn⟩ : ∃ cn, Hid (ntA 0 zH (.slice none 0 0) = cn) := ⟨_, Lib.hid rfl⟩
 have hzc : Hid (cn.size = 34) := Lib.hid (by rw [← hcn.out]; exact ntA_size zH_length)
 rw [hcn.out] at HB
 go_wp2_with (first
  | (refine wpList_load_blk rfl 36 (.tmp 4) rfl gn (by simp [Act.eval, Act.put, hsz, o4]) 36 _ HB.out _ Tryd.underlying36 rfl (by rw [hzc.out]; exact Tryd.infoNote) ?_)
  | (refine wpList_buildP rfl 42 _ rfl [(0, .string ⟨#[119]⟩), (1, .slice (some ⟨w.heap.size, 0, none⟩) 2 2)] (by simp [Act.eval, Act.put, hsz]) _ (Tryd.built_key2 ⟨#[119]⟩ _ 2 2) ?_))
 rw [← hcn.out]
 have HR := rd_lit w 5 #[.int .u8 1, .int .u8 2] sec12 rfl (by decide)
 refine (ssign_any 0 (by decide) zH zH_length [] (fun s hs => by cases hs) (by decide) none 0 ⟨#[119]⟩ (by decide) (some ⟨w.heap.size, 0, none⟩) 2 sec12 _ (HL.out.kp ((Kp.refl [] w).alloc _)) (rd_nil_any 33 _) HR).mono ?_
 rintro e w1 ⟨u, rfl, hrow, k1⟩
 have e0 : signE 0 [] (ByteArray.mk #[119]).data.toList sec12 = 0 := signE_0
 have H := hrow e0
 rw [if_pos e0, e0]
 obtain ⟨A, c, hu, -, -⟩ := ow_form (show Ow w1 81 33 u 1 (sgsC [sig1]) from H.at_ (l1 := []))
 subst hu
 have hz2 : Hid ((ntA 0 zH (.slice A 1 c)).size = 34) := Lib.hid (ntA_size zH_length)
 have HO := Lib.hid (ntA_one (z := 0) (h := zH) (v := .slice A 1 c) rfl)
 have S0 : Held w w1 [rowR 81 33 (.slice A 1 c) 1 (sgsC [sig1])] := Held.back ((Kp.refl [] w).alloc _) H
 have S1 := Lib.hid (S0.newBlk 36 zeroN)
 clear S0 H hrow k1 HR e0
 have hend := fun a' W h5 h7 gm h8 => hend a' W h5 h7 ⟨A, c, gm, h8⟩
 obtain ⟨cm, hcm⟩ : ∃ cm, Hid (ntA 0 zH (.slice A 1 c) = cm) := ⟨_, Lib.hid rfl⟩
 rw [hcm.out] at HO hz2 hend ⊢
 go_wp2_with (first
  | (refine wpList_store_blk rfl 36 (.tmp 6) (.tmp 36) rfl w1.heap.size (by simp [Act.eval, Act.put, hsz]) cm (by simp [Act.eval, Act.put, hsz]) 36 _ (S1.out.at_ (l1 := [])) (by rw [hz2.out]; exact Tryd.infoNote) (by rw [hz2.out]; rfl) HO.out ?_; intro w7 b7 k7; have S7 := Lib.hid (Held.setBlk (l1 := []) S1.out b7 k7); clear b7 k7)
  | fail)
 try simp only [Act.put]
 exact hend _ _ sS sP (w1.heap.size) (⟨sP0, S7.out⟩)
theorem skn_r9 (LDw : LD w) (gm : Nat) (A : Option Addr) (c : Nat) (hb : Blk w gm 36 (ntA 0 zH (.slice A 1 c))) (hv : Rd w 33 (.slice A 1 c) 1 (sgsC [sig1])) (hsz : a.tmps.size = 104) (o6 : Sl a 6 (.pointer (some ⟨gm, 0, none⟩)))
 (hend : ∀ a' W, Same a a' [39, 40, 41, 42, 38, 43, 44, 8, 9] → Sl a' 9 (.int .i64 (8 : Int)) → (Kp [] w W) → Q .normal a' W) : (Code.region 9 (opsOf 9 Tryd.f13).toArray false).wp Tryd.prog Q a w := by
 refine wp_region_lit ?_
 (conv => arg 4; whnf)
 unfold Sl at o6
 have HL := Lib.hid LDw
 have HB := Lib.hid hb
 have HV := Lib.hid hv
 clear LDw hb hv
 obtain ⟨cn, hcn⟩ : ∃ cn, Hid (ntA 0 zH (.slice A 1 c) = cn) := ⟨_, Lib.hid rfl⟩
 have hzc : Hid (cn.size = 34) := Lib.hid (by rw [← hcn.out]; exact ntA_size zH_length)
 rw [hcn.out] at HB
 go_wp2_with (first
  | (refine wpList_load_blk rfl 36 (.tmp 6) rfl gm (by simp [Act.eval, Act.put, hsz, o6]) 36 _ HB.out _ Tryd.underlying36 rfl (by rw [hzc.out]; exact Tryd.infoNote) ?_)
  | (refine wpList_buildP rfl 42 _ rfl [(0, .string ⟨#[119]⟩), (1, .slice (some ⟨w.heap.size, 0, none⟩) 2 2)] (by simp [Act.eval, Act.put, hsz]) _ (Tryd.built_key2 ⟨#[119]⟩ _ 2 2) ?_))
 rw [← hcn.out]
 have HR := rd_lit w 5 #[.int .u8 1, .int .u8 2] sec12 rfl (by decide)
 refine (ssign_any 0 (by decide) zH zH_length [sig1] sig1_ok (by decide) A c ⟨#[119]⟩ (by decide) (some ⟨w.heap.size, 0, none⟩) 2 sec12 _ (HL.out.kp ((Kp.refl [] w).alloc _)) (rd_old HV.out ((Kp.refl [] w).alloc _)) HR).mono ?_
 rintro e w1 ⟨u, rfl, -, k1⟩
 have e0 : signE 0 [sig1] (ByteArray.mk #[119]).data.toList sec12 = 8 := signE_8
 rw [if_neg (by rw [e0]; decide), e0]
 have hz2 : Hid (zeroN.size = 34) := Lib.hid rfl
 have HO := Lib.hid (ntA_one (z := 0) (h := zH) (v := .slice none 0 0) rfl)
 have S1 := Lib.hid ((Held.of_kp (((Kp.refl [] w).alloc (.cells #[.int .u8 1, .int .u8 2] 5)).trans k1 (by simp))).newBlk 36 zeroN)
 clear k1 HR e0
 have HO : Hid (∀ u, u ∈ zeroN.toList → u.oneCell' = true) := HO
 obtain ⟨cm, hcm⟩ : ∃ cm, Hid (zeroN = cm) := ⟨_, Lib.hid rfl⟩
 rw [hcm.out] at HO hz2 ⊢
 go_wp2_with (first
  | (refine wpList_store_blk rfl 36 (.tmp 8) (.tmp 43) rfl w1.heap.size (by simp [Act.eval, Act.put, hsz]) cm (by simp [Act.eval, Act.put, hsz]) 36 _ (S1.out.at_ (l1 := [])) (by rw [hz2.out]; exact Tryd.infoNote) (by rw [hz2.out]; rfl) HO.out ?_; intro w7 b7 k7; have S7 := Lib.hid (Held.setBlk (l1 := []) S1.out b7 k7); clear b7 k7)
  | fail)
 try simp only [Act.put]
 exact hend _ _ sS sP (S7.out.k)
theorem skn_r10 (LDw : LD w) (gm : Nat) (A : Option Addr) (c : Nat) (hb : Blk w gm 36 (ntA 0 zH (.slice A 1 c))) (hv : Rd w 33 (.slice A 1 c) 1 (sgsC [sig1])) (hsz : a.tmps.size = 104) (o6 : Sl a 6 (.pointer (some ⟨gm, 0, none⟩)))
 (hend : ∀ a' W, Same a a' [45, 46, 47, 48, 49, 10] → (∃ u, Sl a' 10 u ∧ Held w W [rowR 9 1 u 1 [.string ⟨#[119]⟩]]) → Q .normal a' W) : (Code.region 10 (opsOf 10 Tryd.f13).toArray false).wp Tryd.prog Q a w := by
 refine wp_region_lit ?_
 (conv => arg 4; whnf)
 unfold Sl at o6
 have HL := Lib.hid LDw
 have HB := Lib.hid hb
 have HV := Lib.hid hv
 clear LDw hb hv
 obtain ⟨cn, hcn⟩ : ∃ cn, Hid (ntA 0 zH (.slice A 1 c) = cn) := ⟨_, Lib.hid rfl⟩
 have hzc : Hid (cn.size = 34) := Lib.hid (by rw [← hcn.out]; exact ntA_size zH_length)
 rw [hcn.out] at HB
 go_wp2_with (first
  | (refine wpList_load_blk rfl 36 (.tmp 6) rfl gm (by simp [Act.eval, Act.put, hsz, o6]) 36 _ HB.out _ Tryd.underlying36 rfl (by rw [hzc.out]; exact Tryd.infoNote) ?_)
  | (refine wpList_buildP rfl 42 _ rfl [(0, .string ⟨#[119]⟩), (1, .slice (some ⟨w.heap.size, 0, none⟩) 2 2)] (by simp [Act.eval, Act.put, hsz]) _ (Tryd.built_key2 ⟨#[119]⟩ _ 2 2) ?_)
  | (refine wpList_keys1 rfl 46 42 (.tmp 47) rfl ⟨#[119]⟩ (some ⟨w.heap.size, 0, none⟩) 2 2 (by simp [Act.eval, Act.put, hsz]) ?_))
 rw [← hcn.out]
 have HR := rd_lit w 5 #[.int .u8 1, .int .u8 2] sec12 rfl (by decide)
 have HK := kys1 (g := w.heap.size + 1) 42 (by simp) ⟨#[119]⟩ sec12 HR wN rfl
 refine (sright_any 0 (by decide) zH zH_length A c [sig1] sig1_ok (by decide) (some ⟨w.heap.size + 1, 0, none⟩) 1 [(wN, sec12)] (by decide) (fun k hk => by rw [List.mem_singleton.1 hk]; decide) _ _ (HL.out.kp (((Kp.refl [] w).alloc _).alloc _)) (rd_old HV.out (((Kp.refl [] w).alloc _).alloc _)) HK).mono ?_
 rintro e w1 ⟨u, rfl, H⟩
 rw [right_1] at H
 have S1 : Hid (Held w w1 [rowR 9 1 u 1 [.string ⟨#[119]⟩]]) := Lib.hid (Held.back (((Kp.refl [] w).alloc _).alloc _) H)
 clear H HK HR
 go_wp2_with fail
 try simp only [Act.put]
 exact hend _ _ sS (⟨u, sP0, S1.out⟩)
theorem skn_r11 (LDw : LD w) (gh gm go co : Nat) (A : Option Addr) (c : Nat) (hb3 : Blk w gh 25 (hashA kn20)) (hb6 : Blk w gm 36 (ntA 0 zH (.slice A 1 c))) (hv6 : Rd w 33 (.slice A 1 c) 1 (sgsC [sig1])) (hv10 : Rd w 1 (.slice (some ⟨go, 0, none⟩) 1 co) 1 [.string ⟨#[119]⟩]) (hsz : a.tmps.size = 104) (o3 : Sl a 3 (.pointer (some ⟨gh, 0, none⟩))) (o5 : Sl a 5 (.int .i64 (0 : Int))) (o6 : Sl a 6 (.pointer (some ⟨gm, 0, none⟩))) (o7 : Sl a 7 (.int .i64 (0 : Int))) (o9 : Sl a 9 (.int .i64 (8 : Int))) (o10 : Sl a 10 (.slice (some ⟨go, 0, none⟩) 1 co))
 (hend : ∀ a' W, Same a a' [50, 51, 52, 53, 54, 55, 56, 57, 58, 59, 60, 61, 62, 63, 64, 65, 66, 67, 68, 69, 70, 71, 72, 73, 74, 75, 76, 77, 78, 79, 80, 81, 82, 83, 84, 85, 86, 87, 88, 89, 90, 91, 92, 93, 94, 95, 96, 97, 98, 99, 100, 101, 102, 103, 0] → Kp [] w W → Sl a' 0 (.bool true) → Q .normal a' W) : (Code.region 11 (opsOf 11 Tryd.f13).toArray false).wp Tryd.prog Q a w := by
 have hap : apartB (opsOf 11 Tryd.f13) = true := by kernel_rfl
 refine wp_region_invS (l := (opsOf 11 Tryd.f13)) (fun i v W => match i with | 0 => v = .pointer (some ⟨gh, 0, none⟩) | 1 => v = .int .u8 176 | 2 => v = .bool true | 3 => v = .bool true | 4 => v = .pointer (some ⟨gh, 1, none⟩) | 5 => v = .int .u8 52 | 6 => v = .bool true | 7 => v = .bool true | 8 => v = .bool true | 9 => v = .pointer (some ⟨gh, 31, none⟩) | 10 => v = .int .u8 247 | 11 => v = .bool true | 12 => v = .bool true | 13 => v = .bool true | 14 => v = .int .i64 (0 : Int) | 15 => v = .int .i64 (0 : Int) | 16 => v = .bool true | 17 => v = .bool true | 18 => v = .bool true | 19 => v = .int .i64 (0 : Int) | 20 => v = .int .i64 (0 : Int) | 21 => v = .bool true | 22 => v = .bool true | 23 => v = .bool true | 24 => v = .pointer (some ⟨gm, 33, none⟩) | 25 => v = .slice A 1 c | 26 => v = .int .i64 (1 : Int) | 27 => v = .bool true | 28 => v = .bool true | 29 => v = .bool true | 30 => v = .int .i64 (8 : Int) | 31 => v = .int .i64 (8 : Int) | 32 => v = .bool true | 33 => v = .bool true | 34 => v = .bool true | 35 => v = .slice (some ⟨go, 0, none⟩) 1 co | 36 => v = .int .i64 (1 : Int) | 37 => v = .bool true | 38 => v = .bool true | 39 => v = .bool true | 40 => v = .slice (some ⟨go, 0, none⟩) 1 co | 41 => v = .pointer (some ⟨go, 0, none⟩) | 42 => v = .string ⟨#[119]⟩ | 43 => v = .bool true | 44 => v = .bool true | 45 => v = .bool true | 46 => v = .agg (ntA 0 zH (.slice A 1 c)) | 47 => ∃ A c, v = .slice A 2 c ∧ Rd W 1 (.slice A 2 c) 2 (bv sec13) | 48 => ∃ A c, v = .agg #[.string ⟨#[119]⟩, .slice A 2 c] ∧ Rd W 1 (.slice A 2 c) 2 (bv sec13) | 49 => ∃ us A, v = .slice A 1 1 ∧ KysF W (.slice A 1 1) us [(wN, sec13)] | 50 => ∃ A c, v = .slice A 0 c | 51 => v = .int .i64 (0 : Int) | 52 => v = .bool true | 53 => v = .bool true | 54 => v = .bool true | _ => True) hap ?_ ?_ ?_
 · intro i v W W' h k
   rcases i with _ | i
   · exact h
   rcases i with _ | i
   · exact h
   rcases i with _ | i
   · exact h
   rcases i with _ | i
   · exact h
   rcases i with _ | i
   · exact h
   rcases i with _ | i
   · exact h
   rcases i with _ | i
   · exact h
   rcases i with _ | i
   · exact h
   rcases i with _ | i
   · exact h
   rcases i with _ | i
   · exact h
   rcases i with _ | i
   · exact h
   rcases i with _ | i
   · exact h
   rcases i with _ | i
   · exact h
   rcases i with _ | i
   · exact h
   rcases i with _ | i
   · exact h
   rcases i with _ | i
   · exact h
   rcases i with _ | i
   · exact h
   rcases i with _ | i
   · exact h
   rcases i with _ | i
   · exact h
   rcases i with _ | i
   · exact h
   rcases i with _ | i
   · exact h
   rcases i with _ | i
   · exact h
   rcases i with _ | i
   · exact h
   rcases i with _ | i
   · exact h
   rcases i with _ | i
   · exact h
   rcases i with _ | i
   · exact h
   rcases i with _ | i
   · exact h
   rcases i with _ | i
   · exact h
   rcases i with _ | i
   · exact h
   rcases i with _ | i
   · exact h
   rcases i with _ | i
   · exact h
   rcases i with _ | i
   · exact h
   rcases i with _ | i
   · exact h
   rcases i with _ | i
   · exact h
   rcases i with _ | i
   · exact h
   rcases i with _ | i
   · exact h
   rcases i with _ | i
   · exact h
   rcases i with _ | i
   · exact h
   rcases i with _ | i
   · exact h
   rcases i with _ | i
   · exact h
   rcases i with _ | i
   · exact h
   rcases i with _ | i
   · exact h
   rcases i with _ | i
   · exact h
   rcases i with _ | i
   · exact h
   rcases i with _ | i
   · exact h
   rcases i with _ | i
   · exact h
   rcases i with _ | i
   · exact h
   rcases i with _ | i
   · obtain ⟨A, c, h1, h2⟩ := h; exact ⟨A, c, h1, rd_old h2 k⟩
   rcases i with _ | i
   · obtain ⟨A, c, h1, h2⟩ := h; exact ⟨A, c, h1, rd_old h2 k⟩
   rcases i with _ | i
   · obtain ⟨us, A, h1, h2⟩ := h; exact ⟨us, A, h1, h2.kp0 k⟩
   rcases i with _ | i
   · exact h
   rcases i with _ | i
   · exact h
   rcases i with _ | i
   · exact h
   rcases i with _ | i
   · exact h
   rcases i with _ | i
   · exact h
   exact h
 · refine ⟨?_, ?_, ?_, ?_, ?_, ?_, ?_, ?_, ?_, ?_, ?_, ?_, ?_, ?_, ?_, ?_, ?_, ?_, ?_, ?_, ?_, ?_, ?_, ?_, ?_, ?_, ?_, ?_, ?_, ?_, ?_, ?_, ?_, ?_, ?_, ?_, ?_, ?_, ?_, ?_, ?_, ?_, ?_, ?_, ?_, ?_, ?_, ?_, ?_, ?_, ?_, ?_, ?_, ?_, ?_, trivial⟩
   · intro vs A' W hA hW hd hu K hK; refine wpOp_free _ rfl rfl ?_; (conv => arg 2; whnf); have e3 := sO 3 o3 hA hap hsz; clear hA hd hu o3 o5 o6 o7 o9 o10; go_step; exact hK _ _ kR rfl
   · intro vs A' W hA hW hd hu K hK; refine wpOp_free _ rfl rfl ?_; (conv => arg 2; whnf); have e50 := sV 50 (hd 0 (by kernel_rfl)) hA hap hsz; clear hA hd hu o3 o5 o6 o7 o9 o10
     have c0 : W.cell? ⟨gh, 0, none⟩ = some (.int .u8 176) := hash_cell (hb3.kp hW (by simp)) 0 176 kn20_at.1
     go_step; exact hK _ _ kR rfl
   · intro vs A' W hA hW hd hu K hK; refine wpOp_free _ rfl rfl ?_; (conv => arg 2; whnf); have e51 := sV 51 (hd 1 (by kernel_rfl)) hA hap hsz; clear hA hd hu o3 o5 o6 o7 o9 o10; go_step; exact hK _ _ kR rfl
   · intro vs A' W hA hW hd hu K hK; refine wpOp_free _ rfl rfl ?_; (conv => arg 2; whnf); have e52 := sV 52 (hd 2 (by kernel_rfl)) hA hap hsz; clear hA hd hu o3 o5 o6 o7 o9 o10; go_step; exact hK _ _ kR rfl
   · intro vs A' W hA hW hd hu K hK; have e53 := sV 53 (hd 3 (by kernel_rfl)) hA hap hsz; refine wpOp_go _ rfl 3 53 true rfl rfl e53 ?_; (conv => arg 2; whnf); have e3 := sO 3 o3 hA hap hsz; clear hA hd hu o3 o5 o6 o7 o9 o10; go_step; exact hK _ _ kR rfl
   · intro vs A' W hA hW hd hu K hK; have e53 := sV 53 (hd 3 (by kernel_rfl)) hA hap hsz; refine wpOp_go _ rfl 3 53 true rfl rfl e53 ?_; (conv => arg 2; whnf); have e54 := sV 54 (hd 4 (by kernel_rfl)) hA hap hsz; clear hA hd hu o3 o5 o6 o7 o9 o10
     have c0 : W.cell? ⟨gh, 1, none⟩ = some (.int .u8 52) := hash_cell (hb3.kp hW (by simp)) 1 52 kn20_at.2.1
     go_step; exact hK _ _ kR rfl
   · intro vs A' W hA hW hd hu K hK; have e53 := sV 53 (hd 3 (by kernel_rfl)) hA hap hsz; refine wpOp_go _ rfl 3 53 true rfl rfl e53 ?_; (conv => arg 2; whnf); have e55 := sV 55 (hd 5 (by kernel_rfl)) hA hap hsz; clear hA hd hu o3 o5 o6 o7 o9 o10; go_step; exact hK _ _ kR rfl
   · intro vs A' W hA hW hd hu K hK; refine wpOp_free _ rfl rfl ?_; (conv => arg 2; whnf); have e53 := sV 53 (hd 3 (by kernel_rfl)) hA hap hsz; have e56 := sV 56 (hd 6 (by kernel_rfl)) hA hap hsz; clear hA hd hu o3 o5 o6 o7 o9 o10; go_step; exact hK _ _ kR rfl
   · intro vs A' W hA hW hd hu K hK; refine wpOp_free _ rfl rfl ?_; (conv => arg 2; whnf); have e57 := sV 57 (hd 7 (by kernel_rfl)) hA hap hsz; clear hA hd hu o3 o5 o6 o7 o9 o10; go_step; exact hK _ _ kR rfl
   · intro vs A' W hA hW hd hu K hK; have e58 := sV 58 (hd 8 (by kernel_rfl)) hA hap hsz; refine wpOp_go _ rfl 8 58 true rfl rfl e58 ?_; (conv => arg 2; whnf); have e3 := sO 3 o3 hA hap hsz; clear hA hd hu o3 o5 o6 o7 o9 o10; go_step; exact hK _ _ kR rfl
   · intro vs A' W hA hW hd hu K hK; have e58 := sV 58 (hd 8 (by kernel_rfl)) hA hap hsz; refine wpOp_go _ rfl 8 58 true rfl rfl e58 ?_; (conv => arg 2; whnf); have e59 := sV 59 (hd 9 (by kernel_rfl)) hA hap hsz; clear hA hd hu o3 o5 o6 o7 o9 o10
     have c0 : W.cell? ⟨gh, 31, none⟩ = some (.int .u8 247) := hash_cell (hb3.kp hW (by simp)) 31 247 kn20_at.2.2
     go_step; exact hK _ _ kR rfl
   · intro vs A' W hA hW hd hu K hK; have e58 := sV 58 (hd 8 (by kernel_rfl)) hA hap hsz; refine wpOp_go _ rfl 8 58 true rfl rfl e58 ?_; (conv => arg 2; whnf); have e60 := sV 60 (hd 10 (by kernel_rfl)) hA hap hsz; clear hA hd hu o3 o5 o6 o7 o9 o10; go_step; exact hK _ _ kR rfl
   · intro vs A' W hA hW hd hu K hK; refine wpOp_free _ rfl rfl ?_; (conv => arg 2; whnf); have e58 := sV 58 (hd 8 (by kernel_rfl)) hA hap hsz; have e61 := sV 61 (hd 11 (by kernel_rfl)) hA hap hsz; clear hA hd hu o3 o5 o6 o7 o9 o10; go_step; exact hK _ _ kR rfl
   · intro vs A' W hA hW hd hu K hK; refine wpOp_free _ rfl rfl ?_; (conv => arg 2; whnf); have e62 := sV 62 (hd 12 (by kernel_rfl)) hA hap hsz; clear hA hd hu o3 o5 o6 o7 o9 o10; go_step; exact hK _ _ kR rfl
   · intro vs A' W hA hW hd hu K hK; have e63 := sV 63 (hd 13 (by kernel_rfl)) hA hap hsz; refine wpOp_go _ rfl 13 63 true rfl rfl e63 ?_; (conv => arg 2; whnf); have e5 := sO 5 o5 hA hap hsz; clear hA hd hu o3 o5 o6 o7 o9 o10; go_step; exact hK _ _ kR rfl
   · intro vs A' W hA hW hd hu K hK; have e63 := sV 63 (hd 13 (by kernel_rfl)) hA hap hsz; refine wpOp_go _ rfl 13 63 true rfl rfl e63 ?_; (conv => arg 2; whnf); have e64 := sV 64 (hd 14 (by kernel_rfl)) hA hap hsz; clear hA hd hu o3 o5 o6 o7 o9 o10; go_step
     refine (lnum_any 0 W).mono ?_
     rintro e w' ⟨rfl, rfl⟩
     exact hK _ _ kR rfl
   · intro vs A' W hA hW hd hu K hK; have e63 := sV 63 (hd 13 (by kernel_rfl)) hA hap hsz; refine wpOp_go _ rfl 13 63 true rfl rfl e63 ?_; (conv => arg 2; whnf); have e65 := sV 65 (hd 15 (by kernel_rfl)) hA hap hsz; clear hA hd hu o3 o5 o6 o7 o9 o10; go_step; exact hK _ _ kR rfl
   · intro vs A' W hA hW hd hu K hK; refine wpOp_free _ rfl rfl ?_; (conv => arg 2; whnf); have e63 := sV 63 (hd 13 (by kernel_rfl)) hA hap hsz; have e66 := sV 66 (hd 16 (by kernel_rfl)) hA hap hsz; clear hA hd hu o3 o5 o6 o7 o9 o10; go_step; exact hK _ _ kR rfl
   · intro vs A' W hA hW hd hu K hK; refine wpOp_free _ rfl rfl ?_; (conv => arg 2; whnf); have e67 := sV 67 (hd 17 (by kernel_rfl)) hA hap hsz; clear hA hd hu o3 o5 o6 o7 o9 o10; go_step; exact hK _ _ kR rfl
   · intro vs A' W hA hW hd hu K hK; have e68 := sV 68 (hd 18 (by kernel_rfl)) hA hap hsz; refine wpOp_go _ rfl 18 68 true rfl rfl e68 ?_; (conv => arg 2; whnf); have e7 := sO 7 o7 hA hap hsz; clear hA hd hu o3 o5 o6 o7 o9 o10; go_step; exact hK _ _ kR rfl
   · intro vs A' W hA hW hd hu K hK; have e68 := sV 68 (hd 18 (by kernel_rfl)) hA hap hsz; refine wpOp_go _ rfl 18 68 true rfl rfl e68 ?_; (conv => arg 2; whnf); have e69 := sV 69 (hd 19 (by kernel_rfl)) hA hap hsz; clear hA hd hu o3 o5 o6 o7 o9 o10; go_step
     refine (lnum_any 0 W).mono ?_
     rintro e w' ⟨rfl, rfl⟩
     exact hK _ _ kR rfl
   · intro vs A' W hA hW hd hu K hK; have e68 := sV 68 (hd 18 (by kernel_rfl)) hA hap hsz; refine wpOp_go _ rfl 18 68 true rfl rfl e68 ?_; (conv => arg 2; whnf); have e70 := sV 70 (hd 20 (by kernel_rfl)) hA hap hsz; clear hA hd hu o3 o5 o6 o7 o9 o10; go_step; exact hK _ _ kR rfl
   · intro vs A' W hA hW hd hu K hK; refine wpOp_free _ rfl rfl ?_; (conv => arg 2; whnf); have e68 := sV 68 (hd 18 (by kernel_rfl)) hA hap hsz; have e71 := sV 71 (hd 21 (by kernel_rfl)) hA hap hsz; clear hA hd hu o3 o5 o6 o7 o9 o10; go_step; exact hK _ _ kR rfl
   · intro vs A' W hA hW hd hu K hK; refine wpOp_free _ rfl rfl ?_; (conv => arg 2; whnf); have e72 := sV 72 (hd 22 (by kernel_rfl)) hA hap hsz; clear hA hd hu o3 o5 o6 o7 o9 o10; go_step; exact hK _ _ kR rfl
   · intro vs A' W hA hW hd hu K hK; have e73 := sV 73 (hd 23 (by kernel_rfl)) hA hap hsz; refine wpOp_go _ rfl 23 73 true rfl rfl e73 ?_; (conv => arg 2; whnf); have e6 := sO 6 o6 hA hap hsz; clear hA hd hu o3 o5 o6 o7 o9 o10; go_step; exact hK _ _ kR rfl
   · intro vs A' W hA hW hd hu K hK; have e73 := sV 73 (hd 23 (by kernel_rfl)) hA hap hsz; refine wpOp_go _ rfl 23 73 true rfl rfl e73 ?_; (conv => arg 2; whnf); have e74 := sV 74 (hd 24 (by kernel_rfl)) hA hap hsz; clear hA hd hu o3 o5 o6 o7 o9 o10
     have c0 : W.cell? ⟨gm, 33, none⟩ = some (.slice A 1 c) := by rw [(hb6.kp hW (by simp)).cell]; exact ntA_sigs zH_length
     go_step; exact hK _ _ kR rfl
   · intro vs A' W hA hW hd hu K hK; have e73 := sV 73 (hd 23 (by kernel_rfl)) hA hap hsz; refine wpOp_go _ rfl 23 73 true rfl rfl e73 ?_; (conv => arg 2; whnf); have e75 := sV 75 (hd 25 (by kernel_rfl)) hA hap hsz; clear hA hd hu o3 o5 o6 o7 o9 o10; go_step; exact hK _ _ kR rfl
   · intro vs A' W hA hW hd hu K hK; have e73 := sV 73 (hd 23 (by kernel_rfl)) hA hap hsz; refine wpOp_go _ rfl 23 73 true rfl rfl e73 ?_; (conv => arg 2; whnf); have e76 := sV 76 (hd 26 (by kernel_rfl)) hA hap hsz; clear hA hd hu o3 o5 o6 o7 o9 o10; go_step; exact hK _ _ kR rfl
   · intro vs A' W hA hW hd hu K hK; refine wpOp_free _ rfl rfl ?_; (conv => arg 2; whnf); have e73 := sV 73 (hd 23 (by kernel_rfl)) hA hap hsz; have e77 := sV 77 (hd 27 (by kernel_rfl)) hA hap hsz; clear hA hd hu o3 o5 o6 o7 o9 o10; go_step; exact hK _ _ kR rfl
   · intro vs A' W hA hW hd hu K hK; refine wpOp_free _ rfl rfl ?_; (conv => arg 2; whnf); have e78 := sV 78 (hd 28 (by kernel_rfl)) hA hap hsz; clear hA hd hu o3 o5 o6 o7 o9 o10; go_step; exact hK _ _ kR rfl
   · intro vs A' W hA hW hd hu K hK; have e79 := sV 79 (hd 29 (by kernel_rfl)) hA hap hsz; refine wpOp_go _ rfl 29 79 true rfl rfl e79 ?_; (conv => arg 2; whnf); have e9 := sO 9 o9 hA hap hsz; clear hA hd hu o3 o5 o6 o7 o9 o10; go_step; exact hK _ _ kR rfl
   · intro vs A' W hA hW hd hu K hK; have e79 := sV 79 (hd 29 (by kernel_rfl)) hA hap hsz; refine wpOp_go _ rfl 29 79 true rfl rfl e79 ?_; (conv => arg 2; whnf); have e80 := sV 80 (hd 30 (by kernel_rfl)) hA hap hsz; clear hA hd hu o3 o5 o6 o7 o9 o10; go_step
     refine (lnum_any 8 W).mono ?_
     rintro e w' ⟨rfl, rfl⟩
     exact hK _ _ kR rfl
   · intro vs A' W hA hW hd hu K hK; have e79 := sV 79 (hd 29 (by kernel_rfl)) hA hap hsz; refine wpOp_go _ rfl 29 79 true rfl rfl e79 ?_; (conv => arg 2; whnf); have e81 := sV 81 (hd 31 (by kernel_rfl)) hA hap hsz; clear hA hd hu o3 o5 o6 o7 o9 o10; go_step; exact hK _ _ kR rfl
   · intro vs A' W hA hW hd hu K hK; refine wpOp_free _ rfl rfl ?_; (conv => arg 2; whnf); have e79 := sV 79 (hd 29 (by kernel_rfl)) hA hap hsz; have e82 := sV 82 (hd 32 (by kernel_rfl)) hA hap hsz; clear hA hd hu o3 o5 o6 o7 o9 o10; go_step; exact hK _ _ kR rfl
   · intro vs A' W hA hW hd hu K hK; refine wpOp_free _ rfl rfl ?_; (conv => arg 2; whnf); have e83 := sV 83 (hd 33 (by kernel_rfl)) hA hap hsz; clear hA hd hu o3 o5 o6 o7 o9 o10; go_step; exact hK _ _ kR rfl
   · intro vs A' W hA hW hd hu K hK; have e84 := sV 84 (hd 34 (by kernel_rfl)) hA hap hsz; refine wpOp_go _ rfl 34 84 true rfl rfl e84 ?_; (conv => arg 2; whnf); have e10 := sO 10 o10 hA hap hsz; clear hA hd hu o3 o5 o6 o7 o9 o10; go_step; exact hK _ _ kR rfl
   · intro vs A' W hA hW hd hu K hK; have e84 := sV 84 (hd 34 (by kernel_rfl)) hA hap hsz; refine wpOp_go _ rfl 34 84 true rfl rfl e84 ?_; (conv => arg 2; whnf); have e85 := sV 85 (hd 35 (by kernel_rfl)) hA hap hsz; clear hA hd hu o3 o5 o6 o7 o9 o10; go_step; exact hK _ _ kR rfl
   · intro vs A' W hA hW hd hu K hK; have e84 := sV 84 (hd 34 (by kernel_rfl)) hA hap hsz; refine wpOp_go _ rfl 34 84 true rfl rfl e84 ?_; (conv => arg 2; whnf); have e86 := sV 86 (hd 36 (by kernel_rfl)) hA hap hsz; clear hA hd hu o3 o5 o6 o7 o9 o10; go_step; exact hK _ _ kR rfl
   · intro vs A' W hA hW hd hu K hK; refine wpOp_free _ rfl rfl ?_; (conv => arg 2; whnf); have e84 := sV 84 (hd 34 (by kernel_rfl)) hA hap hsz; have e87 := sV 87 (hd 37 (by kernel_rfl)) hA hap hsz; clear hA hd hu o3 o5 o6 o7 o9 o10; go_step; exact hK _ _ kR rfl
   · intro vs A' W hA hW hd hu K hK; refine wpOp_free _ rfl rfl ?_; (conv => arg 2; whnf); have e88 := sV 88 (hd 38 (by kernel_rfl)) hA hap hsz; clear hA hd hu o3 o5 o6 o7 o9 o10; go_step; exact hK _ _ kR rfl
   · intro vs A' W hA hW hd hu K hK; have e89 := sV 89 (hd 39 (by kernel_rfl)) hA hap hsz; refine wpOp_go _ rfl 39 89 true rfl rfl e89 ?_; (conv => arg 2; whnf); have e10 := sO 10 o10 hA hap hsz; clear hA hd hu o3 o5 o6 o7 o9 o10; go_step; exact hK _ _ kR rfl
   · intro vs A' W hA hW hd hu K hK; have e89 := sV 89 (hd 39 (by kernel_rfl)) hA hap hsz; refine wpOp_go _ rfl 39 89 true rfl rfl e89 ?_; (conv => arg 2; whnf); have e90 := sV 90 (hd 40 (by kernel_rfl)) hA hap hsz; clear hA hd hu o3 o5 o6 o7 o9 o10; go_step; exact hK _ _ kR rfl
   · intro vs A' W hA hW hd hu K hK; have e89 := sV 89 (hd 39 (by kernel_rfl)) hA hap hsz; refine wpOp_go _ rfl 39 89 true rfl rfl e89 ?_; (conv => arg 2; whnf); have e91 := sV 91 (hd 41 (by kernel_rfl)) hA hap hsz; clear hA hd hu o3 o5 o6 o7 o9 o10
     have c0 : W.cell? ⟨go, 0, none⟩ = some (.string ⟨#[119]⟩) := by
      obtain ⟨-, A', c', he, -, -, -, hc⟩ := rd_old hv10 hW
      cases he
      exact hc _ rfl 0 _ rfl
     go_step; exact hK _ _ kR rfl
   · intro vs A' W hA hW hd hu K hK; have e89 := sV 89 (hd 39 (by kernel_rfl)) hA hap hsz; refine wpOp_go _ rfl 39 89 true rfl rfl e89 ?_; (conv => arg 2; whnf); have e92 := sV 92 (hd 42 (by kernel_rfl)) hA hap hsz; clear hA hd hu o3 o5 o6 o7 o9 o10; go_step; exact hK _ _ kR rfl
   · intro vs A' W hA hW hd hu K hK; refine wpOp_free _ rfl rfl ?_; (conv => arg 2; whnf); have e89 := sV 89 (hd 39 (by kernel_rfl)) hA hap hsz; have e93 := sV 93 (hd 43 (by kernel_rfl)) hA hap hsz; clear hA hd hu o3 o5 o6 o7 o9 o10; go_step; exact hK _ _ kR rfl
   · intro vs A' W hA hW hd hu K hK; refine wpOp_free _ rfl rfl ?_; (conv => arg 2; whnf); have e94 := sV 94 (hd 44 (by kernel_rfl)) hA hap hsz; clear hA hd hu o3 o5 o6 o7 o9 o10; go_step; exact hK _ _ kR rfl
   · intro vs A' W hA hW hd hu K hK; have e95 := sV 95 (hd 45 (by kernel_rfl)) hA hap hsz; refine wpOp_go _ rfl 45 95 true rfl rfl e95 ?_; (conv => arg 2; whnf); have e6 := sO 6 o6 hA hap hsz; clear hA hd hu o3 o5 o6 o7 o9 o10
     refine op_runs (v := .agg (ntA 0 zH (.slice A 1 c))) (w' := W) (exec_load rfl (by simpa [Act.eval] using e6) (run_loadAt_agg W (⟨gm, 0, none⟩) 36 (ntA 0 zH (.slice A 1 c)).toList _ (Blk.agg (hb6.kp hW (by simp))) Tryd.underlying36 rfl (by rw [Array.length_toList, ntA_size zH_length]; exact Tryd.infoNote))) ?_
     exact hK _ _ kR rfl
   · intro vs A' W hA hW hd hu K hK; have e95 := sV 95 (hd 45 (by kernel_rfl)) hA hap hsz; refine wpOp_go _ rfl 45 95 true rfl rfl e95 ?_; (conv => arg 2; whnf); clear hA hd hu o3 o5 o6 o7 o9 o10; go_step
     exact hK _ _ ((Kp.refl [] W).alloc _) ⟨_, _, rfl, rd_lit W _ _ sec13 rfl (by decide)⟩
   · intro vs A' W hA hW hd hu K hK; have e95 := sV 95 (hd 45 (by kernel_rfl)) hA hap hsz; refine wpOp_go _ rfl 45 95 true rfl rfl e95 ?_; (conv => arg 2; whnf); have f47 : ∃ A c, (vs 47) = .slice A 2 c ∧ Rd W 1 (.slice A 2 c) 2 (bv sec13) := hd 47 (by kernel_rfl)
     have e97 := sU 97 47 hA hap hsz
     clear hA hd hu o3 o5 o6 o7 o9 o10
     obtain ⟨A1, c1, hv1, hr1⟩ := f47
     rw [hv1] at e97
     refine op_build 42 _ rfl [(0, .string ⟨#[119]⟩), (1, .slice A1 2 c1)] (by simp [Act.eval, e97]) _ (Tryd.built_key2 ⟨#[119]⟩ _ 2 _) ?_
     exact hK _ _ kR ⟨A1, c1, rfl, hr1⟩
   · intro vs A' W hA hW hd hu K hK; have e95 := sV 95 (hd 45 (by kernel_rfl)) hA hap hsz; refine wpOp_go _ rfl 45 95 true rfl rfl e95 ?_; (conv => arg 2; whnf); have f48 : ∃ A c, (vs 48) = .agg #[.string ⟨#[119]⟩, .slice A 2 c] ∧ Rd W 1 (.slice A 2 c) 2 (bv sec13) := hd 48 (by kernel_rfl)
     have e98 := sU 98 48 hA hap hsz
     clear hA hd hu o3 o5 o6 o7 o9 o10
     obtain ⟨A1, c1, hv1, hr1⟩ := f48
     rw [hv1] at e98
     refine op_keys1 (.tmp 98) rfl ⟨#[119]⟩ A1 2 c1 (by simp [Act.eval, e98]) ?_
     exact hK _ _ ((Kp.refl [] W).alloc _) ⟨_, _, rfl, kys1 42 rfl ⟨#[119]⟩ sec13 hr1 wN rfl⟩
   · intro vs A' W hA hW hd hu K hK; have e95 := sV 95 (hd 45 (by kernel_rfl)) hA hap hsz; refine wpOp_go _ rfl 45 95 true rfl rfl e95 ?_; (conv => arg 2; whnf); have e96 := sV 96 (hd 46 (by kernel_rfl)) hA hap hsz; have f49 : ∃ us A, (vs 49) = .slice A 1 1 ∧ KysF W (.slice A 1 1) us [(wN, sec13)] := hd 49 (by kernel_rfl)
     have e99 := sU 99 49 hA hap hsz
     clear hA hd hu o3 o5 o6 o7 o9 o10
     obtain ⟨us, A1, hv1, hr1⟩ := f49
     rw [hv1] at e99
     go_step
     refine (sright_any 0 (by decide) zH zH_length A c [sig1] sig1_ok (by decide) A1 1 [(wN, sec13)] (by decide) (fun k hk => by rw [List.mem_singleton.1 hk]; decide) us W (LDw.kp hW) (rd_old hv6 hW) hr1).mono ?_
     rintro e w' ⟨u, rfl, H⟩
     rw [right_0] at H
     obtain ⟨A2, c2, hu, -, -⟩ := ow_form (show Ow w' 9 1 u 0 [] from H.at_ (l1 := []))
     exact hK _ _ H.k ⟨A2, c2, hu⟩
   · intro vs A' W hA hW hd hu K hK; have e95 := sV 95 (hd 45 (by kernel_rfl)) hA hap hsz; refine wpOp_go _ rfl 45 95 true rfl rfl e95 ?_; (conv => arg 2; whnf); have f50 : ∃ A c, (vs 50) = .slice A 0 c := hd 50 (by kernel_rfl)
     have e100 := sU 100 50 hA hap hsz
     clear hA hd hu o3 o5 o6 o7 o9 o10
     obtain ⟨A1, c1, hv1⟩ := f50
     rw [hv1] at e100
     go_step; exact hK _ _ kR rfl
   · intro vs A' W hA hW hd hu K hK; have e95 := sV 95 (hd 45 (by kernel_rfl)) hA hap hsz; refine wpOp_go _ rfl 45 95 true rfl rfl e95 ?_; (conv => arg 2; whnf); have e101 := sV 101 (hd 51 (by kernel_rfl)) hA hap hsz; clear hA hd hu o3 o5 o6 o7 o9 o10; go_step; exact hK _ _ kR rfl
   · intro vs A' W hA hW hd hu K hK; refine wpOp_free _ rfl rfl ?_; (conv => arg 2; whnf); have e95 := sV 95 (hd 45 (by kernel_rfl)) hA hap hsz; have e102 := sV 102 (hd 52 (by kernel_rfl)) hA hap hsz; clear hA hd hu o3 o5 o6 o7 o9 o10; go_step; exact hK _ _ kR rfl
   · intro vs A' W hA hW hd hu K hK; refine wpOp_free _ rfl rfl ?_; (conv => arg 2; whnf); have e103 := sV 103 (hd 53 (by kernel_rfl)) hA hap hsz; clear hA hd hu o3 o5 o6 o7 o9 o10; go_step; exact hK _ _ kR rfl
 · intro vs W hW hp
   rw [putAll_eq]
   exact hend _ W sQ hW (sW (hp 54 sB))
end
/- known of layer 28, whole. -/
section
open Go.RowKit
def filK (j : Nat) : List Value := List.replicate j (.int .u8 11) ++ List.replicate (20 - j) (.int .u8 0)
theorem filK_0 : filK 0 = bv (List.replicate 20 0) := rfl
theorem filK_step {j : Nat} (h : j < 20) : (filK j).set j (.int .u8 11) = filK (j + 1) := by
 unfold filK
 rw [List.set_append_right _ _ (by simp), List.length_replicate, Nat.sub_self, show 20 - j = (20 - (j + 1)) + 1 from by omega, List.replicate_succ, List.set_cons_zero, List.replicate_succ', List.append_assoc]
 rfl
def dsKn : List Nat := [12, 13, 16, 17, 18, 14, 15, 2]
theorem skn_l0 {Q : Exit → Act → World → Prop} {a : Act} {w0 w : World} (gk : Nat) (L : List Res) (hsz : a.tmps.size = 104) (o1 : Sl a 1 (.slice (some ⟨gk, 0, none⟩) 20 20)) (o2 : Sl a 2 (.int .i64 ((0 : Nat) : Int)))
 (S : Held w0 w (rowR 5 1 (.slice (some ⟨gk, 0, none⟩) 20 20) 20 (bv (List.replicate 20 0)) :: L))
 (hend : ∀ a' W, Same a a' dsKn → Held w0 W (rowR 5 1 (.slice (some ⟨gk, 0, none⟩) 20 20) 20 (bv k20) :: L) → Q .normal a' W) :
 (Code.block 0 (blockOf 0 Tryd.f13)).wp Tryd.prog Q a w := by
 refine wp_block ?_
 (conv => arg 2; whnf)
 refine wp_loop (fun a' w' => ∃ (j : Nat), j ≤ 20 ∧ Same a a' dsKn ∧ Sl a' 2 (.int .i64 ((j : Nat) : Int)) ∧ Held w0 w' (rowR 5 1 (.slice (some ⟨gk, 0, none⟩) 20 20) 20 (filK j) :: L)) (fun a' _ => 20 - (intOf (a'.eval (.tmp 2))).toNat) ⟨0, Nat.zero_le _, Same.refl _ _, o2, by rw [filK_0]; exact S⟩ ?_
 clear o2 S
 rintro a1 w1 ⟨j, hj, T, o2, S⟩
 have hz1 := T.size.trans hsz
 have o1 := T.keep 1 _ (by decide) o1
 have e2 := o2.eval (by rw [hz1]; decide)
 refine wp_seq (wp_seq (skn_r3 j hz1 o2 (fun a2 hs2 o13 => ?_)))
 have hz2 := hs2.size.trans hz1; have o1 := hs2.k o1; have o2 := hs2.k o2
 have T := T.trans hs2
 by_cases hlt : j < 20
 · refine wp_cond_true ((o13.eval (by rw [hz2]; decide)).trans (by rw [decide_eq_true (by omega)])) (wp_skip ?_)
   simp only [Exit.then]
   refine wp_seq (wp_block ?_)
   refine skn_r5 w0 gk j hlt _ L S hz2 o1 o2 (fun a3 w3 hs3 S => ?_)
   have hz3 := hs3.size.trans hz2; have o1 := hs3.k o1; have o2 := hs3.k o2; have o13 := hs3.k o13
   have T := T.trans hs3
   simp only [Exit.inBlock, Exit.then]
   rw [filK_step hlt] at S
   refine skn_r4 j hlt hz3 o2 (fun a4 hs4 o2 => ?_)
   have hz4 := hs4.size.trans hz3; have o1 := hs4.k o1; have o13 := hs4.k o13
   have T := T.trans hs4
   refine ⟨⟨j + 1, by omega, T.more (by decide +kernel), o2, S⟩, ?_⟩
   show 20 - (intOf _).toNat < 20 - (intOf _).toNat
   rw [e2, o2.eval (by rw [hz4]; decide)]
   simp only [intOf]; omega
 · refine wp_cond_false ((o13.eval (by rw [hz2]; decide)).trans (by rw [decide_eq_false (by omega)])) (wp_exit ?_)
   simp only [Exit.then, Exit.inBlock]
   obtain rfl : j = 20 := by omega
   exact hend _ _ (T.more (by decide +kernel)) S
theorem sknown_any (w : World) (LDw : LD w) : Calls Tryd.prog 13 #[] w fun e w' => e = .returned (.bool true) ∧ Kp [] w w' := by
 refine calls_fr Tryd.func13 rfl 104 rfl (fun a0 hsz hdf hAr => ?_)
 have hz0 : a0.tmps.size = 104 := hsz
 have D := hdf
 refine wp_seq (skn_r0 hz0 (fun a1 hs1 o0 => ?_))
 have hz1 := hs1.size.trans hz0; have D := hs1.defers.trans D
 refine wp_seq (skn_r1 w [] (Held.start w) hz1 (fun a2 w1 hs2 h1 => ?_))
 have hz2 := hs2.size.trans hz1; have o0 := hs2.k o0; have D := hs2.defers.trans D
 obtain ⟨gk, o1, S⟩ := h1
 refine wp_seq (wp_seq (skn_r2 hz2 (fun a3 hs3 o2 => ?_)))
 have hz3 := hs3.size.trans hz2; have o0 := hs3.k o0; have o1 := hs3.k o1; have D := hs3.defers.trans D
 refine skn_l0 gk [] hz3 o1 o2 S (fun a4 w2 hs4 S => ?_)
 have hz4 := hs4.size.trans hz3; have o0 := hs4.k o0; have o1 := hs4.k o1; have D := hs4.defers.trans D
 have k2 := S.k
 have hk := Rd.of_own (S.at_ (l1 := []))
 refine wp_seq (skn_r6 gk hk hz4 o1 (fun a5 w3 hs5 h3 => ?_))
 have hz5 := hs5.size.trans hz4; have o0 := hs5.k o0; have o1 := hs5.k o1; have D := hs5.defers.trans D
 obtain ⟨gh, o3, S3⟩ := h3
 have k3 := k2.trans S3.k (by simp)
 have hb3 := S3.at_ (l1 := [])
 refine wp_seq (skn_r7 (LDw.kp k3) hz5 (fun a6 w4 hs6 o5 h4 => ?_))
 have hz6 := hs6.size.trans hz5; have o0 := hs6.k o0; have o1 := hs6.k o1; have o3 := hs6.k o3; have D := hs6.defers.trans D
 obtain ⟨gn, o4, S4⟩ := h4
 have k4 := k3.trans S4.k (by simp)
 have hb3 := hb3.kp S4.k (by simp)
 refine wp_seq (skn_r8 (LDw.kp k4) gn (S4.at_ (l1 := [])) (rd_nil_any 33 _) hz6 o4 (fun a7 w5 hs7 o7 h5 => ?_))
 have hz7 := hs7.size.trans hz6; have o0 := hs7.k o0; have o1 := hs7.k o1; have o3 := hs7.k o3; have o5 := hs7.k o5; have o4 := hs7.k o4; have D := hs7.defers.trans D
 obtain ⟨A, c, gm, o6, S5⟩ := h5
 have k5 := k4.trans S5.k (by simp)
 have hb3 := hb3.kp S5.k (by simp)
 have hb6 := S5.at_ (l1 := [])
 have hv6 := Rd.of_own (S5.at_ (l1 := [_]))
 refine wp_seq (skn_r9 (LDw.kp k5) gm A c hb6 hv6 hz7 o6 (fun a8 w6 hs8 o9 h6 => ?_))
 have hz8 := hs8.size.trans hz7; have o0 := hs8.k o0; have o1 := hs8.k o1; have o3 := hs8.k o3; have o5 := hs8.k o5; have o4 := hs8.k o4; have o7 := hs8.k o7; have o6 := hs8.k o6; have D := hs8.defers.trans D
 have k6 := k5.trans h6 (by simp)
 have hb3 := hb3.kp h6 (by simp)
 have hb6 := hb6.kp h6 (by simp)
 have hv6 := rd_old hv6 h6
 refine wp_seq (skn_r10 (LDw.kp k6) gm A c hb6 hv6 hz8 o6 (fun a9 w7 hs9 h7 => ?_))
 have hz9 := hs9.size.trans hz8; have o0 := hs9.k o0; have o1 := hs9.k o1; have o3 := hs9.k o3; have o5 := hs9.k o5; have o4 := hs9.k o4; have o7 := hs9.k o7; have o6 := hs9.k o6; have o9 := hs9.k o9; have D := hs9.defers.trans D
 obtain ⟨u, o10, S7⟩ := h7
 have k7 := k6.trans S7.k (by simp)
 have hb3 := hb3.kp S7.k (by simp)
 have hb6 := hb6.kp S7.k (by simp)
 have hv6 := rd_old hv6 S7.k
 obtain ⟨go, co, hu, -, -⟩ := ow_some (show Ow w7 9 1 u 1 [.string ⟨#[119]⟩] from S7.at_ (l1 := [])) (by decide)
 subst hu
 have hv10 := Rd.of_own (S7.at_ (l1 := []))
 have hb3 : Blk w7 gh 25 (hashA kn20) := hb3
 refine wp_seq (skn_r11 (LDw.kp k7) gh gm go co A c hb3 hb6 hv6 hv10 hz9 o3 o5 o6 o7 o9 o10 (fun a10 w8 hs10 k8 o0 => ?_))
 have hz10 := hs10.size.trans hz9; have o1 := hs10.k o1; have o3 := hs10.k o3; have o5 := hs10.k o5; have o4 := hs10.k o4; have o7 := hs10.k o7; have o6 := hs10.k o6; have o9 := hs10.k o9; have o10 := hs10.k o10; have D := hs10.defers.trans D
 refine wp_ret ?_
 exact (bodyPost_ret (results_t1 (by rfl) (o0.eval (by rw [hz10]; decide))) D ⟨rfl, k7.trans k8 (by simp)⟩)
end
/- sign.Enough, sign.Text: their regions. -/
section
variable {Q : Exit → Act → World → Prop} {a : Act} {w : World}
open Go.RowKit
theorem stx_r0 (w0 : World) (ca : Array Value) (L : List Res) (S : Held w0 w L) (hsz : a.tmps.size = 39) (o0 : Sl a 0 (.agg ca))
 (hend : ∀ a' W, Same a a' [1, 2, 3] → Sl a' 2 (.string ⟨#[]⟩) → Sl a' 3 (.int .i64 (0 : Int)) → (∃ gN, Sl a' 1 (.pointer (some ⟨gN, 0, none⟩)) ∧ Held w0 W (blkR gN 36 ca :: L)) → Q .normal a' W) : (Code.region 0 (opsOf 0 Tryd.f34).toArray false).wp Tryd.prog Q a w := by
 refine wp_region_lit ?_
 (conv => arg 4; whnf)
 unfold Sl at o0
 have S0 := Lib.hid (S.newBlk 36 ca)
 go_wp2_with fail
 try simp only [Act.put]
 exact hend _ _ sS sP sP (⟨_, sP0, S0.out⟩)
theorem stx_r1 (w0 : World) (gN : Nat) (ca : Array Value) (hz : ca.size = 34) (ck : Int) (L : List Res) (S : Held w0 w (blkR gN 36 ca :: L)) (HC : ∀ V, Held w0 V (blkR gN 36 ca :: L) → Calls Tryd.prog 24 #[.agg ca] V fun e w' => e = .returned (.int .i64 ck) ∧ Kp [] V w') (hsz : a.tmps.size = 39) (o1 : Sl a 1 (.pointer (some ⟨gN, 0, none⟩)))
 (hend : ∀ a' W, Same a a' [9, 10, 4] → Sl a' 4 (.int .i64 ck) → (Held w0 W (blkR gN 36 ca :: L)) → Q .normal a' W) : (Code.region 1 (opsOf 1 Tryd.f34).toArray false).wp Tryd.prog Q a w := by
 refine wp_region_lit ?_
 (conv => arg 4; whnf)
 unfold Sl at o1
 have S := Lib.hid S
 have HC := Lib.hid (HC _ S.out)
 have hz := Lib.hid hz
 go_wp2_with (refine wpList_load_blk rfl 36 (.tmp 1) rfl gN (by simp [Act.eval, Act.put, hsz, o1]) 36 _ (S.out.at_ (l1 := [])) _ Tryd.underlying36 rfl (by rw [hz.out]; exact Tryd.infoNote) ?_)
 refine HC.out.mono ?_
 rintro e w1 ⟨rfl, k1⟩
 have S1 := Lib.hid (S.out.kp k1)
 clear k1
 go_wp2_with fail
 try simp only [Act.put]
 exact hend _ _ sS sP (S1.out)
theorem stx_r2 (ck : Int) (hsz : a.tmps.size = 39) (o4 : Sl a 4 (.int .i64 ck))
 (hend : ∀ a', Same a a' [11, 12] → Sl a' 12 (.bool (ck != 0)) → Q .normal a' (w)) : (Code.region 2 (opsOf 2 Tryd.f34).toArray false).wp Tryd.prog Q a w := by
 refine wp_region_lit ?_
 (conv => arg 4; whnf)
 unfold Sl at o4
 go_wp2_with fail
 try simp only [Act.put]
 exact hend _ sS sP
theorem stx_r3 (ck : Int) (hsz : a.tmps.size = 39) (o4 : Sl a 4 (.int .i64 ck))
 (hend : ∀ a', Same a a' [13, 2, 3] → Sl a' 2 (.string ⟨#[]⟩) → Sl a' 3 (.int .i64 ck) → Q .normal a' (w)) : (Code.region 3 (opsOf 3 Tryd.f34).toArray false).wp Tryd.prog Q a w := by
 refine wp_region_lit ?_
 (conv => arg 4; whnf)
 unfold Sl at o4
 go_wp2_with fail
 try simp only [Act.put]
 exact hend _ sS sP sP
theorem stx_r4 (w0 : World) (gN : Nat) (z : Int) (h : List UInt8) (hh : h.length = 32) (v0 : Value) (t : ByteArray) (te : Int) (L : List Res) (S : Held w0 w (blkR gN 36 (ntA z h v0) :: L)) (HC0 : ∀ V, Held w0 V (blkR gN 36 (ntA z h v0) :: L) → Calls Tryd.prog 47 #[.agg (ptA z h)] V fun e w' => e = .returned (.tuple #[.string t, .int .i64 te]) ∧ Kp [] V w') (hsz : a.tmps.size = 39) (o1 : Sl a 1 (.pointer (some ⟨gN, 0, none⟩)))
 (hend : ∀ a' W, Same a a' [15, 16, 17, 14, 18, 19, 5, 6] → Sl a' 5 (.string t) → (Held w0 W (blkR gN 36 (ntA z h v0) :: L)) → Q .normal a' W) : (Code.region 4 (opsOf 4 Tryd.f34).toArray false).wp Tryd.prog Q a w := by
 refine wp_region_lit ?_
 (conv => arg 4; whnf)
 unfold Sl at o1
 have S := Lib.hid S
 have HC := Lib.hid (HC0 _ S.out)
 clear HC0
 have hp := Lib.hid (nt_pointAt (S.out.at_ (l1 := [])))
 have HP := Lib.hid (ptA_size (s := z) hh)
 generalize ntA z h v0 = ca at *
 generalize ptA z h = cp at *
 go_wp2_with (refine wpList_load_agg rfl 33 (.tmp 15) rfl ⟨gN, 0, none⟩ (by simp [Act.eval, Act.put, hsz]) cp.toList _ hp.out Tryd.underlying33 rfl (by rw [Array.length_toList, HP.out]; exact Tryd.infoPointP) ?_)
 refine HC.out.mono ?_
 rintro e w1 ⟨rfl, k1⟩
 have S1 := Lib.hid (S.out.kp k1)
 clear k1
 go_wp2_with fail
 try simp only [Act.put]
 exact hend _ _ sS sP (S1.out)
theorem stx_r5 (w0 : World) (gN : Nat) (z : Int) (h : List UInt8) (hh : h.length = 32) (A : Option Addr) (n c : Nat) (L : List Res) (S : Held w0 w (blkR gN 36 (ntA z h (.slice A n c)) :: L)) (hsz : a.tmps.size = 39) (o1 : Sl a 1 (.pointer (some ⟨gN, 0, none⟩)))
 (hend : ∀ a', Same a a' [20, 21, 22, 23] → Sl a' 21 (.slice A n c) → Sl a' 22 (.int .i64 ((n : Nat) : Int)) → Sl a' 23 (.int .i64 ((0 : Nat) : Int)) → Q .normal a' (w)) : (Code.region 5 (opsOf 5 Tryd.f34).toArray false).wp Tryd.prog Q a w := by
 refine wp_region_lit ?_
 (conv => arg 4; whnf)
 unfold Sl at o1
 have c33 : w.cell? ⟨gN, 33, none⟩ = some (.slice A n c) := by rw [(S.at_ (l1 := [])).cell]; exact ntA_sigs hh
 go_wp2_with fail
 try simp only [Act.put]
 exact hend _ sS sP sP sP
theorem stx_r6 (k n : Nat) (hsz : a.tmps.size = 39) (o22 : Sl a 22 (.int .i64 ((n : Nat) : Int))) (o23 : Sl a 23 (.int .i64 ((k : Nat) : Int)))
 (hend : ∀ a', Same a a' [24] → Sl a' 24 (.bool (decide (k < n))) → Q .normal a' (w)) : (Code.region 6 (opsOf 6 Tryd.f34).toArray false).wp Tryd.prog Q a w := by
 refine wp_region_lit ?_
 (conv => arg 4; whnf)
 unfold Sl at o22 o23
 go_wp2_with fail
 try simp only [Act.put]
 exact hend _ sS sP
theorem stx_r7 (w0 : World) (ad : Addr) (k n c : Nat) (hk : k < n) (s : SigD) (hs : s.2.length = 32) (hc : ∀ j u, (sgL s)[j]? = some u → w.cell? ((ad.add (k * 33)).add j) = some u) (L : List Res) (S : Held w0 w L) (hsz : a.tmps.size = 39) (o21 : Sl a 21 (.slice (some ad) n c)) (o23 : Sl a 23 (.int .i64 ((k : Nat) : Int)))
 (hend : ∀ a' W, Same a a' [25, 26, 8] → (∃ g, Sl a' 8 (.pointer (some ⟨g, 0, none⟩)) ∧ Held w0 W (blkR g 81 (sgA s) :: L)) → Q .normal a' W) : (Code.region 7 (opsOf 7 Tryd.f34).toArray false).wp Tryd.prog Q a w := by
 refine wp_region_lit ?_
 (conv => arg 4; whnf)
 unfold Sl at o21 o23
 have S := Lib.hid S
 have h0 : 0 ≤ (k : Int) := by omega
 have h1 : (k : Int) < (n : Int) := by omega
 have hc2 : ∀ j u, (sgA s).toList[j]? = some u → w.cell? ((ad.add (k * 33)).add j) = some u := hc
 have HC := Lib.hid hc2
 clear hc hc2
 have HO := Lib.hid (sgA_one s)
 have hz2 : Hid ((sgA s).size = 33) := Lib.hid (sgA_size hs)
 have S1 := Lib.hid (S.out.newBlk 81 (sgA ([], List.replicate 32 0)))
 generalize sgA s = cs at *
 go_wp2_with (first
  | (refine wpList_load_agg rfl 81 (.tmp 25) rfl (ad.add (k * 33)) (by simp [Act.eval, Act.put, hsz]) cs.toList _ HC.out Tryd.underlying81 rfl (by rw [Array.length_toList, hz2.out]; exact Tryd.infoSig) ?_)
  | (refine wpList_store_blk rfl 81 (.tmp 8) (.tmp 26) rfl w.heap.size (by simp [Act.eval, Act.put, hsz]) cs (by simp [Act.eval, Act.put, hsz]) 81 _ (S1.out.at_ (l1 := [])) (by rw [hz2.out]; exact Tryd.infoSig) (by rw [hz2.out]; rfl) HO.out ?_; intro w7 b7 k7; have S7 := Lib.hid (Held.setBlk (l1 := []) S1.out b7 k7); clear b7 k7))
 try simp only [Act.put]
 exact hend _ _ sS (⟨_, sP0, S7.out⟩)
theorem stx_r8 (w0 : World) (g : Nat) (s : SigD) (hs : s.2.length = 32) (hn : s.1.length ≤ 64) (t : List UInt8) (ht : t.length ≤ 1000000) (L : List Res) (hsz : a.tmps.size = 39) (o5 : Sl a 5 (.string ⟨(t).toArray⟩)) (o8 : Sl a 8 (.pointer (some ⟨g, 0, none⟩)))
 (S0 : Held w0 w (blkR g 81 (sgA s) :: L))
 (hend : ∀ a' W, Same a a' [27, 28, 29, 30, 31, 32, 33, 34, 35, 36, 5] → Sl a' 5 (.string ⟨(t ++ (s.1 ++ 32 :: (hexS s.2 ++ [10]))).toArray⟩) → Held w0 W (blkR g 81 (sgA s) :: L) → Q .normal a' W) : (Code.region 8 (opsOf 8 Tryd.f34).toArray true).wp Tryd.prog Q a w := by
 have hap : apartB (opsOf 8 Tryd.f34) = true := by kernel_rfl
 refine wp_region_sep (Γ := Unit) (l := (opsOf 8 Tryd.f34)) 2 [0, 1, 2, 3, 4, 5, 6, 7, 8, 9, 10, 11, 12]
  (fun i vs gs => match i with | 0 => vs 0 = .string ⟨(t).toArray⟩ | 1 => vs 1 = .pointer (some ⟨g, 0, none⟩) | 2 => vs 2 = .string ⟨(s.1).toArray⟩ | 3 => vs 3 = .string ⟨(s.1 ++ [32]).toArray⟩ | 4 => vs 4 = .pointer (some ⟨g, 1, none⟩) | 5 => vs 5 = .agg (hashA s.2) | 6 => vs 6 = .string ⟨(hexS s.2).toArray⟩ | 7 => vs 7 = .string ⟨(s.1 ++ 32 :: hexS s.2).toArray⟩ | 8 => vs 8 = .string ⟨(s.1 ++ 32 :: (hexS s.2 ++ [10])).toArray⟩ | 9 => vs 9 = .string ⟨(t ++ (s.1 ++ 32 :: (hexS s.2 ++ [10]))).toArray⟩ | 10 => vs 10 = .string ⟨(t ++ (s.1 ++ 32 :: (hexS s.2 ++ [10]))).toArray⟩ | _ => True)
  (fun i vs gs => match i with | 11 => [blkR g 81 (sgA s)] | 12 => L | _ => [])
  (fun i => match i with  | _ => []) (fun i => match i with | 2 => [11] | 5 => [11] | _ => []) S0 (by kernel_rfl) hap (by kernel_rfl) (by kernel_rfl) (fun i => match i with | 0 => [0] | 1 => [1] | 2 => [2] | 3 => [3] | 4 => [4] | 5 => [5] | 6 => [6] | 7 => [7] | 8 => [8] | 9 => [9] | 10 => [10] | _ => []) (by kernel_rfl) ?_ (by kernel_rfl) ?_ ?_ ?_
 · intro s vs vs' gs gs' h
   iterate 13 (rcases s with _ | s; · (first | exact ⟨rfl, id⟩ | (simp only [List.mem_cons, List.not_mem_nil, or_false, forall_eq] at h; simp [h])))
   exact ⟨rfl, id⟩
 · simp only [List.range, List.range.loop, List.flatMap_cons, List.flatMap_nil, List.append_nil]
   exact List.Perm.refl _
 · clear S0 hend
   refine ⟨?_, ?_, ?_, ?_, ?_, ?_, ?_, ?_, ?_, ?_, ?_, trivial⟩
   · intro vs gs A' W LF hA S hR hd hu K hK; replace hK := hK default
     have e5 := sU 5 10 hA hap hsz
     rw [show vs 10 = .string ⟨(t).toArray⟩ from (hu 10 _ rfl (by kernel_rfl)).trans (o5.eval (sH 5 hsz rfl))] at e5
     clear hA o5 o8; go_step; exact hK _ _ S rfl
   · intro vs gs A' W LF hA S hR hd hu K hK; replace hK := hK default; have e8 := sO 8 o8 hA hap hsz; clear hA o5 o8; go_step; exact hK _ _ S rfl
   · intro vs gs A' W LF hA S hR hd hu K hK; replace hK := hK default; have e28 := sV 28 (hd 1 (by kernel_rfl)) hA hap hsz; clear hA o5 o8
     have c0 : W.cell? ⟨g, 0, none⟩ = some (.string ⟨(s.1).toArray⟩) := by rw [(show Blk W g 81 (sgA s) from S.ok (blkR g 81 (sgA s)) (hR 11 (List.mem_singleton.2 rfl) _ (List.mem_singleton.2 rfl))).cell]; rfl
     go_step; exact hK _ _ S rfl
   · intro vs gs A' W LF hA S hR hd hu K hK; replace hK := hK default; have e29 := sV 29 (hd 2 (by kernel_rfl)) hA hap hsz; clear hA o5 o8
     have hsz2 : ¬ 9223372036854775807 < s.1.length + 1 := by have := hexS_length s.2; omega
     go_step
     exact hK _ _ S (congrArg Value.string ((str_add s.1 [32]).trans (congrArg (fun x : List UInt8 => ByteArray.mk x.toArray) (by simp))))
   · intro vs gs A' W LF hA S hR hd hu K hK; replace hK := hK default; have e8 := sO 8 o8 hA hap hsz; clear hA o5 o8; go_step; exact hK _ _ S rfl
   · intro vs gs A' W LF hA S hR hd hu K hK; replace hK := hK default; have e31 := sV 31 (hd 4 (by kernel_rfl)) hA hap hsz; clear hA o5 o8
     refine op_runs (v := .agg (hashA s.2)) (w' := W) (exec_load rfl (by simpa [Act.eval] using e31) (run_loadAt_agg W (⟨g, 1, none⟩) 25 (hashA s.2).toList _ (sig_sum (show Blk W g 81 (sgA s) from S.ok (blkR g 81 (sgA s)) (hR 11 (List.mem_singleton.2 rfl) _ (List.mem_singleton.2 rfl)))) Tryd.underlying25 rfl (by rw [Array.length_toList, hashA_size, hs]; exact Tryd.infoHashP))) ?_
     exact hK _ _ S rfl
   · intro vs gs A' W LF hA S hR hd hu K hK; replace hK := hK default; have e32 := sV 32 (hd 5 (by kernel_rfl)) hA hap hsz; clear hA o5 o8
     simp only at *
     go_step
     refine (hex_any s.2 hs W).mono ?_
     rintro e w' ⟨rfl, k⟩
     exact hK _ _ (S.kp k) rfl
   · intro vs gs A' W LF hA S hR hd hu K hK; replace hK := hK default; have e30 := sV 30 (hd 3 (by kernel_rfl)) hA hap hsz; have e33 := sV 33 (hd 6 (by kernel_rfl)) hA hap hsz; clear hA o5 o8
     have hsz2 : ¬ 9223372036854775807 < s.1.length + 1 + (hexS s.2).length := by have := hexS_length s.2; omega
     go_step
     exact hK _ _ S (congrArg Value.string ((str_add (s.1 ++ [32]) (hexS s.2)).trans (congrArg (fun x : List UInt8 => ByteArray.mk x.toArray) (by simp))))
   · intro vs gs A' W LF hA S hR hd hu K hK; replace hK := hK default; have e34 := sV 34 (hd 7 (by kernel_rfl)) hA hap hsz; clear hA o5 o8
     have hsz2 : ¬ 9223372036854775807 < s.1.length + ((hexS s.2).length + 1) + 1 := by have := hexS_length s.2; omega
     go_step
     exact hK _ _ S (congrArg Value.string ((str_add (s.1 ++ 32 :: hexS s.2) [10]).trans (congrArg (fun x : List UInt8 => ByteArray.mk x.toArray) (by simp))))
   · intro vs gs A' W LF hA S hR hd hu K hK; replace hK := hK default; have e27 := sV 27 (hd 0 (by kernel_rfl)) hA hap hsz; have e35 := sV 35 (hd 8 (by kernel_rfl)) hA hap hsz; clear hA o5 o8
     have hsz2 : ¬ 9223372036854775807 < t.length + (s.1.length + ((hexS s.2).length + 1 + 1)) := by have := hexS_length s.2; omega
     go_step
     exact hK _ _ S (congrArg Value.string ((str_add t (s.1 ++ 32 :: (hexS s.2 ++ [10]))).trans (congrArg (fun x : List UInt8 => ByteArray.mk x.toArray) (by simp))))
   · intro vs gs A' W LF hA S hR hd hu K hK; replace hK := hK default; have e36 := sV 36 (hd 9 (by kernel_rfl)) hA hap hsz; clear hA o5 o8; go_step; exact hK _ _ S rfl
 · intro vs gs W S hp
   have S : Held w0 W (blkR g 81 (sgA s) :: L) := by simpa only [List.flatMap_cons, List.flatMap_nil, List.append_nil, List.nil_append, List.cons_append, List.append_assoc] using S
   rw [putAll_eq]
   exact hend _ W sQ (sW (hp 10 sB)) S
theorem stx_r9 (k : Nat) (hk : k < 9223372036854775807) (hsz : a.tmps.size = 39) (o23 : Sl a 23 (.int .i64 ((k : Nat) : Int)))
 (hend : ∀ a', Same a a' [37, 23] → Sl a' 23 (.int .i64 ((k + 1 : Nat) : Int)) → Q .normal a' (w)) : (Code.region 9 (opsOf 9 Tryd.f34).toArray false).wp Tryd.prog Q a w := by
 refine wp_region_lit ?_
 (conv => arg 4; whnf)
 unfold Sl at o23
 have hw : wrap64 ((k : Int) + 1) = (k : Int) + 1 := by unfold wrap64; omega
 go_wp2_with fail
 try simp only [Act.put]
 exact hend _ sS sP
theorem stx_r10 (t : Value) (hsz : a.tmps.size = 39) (o5 : Sl a 5 (t))
 (hend : ∀ a', Same a a' [38, 2, 3] → Sl a' 2 (t) → Sl a' 3 (.int .i64 (0 : Int)) → Q .normal a' (w)) : (Code.region 10 (opsOf 10 Tryd.f34).toArray false).wp Tryd.prog Q a w := by
 refine wp_region_lit ?_
 (conv => arg 4; whnf)
 unfold Sl at o5
 go_wp2_with fail
 try simp only [Act.put]
 exact hend _ sS sP sP
end
/- sign.Enough, sign.Text: whole. -/
section
open Go.RowKit
def lineN (s : SigD) : List UInt8 := s.1 ++ 32 :: (hexS s.2 ++ [10])
def textN (z : Int) (h : List UInt8) (l : List SigD) : List UInt8 := if mayN z l then told z.toNat h ++ (l.map lineN).flatten else []
theorem lineN_len {s : SigD} (h1 : s.1.length ≤ 64) (h2 : s.2.length = 32) : (lineN s).length ≤ 130 := by
 unfold lineN
 rw [List.length_append, List.length_cons, List.length_append, hexS_length, h2, List.length_singleton]
 omega
theorem rising_nm : ∀ {l : List SigD} {a : List UInt8}, rising a l = true → ∀ s, s ∈ l → nmOk s.1 = true
 | [], _, _, s, h => by cases h
 | x :: l, a, h, s, hs => by
  unfold rising at h
  simp only [Bool.and_eq_true] at h
  rcases List.mem_cons.1 hs with rfl | hs
  · exact h.1.1
  · exact rising_nm h.2 s hs
theorem nmOk_len {s : List UInt8} (h : nmOk s = true) : s.length ≤ 64 := by
 unfold nmOk at h
 simp only [Bool.and_eq_true, decide_eq_true_eq] at h
 exact h.1.2
theorem lines_len : ∀ {l : List SigD}, (∀ s, s ∈ l → s.1.length ≤ 64 ∧ s.2.length = 32) → (l.map lineN).flatten.length ≤ 130 * l.length
 | [], _ => by simp
 | s :: l, h => by
  have h1 := lineN_len (h s (List.mem_cons_self ..)).1 (h s (List.mem_cons_self ..)).2
  have h2 := lines_len (l := l) (fun x hx => h x (List.mem_cons_of_mem _ hx))
  rw [List.map_cons, List.flatten_cons, List.length_append, List.length_cons]
  omega
def dsTx0 : List Nat := [24, 25, 26, 8, 27, 28, 29, 30, 31, 32, 33, 34, 35, 36, 5, 37, 23]
theorem stx_l0 {Q : Exit → Act → World → Prop} {a : Act} {w0 w : World} (A : Option Addr) (c : Nat) (l : List SigD) (hok : SgOk l) (hll : l.length ≤ 64) (hnn : ∀ s, s ∈ l → s.1.length ≤ 64) (t : List UInt8) (ht : t.length ≤ 900000) (hv : Rd w0 33 (.slice A l.length c) l.length (sgsC l)) (hsz : a.tmps.size = 39)
 (o5 : Sl a 5 (.string ⟨t.toArray⟩)) (o21 : Sl a 21 (.slice A l.length c)) (o22 : Sl a 22 (.int .i64 ((l.length : Nat) : Int))) (o23 : Sl a 23 (.int .i64 ((0 : Nat) : Int))) (K : Kp [] w0 w)
 (hend : ∀ a' W, Same a a' dsTx0 → Sl a' 5 (.string ⟨(t ++ (l.map lineN).flatten).toArray⟩) → Kp [] w0 W → Q .normal a' W) :
 (Code.block 0 (blockOf 0 Tryd.f34)).wp Tryd.prog Q a w := by
 refine wp_block ?_
 (conv => arg 2; whnf)
 refine wp_loop (fun a' w' => ∃ (k : Nat), k ≤ l.length ∧ Same a a' dsTx0 ∧ Sl a' 23 (.int .i64 ((k : Nat) : Int)) ∧ Sl a' 5 (.string ⟨(t ++ ((l.take k).map lineN).flatten).toArray⟩) ∧ Kp [] w0 w') (fun a' _ => l.length - (intOf (a'.eval (.tmp 23))).toNat) ⟨0, Nat.zero_le _, Same.refl _ _, o23, by rw [List.take_zero, List.map_nil, List.flatten_nil, List.append_nil]; exact o5, K⟩ ?_
 clear o23 o5 K
 rintro a1 w1 ⟨k, hk, T, o23, o5, K⟩
 have hz1 := T.size.trans hsz
 have o21 := T.keep 21 _ (by decide) o21
 have o22 := T.keep 22 _ (by decide) o22
 have e23 := o23.eval (by rw [hz1]; decide)
 refine wp_seq (stx_r6 k l.length hz1 o22 o23 (fun a2 hs2 o24 => ?_))
 have hz2 := hs2.size.trans hz1; have o5 := hs2.k o5; have o21 := hs2.k o21; have o22 := hs2.k o22; have o23 := hs2.k o23
 have T := T.trans hs2
 by_cases hlt : k < l.length
 · refine wp_seq (wp_cond_true ((o24.eval (by rw [hz2]; decide)).trans (by rw [decide_eq_true hlt])) (wp_skip ?_))
   have hv1 := rd_old hv K
   obtain ⟨ad, rfl⟩ := sgs_addr hv1 (by omega)
   obtain ⟨s, hs⟩ : ∃ s, l[k]? = some s := ⟨_, List.getElem?_eq_getElem hlt⟩
   have hsm := List.mem_of_getElem? hs
   have hsk := hok s hsm
   have htk : l.take (k + 1) = l.take k ++ [s] := by rw [List.take_add_one, hs]; rfl
   have hlen : ((l.take k).map lineN).flatten.length ≤ 130 * l.length := by
    refine Nat.le_trans (lines_len (fun x hx => ⟨hnn x (List.mem_of_mem_take hx), (hok x (List.mem_of_mem_take hx)).1⟩)) (Nat.mul_le_mul_left _ ?_)
    rw [List.length_take]; omega
   refine wp_seq (wp_block ?_)
   refine wp_seq (stx_r7 w1 ad k l.length c hlt s hsk.1 (sgs_at hv1 hok hs) [] (Held.start w1) hz2 o21 o23 (fun a3 w3 hs3 h3 => ?_))
   have hz3 := hs3.size.trans hz2; have o5 := hs3.k o5; have o21 := hs3.k o21; have o22 := hs3.k o22; have o23 := hs3.k o23; have o24 := hs3.k o24
   have T := T.trans hs3
   obtain ⟨g, o8, S⟩ := h3
   refine stx_r8 w1 g s hsk.1 (hnn s hsm) _ (by rw [List.length_append]; omega) [] hz3 o5 o8 S (fun a4 w4 hs4 o5 S => ?_)
   have hz4 := hs4.size.trans hz3
   have T := T.trans hs4
   have o21 := hs4.k o21; have o22 := hs4.k o22; have o23 := hs4.k o23
   simp only [Exit.inBlock, Exit.then]
   have K := K.trans S.k (by simp)
   refine stx_r9 k (by omega) hz4 o23 (fun a5 hs5 o23 => ?_)
   have hz5 := hs5.size.trans hz4; have o21 := hs5.k o21; have o22 := hs5.k o22; have o5 := hs5.k o5
   have T := T.trans hs5
   have o5 : Sl a5 5 (.string ⟨(t ++ ((l.take (k + 1)).map lineN).flatten).toArray⟩) := by
    rw [htk, List.map_append, List.flatten_append, ← List.append_assoc]
    simp only [List.map_cons, List.map_nil, List.flatten_cons, List.flatten_nil, List.append_nil]
    exact o5
   refine ⟨⟨k + 1, by omega, T.more (by decide +kernel), o23, o5, K⟩, ?_⟩
   show l.length - (intOf _).toNat < l.length - (intOf _).toNat
   rw [e23, o23.eval (by rw [hz5]; decide)]
   simp only [intOf]; omega
 · refine wp_seq (wp_cond_false ((o24.eval (by rw [hz2]; decide)).trans (by rw [decide_eq_false hlt])) (wp_exit ?_))
   obtain rfl : k = l.length := by omega
   rw [List.take_length] at o5
   exact hend _ _ (T.more (by decide +kernel)) o5 K
theorem ptext_told (z : Int) (hz : -9223372036854775808 ≤ z ∧ z ≤ 9223372036854775807) (h0 : 0 ≤ z) (h : List UInt8) (hh : h.length = 32) (w : World) (LDw : LD w) : Calls Tryd.prog 47 #[.agg (ptA z h)] w fun e w' => e = .returned (.tuple #[.string ⟨(told z.toNat h).toArray⟩, .int .i64 (txE z)]) ∧ Kp [] w w' := by
 have e : txt z h = told z.toNat h := by unfold txt; rw [if_neg (by omega)]
 rw [← e]
 exact ptext_any z hz h hh w LDw
theorem stext_any (z : Int) (hz : -9223372036854775808 ≤ z ∧ z ≤ 9223372036854775807) (h : List UInt8) (hh : h.length = 32) (A : Option Addr) (c : Nat) (l : List SigD) (hok : SgOk l) (hll : l.length ≤ 9223372036854775807) (w : World) (LDw : LD w) (hv : Rd w 33 (.slice A l.length c) l.length (sgsC l)) :
 Calls Tryd.prog 34 #[.agg (ntA z h (.slice A l.length c))] w fun e w' => e = .returned (.tuple #[.string ⟨(textN z h l).toArray⟩, .int .i64 (chkN z l)]) ∧ Kp [] w w' := by
 refine calls_fr Tryd.func34 rfl 39 rfl (fun a0 hsz hdf hAr => ?_)
 have hz0 : a0.tmps.size = 39 := hsz
 have D := hdf
 have o0 := hAr 0 _ rfl
 have hcz := ntA_size (z := z) (v := .slice A l.length c) hh
 refine wp_seq (stx_r0 w _ [] (Held.start w) hz0 o0 (fun a1 w1 hs1 o2 o3 h1 => ?_))
 have hz1 := hs1.size.trans hz0; have o0 := hs1.k o0; have D := hs1.defers.trans D
 obtain ⟨gN, o1, S⟩ := h1
 refine wp_seq (wp_seq (stx_r1 w gN _ hcz (chkN z l) _ S (fun V SV => scheck_any z hz h hh l hok hll A c V (LDw.kp SV.k) (rd_old hv SV.k)) hz1 o1 (fun a2 w2 hs2 o4 S => ?_)))
 have hz2 := hs2.size.trans hz1; have o1 := hs2.k o1; have D := hs2.defers.trans D
 refine wp_seq (stx_r2 (chkN z l) hz2 o4 (fun a3 hs3 o12 => ?_))
 have hz3 := hs3.size.trans hz2; have o1 := hs3.k o1; have o4 := hs3.k o4; have D := hs3.defers.trans D
 cases hm : mayN z l
 · refine wp_cond_true ((o12.eval (by rw [hz3]; decide)).trans (by unfold chkN; rw [hm]; rfl)) ?_
   refine wp_seq (stx_r3 (chkN z l) hz3 o4 (fun a4 hs4 o2 o3 => ?_))
   have hz4 := hs4.size.trans hz3; have o1 := hs4.k o1; have o4 := hs4.k o4; have o12 := hs4.k o12; have D := hs4.defers.trans D
   refine wp_ret ?_
   simp only [Exit.then]
   exact bodyPost_ret (results_t2 (by rfl) (o2.eval (by rw [hz4]; decide)) (o3.eval (by rw [hz4]; decide))) D ⟨by unfold textN; rw [hm]; rfl, S.k⟩
 · refine wp_cond_false ((o12.eval (by rw [hz3]; decide)).trans (by unfold chkN; rw [hm]; rfl)) (wp_skip ?_)
   simp only [Exit.then]
   obtain ⟨h64, hris⟩ := mayN_64 hm
   have hz0' : 0 ≤ z := by
    unfold mayN at hm
    simp only [Bool.and_eq_true, decide_eq_true_eq] at hm
    exact hm.1.1
   have htl : (told z.toNat h).length ≤ 900000 := by
    have h1 := dec_19 (n := z.toNat) (by omega)
    rw [told_length, hexS_length, hh]
    omega
   refine wp_seq (stx_r4 w gN z h hh _ ⟨(told z.toNat h).toArray⟩ (txE z) _ S (fun V SV => ptext_told z hz hz0' h hh V (LDw.kp SV.k)) hz3 o1 (fun a4 w3 hs4 o5 S => ?_))
   have hz4 := hs4.size.trans hz3; have o1 := hs4.k o1; have o4 := hs4.k o4; have o12 := hs4.k o12; have D := hs4.defers.trans D
   refine wp_seq (wp_seq (stx_r5 w gN z h hh _ _ _ _ S hz4 o1 (fun a5 hs5 o21 o22 o23 => ?_)))
   have hz5 := hs5.size.trans hz4; have o1 := hs5.k o1; have o4 := hs5.k o4; have o12 := hs5.k o12; have o5 := hs5.k o5; have D := hs5.defers.trans D
   refine stx_l0 A c l hok h64 (fun s hs => nmOk_len (rising_nm hris s hs)) _ htl hv hz5 o5 o21 o22 o23 S.k (fun a6 w4 hs6 o5 K => ?_)
   have hz6 := hs6.size.trans hz5; have D := hs6.defers.trans D
   simp only [Exit.then]
   refine wp_seq (stx_r10 _ hz6 o5 (fun a7 hs7 o2 o3 => ?_))
   have hz7 := hs7.size.trans hz6; have o5 := hs7.k o5; have D := hs7.defers.trans D
   refine wp_ret ?_
   exact bodyPost_ret (results_t2 (by rfl) (o2.eval (by rw [hz7]; decide)) (o3.eval (by rw [hz7]; decide))) D ⟨by unfold textN chkN; rw [hm]; rfl, K⟩
end
/- Signing, one key after another: mathematics. -/
section
open Go.RowKit
end
/- SignMacs: its regions. -/
section
open Go.RowKit
theorem wpList_appH {P : Program} {ops : Array Oper} {rest : List Oper} {o : Oper} {a : Act} {w0 w : World} {Q : Exit → Act → World → Prop} {L : List Res} (hg : o.guard = none) (s x : Operand) (t e : TypeId)
 (ho : o.op = .call { callee := .builtin .append, args := #[s, x], argTypes := #[t, t] })
 {size bytes : Nat} {z : Value} (hI : (P.info? e).map (fun i => (i.zero, i.size, i.bytes)) = some (some z, size, bytes)) (ht : P.underlying t = some (.slice e)) (hzs : z.cells.size = size) (hsz : 0 < size)
 (v : Value) (n : Nat) (xs : List Value) (hs : a.eval s = v) (S : Held w0 w (rowR e size v n xs :: L))
 (y : Value) (m : Nat) (news : List Value) (hx : a.eval x = y) (hr : Rd w size y m news) (h1 : ∀ u ∈ news, u.oneCell' = true)
 (h63 : n + m ≤ maxLen) (hbytes : (n + m) * bytes ≤ 140737488355328)
 (h : ∀ v' w', Held w0 w' (rowR e size v' (n + m) (xs ++ news) :: L) → wpList P ops Q rest (a.put o.dst v') w') : wpList P ops Q (o :: rest) a w :=
 wpList_plain hg fun _ hK => op_app s x t e ho hI ht hzs hsz v n xs hs S y m news hx hr h1 h63 hbytes (fun v' w' S' => hK _ _ (h v' w' S'))
end
/- Comparing signatures; cuts of lists of signatures. -/
section
open Go.RowKit
theorem sgA_root (s : SigD) (hs : s.2.length = 32) : (sgA s).extract 1 33 = hashA s.2 := by
 apply Array.ext'
 rw [Array.toList_extract, List.extract_eq_take_drop]
 show ((strV s.1 :: bv s.2).drop 1).take 32 = bv s.2
 rw [List.drop_succ_cons, List.drop_zero, List.take_of_length_le (by rw [bv_length, hs]; omega)]
theorem run_sg_eq (w : World) (d : Nat) (s t : SigD) (ha : s.2.length = 32) (hb : t.2.length = 32) : (Op.equalIn (d + 3) 81 (.agg (sgA s)) (.agg (sgA t))).run Tryd.prog w = .ok ((s.1 == t.1) && (s.2 == t.2)) w := by
 have hu : ∃ f g : Field, Tryd.prog.underlying 81 = some (.struct #[f, g]) ∧ f.name = "Name" ∧ f.type = 9 ∧ f.offset = 0 ∧ g.name = "Sum" ∧ g.type = 25 ∧ g.offset = 1 := ⟨_, _, Tryd.underlying81, rfl, rfl, rfl, rfl, rfl, rfl⟩
 obtain ⟨f, g, hu, f1, f2, f3, g1, g2, g3⟩ := hu
 have hf : Tryd.prog.fieldsOf 81 = #[f, g] := by unfold Program.fieldsOf; rw [hu]
 rw [run_equalIn_agg (P := Tryd.prog) w (d + 2) 81 (sgA s) (sgA t) (by rw [hf]; exact hu) Tryd.stoodInHeld81, hf]
 have n1 : ¬ ("Name" = "_") := by decide
 have n2 : ¬ ("Sum" = "_") := by decide
 obtain ⟨bs, hbs, hbl, -, -⟩ := str_of s.1
 obtain ⟨bt, hbt, hbm, -, -⟩ := str_of t.1
 have p1 : (part 9 (sgA s) 0).run Tryd.prog w = .ok (.string bs) w := run_part_plain w (by kernel_rfl) (by rw [← hbs.out]; rfl)
 have p2 : (part 9 (sgA t) 0).run Tryd.prog w = .ok (.string bt) w := run_part_plain w (by kernel_rfl) (by rw [← hbt.out]; rfl)
 have p3 := run_equalIn_string (P := Tryd.prog) w (d + 1) 9 bs bt Tryd.underlying9
 have q : ∀ s : SigD, s.2.length = 32 → (part 25 (sgA s) 1).run Tryd.prog w = .ok (.agg (hashA s.2)) w := by
  intro s ha
  obtain ⟨i0, hi, hz⟩ : ∃ i, Tryd.prog.info? 25 = some i ∧ i.size = 32 := by
   have := Tryd.infoHashP
   cases h : Tryd.prog.info? 25 with
   | none => rw [h] at this; cases this
   | some i => rw [h] at this; exact ⟨i, rfl, Option.some.inj this⟩
  have hS : (sizeOf 25).run Tryd.prog w = .ok 32 w := by rw [← hz]; simp only [sizeOf, typeInfo]; simp [hi, go_sem]
  have hA : (isAgg 25).run Tryd.prog w = .ok true w := by simp [isAgg, run_underlying Tryd.underlying25]
  simp only [part, Sem.run_bind, hA, hS, Result.andThen_ok, if_true, Sem.run_pure]
  rw [show 1 + 32 = 33 from rfl, sgA_root s ha]
 have q3 := run_hash_eq w d s.2 t.2 ha hb
 rw [hbl.out, hbm.out] at p3
 exact eq_fields2 w (d + 2) _ _ f g (by rw [f1]; exact n1) (by rw [g1]; exact n2) (.string bs) (.string bt) (.agg (hashA s.2)) (.agg (hashA t.2)) _ _ (by rw [f2, f3]; exact p1) (by rw [f2, f3]; exact p2) (by rw [f2]; exact p3) (by rw [g2, g3]; exact q s ha) (by rw [g2, g3]; exact q t hb) (by rw [g2]; exact q3)
theorem sg_eq_top (w : World) (s t : SigD) (ha : s.2.length = 32) (hb : t.2.length = 32) : (Op.equalIn 10000 81 (.agg (sgA s)) (.agg (sgA t))).run Tryd.prog w = .ok ((s.1 == t.1) && (s.2 == t.2)) w := by
 have h := fun n (e : n + 3 = 10000) => e ▸ run_sg_eq w n s t ha hb
 exact h 9997 (by decide)
theorem neq_sg (w : World) (s t : SigD) (ha : s.2.length = 32) (hb : t.2.length = 32) : (binOp .neq 81 (.agg (sgA s)) (.agg (sgA t))).run Tryd.prog w = .ok (.bool (!((s.1 == t.1) && (s.2 == t.2)))) w := by
 rw [run_neq_struct, sg_eq_top w s t ha hb, Result.andThen_ok]
theorem cut_hiS (A : Option Addr) (n c k : Nat) (hk : k ≤ c) (w : World) : (Instr.sliceAt 34 (.slice A n c) none (some (.int .i64 (k : Int))) none).run Tryd.prog w = .ok (.slice A k c) w := by
 rw [run_sliceAt_slice w 34 _ _ _ _ und_sig, run_slice_h w 34 A n c und_sig .i64 k (by omega) (by omega), elem_sig, size_sig]
 simp only [Result.andThen_ok, Int.toNat_natCast]
 congr 1
 by_cases e : c = 0
 · simp [sliced, e]
 · cases A with
   | none => simp [sliced, e]
   | some ad => simp [sliced, e, Addr.add]
theorem rd_hiS {w : World} {A : Option Addr} {n c k : Nat} {l : List SigD} (hok : SgOk l) (h : Rd w 33 (.slice A n c) n (sgsC l)) (hn : n = l.length) (hk : k ≤ n) : Rd w 33 (.slice A k c) k (sgsC (l.take k)) := by
 subst hn
 have hl := sgsC_length hok
 have hl2 := sgsC_length (l := l.take k) (fun s hs => hok s (List.mem_of_mem_take hs))
 rw [List.length_take, Nat.min_eq_left hk] at hl2
 have he : sgsC l = sgsC (l.take k) ++ sgsC (l.drop k) := by rw [← sgsC_append, List.take_append_drop]
 obtain ⟨h1, A', c', e, h2, h3, h4, h5⟩ := h
 cases e
 refine ⟨hl2, A, c, rfl, by omega, h3, (fun hA => ?_), fun ad had j u hu => h5 ad had j u ?_⟩
 · have := h4 hA; omega
 · rw [he, List.getElem?_append_left (List.getElem?_eq_some_iff.1 hu).1]
   exact hu
end
end Go.Proofs.YtapboamjpilckaaDoor
