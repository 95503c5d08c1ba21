/- Several texts in one: SigBN, SigBO, Open, WireOpen, PtOpen, SgOpen, KyOpen, PtOpens, NtOpen, KyOpen2, SgLaid, Post, PostKept. -/
import Derived.ProofKit
import Derived.OpenShut
import Derived.Deep.Slices
import Derived.JoinedCond
import Derived.Carry
import Derived.SizedLaws
import Derived.Test.YtapboamjpilckaaDoorCards
import Derived.Test.YtapboamjpilckaaDoorTie
import Derived.Deep.DeepHandedRow
import Derived.Deep.DeepWitnessRowRef
import Derived.Lib.LaidTab
import Derived.LaidMore
import Derived.Stop.LaidErr
import Derived.Test.YtapboamjpilckaaDoorRows
import Derived.Test.YtapboamjpilckaaDoorP10
set_option maxRecDepth 100000
set_option maxHeartbeats 8000000
namespace Go.Proofs.YtapboamjpilckaaDoor
/- SignNotes: its second and third loops. -/
section
open Go.RowKit
def dsN2 : List Nat := [159, 160, 161, 162, 165, 166, 167, 163, 164, 29]
def dsN4 : List Nat := [168, 169, 170, 171, 174, 175, 176, 177, 178, 179, 180, 181, 182, 183, 172, 173, 30]
theorem snt_l2 {Q : Exit → Act → World → Prop} {a : Act} {w0 w : World} (A : Option Addr) (n c : Nat) (xs : List Value) (L : List Res) (S : Held w0 w (rowR 9 1 (.slice A n c) n xs :: L)) (hn : n ≤ 9223372036854775806)
 (hsz : a.tmps.size = 207) (o27 : Sl a 27 (.slice A n c)) (o29 : Sl a 29 (.int .i64 ((0 : Nat) : Int)))
 (hend : ∀ a' W, Same a a' dsN2 → Held w0 W L → Q .normal a' W) :
 (Code.block 2 (blockOf 2 Tryd.f5)).wp Tryd.prog Q a w := by
 refine wp_block ?_
 (conv => arg 2; whnf)
 by_cases h0 : n = 0
 · subst h0
   refine wp_loop (fun a' w' => a' = a ∧ w' = w) (fun _ _ => 0) ⟨rfl, rfl⟩ ?_
   rintro a1 w1 ⟨rfl, rfl⟩
   refine wp_seq (wp_seq (snt_r21 A 0 0 c hsz o27 o29 (fun a2 hs2 o162 => ?_)))
   refine wp_cond_false ((o162.eval (by rw [hs2.size, hsz]; decide)).trans rfl) (wp_exit ?_)
   simp only [Exit.then, Exit.inBlock]
   exact hend a2 _ (hs2.more (by decide +kernel)) S.drop
 · obtain ⟨gr, cr, hgr, hcn, hcm⟩ := ow_some (show Ow w 9 1 (.slice A n c) n xs from S.at_ (l1 := [])) (by omega)
   cases hgr
   obtain ⟨cur, S, hcs, -, -, -⟩ := S.row_blk
   refine wp_loop (fun a' w' => ∃ (kx : Nat) (cur : Array Value), kx ≤ n ∧ cur.size = c * 1 ∧ Same a a' dsN2 ∧ Sl a' 29 (.int .i64 ((kx : Nat) : Int)) ∧ Held w0 w' (blkR gr 9 cur :: L)) (fun a' _ => n - (intOf (a'.eval (.tmp 29))).toNat) ⟨0, cur, Nat.zero_le _, hcs, Same.refl _ _, o29, S⟩ ?_
   clear o29 S
   rintro a1 w1 ⟨kx, cur, hk, hcs, T, o29, S⟩
   have hz1 := T.size.trans hsz
   have o27 := T.keep 27 _ (by decide +kernel) o27
   have e29 := o29.eval (by rw [hz1]; decide)
   refine wp_seq (wp_seq (snt_r21 (some ⟨gr, 0, none⟩) kx n c hz1 o27 o29 (fun a2 hs2 o162 => ?_)))
   have hz2 := hs2.size.trans hz1; have o27 := hs2.k o27; have o29 := hs2.k o29
   have T := T.trans hs2
   by_cases hlt : kx < n
   · refine wp_cond_true ((o162.eval (by rw [hz2]; decide)).trans (by rw [decide_eq_true hlt])) (wp_skip ?_)
     simp only [Exit.then]
     refine wp_seq (wp_block ?_)
     refine snt_r23 w0 gr n c kx hlt (by omega) cur hcs L S hz2 o27 o29 (fun a3 w3 hs3 h3 => ?_)
     have hz3 := hs3.size.trans hz2; have o27 := hs3.k o27; have o29 := hs3.k o29; have o162 := hs3.k o162
     have T := T.trans hs3
     obtain ⟨cur2, hcs2, S⟩ := h3
     simp only [Exit.inBlock, Exit.then]
     refine snt_r22 kx (by omega) hz3 o29 (fun a4 hs4 o29 => ?_)
     have hz4 := hs4.size.trans hz3; have o27 := hs4.k o27; have o162 := hs4.k o162
     have T := T.trans hs4
     refine ⟨⟨kx + 1, cur2, by omega, hcs2, T.more (by decide +kernel), o29, S⟩, ?_⟩
     rw [e29, o29.eval (by rw [hz4]; decide)]
     simp only [intOf]; omega
   · refine wp_cond_false ((o162.eval (by rw [hz2]; decide)).trans (by rw [decide_eq_false hlt])) (wp_exit ?_)
     simp only [Exit.then, Exit.inBlock]
     exact hend _ _ (T.more (by decide +kernel)) S.drop
theorem snt_l4 {Q : Exit → Act → World → Prop} {a : Act} {w0 w : World} (Aq : Option Addr) (cq : Nat) (ks : List KeyD) (us : List Value) (hkv : KysF w (.slice Aq ks.length cq) us ks) (hkl : (ks.length + 1) * 40 ≤ 140737488355328) (hsc : ∀ k, k ∈ ks → k.2.length + 1 ≤ 140737488355328)
 (kl : List (KeyD × Nat × Nat)) (hm : kl.map (·.1) = ks) (Bq : Option Addr) (eq' : Nat) (L : List Res) (S : Held w0 w (rowR 42 2 (.slice Bq kl.length eq') kl.length (kl.flatMap kcell) :: (kl.reverse.map krow ++ L)))
 (hsz : a.tmps.size = 207) (o2 : Sl a 2 (.slice Aq ks.length cq)) (o11 : Sl a 11 (.slice Bq kl.length eq')) (o30 : Sl a 30 (.int .i64 ((0 : Nat) : Int)))
 (hend : ∀ a' W, Same a a' dsN4 → Kp [] w W → Q .normal a' W) :
 (Code.block 4 (blockOf 4 Tryd.f5)).wp Tryd.prog Q a w := by
 have hl : kl.length = ks.length := by rw [← hm, List.length_map]
 refine wp_block ?_
 (conv => arg 2; whnf)
 refine wp_loop (fun a' w' => ∃ (kx : Nat), kx ≤ ks.length ∧ Same a a' dsN4 ∧ Sl a' 30 (.int .i64 ((kx : Nat) : Int)) ∧ Kp [] w w') (fun a' _ => ks.length - (intOf (a'.eval (.tmp 30))).toNat) ⟨0, Nat.zero_le _, Same.refl _ _, o30, Kp.refl _ _⟩ ?_
 clear o30
 rintro a1 w1 ⟨kx, hk, T, o30, K⟩
 have hz1 := T.size.trans hsz
 have o2 := T.keep 2 _ (by decide +kernel) o2
 have o11 := T.keep 11 _ (by decide +kernel) o11
 have e30 := o30.eval (by rw [hz1]; decide)
 refine wp_seq (wp_seq (snt_r25 Aq kx ks.length cq hz1 o2 o30 (fun a2 hs2 o171 => ?_)))
 have hz2 := hs2.size.trans hz1; have o2 := hs2.k o2; have o11 := hs2.k o11; have o30 := hs2.k o30
 have T := T.trans hs2
 by_cases hlt : kx < ks.length
 · refine wp_cond_true ((o171.eval (by rw [hz2]; decide)).trans (by rw [decide_eq_true hlt])) (wp_skip ?_)
   simp only [Exit.then]
   obtain ⟨be, hA⟩ := kys_addr hkv (by omega)
   have hkv2 := hkv
   rw [hA] at hkv2 o2
   obtain ⟨x, hx⟩ : ∃ x, kl[kx]? = some x := ⟨_, List.getElem?_eq_getElem (by omega)⟩
   have hkk : ks[kx]? = some x.1 := by rw [← hm, List.getElem?_map, hx]; rfl
   obtain ⟨As, cs, hkc, hks'⟩ := hkv2.at2 hkk
   obtain ⟨ad, hB, hcB⟩ : ∃ ad, Bq = some ad ∧ ∀ V, Kp [] w V → ∀ j u, (kcell x)[j]? = some u → V.cell? ((ad.add (kx * 2)).add j) = some u := by
    obtain ⟨-, A', c', he, -, -, hn, hc⟩ := Rd.of_own (show Ow w 42 2 (.slice Bq kl.length eq') kl.length (kl.flatMap kcell) from S.at_ (l1 := []))
    cases he
    cases Bq with
    | none => have := (hn rfl).1; omega
    | some ad =>
     refine ⟨ad, rfl, fun V kV j u hu => cell_kept ?_ kV⟩
     have hj : j < 2 := by have := (List.getElem?_eq_some_iff.1 hu).1; simpa [kcell] using this
     rw [add_of_add]
     exact hc ad rfl _ u (by rw [kcell_at hx j hj]; exact hu)
   rw [hB] at o11
   have hd := fun (V : World) (kV : Kp [] w1.drew V) => K.drew.trans kV (by simp)
   have hmark := krow_rd S hx
   rw [hl] at o11
   refine wp_seq (wp_block ?_)
   refine wp_seq (snt_r27 ad be kx ks.length eq' cq hlt ⟨x.1.1.toArray⟩ x.2.1 x.1.2.length x.2.2 As cs (fun V kV => hcB V (hd V kV)) (fun V kV => hkc V (hd V kV)) (fun V kV => sleftk_any ⟨x.1.1.toArray⟩ As cs x.1.2 (hsc x.1 (List.mem_of_getElem? hkk)) x.2.1 x.2.2 V (rd_old hks' (hd V kV)) (rd_old hmark (hd V kV))) hz2 o2 o11 o30 (fun a3 w3 hs3 k3 o183 => ?_))
   have hz3 := hs3.size.trans hz2
   have T := T.trans hs3
   have o30 := hs3.k o30
   refine wp_cond_false (o183.eval (by rw [hz3]; decide)) (wp_skip ?_)
   simp only [Exit.inBlock, Exit.then]
   refine snt_r26 kx (by omega) hz3 o30 (fun a4 hs4 o30 => ?_)
   have hz4 := hs4.size.trans hz3
   have T := T.trans hs4
   refine ⟨⟨kx + 1, by omega, T.more (by decide +kernel), o30, hd w3 k3⟩, ?_⟩
   rw [e30, o30.eval (by rw [hz4]; decide)]
   simp only [intOf]; omega
 · refine wp_cond_false ((o171.eval (by rw [hz2]; decide)).trans (by rw [decide_eq_false hlt])) (wp_exit ?_)
   simp only [Exit.then, Exit.inBlock]
   exact hend _ _ (T.more (by decide +kernel)) K
end
/- SignNotes, whole. -/
section
open Go.RowKit
theorem signnotes_any (w : World) (LDw : LD w) (z : Int) (hz : -9223372036854775808 ≤ z ∧ z ≤ 9223372036854775807) (h : List UInt8) (hh : h.length = 32) (A : Option Addr) (c : Nat) (l : List SigD) (hok : SgOk l) (hll : (l.length + 1) * 48 ≤ 140737488355328) (hv : Rd w 33 (.slice A l.length c) l.length (sgsC l)) (nm : List UInt8) (hnl : nm.length ≤ 9223372036854775807) (Ak : Option Addr) (ck : Nat) (sec : List UInt8) (hsl : sec.length + 1 ≤ 140737488355328) (hvk : Rd w 1 (.slice Ak sec.length ck) sec.length (bv sec)) (Aq : Option Addr) (cq : Nat) (ks : List KeyD) (hks : (ks.length + 1) * 40 ≤ 140737488355328) (hnm : ∀ k, k ∈ ks → k.1.length ≤ maxLen) (hsc : ∀ k, k ∈ ks → k.2.length + 1 ≤ 140737488355328) (us : List Value) (hkv : KysF w (.slice Aq ks.length cq) us ks) (most : Int) :
 Calls Tryd.prog 5 #[.agg (ntA z h (.slice A l.length c)), .agg #[.string ⟨nm.toArray⟩, .slice Ak sec.length ck], .slice Aq ks.length cq, .int .i64 most] w fun e w' => e = .returned (.bool true) ∧ Kp [] w w' := by
 refine calls_fr Tryd.func5 rfl 207 rfl (fun a0 hsz hdf hAr => ?_)
 have hz0 : a0.tmps.size = 207 := hsz
 have D := hdf
 have o0 := hAr 0 _ rfl
 have o1 := hAr 1 _ rfl
 have o2 := hAr 2 _ rfl
 have o3 := hAr 3 _ rfl
 refine wp_seq (snt_r0 w _ _ [] (Held.start w) hz0 o0 o1 (fun a1 w1 hs1 o8 h1 => ?_))
 have hz1 := hs1.size.trans hz0; have o0 := hs1.k o0; have o1 := hs1.k o1; have o2 := hs1.k o2; have o3 := hs1.k o3; have D := hs1.defers.trans D
 obtain ⟨g4, g5, o4, o5, S⟩ := h1
 refine wp_seq (snt_r1 w z h hh A c l hok hll (fun V kV => rd_old hv kV) ⟨nm.toArray⟩ Ak ck sec hsl (fun V kV => rd_old hvk kV) g4 g5 [] hz1 o4 o5 S (fun a2 vs gs w2 hs2 o9 o10 S => ?_))
 have hz2 := hs2.size.trans hz1; have o2 := hs2.k o2; have o3 := hs2.k o3; have o4 := hs2.k o4; have o5 := hs2.k o5; have D := hs2.defers.trans D
 obtain ⟨⟨gr, cr⟩, q1⟩ : ∃ p, gs 1 = p := ⟨_, rfl⟩
 obtain ⟨⟨gt, ct⟩, q3⟩ : ∃ p, gs 3 = p := ⟨_, rfl⟩
 obtain ⟨g9, q5⟩ : ∃ p, (gs 4).1 = p := ⟨_, rfl⟩
 obtain ⟨g10, q6⟩ : ∃ p, (gs 5).1 = p := ⟨_, rfl⟩
 rw [q1, q3, q5, q6] at S
 rw [q5] at o9
 rw [q6] at o10
 simp only at S
 clear q1 q3 q5 q6
 refine wp_seq (snt_r2 hz2 (fun a3 hs3 o11 => ?_))
 have hz3 := hs3.size.trans hz2; have o2 := hs3.k o2; have o3 := hs3.k o3; have o4 := hs3.k o4; have o5 := hs3.k o5; have o9 := hs3.k o9; have o10 := hs3.k o10; have D := hs3.defers.trans D
 refine wp_seq (wp_seq (snt_r3 hz3 (fun a4 hs4 o12 => ?_)))
 have hz4 := hs4.size.trans hz3; have o2 := hs4.k o2; have o3 := hs4.k o3; have o4 := hs4.k o4; have o5 := hs4.k o5; have o9 := hs4.k o9; have o10 := hs4.k o10; have o11 := hs4.k o11; have D := hs4.defers.trans D
 refine snt_l0 Aq cq ks us hkv hks hsc hz4 o2 o11 o12 _ S (fun a5 w3 kl u hs5 hm o11 S => ?_)
 have hz5 := hs5.size.trans hz4; have D := hs5.defers.trans D
 have o2 := hs5.keep 2 _ (by decide +kernel) o2
 have o3 := hs5.keep 3 _ (by decide +kernel) o3
 have o4 := hs5.keep 4 _ (by decide +kernel) o4
 have o5 := hs5.keep 5 _ (by decide +kernel) o5
 have o9 := hs5.keep 9 _ (by decide +kernel) o9
 have o10 := hs5.keep 10 _ (by decide +kernel) o10
 simp only [Exit.then]
 obtain ⟨Bq, eq', hu, -, -⟩ := ow_form (show Ow w3 42 2 u kl.length (kl.flatMap kcell) from S.at_ (l1 := []))
 subst hu
 have hkl : kl.length = ks.length := by rw [← hm, List.length_map]
 obtain ⟨M, hM⟩ : ∃ M, rowR 42 2 (.slice Bq kl.length eq') kl.length (kl.flatMap kcell) :: kl.reverse.map krow = M := ⟨_, rfl⟩
 have S : Held w w3 ([rowR 81 33 (.slice (some ⟨gr, 0, none⟩) (l.length + 1) cr) (l.length + 1) (sgsC (l ++ [roomS])), rowR 5 1 (.slice (some ⟨gt, 0, none⟩) (sec.length + 1) ct) (sec.length + 1) (bv (sec ++ [165])), blkR g9 36 (ntA z h (.slice (some ⟨gr, 0, none⟩) l.length cr)), blkR g10 42 #[.string ⟨nm.toArray⟩, .slice (some ⟨gt, 0, none⟩) sec.length ct], blkR g4 36 (ntA z h (.slice A l.length c)), blkR g5 42 #[.string ⟨nm.toArray⟩, .slice Ak sec.length ck]] ++ M) := by
  rw [← hM]
  exact S.perm (List.perm_append_comm (l₁ := rowR 42 2 (.slice Bq kl.length eq') kl.length (kl.flatMap kcell) :: kl.reverse.map krow))
 have hMk : ∀ {W : World} {L : List Res}, Held w W (L ++ M) → Held w W (rowR 42 2 (.slice Bq kl.length eq') kl.length (kl.flatMap kcell) :: (kl.reverse.map krow ++ [])) := by
  intro W L S
  rw [List.append_nil, hM]
  exact S.some_of (List.sublist_append_right _ _)
 have hKq : ∀ {W : World} {L : List Res}, Held w W (L ++ M) → KysF W (.slice Bq ks.length eq') (kl.flatMap kcell) ks := by
  intro W L S
  have := kept_kys (hMk S)
  rw [hm, hkl] at this
  exact this
 have hl63 : l.length ≤ 9223372036854775807 := by omega
 obtain ⟨hH, hX, hX65⟩ := sN_ok (z := z) (l := l) (sec := sec) hh hok hnl
 have hx := rd_room hok (show Ow w3 81 33 (.slice (some ⟨gr, 0, none⟩) (l.length + 1) cr) (l.length + 1) (sgsC (l ++ [roomS])) from S.at_ (l1 := []))
 have hmk := Rd.of_own (show Ow w3 5 1 (.slice (some ⟨gt, 0, none⟩) (sec.length + 1) ct) (sec.length + 1) (bv (sec ++ [165])) from S.at_ (l1 := [_]))
 have hcr := cap_room (show Ow w3 81 33 (.slice (some ⟨gr, 0, none⟩) (l.length + 1) cr) (l.length + 1) (sgsC (l ++ [roomS])) from S.at_ (l1 := []))
 have HJ1 := (ssign_any z hz h hh l hok hl63 (some ⟨gr, 0, none⟩) cr ⟨nm.toArray⟩ (by rw [str_size]; exact hnl) (some ⟨gt, 0, none⟩) ct sec w3 (LDw.kp S.k) hx (cut_mark hmk).1).mono (fun r w' P => signU (nm := nm) P)
 refine wp_seq (snt_r7 w _ _ hH _ _ _ g9 g10 _ _ (ntA_size hh) rfl (S.at_ (l1 := [_, _])) (S.at_ (l1 := [_, _, _])) HJ1 _ S hz5 o9 o10 (fun a6 w4 hs6 o14 h4 => ?_))
 have hz6 := hs6.size.trans hz5; have o2 := hs6.k o2; have o3 := hs6.k o3; have o4 := hs6.k o4; have o5 := hs6.k o5; have o9 := hs6.k o9; have o10 := hs6.k o10; have o11 := hs6.k o11; have D := hs6.defers.trans D; clear HJ1
 obtain ⟨g13, v1, o13, S4⟩ := h4
 have hx := rd_room hok (S4.at_ (l1 := [_, _]))
 have HJ2 := (ssign_any z hz h hh l hok hl63 (some ⟨gr, 0, none⟩) cr ⟨nm.toArray⟩ (by rw [str_size]; exact hnl) (some ⟨gt, 0, none⟩) ct sec w4 (LDw.kp S4.k) hx (cut_mark (Rd.of_own (S4.at_ (l1 := [_, _, _])))).1).mono (fun r w' P => signU (nm := nm) P)
 clear S
 refine wp_seq (snt_r8 w _ _ hH _ _ _ g9 g10 _ _ (ntA_size hh) rfl (S4.at_ (l1 := [_, _, _, _])) (S4.at_ (l1 := [_, _, _, _, _])) HJ2 _ S4 hz6 o9 o10 (fun a7 w5 hs7 o16 h5 => ?_))
 have hz7 := hs7.size.trans hz6; have o2 := hs7.k o2; have o3 := hs7.k o3; have o4 := hs7.k o4; have o5 := hs7.k o5; have o9 := hs7.k o9; have o10 := hs7.k o10; have o11 := hs7.k o11; have o14 := hs7.k o14; have o13 := hs7.k o13; have D := hs7.defers.trans D; clear HJ2
 obtain ⟨g15, v2, o15, S5⟩ := h5
 have HJ3 := (rsign_any z hz h hh A c l hok (by omega) nm hnl Ak ck sec w5 (rd_old hv S5.k) (rd_old hvk S5.k)).mono (fun r w' P => signU P)
 clear S4
 refine wp_seq (snt_r9 w _ _ hH _ _ _ g4 g5 _ _ (ntA_size hh) rfl (S5.at_ (l1 := [_, _, _, _, _, _, _, _])) (S5.at_ (l1 := [_, _, _, _, _, _, _, _, _])) HJ3 _ S5 hz7 o4 o5 (fun a8 w6 hs8 o18 h6 => ?_))
 have hz8 := hs8.size.trans hz7; have o2 := hs8.k o2; have o3 := hs8.k o3; have o4 := hs8.k o4; have o5 := hs8.k o5; have o9 := hs8.k o9; have o10 := hs8.k o10; have o11 := hs8.k o11; have o14 := hs8.k o14; have o13 := hs8.k o13; have o16 := hs8.k o16; have o15 := hs8.k o15; have D := hs8.defers.trans D; clear HJ3
 obtain ⟨g17, v3, o17, S⟩ := h6
 clear S5
 generalize signE z l nm sec = E at *
 generalize sN z h l nm sec = J at *
 obtain ⟨Z, H, X⟩ := J
 simp only at hH hX hX65 S
 obtain ⟨A1, c1, hv1, -, -⟩ := ow_form (show Ow w6 81 33 v1 X.length (sgsC X) from S.at_ (l1 := [_, _, _, _, _]))
 obtain ⟨A2, c2, hv2, -, -⟩ := ow_form (show Ow w6 81 33 v2 X.length (sgsC X) from S.at_ (l1 := [_, _, _]))
 obtain ⟨A3, c3, hv3, -, -⟩ := ow_form (show Ow w6 81 33 v3 X.length (sgsC X) from S.at_ (l1 := [_]))
 subst hv1
 subst hv2
 subst hv3
 have hN34 : (ntA (nN z h).1 (nN z h).2 (.slice none 0 0)).size = 34 := ntA_size (nN_len hh)
 have hN1 : ∀ u, u ∈ (ntA (nN z h).1 (nN z h).2 (.slice none 0 0)).toList → u.oneCell' = true := ntA_one rfl
 have HJ4 := sgnew_any z hz h hh w6 (LDw.kp S.k)
 rw [newA_is] at HJ4
 refine wp_seq (snt_r10 w z h hh _ g4 (S.at_ (l1 := [_, _, _, _, _, _, _, _, _, _])) _ hN34 hN1 _ HJ4 _ S hz8 o4 (fun a9 w7 hs9 o20 h7 => ?_))
 have hz9 := hs9.size.trans hz8; have o2 := hs9.k o2; have o3 := hs9.k o3; have o4 := hs9.k o4; have o5 := hs9.k o5; have o9 := hs9.k o9; have o10 := hs9.k o10; have o11 := hs9.k o11; have o14 := hs9.k o14; have o13 := hs9.k o13; have o16 := hs9.k o16; have o15 := hs9.k o15; have o18 := hs9.k o18; have o17 := hs9.k o17; have D := hs9.defers.trans D
 obtain ⟨g19, o19, S⟩ := h7
 have HJ5 := rgnew_any z hz h hh w7
 rw [newA_is] at HJ5
 refine wp_seq (snt_r11 w z h hh _ g4 (S.at_ (l1 := [_, _, _, _, _, _, _, _, _, _, _])) _ hN34 hN1 _ HJ5 _ S hz9 o4 (fun a10 w8 hs10 o22 h8 => ?_))
 have hz10 := hs10.size.trans hz9; have o2 := hs10.k o2; have o3 := hs10.k o3; have o4 := hs10.k o4; have o5 := hs10.k o5; have o9 := hs10.k o9; have o10 := hs10.k o10; have o11 := hs10.k o11; have o14 := hs10.k o14; have o13 := hs10.k o13; have o16 := hs10.k o16; have o15 := hs10.k o15; have o18 := hs10.k o18; have o17 := hs10.k o17; have o20 := hs10.k o20; have o19 := hs10.k o19; have D := hs10.defers.trans D
 obtain ⟨g21, o21, S⟩ := h8
 have hsv : (sumV z h nm sec).length = 32 := sumV_length ..
 have hs32 : (hashA (sumV z h nm sec)).size = 32 := by rw [hashA_size, hsv]
 have HJ6 := ssm_any z hz h hh ⟨nm.toArray⟩ (by rw [str_size]; exact hnl) (some ⟨gt, 0, none⟩) ct sec w8 (LDw.kp S.k) (cut_mark (Rd.of_own (show Ow w8 5 1 (.slice (some ⟨gt, 0, none⟩) (sec.length + 1) ct) (sec.length + 1) (bv (sec ++ [165])) from S.at_ (l1 := [_, _, _, _, _, _, _, _, _])))).1
 refine wp_seq (snt_r12 w z h hh _ g4 (S.at_ (l1 := [_, _, _, _, _, _, _, _, _, _, _, _])) g10 _ rfl (S.at_ (l1 := [_, _, _, _, _, _, _, _, _, _, _])) (hashA (sumV z h nm sec)) hs32 (hashA_one _) _ HJ6 _ S hz10 o4 o10 (fun a11 w9 hs11 o24 h9 => ?_))
 have hz11 := hs11.size.trans hz10; have o2 := hs11.k o2; have o3 := hs11.k o3; have o4 := hs11.k o4; have o5 := hs11.k o5; have o9 := hs11.k o9; have o10 := hs11.k o10; have o11 := hs11.k o11; have o14 := hs11.k o14; have o13 := hs11.k o13; have o16 := hs11.k o16; have o15 := hs11.k o15; have o18 := hs11.k o18; have o17 := hs11.k o17; have o20 := hs11.k o20; have o19 := hs11.k o19; have o22 := hs11.k o22; have o21 := hs11.k o21; have D := hs11.defers.trans D
 obtain ⟨g23, o23, S⟩ := h9
 have HJ7 := rsu_any z hz h hh nm hnl Ak ck sec w9 (rd_old hvk S.k)
 refine wp_seq (snt_r13 w z h hh _ g4 (S.at_ (l1 := [_, _, _, _, _, _, _, _, _, _, _, _, _])) g5 _ rfl (S.at_ (l1 := [_, _, _, _, _, _, _, _, _, _, _, _, _, _])) (hashA (sumV z h nm sec)) hs32 (hashA_one _) _ HJ7 _ S hz11 o4 o5 (fun a12 w10 hs12 o26 h10 => ?_))
 have hz12 := hs12.size.trans hz11; have o2 := hs12.k o2; have o3 := hs12.k o3; have o4 := hs12.k o4; have o5 := hs12.k o5; have o9 := hs12.k o9; have o10 := hs12.k o10; have o11 := hs12.k o11; have o14 := hs12.k o14; have o13 := hs12.k o13; have o16 := hs12.k o16; have o15 := hs12.k o15; have o18 := hs12.k o18; have o17 := hs12.k o17; have o20 := hs12.k o20; have o19 := hs12.k o19; have o22 := hs12.k o22; have o21 := hs12.k o21; have o24 := hs12.k o24; have o23 := hs12.k o23; have D := hs12.defers.trans D
 obtain ⟨g25, o25, S⟩ := h10
 have hd := fun (V : World) (kV : Kp [] w10.drew V) => ((Kp.refl [] w10).drew).trans kV (by simp)
 have hx := rd_room hok (show Ow w10 81 33 (.slice (some ⟨gr, 0, none⟩) (l.length + 1) cr) (l.length + 1) (sgsC (l ++ [roomS])) from S.at_ (l1 := [_, _, _, _, _, _, _, _, _, _]))
 have LD10 := LDw.kp S.k
 have hv10 := rd_old hv S.k
 refine wp_seq (wp_seq (snt_r14 _ _ _ _ Z H hH X hX (by omega) A1 c1 g13 ((S.at_ (l1 := [_, _, _, _, _, _, _, _])).drew) ((Rd.of_own (S.at_ (l1 := [_, _, _, _, _, _, _, _, _]))).drew) A3 c3 g17 ((S.at_ (l1 := [_, _, _, _])).drew) ((Rd.of_own (S.at_ (l1 := [_, _, _, _, _]))).drew) _ _ (nN_len hh) g19 g21 ((S.at_ (l1 := [_, _, _])).drew) ((S.at_ (l1 := [_, _])).drew) _ hsv g23 g25 ((S.at_ (l1 := [_])).drew) ((S.at_ (l1 := [])).drew) z h hh A c l gr cr g4 g9 ((S.at_ (l1 := [_, _, _, _, _, _, _, _, _, _, _, _, _, _])).drew) ((S.at_ (l1 := [_, _, _, _, _, _, _, _, _, _, _, _])).drew) (fun V kV => scheck_any z hz h hh l hok hl63 _ _ V (LD10.kp (hd V kV)) (rd_old hx (hd V kV))) (fun V kV => rscheck_any z hz h hh l hok hl63 A c V (rd_old hv10 (hd V kV))) hz12 o4 o9 o13 o14 o17 o18 o19 o20 o21 o22 o23 o24 o25 o26 (fun a13 w11 hs13 k11 o133 => ?_)))
 have hz13 := hs13.size.trans hz12; have o2 := hs13.k o2; have o3 := hs13.k o3; have o4 := hs13.k o4; have o5 := hs13.k o5; have o9 := hs13.k o9; have o10 := hs13.k o10; have o11 := hs13.k o11; have o14 := hs13.k o14; have o13 := hs13.k o13; have o16 := hs13.k o16; have o15 := hs13.k o15; have o18 := hs13.k o18; have o17 := hs13.k o17; have o20 := hs13.k o20; have o19 := hs13.k o19; have o22 := hs13.k o22; have o21 := hs13.k o21; have o24 := hs13.k o24; have o23 := hs13.k o23; have o26 := hs13.k o26; have o25 := hs13.k o25; have D := hs13.defers.trans D
 have S := S.kp (hd w11 k11)
 refine wp_cond_false (o133.eval (by rw [hz13]; decide)) (wp_skip ?_)
 simp only [Exit.then]
 have hb13 := S.at_ (l1 := [_, _, _, _, _, _, _, _])
 have S := S.pull 9 rfl
 refine wp_seq (snt_r16 w Z H hH _ X.length (by omega) _ g13 hb13 _ S hz13 o13 (fun a14 w12 hs14 S => ?_))
 have hz14 := hs14.size.trans hz13; have o2 := hs14.k o2; have o3 := hs14.k o3; have o4 := hs14.k o4; have o5 := hs14.k o5; have o9 := hs14.k o9; have o10 := hs14.k o10; have o11 := hs14.k o11; have o13 := hs14.k o13; have o15 := hs14.k o15; have o17 := hs14.k o17; have D := hs14.defers.trans D
 rw [hkl] at o11
 have hx12 := rd_room hok (show Ow w12 81 33 (.slice (some ⟨gr, 0, none⟩) (l.length + 1) cr) (l.length + 1) (sgsC (l ++ [roomS])) from (S.at_ (l1 := [_, _, _, _, _, _, _, _, _])))
 have LD12 := LDw.kp S.k
 have hq := hKq (L := [_, _, _, _, _, _, _, _, _, _, _, _, _, _, _]) S
 refine wp_seq (snt_r17 w12 z h hh l gr cr g9 (S.at_ (l1 := [_, _, _, _, _, _, _, _, _, _, _])) Bq ks.length eq' (rightA z h l ks) (fun V kV => sright_any z hz h hh (some ⟨gr, 0, none⟩) cr l hok hl63 Bq eq' ks (by omega) hnm (kl.flatMap kcell) V (LD12.kp kV) (rd_old hx12 kV) (hq.kp0 kV)) [] hz14 o9 o11 (Held.start w12) (fun a15 vs' gs' w13 hs15 o27 o28 S3 => ?_))
 have hz15 := hs15.size.trans hz14; have o2 := hs15.k o2; have o3 := hs15.k o3; have o4 := hs15.k o4; have o5 := hs15.k o5; have o9 := hs15.k o9; have o10 := hs15.k o10; have o11 := hs15.k o11; have o15 := hs15.k o15; have o17 := hs15.k o17; have D := hs15.defers.trans D
 have S := (S.join S3).perm List.perm_append_comm
 obtain ⟨A5, c5, hv5, -, -⟩ := ow_form (show Ow w13 9 1 (vs' 2) (rightA z h l ks).length ((rightA z h l ks).map strV) from S.at_ (l1 := []))
 obtain ⟨A6, c6, hv6, -, -⟩ := ow_form (show Ow w13 9 1 (vs' 5) (rightA z h l ks).length ((rightA z h l ks).map strV) from S.at_ (l1 := [_]))
 rw [hv5] at S o27
 rw [hv6] at S o28
 have hxl : (rightA z h l ks).length ≤ 9223372036854775806 := by
  unfold rightA
  cases hm' : mayN z l
  · simp
  · rw [if_pos rfl]
    unfold rightN
    rw [List.length_map]
    have := List.length_filter_le (fun s => ks.any fun k => matchS z h k s) l
    omega
 have hd13 := fun (V : World) (kV : Kp [] w13.drew V) => ((Kp.refl [] w13).drew).trans kV (by simp)
 have hv13 := rd_old hv S.k
 have hkv13 := hkv.kp0 S.k
 have hx13 := rd_room hok (show Ow w13 81 33 (.slice (some ⟨gr, 0, none⟩) (l.length + 1) cr) (l.length + 1) (sgsC (l ++ [roomS])) from (S.at_ (l1 := [_, _, _, _, _, _, _, _, _, _, _])))
 have LD13 := LDw.kp S.k
 have hq13 := hKq (L := [_, _, _, _, _, _, _, _, _, _, _, _, _, _, _, _, _]) S
 refine wp_seq (wp_seq (snt_r18 z h hh A c l gr cr g4 g9 ((S.at_ (l1 := [_, _, _, _, _, _, _, _, _, _, _, _, _, _, _])).drew) ((S.at_ (l1 := [_, _, _, _, _, _, _, _, _, _, _, _, _])).drew) Bq Aq ks.length eq' ks.length cq (rightA z h l ks) hxl A5 c5 ((Rd.of_own (S.at_ (l1 := []))).drew) (fun V kV => srright_any z hz h hh A c l hok (by omega) Aq cq ks (by omega) hnm us V (rd_old hv13 (hd13 V kV)) (hkv13.kp0 (hd13 V kV))) most _ (fun V kV => senough_any z hz h hh (some ⟨gr, 0, none⟩) cr l hok hl63 most Bq eq' ks (by omega) hnm (kl.flatMap kcell) V (LD13.kp (hd13 V kV)) (rd_old hx13 (hd13 V kV)) (hq13.kp0 (hd13 V kV))) (fun V kV => srenough_any z hz h hh A c l hok (by omega) most Aq cq ks (by omega) hnm us V (rd_old hv13 (hd13 V kV)) (hkv13.kp0 (hd13 V kV))) hz15 o2 o3 o4 o9 o11 o27 (fun a16 w14 hs16 k14 o158 => ?_)))
 have hz16 := hs16.size.trans hz15; have o2 := hs16.k o2; have o3 := hs16.k o3; have o4 := hs16.k o4; have o5 := hs16.k o5; have o9 := hs16.k o9; have o10 := hs16.k o10; have o11 := hs16.k o11; have o15 := hs16.k o15; have o17 := hs16.k o17; have o27 := hs16.k o27; have o28 := hs16.k o28; have D := hs16.defers.trans D
 have S := S.kp (hd13 w14 k14)
 refine wp_cond_false (o158.eval (by rw [hz16]; decide)) (wp_skip ?_)
 simp only [Exit.then]
 refine wp_seq (wp_seq (snt_r20 hz16 (fun a17 hs17 o29 => ?_)))
 have hz17 := hs17.size.trans hz16; have o2 := hs17.k o2; have o4 := hs17.k o4; have o5 := hs17.k o5; have o9 := hs17.k o9; have o10 := hs17.k o10; have o11 := hs17.k o11; have o15 := hs17.k o15; have o17 := hs17.k o17; have o27 := hs17.k o27; have o28 := hs17.k o28; have D := hs17.defers.trans D
 refine snt_l2 A5 (rightA z h l ks).length c5 _ _ S hxl hz17 o27 o29 (fun a18 w15 hs18 S => ?_)
 have hz18 := hs18.size.trans hz17; have D := hs18.defers.trans D
 have o2 := hs18.keep 2 _ (by decide +kernel) o2
 have o4 := hs18.keep 4 _ (by decide +kernel) o4
 have o5 := hs18.keep 5 _ (by decide +kernel) o5
 have o9 := hs18.keep 9 _ (by decide +kernel) o9
 have o10 := hs18.keep 10 _ (by decide +kernel) o10
 have o11 := hs18.keep 11 _ (by decide +kernel) o11
 have o15 := hs18.keep 15 _ (by decide +kernel) o15
 have o17 := hs18.keep 17 _ (by decide +kernel) o17
 have o28 := hs18.keep 28 _ (by decide +kernel) o28
 simp only [Exit.then]
 refine wp_seq (wp_seq (snt_r24 hz18 (fun a19 hs19 o30 => ?_)))
 have hz19 := hs19.size.trans hz18; have o2 := hs19.k o2; have o4 := hs19.k o4; have o5 := hs19.k o5; have o9 := hs19.k o9; have o10 := hs19.k o10; have o11 := hs19.k o11; have o15 := hs19.k o15; have o17 := hs19.k o17; have o28 := hs19.k o28; have D := hs19.defers.trans D
 rw [← hkl] at o11
 refine snt_l4 Aq cq ks us (hkv.kp0 S.k) hks hsc kl hm Bq eq' [] (hMk (L := [_, _, _, _, _, _, _, _, _, _, _, _, _, _, _, _]) S) hz19 o2 o11 o30 (fun a20 w16 hs20 k16 => ?_)
 have hz20 := hs20.size.trans hz19; have D := hs20.defers.trans D
 have o2 := hs20.keep 2 _ (by decide +kernel) o2
 have o4 := hs20.keep 4 _ (by decide +kernel) o4
 have o5 := hs20.keep 5 _ (by decide +kernel) o5
 have o9 := hs20.keep 9 _ (by decide +kernel) o9
 have o10 := hs20.keep 10 _ (by decide +kernel) o10
 have o15 := hs20.keep 15 _ (by decide +kernel) o15
 have o17 := hs20.keep 17 _ (by decide +kernel) o17
 have o28 := hs20.keep 28 _ (by decide +kernel) o28
 simp only [Exit.then]
 have S := S.kp k16
 have hv16 := rd_old hv S.k
 have hkv16 := hkv.kp0 S.k
 refine wp_seq (snt_r29 (LDw.kp S.k) Z H hH X hX (by omega) A2 c2 g15 (S.at_ (l1 := [_, _, _, _, _, _, _])) (Rd.of_own (S.at_ (l1 := [_, _, _, _, _, _, _, _]))) A3 c3 g17 (S.at_ (l1 := [_, _, _, _, _])) (Rd.of_own (S.at_ (l1 := [_, _, _, _, _, _]))) z h hh A c l gr cr g4 g9 (S.at_ (l1 := [_, _, _, _, _, _, _, _, _, _, _, _, _, _])) (S.at_ (l1 := [_, _, _, _, _, _, _, _, _, _, _, _])) ⟨nm.toArray⟩ Ak ck sec gt ct g5 g10 (S.at_ (l1 := [_, _, _, _, _, _, _, _, _, _, _, _, _, _, _])) (S.at_ (l1 := [_, _, _, _, _, _, _, _, _, _, _, _, _])) Aq ks.length cq (rightA z h l ks) hxl A6 c6 (Rd.of_own (S.at_ (l1 := []))) (fun V kV => srright_any z hz h hh A c l hok (by omega) Aq cq ks (by omega) hnm us V (rd_old hv16 kV) (hkv16.kp0 kV)) (fun V kV => sleft_any z h hh A c l hok hll gr cr hcr V (rd_old hv16 kV) ((S.kp kV).at_ (l1 := [_, _, _, _, _, _, _, _, _, _]))) (fun V kV => sleftk_any ⟨nm.toArray⟩ Ak ck sec hsl gt ct V (rd_old hvk (S.kp kV).k) (Rd.of_own ((S.kp kV).at_ (l1 := [_, _, _, _, _, _, _, _, _, _, _])))) hz20 o2 o4 o5 o9 o10 o15 o17 o28 (fun a21 w17 hs21 k17 o8 => ?_))
 have hz21 := hs21.size.trans hz20; have o2 := hs21.k o2; have o4 := hs21.k o4; have o5 := hs21.k o5; have o9 := hs21.k o9; have o10 := hs21.k o10; have o15 := hs21.k o15; have o17 := hs21.k o17; have o28 := hs21.k o28; have D := hs21.defers.trans D
 refine wp_ret ?_
 exact (bodyPost_ret (results_t1 (by rfl) (o8.eval (by rw [hz21]; decide))) D ⟨rfl, S.k.trans k17 (by simp)⟩)
theorem signnotes_law (w : World) (z : Int) (hz : -9223372036854775808 ≤ z ∧ z ≤ 9223372036854775807) (h : List UInt8) (hh : h.length = 32) (A : Option Addr) (c : Nat) (l : List SigD) (hok : SgOk l) (hll : (l.length + 1) * 48 ≤ 140737488355328) (hv : Rd w 33 (.slice A l.length c) l.length (sgsC l)) (nm : List UInt8) (hnl : nm.length ≤ maxLen) (Ak : Option Addr) (ck : Nat) (sec : List UInt8) (hsl : sec.length + 1 ≤ 140737488355328) (hvk : Rd w 1 (.slice Ak sec.length ck) sec.length (bv sec)) (v : Value) (ks : List KeyD) (us : List Value) (hkv : KysF w v us ks) (hnm : ∀ k, k ∈ ks → k.1.length ≤ maxLen) (hks : (ks.length + 1) * 40 ≤ 140737488355328) (hsc : ∀ k, k ∈ ks → k.2.length + 1 ≤ 140737488355328) (most : Int) (_ : -9223372036854775808 ≤ most ∧ most ≤ 9223372036854775807) (LDw : LD w) :
 Calls Tryd.prog 5 #[.agg (ntA z h (.slice A l.length c)), .agg #[.string ⟨nm.toArray⟩, .slice Ak sec.length ck], v, .int .i64 most] w fun e w' => e = .returned (.bool true) ∧ Kp [] w w' := by
 obtain ⟨Aq, cq, rfl⟩ := rd_form hkv.1
 exact signnotes_any w LDw z hz h hh A c l hok hll hv nm (by unfold maxLen at hnl; omega) Ak ck sec hsl hvk Aq cq ks hks hnm hsc us hkv most
end
/- What comes in, opened: slices of bytes; how much there is of it. -/
section
open Go.RowKit Go.WideShapes Go.ChangeShapes
section
variable {H : Type} {enc : TypeId × Value → H} {P : Program}
/-! ### Bulk -/
theorem bulk_pos (d : DataW H) : 1 ≤ Rows.uptoBulk d := by
 cases d with
 | lit l => cases l <;> simp [Rows.uptoBulk]
 | nil => simp [Rows.uptoBulk]
 | ptr d => simp [Rows.uptoBulk]
 | slice elems spare => simp [Rows.uptoBulk]
 | agg parts => simp [Rows.uptoBulk]
 | iface t d => simp [Rows.uptoBulk]
 | map entries => simp [Rows.uptoBulk]
 | held h => simp [Rows.uptoBulk]
theorem bulk_len (l : List (DataW H)) : l.length ≤ Rows.uptoBulkAll l := by
 induction l with
 | nil => simp [Rows.uptoBulkAll]
 | cons x r ih => have := bulk_pos x; simp only [Rows.uptoBulkAll, List.length_cons]; omega
theorem bulk_slice (l r : List (DataW H)) : Rows.uptoBulk (.slice l r) = Rows.uptoBulkAll l + Rows.uptoBulkAll r + 1 := by simp [Rows.uptoBulk]
/-! ### A slice of bytes -/
theorem u8_lit {z : Int} (h : (Lit.int .u8 z).wf = true) : 0 ≤ z ∧ z ≤ 255 := by simpa [Lit.wf, IntKind.min, IntKind.max, IntKind.signed, IntKind.bits] using h
theorem open_bytes {W : World} {n : Nat} {t e : TypeId} {cs : List Value} {x : DataW H × List MemPlace} (ht : P.underlying t = some (.slice e)) (he : P.underlying e = some (.int .u8)) (hc : P.cellsOf e = 1)
 (h : DataW.trod enc P W 0 (fun _ => true) true n t cs = some x) : ∃ B bs, cs = [B] ∧ Rd W 1 B bs.length (bv bs) ∧ bs.length + 1 ≤ Rows.uptoBulk x.1 := by
 rcases open_ints ht he hc h with ⟨rfl, rfl⟩ | ⟨a, len, cap, zs, rfl, _, hl, hm, hz, rfl, hcell, hwf⟩
 · exact ⟨_, [], rfl, Rd.nil _ _, by simp [Rows.uptoBulk]⟩
 · simp only [if_true] at hz
   have hbl : ((zs.take len).map fun z => UInt8.ofNat z.toNat).length = len := by rw [List.length_map, List.length_take]; omega
   refine ⟨_, (zs.take len).map fun z => UInt8.ofNat z.toNat, rfl, ?_, ?_⟩
   · rw [hbl]
     refine ⟨by rw [bv_length, hbl]; omega, some a, cap, rfl, hl, hm, (fun h => by cases h), fun ad had j u hu => ?_⟩
     cases had
     rw [bv_get, List.getElem?_map] at hu
     cases hj : (zs.take len)[j]? with
     | none => rw [hj] at hu; simp at hu
     | some z =>
      rw [hj] at hu
      have hz' : zs[j]? = some z := by
       rw [List.getElem?_take] at hj
       split at hj
       · exact hj
       · cases hj
      have hlt : j < zs.length := (List.getElem?_eq_some_iff.1 hz').1
      have hw := u8_lit (hwf z (List.mem_of_getElem? hz'))
      have hg := hcell j hlt
      rw [List.getD_eq_getElem?_getD, hz', Option.getD_some] at hg
      rw [hg]
      simp only [Option.map_some, Option.some.injEq] at hu
      rw [← hu, UInt8.toNat_ofNat', Nat.mod_eq_of_lt (by omega)]
      congr 2
      omega
   · rw [bulk_slice]
     have := bulk_len (lits (H := H) .u8 (zs.take len))
     rw [hbl]
     have hll : (lits (H := H) .u8 (zs.take len)).length = len := by simp [lits]; omega
     omega
theorem open_bytes_len {W : World} {n : Nat} {t e : TypeId} {cs : List Value} {x : DataW H × List MemPlace} (ht : P.underlying t = some (.slice e)) (he : P.underlying e = some (.int .u8)) (hc : P.cellsOf e = 1)
 (h : DataW.trod enc P W 0 (fun _ => true) true n t cs = some x) : ∃ B bs, cs = [B] ∧ Rd W 1 B bs.length (bv bs) ∧ bs.length + 1 ≤ Rows.uptoBulk x.1 ∧ (bs = [] ∨ ∃ elems spare, x.1 = .slice elems spare ∧ elems.length = bs.length) := by
 obtain ⟨B, bs, h1, h2, h3⟩ := open_bytes ht he hc h
 refine ⟨B, bs, h1, h2, h3, ?_⟩
 rcases open_ints ht he hc h with ⟨hB, _⟩ | ⟨a, len, cap, zs, hB, _, _, _, hz, hx, _, _⟩
 · left
   obtain ⟨A, c, hv, _⟩ := h2.2
   rw [h1, hv] at hB
   simp only [List.cons.injEq, Value.slice.injEq, and_true] at hB
   exact List.eq_nil_of_length_eq_zero hB.2.1
 · right
   simp only [if_true] at hz
   refine ⟨_, _, by rw [hx], ?_⟩
   obtain ⟨A, c, hv, _⟩ := h2.2
   rw [h1, hv] at hB
   simp only [List.cons.injEq, Value.slice.injEq, and_true] at hB
   simp [lits]
   omega
end
end
/- What comes in, opened: slices of Puts. -/
section
open Go.RowKit Go.WideShapes Go.ChangeShapes
section
variable {H : Type} {enc : TypeId × Value → H}
theorem open_hash {P : Program} {W : World} {n m : Nat} {t e : TypeId} {cs : List Value} {x : DataW H × List MemPlace} (ht : P.underlying t = some (.array m e)) (he : P.underlying e = some (.int .u8)) (hc : P.cellsOf e = 1) (hct : P.cellsOf t = m)
 (h : DataW.trod enc P W 0 (fun _ => true) true n t cs = some x) : ∃ h : List UInt8, h.length = m ∧ cs = bv h ∧ m + 1 ≤ Rows.uptoBulk x.1 := by
 obtain ⟨xs, k, rfl, rfl, hl, hxl, hel⟩ := DataW.trod_array ht h
 rw [hct] at hl
 have one : ∀ i, i < m → ∃ z : Int, cs[i]? = some (.int .u8 z) ∧ 0 ≤ z ∧ z ≤ 255 := fun i hi => by
  have h1 := hel i hi
  rw [hc, Nat.mul_one, cut_one] at h1
  have hx : xs[i]? = some xs[i] := List.getElem?_eq_getElem (by omega)
  rw [hx] at h1
  obtain ⟨z, hz, _, hw⟩ := DataW.trod_int he h1
  have hw := u8_lit hw
  cases hcs : cs[i]? with
  | none => rw [hcs] at hz; cases hz
  | some v => rw [hcs] at hz; cases hz; exact ⟨z, rfl, hw.1, hw.2⟩
 refine ⟨(List.range m).map fun i => (match (cs[i]? : Option Value) with | some (Value.int _ z) => UInt8.ofNat z.toNat | _ => 0), by simp, ?_, ?_⟩
 · apply List.ext_getElem?
   intro i
   rw [bv_get, List.getElem?_map]
   by_cases hi : i < m
   · obtain ⟨z, hz, h1, h2⟩ := one i hi
     rw [hz, List.getElem?_range hi]
     simp only [Option.map_some]
     rw [hz]
     simp only [UInt8.toNat_ofNat', Nat.mod_eq_of_lt (show z.toNat < 2 ^ 8 by omega)]
     congr 2
     omega
   · rw [List.getElem?_eq_none (by omega), List.getElem?_eq_none (by simp; omega)]
     rfl
 · simp only [Rows.uptoBulk]
   have := bulk_len (xs.map (·.1))
   rw [List.length_map, hxl] at this
   omega
theorem Tryd.cellsHash : Tryd.prog.cellsOf 25 = 32 := by kernel_rfl
end
end
/- Points that came in, opened. -/
section
open Go.RowKit Go.WideShapes Go.ChangeShapes
section
variable {H : Type} {enc : TypeId × Value → H}
theorem Tryd.cellsPoint : Tryd.prog.cellsOf 33 = 33 := by kernel_rfl
theorem Tryd.cellsI64 : Tryd.prog.cellsOf 2 = 1 := by kernel_rfl
theorem open_pt {W : World} {n : Nat} {cs : List Value} {x : DataW H × List MemPlace} (h : DataW.trod enc Tryd.prog W 0 (fun _ => true) true n 33 cs = some x) :
 ∃ (z : Int) (hh : List UInt8), cs = (ptA z hh).toList ∧ (-9223372036854775808 ≤ z ∧ z ≤ 9223372036854775807) ∧ hh.length = 32 := by
 obtain ⟨xs, k, rfl, rfl, hl, hxl, hf⟩ := DataW.trod_struct Tryd.underlying33 h
 rw [Tryd.cellsPoint] at hl
 obtain ⟨x0, x1, rfl⟩ : ∃ x0 x1, xs = [x0, x1] := by
  match xs, hxl with
  | [x0, x1], _ => exact ⟨x0, x1, rfl⟩
 have f0 : DataW.trod enc Tryd.prog W 0 (fun _ => true) true k 2 ((cs.drop 0).take (Tryd.prog.cellsOf 2)) = some x0 := hf 0 _ rfl
 have f1 : DataW.trod enc Tryd.prog W 0 (fun _ => true) true k 25 ((cs.drop 1).take (Tryd.prog.cellsOf 25)) = some x1 := hf 1 _ rfl
 rw [Tryd.cellsI64] at f0
 rw [Tryd.cellsHash] at f1
 clear hf hxl
 obtain ⟨z, e0, _, w0⟩ := DataW.trod_int Tryd.underlying2 f0
 obtain ⟨hh, hhl, e1, _⟩ := open_hash Tryd.underlying25 Tryd.underlying5 Tryd.cellsU8 Tryd.cellsHash f1
 have w0 := i64_lit w0
 have g0 := at_of_cut (i := 0) e0
 refine ⟨z, hh, ?_, w0, hhl⟩
 obtain ⟨a, l, rfl⟩ := List.exists_cons_of_length_pos (l := cs) (by omega)
 rw [List.length_cons] at hl
 have g0 := Option.some.inj g0
 subst g0
 have : l = bv hh := by
  rw [← e1, List.drop_succ_cons, List.drop_zero, List.take_of_length_le (by omega)]
 rw [this]
 rfl
end
end
/- Hashes that came in, opened. -/
section
open Go.RowKit Go.WideShapes Go.ChangeShapes
section
variable {H : Type} {enc : TypeId × Value → H}
end
end
/- Keys that came in, opened. -/
section
open Go.RowKit Go.WideShapes Go.ChangeShapes
section
variable {H : Type} {enc : TypeId × Value → H}
theorem Tryd.cellsKey : Tryd.prog.cellsOf 42 = 2 := by kernel_rfl
theorem Tryd.cellsStr : Tryd.prog.cellsOf 9 = 1 := by kernel_rfl
theorem Tryd.cellsBytesK : Tryd.prog.cellsOf 22 = 1 := by kernel_rfl
theorem str_back (s : ByteArray) : strV s.data.toList = .string s := by
 unfold strV
 congr 1
theorem bytes_of_ky : Tryd.prog.bytesOf 42 = 40 := by kernel_rfl
theorem sized_kys {ts : List TypeId} {ds : List (DataW H)} (h : (DataW.weightsEach Tryd.prog ts ds).all (· ≤ reachBytes) = true) (j : Nat) {d : DataW H} {ps : List KeyD} (ht : ts[j]? = some 46) (hd : ds[j]? = some d)
 (hb : ps = [] ∨ ∃ elems spare, d = .slice elems spare ∧ elems.length = ps.length) : (ps.length + 1) * 40 ≤ 140737488355328 := by
 rcases hb with rfl | ⟨elems, spare, rfl, hl⟩
 · simp
 · have := sized_slice h ht hd Tryd.underlying46
   rw [bytes_of_ky] at this
   unfold reachBytes at this
   omega
end
end
/- Lists of points that came in, opened. -/
section
open Go.RowKit Go.WideShapes Go.ChangeShapes
section
variable {H : Type} {enc : TypeId × Value → H}
end
end
/- Notes that came in, opened. -/
section
open Go.RowKit Go.WideShapes Go.ChangeShapes
section
variable {H : Type} {enc : TypeId × Value → H}
theorem Tryd.cellsSig : Tryd.prog.cellsOf 81 = 33 := by kernel_rfl
theorem Tryd.cellsNote : Tryd.prog.cellsOf 36 = 34 := by kernel_rfl
theorem Tryd.cellsSigs : Tryd.prog.cellsOf 34 = 1 := by kernel_rfl
theorem open_sig {W : World} {n : Nat} {cs : List Value} {x : DataW H × List MemPlace} (h : DataW.trod enc Tryd.prog W 0 (fun _ => true) true n 81 cs = some x) :
 ∃ s : SigD, cs = sgL s ∧ s.2.length = 32 ∧ s.1.length ≤ 9223372036854775807 := by
 obtain ⟨xs, k, rfl, rfl, hl, hxl, hf⟩ := DataW.trod_struct Tryd.underlying81 h
 rw [Tryd.cellsSig] at hl
 obtain ⟨x0, x1, rfl⟩ : ∃ x0 x1, xs = [x0, x1] := by
  match xs, hxl with
  | [x0, x1], _ => exact ⟨x0, x1, rfl⟩
 have f0 : DataW.trod enc Tryd.prog W 0 (fun _ => true) true k 9 ((cs.drop 0).take (Tryd.prog.cellsOf 9)) = some x0 := hf 0 _ rfl
 have f1 : DataW.trod enc Tryd.prog W 0 (fun _ => true) true k 25 ((cs.drop 1).take (Tryd.prog.cellsOf 25)) = some x1 := hf 1 _ rfl
 rw [Tryd.cellsStr] at f0
 rw [Tryd.cellsHash] at f1
 clear hf hxl
 obtain ⟨s, e0, rfl, hs⟩ := DataW.trod_string Tryd.underlying9 f0
 obtain ⟨hh, hhl, e1, _⟩ := open_hash Tryd.underlying25 Tryd.underlying5 Tryd.cellsU8 Tryd.cellsHash f1
 have g0 := at_of_cut (i := 0) e0
 rw [Lib.size_eq] at hs
 refine ⟨(s.data.toList, hh), ?_, hhl, Nat.le_trans hs (by unfold maxLen; omega)⟩
 obtain ⟨a, l, rfl⟩ := List.exists_cons_of_length_pos (l := cs) (by omega)
 rw [List.length_cons] at hl
 have g0 := Option.some.inj g0
 subst g0
 have : l = bv hh := by
  rw [← e1, List.drop_succ_cons, List.drop_zero, List.take_of_length_le (by omega)]
 rw [this]
 unfold sgL
 rw [str_back]
theorem sgsC_inv {l : List SigD} (hok : SgOk l) {j : Nat} {u : Value} (h : (sgsC l)[j]? = some u) : ∃ s, l[j / 33]? = some s ∧ (sgL s)[j % 33]? = some u := by
 have hl := sgsC_length hok
 have hj := (List.getElem?_eq_some_iff.1 h).1
 obtain ⟨q, hq⟩ : ∃ q, l[j / 33]? = some q := ⟨_, List.getElem?_eq_getElem (by omega)⟩
 have hs := sgL_length (s := q) (hok q (List.mem_of_getElem? hq)).1
 obtain ⟨v, hv⟩ : ∃ v, (sgL q)[j % 33]? = some v := ⟨_, List.getElem?_eq_getElem (by rw [hs]; omega)⟩
 have := sgsC_at hok hq _ _ hv
 rw [show j / 33 * 33 + j % 33 = j from by omega, h] at this
 exact ⟨q, hq, by rw [hv, ← this]⟩
theorem open_sigs {W : World} {n : Nat} {v : Value} {x : DataW H × List MemPlace} (h : DataW.trod enc Tryd.prog W 0 (fun _ => true) true n 34 [v] = some x) :
 ∃ l, Rd W 33 v l.length (sgsC l) ∧ SgOk l ∧ (l = [] ∨ ∃ elems spare, x.1 = .slice elems spare ∧ elems.length = l.length) := by
 rcases Deep.open_slice Tryd.underlying34 h with ⟨hv, rfl⟩ | ⟨a, len, cap, m, k, D, Pl, hv, _, hl, hm, hmm, rfl, hel⟩
 · cases hv
   exact ⟨[], Rd.nil _ _, (fun _ h => by cases h), .inl rfl⟩
 · cases hv
   simp only [if_true] at hmm
   obtain ⟨G, hG⟩ := Deep.choose_lt (α := SigD) (n := len) (p := fun i q => (∀ j u, (sgL q)[j]? = some u → W.cell? ((a.add (i * 33)).add j) = some u) ∧ q.2.length = 32 ∧ q.1.length ≤ 9223372036854775807) (fun i hi => by
    obtain ⟨cs, h1, h2⟩ := hel i (by omega)
    rw [Tryd.cellsSig] at h1
    obtain ⟨s, rfl, hs1, hs2⟩ := open_sig h2
    obtain ⟨_, hlen, hcell⟩ := World.cells?_some h1
    exact ⟨s, (fun j u hu => by rw [hcell j (by have := (List.getElem?_eq_some_iff.1 hu).1; rw [sgL_length hs1] at this; omega)]; exact hu), hs1, hs2⟩)
   have hget : ∀ i q, ((List.range len).map G)[i]? = some q → i < len ∧ q = G i := fun i q h => by
    rw [List.getElem?_map] at h
    by_cases hi : i < len
    · rw [List.getElem?_range hi] at h
      exact ⟨hi, (Option.some.inj h).symm⟩
    · rw [List.getElem?_eq_none (by simp; omega)] at h; cases h
   have hok : SgOk ((List.range len).map G) := fun q hq => by
    obtain ⟨i, hi, rfl⟩ := List.mem_map.1 hq
    exact (hG i (List.mem_range.1 hi)).2
   refine ⟨(List.range len).map G, ?_, hok, .inr ⟨_, _, rfl, by simp⟩⟩
   have hlen : ((List.range len).map G).length = len := by simp
   have hC := sgsC_length hok
   rw [hlen] at hC ⊢
   refine rd_some hC hl hm (fun ad had j u hu => ?_)
   cases had
   obtain ⟨q, hq, hqu⟩ := sgsC_inv hok hu
   obtain ⟨hi, rfl⟩ := hget _ _ hq
   have := (hG _ hi).1 _ _ hqu
   rw [add_of_add, show j / 33 * 33 + j % 33 = j from by omega] at this
   exact this
theorem open_nt {W : World} {n : Nat} {cs : List Value} {x : DataW H × List MemPlace} (h : DataW.trod enc Tryd.prog W 0 (fun _ => true) true n 36 cs = some x) :
 ∃ (z : Int) (hh : List UInt8) (v : Value) (l : List SigD), cs = ntL z hh v ∧ (-9223372036854775808 ≤ z ∧ z ≤ 9223372036854775807) ∧ hh.length = 32 ∧ Rd W 33 v l.length (sgsC l) ∧ SgOk l ∧ ∃ d0 d1, x.1 = .agg [d0, d1] ∧ (l = [] ∨ ∃ elems spare, d1 = .slice elems spare ∧ elems.length = l.length) := by
 obtain ⟨xs, k, rfl, rfl, hl, hxl, hf⟩ := DataW.trod_struct Tryd.underlying36 h
 rw [Tryd.cellsNote] at hl
 obtain ⟨x0, x1, rfl⟩ : ∃ x0 x1, xs = [x0, x1] := by
  match xs, hxl with
  | [x0, x1], _ => exact ⟨x0, x1, rfl⟩
 have f0 : DataW.trod enc Tryd.prog W 0 (fun _ => true) true k 33 ((cs.drop 0).take (Tryd.prog.cellsOf 33)) = some x0 := hf 0 _ rfl
 have f1 : DataW.trod enc Tryd.prog W 0 (fun _ => true) true k 34 ((cs.drop 33).take (Tryd.prog.cellsOf 34)) = some x1 := hf 1 _ rfl
 rw [Tryd.cellsPoint] at f0
 rw [Tryd.cellsSigs] at f1
 clear hf hxl
 obtain ⟨z, hh, e0, hz, hhl⟩ := open_pt f0
 obtain ⟨v, hv⟩ : ∃ v, (cs.drop 33).take 1 = [v] := by
  obtain ⟨a, ha⟩ : ∃ a, cs.drop 33 = [a] := List.length_eq_one_iff.1 (by rw [List.length_drop, hl])
  exact ⟨a, by rw [ha]; rfl⟩
 rw [hv] at f1
 obtain ⟨l, hr, hok, hb⟩ := open_sigs f1
 refine ⟨z, hh, v, l, ?_, hz, hhl, hr, hok, _, _, rfl, hb⟩
 have h2 : cs.drop 33 = [v] := by rw [← hv, List.take_of_length_le (by rw [List.length_drop, hl]; decide)]
 rw [← List.take_append_drop 33 cs, h2]
 rw [List.drop_zero] at e0
 rw [e0]
 rfl
theorem open_nt_arg {W : World} {b0 : Nat} {v : Value} {d : DataW H} {pl : List MemPlace} (hv : Value.okWide Tryd.prog W .any b0 36 v) (h : DataW.Trod enc Tryd.prog W 0 (fun _ => true) true 36 v d pl) :
 ∃ (z : Int) (hh : List UInt8) (A : Option Addr) (c : Nat) (l : List SigD), v = .agg (ntA z hh (.slice A l.length c)) ∧ (-9223372036854775808 ≤ z ∧ z ≤ 9223372036854775807) ∧ hh.length = 32 ∧ Rd W 33 (.slice A l.length c) l.length (sgsC l) ∧ SgOk l ∧ ∃ d0 d1, d = .agg [d0, d1] ∧ (l = [] ∨ ∃ elems spare, d1 = .slice elems spare ∧ elems.length = l.length) := by
 obtain ⟨cs, rfl, hsz⟩ := okWide_struct Tryd.underlying36 hv
 obtain ⟨fuel, hf⟩ := h
 obtain ⟨z, hh, v, l, h1, h2, h3, h4, h5, h6⟩ := open_nt hf
 obtain ⟨A, c, rfl⟩ := rd_form h4
 refine ⟨z, hh, A, c, l, ?_, h2, h3, h4, h5, h6⟩
 congr 1
 apply Array.ext'
 exact h1
theorem bytes_of_sg : Tryd.prog.bytesOf 81 = 48 := by kernel_rfl
theorem sized_nt {ts : List TypeId} {ds : List (DataW H)} (h : (DataW.weightsEach Tryd.prog ts ds).all (· ≤ reachBytes) = true) (j : Nat) {d0 d1 : DataW H} {l : List SigD} (ht : ts[j]? = some 36) (hd : ds[j]? = some (.agg [d0, d1]))
 (hb : l = [] ∨ ∃ elems spare, d1 = .slice elems spare ∧ elems.length = l.length) : (l.length + 1) * 48 ≤ 140737488355328 := by
 rcases hb with rfl | ⟨elems, spare, rfl, hl⟩
 · simp
 · have hm : (elems.length + spare.length) * Tryd.prog.bytesOf 81 ∈ (DataW.agg [d0, .slice elems spare] : DataW H).weights Tryd.prog 36 := by
    rw [DataW.weights, Tryd.underlying36]
    exact DataW.weights_mem_each (j := 1) (t := 34) rfl rfl _ (by simp [DataW.weights, Tryd.underlying34])
   have := List.all_eq_true.1 h _ (DataW.weights_mem_each ht hd _ hm)
   rw [bytes_of_sg] at this
   simp only [decide_eq_true_eq] at this
   unfold reachBytes at this
   omega
end
end
/- Keys that came in, opened, with the sizes of their secrets. -/
section
open Go.RowKit Go.WideShapes Go.ChangeShapes
section
variable {H : Type} {enc : TypeId × Value → H}
def KeyW (d : DataW H) (sec : List UInt8) : Prop := ∃ d0 d1, d = .agg [d0, d1] ∧ (sec = [] ∨ ∃ elems spare, d1 = .slice elems spare ∧ elems.length = sec.length)
theorem open_key_w {W : World} {n : Nat} {cs : List Value} {x : DataW H × List MemPlace} (h : DataW.trod enc Tryd.prog W 0 (fun _ => true) true n 42 cs = some x) :
 ∃ (nm : ByteArray) (A : Option Addr) (c : Nat) (sec : List UInt8), cs = [.string nm, .slice A sec.length c] ∧ Rd W 1 (.slice A sec.length c) sec.length (bv sec) ∧ nm.size ≤ maxLen ∧ KeyW x.1 sec := by
 obtain ⟨xs, k, rfl, rfl, hl, hxl, hf⟩ := DataW.trod_struct Tryd.underlying42 h
 rw [Tryd.cellsKey] at hl
 obtain ⟨x0, x1, rfl⟩ : ∃ x0 x1, xs = [x0, x1] := by
  match xs, hxl with
  | [x0, x1], _ => exact ⟨x0, x1, rfl⟩
 have f0 : DataW.trod enc Tryd.prog W 0 (fun _ => true) true k 9 ((cs.drop 0).take (Tryd.prog.cellsOf 9)) = some x0 := hf 0 _ rfl
 have f1 : DataW.trod enc Tryd.prog W 0 (fun _ => true) true k 22 ((cs.drop 1).take (Tryd.prog.cellsOf 22)) = some x1 := hf 1 _ rfl
 rw [Tryd.cellsStr] at f0
 rw [Tryd.cellsBytesK] at f1
 clear hf hxl
 obtain ⟨s, e0, rfl, hs⟩ := DataW.trod_string Tryd.underlying9 f0
 obtain ⟨B, bs, e1, hr, -, hb⟩ := open_bytes_len Tryd.underlying22 Tryd.underlying5 Tryd.cellsU8 f1
 obtain ⟨A, c, rfl⟩ := rd_form hr
 have g0 := at_of_cut (i := 0) e0
 have g1 := at_of_cut (i := 1) e1
 refine ⟨s, A, c, bs, ?_, hr, hs, ?_⟩
 · obtain ⟨a, b, rfl⟩ : ∃ a b, cs = [a, b] := by
    match cs, hl with
    | [a, b], _ => exact ⟨a, b, rfl⟩
   cases g0
   cases g1
   rfl
 · exact ⟨_, _, rfl, hb⟩
theorem open_keys_w {W : World} {n : Nat} {v : Value} {x : DataW H × List MemPlace} (h : DataW.trod enc Tryd.prog W 0 (fun _ => true) true n 46 [v] = some x) :
 ∃ ks us, KysF W v us ks ∧ (∀ k, k ∈ ks → k.1.length ≤ maxLen) ∧ ks.length ≤ maxLen ∧ (ks = [] ∨ ∃ elems spare, x.1 = .slice elems spare ∧ elems.length = ks.length ∧ ∀ (i : Nat) (k : KeyD), ks[i]? = some k → ∃ d, elems[i]? = some d ∧ KeyW d k.2) := by
 rcases Deep.open_slice Tryd.underlying46 h with ⟨hv, rfl⟩ | ⟨a, len, cap, m, k, D, Pl, hv, _, hl, hm, hmm, rfl, hel⟩
 · cases hv
   exact ⟨[], [], ⟨Rd.nil _ _, fun i hi => by cases hi⟩, (fun _ h => by cases h), by simp, .inl rfl⟩
 · cases hv
   simp only [if_true] at hmm
   obtain ⟨G, hG⟩ := Deep.choose_lt (α := ByteArray × Value × List UInt8) (n := len) (p := fun i q => (∀ j u, ([.string q.1, q.2.1] : List Value)[j]? = some u → W.cell? ((a.add (i * 2)).add j) = some u) ∧ (∃ A c, q.2.1 = .slice A q.2.2.length c) ∧ Rd W 1 q.2.1 q.2.2.length (bv q.2.2) ∧ q.1.size ≤ maxLen ∧ KeyW (D i) q.2.2) (fun i hi => by
    obtain ⟨cs, h1, h2⟩ := hel i (by omega)
    rw [Tryd.cellsKey] at h1
    obtain ⟨nm, A, c, sec, rfl, hr, hs, kw⟩ := open_key_w h2
    obtain ⟨_, hlen, hcell⟩ := World.cells?_some h1
    exact ⟨(nm, .slice A sec.length c, sec), (fun j u hu => by rw [hcell j (by have := (List.getElem?_eq_some_iff.1 hu).1; simpa using this)]; exact hu), ⟨A, c, rfl⟩, hr, hs, kw⟩)
   have hkl : ((List.range len).map fun i => (((G i).1.data.toList, (G i).2.2) : KeyD)).length = len := by simp
   have hki : ∀ i (hi : i < ((List.range len).map fun i => (((G i).1.data.toList, (G i).2.2) : KeyD)).length), ((List.range len).map fun i => (((G i).1.data.toList, (G i).2.2) : KeyD))[i] = ((G i).1.data.toList, (G i).2.2) := fun i hi => by simp
   have hul : ((List.range len).flatMap fun i => ([.string (G i).1, (G i).2.1] : List Value)).length = len * 2 := by
    rw [List.length_flatMap]
    simp only [List.length_cons, List.length_nil]
    rw [List.map_const', List.sum_replicate_nat, List.length_range]
   have hui : ∀ i j, i < len → j < 2 → ((List.range len).flatMap fun i => ([.string (G i).1, (G i).2.1] : List Value))[i * 2 + j]? = ([.string (G i).1, (G i).2.1] : List Value)[j]? := by
    clear hul hki hkl hG hel
    intro i j hi hj
    have key : ∀ (L : List Nat) (i : Nat) (x : Nat), L[i]? = some x → (L.flatMap fun i => ([.string (G i).1, (G i).2.1] : List Value))[i * 2 + j]? = ([.string (G x).1, (G x).2.1] : List Value)[j]? := by
     intro L
     induction L with
     | nil => intro i x h; simp at h
     | cons y L ih =>
      intro i x h
      rw [List.flatMap_cons]
      rcases i with _ | i
      · cases h
        rw [Nat.zero_mul, Nat.zero_add, List.getElem?_append_left (by simpa using hj)]
      · rw [List.getElem?_append_right (by simp; omega), show (i + 1) * 2 + j - ([.string (G y).1, (G y).2.1] : List Value).length = i * 2 + j from by simp; omega]
        exact ih i x (by simpa using h)
    exact key _ i i (by rw [List.getElem?_range hi])
   refine ⟨(List.range len).map fun i => ((G i).1.data.toList, (G i).2.2), (List.range len).flatMap fun i => [.string (G i).1, (G i).2.1], ⟨?_, fun i hi => ?_⟩, ?_, by rw [hkl]; omega, .inr ⟨_, _, rfl, by simp, fun i k hk => ?_⟩⟩
   · rw [hkl]
     refine rd_some hul hl hm (fun ad had j u hu => ?_)
     cases had
     have hj := (List.getElem?_eq_some_iff.1 hu).1
     rw [hul] at hj
     have h2 := hui (j / 2) (j % 2) (by omega) (by omega)
     rw [show j / 2 * 2 + j % 2 = j from by omega, hu] at h2
     have := (hG (j / 2) (by omega)).1 _ _ h2.symm
     rw [add_of_add, show j / 2 * 2 + j % 2 = j from by omega] at this
     exact this
   · rw [hkl] at hi
     obtain ⟨-, ⟨A, c, he⟩, hr, -⟩ := hG i hi
     have e1 := hui i 0 hi (by omega)
     have e2 := hui i 1 hi (by omega)
     rw [hki]
     refine ⟨A, c, ?_, ?_, ?_⟩
     · rw [Nat.add_zero] at e1
       rw [e1, str_back]
       rfl
     · rw [e2]
       show some (G i).2.1 = _
       rw [he]
     · rw [← he]; exact hr
   · intro k hk
     obtain ⟨i, hi, rfl⟩ := List.mem_map.1 hk
     have := (hG i (List.mem_range.1 hi)).2.2.2.1
     rw [Lib.size_eq] at this
     exact this
   · rw [List.getElem?_map] at hk
     by_cases hi : i < len
     · rw [List.getElem?_range hi] at hk
       have hk := Option.some.inj hk
       subst hk
       exact ⟨D i, by rw [List.getElem?_map, List.getElem?_range hi]; rfl, (hG i hi).2.2.2.2⟩
     · rw [List.getElem?_eq_none (by simp; omega)] at hk
       cases hk
theorem bytes_of_u8k : Tryd.prog.bytesOf 5 = 1 := by kernel_rfl
theorem keyW_le {d : DataW H} {sec : List UInt8} (h : KeyW d sec) (hw : ∀ n, n ∈ d.weights Tryd.prog 42 → n ≤ reachBytes) : sec.length + 1 ≤ 140737488355328 := by
 obtain ⟨d0, d1, rfl, h⟩ := h
 rcases h with rfl | ⟨elems, spare, rfl, hl⟩
 · simp
 · have hm : (elems.length + spare.length) * Tryd.prog.bytesOf 5 ∈ (DataW.agg [d0, .slice elems spare] : DataW H).weights Tryd.prog 42 := by
    rw [DataW.weights, Tryd.underlying42]
    exact DataW.weights_mem_each (j := 1) (t := 22) rfl rfl _ (by simp [DataW.weights, Tryd.underlying22])
   have := hw _ hm
   rw [bytes_of_u8k] at this
   unfold reachBytes at this
   omega
theorem sized_key {ts : List TypeId} {ds : List (DataW H)} (h : (DataW.weightsEach Tryd.prog ts ds).all (· ≤ reachBytes) = true) (j : Nat) {d : DataW H} {sec : List UInt8} (ht : ts[j]? = some 42) (hd : ds[j]? = some d) (kw : KeyW d sec) : sec.length + 1 ≤ 140737488355328 :=
 keyW_le kw fun n hn => by simpa using List.all_eq_true.1 h _ (DataW.weights_mem_each ht hd n hn)
theorem weights_mem_all {e : TypeId} : ∀ {l : List (DataW H)} {i : Nat} {d : DataW H}, l[i]? = some d → ∀ n, n ∈ d.weights Tryd.prog e → n ∈ DataW.weightsAll Tryd.prog e l
 | [], _, _, h, _, _ => by simp at h
 | x :: l, 0, d, h, n, hn => by
  cases h
  rw [DataW.weightsAll]
  exact List.mem_append_left _ hn
 | x :: l, i + 1, d, h, n, hn => by
  rw [DataW.weightsAll]
  exact List.mem_append_right _ (weights_mem_all (by simpa using h) n hn)
theorem sized_secs {ts : List TypeId} {ds : List (DataW H)} (h : (DataW.weightsEach Tryd.prog ts ds).all (· ≤ reachBytes) = true) (j : Nat) {d : DataW H} {ks : List KeyD} (ht : ts[j]? = some 46) (hd : ds[j]? = some d)
 (hb : ks = [] ∨ ∃ elems spare, d = .slice elems spare ∧ elems.length = ks.length ∧ ∀ (i : Nat) (k : KeyD), ks[i]? = some k → ∃ d, elems[i]? = some d ∧ KeyW d k.2) : ∀ k, k ∈ ks → k.2.length + 1 ≤ 140737488355328 := by
 rcases hb with rfl | ⟨elems, spare, rfl, -, hk⟩
 · intro k hk
   cases hk
 · intro k hkm
   obtain ⟨i, hi⟩ := List.mem_iff_getElem?.1 hkm
   obtain ⟨d, hd2, kw⟩ := hk i k hi
   refine keyW_le kw fun n hn => ?_
   have hm : n ∈ (DataW.slice elems spare : DataW H).weights Tryd.prog 46 := by
    rw [DataW.weights, Tryd.underlying46]
    exact List.mem_cons_of_mem _ (List.mem_append_left _ (weights_mem_all hd2 n hn))
   simpa using List.all_eq_true.1 h _ (DataW.weights_mem_each ht hd n hm)
theorem open_key_arg {W : World} {b0 : Nat} {v : Value} {d : DataW H} {pl : List MemPlace} (hv : Value.okWide Tryd.prog W .any b0 42 v) (h : DataW.Trod enc Tryd.prog W 0 (fun _ => true) true 42 v d pl) :
 ∃ (nm : List UInt8) (A : Option Addr) (c : Nat) (sec : List UInt8), v = .agg #[.string ⟨nm.toArray⟩, .slice A sec.length c] ∧ nm.length ≤ maxLen ∧ Rd W 1 (.slice A sec.length c) sec.length (bv sec) ∧ KeyW d sec := by
 obtain ⟨cs, rfl, hsz⟩ := okWide_struct Tryd.underlying42 hv
 obtain ⟨fuel, hf⟩ := h
 obtain ⟨nm, A, c, sec, h1, h2, h3, h4⟩ := open_key_w hf
 refine ⟨nm.data.toList, A, c, sec, ?_, ?_, h2, h4⟩
 · congr 1
   apply Array.ext'
   show cs.toList = [strV nm.data.toList, .slice A sec.length c]
   rw [str_back]
   exact h1
 · rw [Lib.size_eq] at h3
   exact h3
end
end
/- What the listed variables give; a world for the witness. -/
section
open Go.ChangeShapes Go.WideShapes Go.ChangeAt Go.RowKit
theorem door_met (os : Os) (args : Array Value) : laidMet Tryd.prog Rows.signMacsRow.laid ((World.doorLaid Tryd.prog 2000 os).forCall (fun _ _ => 0) ⟨#[], args, []⟩).memory :=
 laidMet_of_run' 8 (by kernel_rfl) (by kernel_rfl)
theorem LD_laid {W : World} (h : laidMet Tryd.prog Rows.signMacsRow.laid W) : LD W := by
 have h3 := h.tail.tail
 first
  | exact ⟨Lib.tabIs_of_head (g := 0) (by decide +kernel) (by decide +kernel) Tryd.underlying166 Tryd.underlying136 (by kernel_rfl) (by kernel_rfl) h3⟩
  | exact ⟨Lib.tabIs_of_head (g := 1) (by decide +kernel) (by decide +kernel) Tryd.underlying166 Tryd.underlying136 (by kernel_rfl) (by kernel_rfl) h3⟩
  | exact ⟨Lib.tabIs_of_head (g := 2) (by decide +kernel) (by decide +kernel) Tryd.underlying166 Tryd.underlying136 (by kernel_rfl) (by kernel_rfl) h3⟩
  | exact ⟨Lib.tabIs_of_head (g := 3) (by decide +kernel) (by decide +kernel) Tryd.underlying166 Tryd.underlying136 (by kernel_rfl) (by kernel_rfl) h3⟩
  | exact ⟨Lib.tabIs_of_head (g := 4) (by decide +kernel) (by decide +kernel) Tryd.underlying166 Tryd.underlying136 (by kernel_rfl) (by kernel_rfl) h3⟩
  | exact ⟨Lib.tabIs_of_head (g := 5) (by decide +kernel) (by decide +kernel) Tryd.underlying166 Tryd.underlying136 (by kernel_rfl) (by kernel_rfl) h3⟩
end
/- The row's last step, where a walk has left 'Below' of the world it began in. -/
section
open Go.RowKit Go.WideShapes Go.ChangeShapes
theorem own_knob : ownKnob Tryd.prog.godebug = none := by kernel_rfl
section
variable {H : Type} {enc : TypeId × Value → H} {P : Program}
theorem post_below {f : Func} {s : ChangeSpec} {apart fresh handsOn again : Bool} {W W' : World} {args : Array Value} {v : Value} {ds gs : List (DataW H)} {before pa pv : List MemPlace}
 (hW : DataW.Whole enc P f.params.toList s.vars apart W args.toList ds gs before)
 (hres : ∀ (b : Nat) (sp : Nat → Bool) (hd : Bool), DataW.TrodAll enc P W' b sp hd f.resultTypes.toList (v.resultList f.resultTypes.size) (s.fn H (ds ++ gs)).results [])
 (hargs : ∀ sp : Nat → Bool, (∀ p ∈ before, sp p.block = true) → DataW.TrodAll enc P W' 0 sp true f.params.toList args.toList (s.fn H (ds ++ gs)).args pa)
 (hvars : ∀ sp : Nat → Bool, (∀ p ∈ before, sp p.block = true) → DataW.TrodVars enc P W' sp s.vars (s.fn H (ds ++ gs)).vars pv)
 (hps : before = pa ++ pv) (hb : Below W.heap.size W W')
 (hok : ∀ (j : Nat) (t : TypeId) (r : Value), f.resultTypes[j]? = some t → (v.resultList f.resultTypes.size)[j]? = some r → Value.okWide P W' .any 0 t r) :
 s.post enc P f apart fresh handsOn again W args v W' := by
 have hlt : ∀ p ∈ before, p.block < W.heap.size := fun p hp => hW.lt p hp
 have hold : ∀ p ∈ before, (fun b => decide (b < W.heap.size)) p.block = true := fun p hp => by simpa using hlt p hp
 refine ⟨ds, gs, before, [], pa, pv, hW, hres _ _ _, hargs _ hold, hvars _ hold, World.keptBut_mono (fun p hp => ⟨hp, ?_⟩) (hb.frame (· ∈ before)), fun _ => ?_⟩
 · rw [hps, List.mem_append] at hp
   exact Or.inr hp
 · obtain ⟨_, _, _, _, _, hz, hn⟩ := hW
   refine ⟨hok, _, _, ([] ++ pa) ++ pv, ⟨[] ++ pa, pv, trodAll_append (hargs _ (fun _ _ => rfl)) (hres _ _ _), hvars _ (fun _ _ => rfl), rfl, ?_, ?_⟩, ?_⟩
   · intro b off hp
     have hin : MemPlace.cell b off ∈ before := by rw [hps]; simpa using hp
     rw [hb.frozen (hlt _ hin)]
     exact hz b off hin
   · intro ha
     have := hn ha
     rw [hps] at this
     simpa using this
   · intro p hp _
     rw [hps]
     simpa using hp
end
theorem Kp.below0 {w w' : World} (h : Kp [] w w') : Below w.heap.size w w' := h.below (Nat.le_refl _) (by simp)
end
/- The row's last step, where the arguments read as they did (out of 'Below' alone). -/
section
open Go.RowKit Go.WideShapes Go.ChangeShapes
section
variable {H : Type} {enc : TypeId × Value → H} {P : Program}
theorem trodAll_stays (hl : laidOutB P = true) {W W' : World} {sp' : Nat → Bool} : ∀ {ts : List TypeId} {vs : List Value} {ds : List (DataW H)} {ps : List MemPlace}, ts.all (fun t => P.readableRec t && decide (t < P.types.size)) = true →
 DataW.TrodAll enc P W 0 (fun _ => true) true ts vs ds ps → (∀ p ∈ ps, W.sameAt W' p) → (∀ p ∈ ps, sp' p.block = true) → DataW.TrodAll enc P W' 0 sp' true ts vs ds ps
 | [], [], [], _, _, h, _, _ => h
 | t :: ts, v :: vs, d :: ds, _, hr, ⟨p, q, h1, h2, e⟩, hm, hs => by
  simp only [List.all_cons, Bool.and_eq_true, decide_eq_true_eq] at hr
  exact ⟨p, q, WideElems.Trod_stays hl hr.1.1 hr.1.2 h1 (fun x hx => hm x (by rw [e]; exact List.mem_append_left _ hx)) (fun x hx => hs x (by rw [e]; exact List.mem_append_left _ hx)),
   trodAll_stays hl hr.2 h2 (fun x hx => hm x (by rw [e]; exact List.mem_append_right _ hx)) (fun x hx => hs x (by rw [e]; exact List.mem_append_right _ hx)), e⟩
theorem post_kept {f : Func} {s : ChangeSpec} {apart fresh handsOn again : Bool} {W W' : World} {args : Array Value} {v : Value} {ds gs : List (DataW H)} {before : List MemPlace}
 (hl : laidOutB P = true) (hr : f.params.toList.all (fun t => P.readableRec t && decide (t < P.types.size)) = true) (hsv : s.vars = [])
 (hW : DataW.Whole enc P f.params.toList s.vars apart W args.toList ds gs before)
 (hres : ∀ (b : Nat) (sp : Nat → Bool) (hd : Bool), DataW.TrodAll enc P W' b sp hd f.resultTypes.toList (v.resultList f.resultTypes.size) (s.fn H (ds ++ gs)).results [])
 (hfa : (s.fn H (ds ++ gs)).args = ds) (hfv : (s.fn H (ds ++ gs)).vars = []) (hb : Below W.heap.size W W')
 (hok : ∀ (j : Nat) (t : TypeId) (r : Value), f.resultTypes[j]? = some t → (v.resultList f.resultTypes.size)[j]? = some r → Value.okWide P W' .any 0 t r) :
 s.post enc P f apart fresh handsOn again W args v W' := by
 have hlt : ∀ p ∈ before, p.block < W.heap.size := fun p hp => hW.lt p hp
 have hW2 := hW
 obtain ⟨p, q, hA, hV, rfl, hz, hn⟩ := hW2
 rw [hsv] at hV
 obtain ⟨rfl, rfl⟩ := trodVars_none hV
 refine post_below (pa := p) (pv := []) hW hres (fun sp hs => ?_) (fun sp hs => ?_) rfl hb hok
 · rw [hfa]
   exact trodAll_stays hl hr hA (fun x hx => hb.same (hlt x (List.mem_append_left _ hx))) (fun x hx => hs x (List.mem_append_left _ hx))
 · rw [hsv, hfv]; exact rfl
end
theorem laid_out : laidOutB Tryd.prog = true := by kernel_rfl
end
end Go.Proofs.YtapboamjpilckaaDoor
