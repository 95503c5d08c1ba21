/- Several texts in one: SigAQ, Open, WireOpen, PtOpen, SgOpen, KyOpen, SgLaid, Post, PostKept. -/
import Derived.ProofKit
import Derived.OpenShut
import Derived.Deep.Slices
import Derived.JoinedCond
import Derived.Carry
import Derived.SizedLaws
import Derived.Test.YtapboamjpilckaaDoorCards
import Derived.Test.YtapboamjpilckaaDoorTie
import Derived.Deep.DeepHandedRow
import Derived.Deep.DeepWitnessRowRef
import Derived.Lib.LaidTab
import Derived.LaidMore
import Derived.Stop.LaidErr
import Derived.Test.YtapboamjpilckaaDoorRows
import Derived.Test.YtapboamjpilckaaDoorP8
/- SignHolds: the walk. -/
namespace Go.Proofs.YtapboamjpilckaaDoor
open Go.RowKit
/-- Cells of keys whose secrets are read. -/
def KyC (w0 : World) (cs : List Value) (ks : List KeyD) : Prop := ∀ i (hi : i < ks.length), ∃ A c, cs[i * 2]? = some (strV ks[i].1) ∧ cs[i * 2 + 1]? = some (.slice A ks[i].2.length c) ∧ Rd w0 1 (.slice A ks[i].2.length c) ks[i].2.length (bv ks[i].2)
theorem KyC.nil (w0 : World) : KyC w0 [] [] := fun i hi => by cases hi
theorem KyC.snoc {w0 : World} {cs : List Value} {ks : List KeyD} (h : KyC w0 cs ks) (hl : cs.length = ks.length * 2) {k : KeyD} {nm : ByteArray} (hn : strV k.1 = .string nm) {A : Option Addr} {c : Nat} (hr : Rd w0 1 (.slice A k.2.length c) k.2.length (bv k.2)) : KyC w0 (cs ++ [.string nm, .slice A k.2.length c]) (ks ++ [k]) := by
  intro i hi
  by_cases e : i < ks.length
  · obtain ⟨A1, c1, h1, h2, h3⟩ := h i e
    have e1 : (ks ++ [k])[i] = ks[i] := List.getElem_append_left e
    rw [e1]
    exact ⟨A1, c1, by rw [List.getElem?_append_left (by omega)]; exact h1, by rw [List.getElem?_append_left (by omega)]; exact h2, h3⟩
  · have hi2 : i = ks.length := by rw [List.length_append, List.length_singleton] at hi; omega
    subst hi2
    have e1 : (ks ++ [k])[ks.length] = k := by rw [List.getElem_append_right (Nat.le_refl _)]; simp
    rw [e1]
    refine ⟨A, c, ?_, ?_, hr⟩
    · rw [List.getElem?_append_right (by omega), show ks.length * 2 - cs.length = 0 from by omega, hn]; rfl
    · rw [List.getElem?_append_right (by omega), show ks.length * 2 + 1 - cs.length = 1 from by omega]; rfl
theorem KyC.kys {w0 W : World} {cs : List Value} {ks : List KeyD} (h : KyC w0 cs ks) (k : Kp [] w0 W) {v : Value} (hr : Rd W 2 v ks.length cs) : KysF W v cs ks :=
  ⟨hr, fun i hi => by obtain ⟨A, c, h1, h2, h3⟩ := h i hi; exact ⟨A, c, h1, h2, rd_old h3 k⟩⟩
def dsHl : List Nat := [7, 8, 9, 10, 11, 12, 32, 33, 34, 35, 36, 37, 38, 39, 40, 41, 42, 43, 44, 45, 46, 47, 48, 49, 50, 51, 52, 53, 54, 55, 56, 57, 58, 59, 60, 61, 62, 63, 64, 65, 66, 67, 68, 69, 70, 71, 72, 73, 74, 75, 76, 77, 78, 79, 80, 81, 82, 83, 84, 85, 86, 87, 88, 89, 90, 91, 92, 93, 94, 95, 96, 97, 98, 99, 100, 101, 102, 103, 104, 105, 106, 107, 108, 109]
abbrev hNt (g : Nat) (z : Int) (h : List UInt8) (v : Value) : Res := blkR g 36 (ntA z h v)
abbrev hSg (v : Value) (l : List SigD) : Res := rowR 81 33 v l.length (sgsC l)
abbrev hKy (v : Value) (n : Nat) (cs : List Value) : Res := rowR 42 2 v n cs
abbrev hPt (g : Nat) (z : Int) (h : List UInt8) : Res := blkR g 33 (ptA z h)
set_option maxRecDepth 100000 in
set_option maxHeartbeats 8000000 in
theorem shl_l0 {Q : Exit → Act → World → Prop} {a : Act} {w0 w : World} (LD0 : LD w0) (z : Int) (hz : -9223372036854775808 ≤ z ∧ z ≤ 9223372036854775807) (hz0 : 0 ≤ z) (h : List UInt8) (hh : h.length = 32) (g2 g5 : Nat) (Aq : Option Addr) (cq : Nat) (keys : List KeyD) (hkl : keys.length < 9223372036854775807) (hnm : ∀ k, k ∈ keys → k.1.length ≤ maxLen) (us : List Value) (hkv : KysF w0 (.slice Aq keys.length cq) us keys)
    (hsz : a.tmps.size = 161) (hdf : a.defers = []) (o1 : Sl a 1 (.slice Aq keys.length cq)) (o2 : Sl a 2 (.pointer (some ⟨g2, 0, none⟩))) (o5 : Sl a 5 (.pointer (some ⟨g5, 0, none⟩))) (o7 : Sl a 7 (.slice none 0 0)) (o8 : Sl a 8 (.int .i64 ((0 : Nat) : Int)))
    (S : Held w0 w [hNt g5 z h (.slice none 0 0), hPt g2 z h])
    (hend : ∀ (a' : Act) (W : World) (l : List SigD) (ks : List KeyD) (A : Option Addr) (c : Nat) (vk : Value) (cs : List Value), Same a a' dsHl → SgOk l → InvH z h l ks → Sl a' 7 vk → Held w0 W [hNt g5 z h (.slice A l.length c), hSg (.slice A l.length c) l, hKy vk ks.length cs, hPt g2 z h] → Q .normal a' W) :
    (Code.block 0 (blockOf 0 Tryd.f6)).wp Tryd.prog Q a w := by
  refine wp_block ?_
  conv => arg 2; whnf
  refine wp_loop (fun a' w' => ∃ (k : Nat) (l : List SigD) (ks : List KeyD) (A : Option Addr) (c : Nat) (vk : Value) (cs : List Value), k ≤ keys.length ∧ SgOk l ∧ InvH z h l ks ∧ (∀ x, x ∈ ks → x ∈ keys) ∧ KyC w0 cs ks ∧ Same a a' dsHl ∧ Sl a' 8 (.int .i64 ((k : Nat) : Int)) ∧ Sl a' 7 vk ∧ Held w0 w' [hNt g5 z h (.slice A l.length c), hSg (.slice A l.length c) l, hKy vk ks.length cs, hPt g2 z h]) (fun a' _ => keys.length - (intOf (a'.eval (.tmp 8))).toNat)
    ⟨0, [], [], none, 0, _, [], Nat.zero_le _, (fun s hs => by cases hs), InvH.nil hz0, (fun x hx => by cases hx), KyC.nil w0, Same.refl _ _, o8, o7, ?_⟩ ?_
  · have S1 := (S.rownew (e := 42) (s := 2) (World.ownsRow_nil _ _ _ _) (Kp.refl [] w) (by simp [Value.ownBlock])).rownew (e := 81) (s := 33) (World.ownsRow_nil _ _ _ _) (Kp.refl [] w) (by simp [Value.ownBlock])
    exact S1.pull 2 rfl |>.pull 1 rfl |>.pull 1 rfl
  clear o8 o7 S
  rintro a1 w1 ⟨k, l, ks, A, c, vk, cs, hk, hok, I, hin, KC, T, o8, o7, S⟩
  have hz1 := T.size.trans hsz
  have o1 := T.keep 1 _ (by decide) o1
  have o5 := T.keep 5 _ (by decide) o5
  have e8 := o8.eval (by rw [hz1]; decide)
  have h64 := (mayN_64 I.may).1
  have hlen := I.len
  have hcl : cs.length = ks.length * 2 := (show Ow w1 42 2 vk ks.length cs from S.at_ (l1 := [_, _])).1
  by_cases hlt : k < keys.length
  · refine wp_seq (wp_seq (shl_r8Y Aq k keys.length cq hlt hz1 o1 o8 (fun a2 w2 hs2 k2 o39 => ?_)))
    have hz2 := hs2.size.trans hz1
    have o1 := hs2.keep 1 _ (by decide) o1
    have o5 := hs2.keep 5 _ (by decide) o5
    have o7 := hs2.keep 7 _ (by decide) o7
    have o8 := hs2.keep 8 _ (by decide) o8
    have T := T.trans hs2
    have S := S.kp k2
    by_cases h70 : k < 70
    · refine wp_cond_true ((o39.eval (by rw [hz2]; decide)).trans (by rw [decide_eq_true (by omega)])) (wp_skip ?_)
      simp only [Exit.then]
      obtain ⟨ad, rfl⟩ := kys_addr hkv (by omega)
      obtain ⟨kk, hkk⟩ : ∃ kk, keys[k]? = some kk := ⟨_, List.getElem?_eq_getElem hlt⟩
      obtain ⟨Ak2, ck2, hc0, hkr⟩ := hkv.at2 hkk
      obtain ⟨nm, hnv, hnl, hnz, hnd⟩ := str_of kk.1
      rw [hnv.out] at hc0
      have hkm := List.mem_of_getElem? hkk
      have hnms : nm.size ≤ 9223372036854775807 := by rw [hnz]; exact hnm kk hkm
      -- what goes on behind block 1
      have hback : ∀ (a9 : Act) (w9 : World) (l : List SigD) (ks : List KeyD) (A : Option Addr) (c : Nat) (vk : Value) (cs : List Value), a9.tmps.size = 161 → SgOk l → InvH z h l ks → (∀ x, x ∈ ks → x ∈ keys) → KyC w0 cs ks → Same a a9 dsHl → Sl a9 8 (.int .i64 ((k : Nat) : Int)) → Sl a9 7 vk → Held w0 w9 [hNt g5 z h (.slice A l.length c), hSg (.slice A l.length c) l, hKy vk ks.length cs, hPt g2 z h] →
          (Code.region 9 (opsOf 9 Tryd.f6).toArray false).wp Tryd.prog (Exit.then (fun a' w' => (∃ (k : Nat) (l : List SigD) (ks : List KeyD) (A : Option Addr) (c : Nat) (vk : Value) (cs : List Value), k ≤ keys.length ∧ SgOk l ∧ InvH z h l ks ∧ (∀ x, x ∈ ks → x ∈ keys) ∧ KyC w0 cs ks ∧ Same a a' dsHl ∧ Sl a' 8 (.int .i64 ((k : Nat) : Int)) ∧ Sl a' 7 vk ∧ Held w0 w' [hNt g5 z h (.slice A l.length c), hSg (.slice A l.length c) l, hKy vk ks.length cs, hPt g2 z h]) ∧ keys.length - (intOf (a'.eval (.tmp 8))).toNat < keys.length - (intOf (a1.eval (.tmp 8))).toNat) (Exit.inBlock 0 Q)) a9 w9 := by
        intro a9 w9 l ks A c vk cs hz9 hok I hin KC T o8 o7 S
        refine shl_r9 k (by omega) hz9 o8 (fun a6 hs6 o8' => ?_)
        have hz6 := hs6.size.trans hz9
        have o7 := hs6.keep 7 _ (by decide) o7
        have T := T.trans hs6
        refine ⟨⟨k + 1, l, ks, A, c, vk, cs, by omega, hok, I, hin, KC, T.more (by decide +kernel), o8', o7, S⟩, ?_⟩
        rw [e8, o8'.eval (by rw [hz6]; decide)]
        simp only [intOf]; omega
      by_cases hE : signE z l kk.1 kk.2 = 0
      · have J := I.step hE
        have hE2 := I.again hE
        have hil := insN_length (kk.1, sumF z h kk.1 kk.2) l
        have hiok := insN_ok hok (s := (kk.1, sumF z h kk.1 kk.2)) (sumF_length ..) (hnm kk hkm)
        have hiE : signE z l nm.data.toList kk.2 = 0 := by rw [hnd.out]; exact hE
        refine wp_seq (wp_block ?_)
        refine wp_seq (shl_r10Y w0 LD0 z hz h hh A c l hok h64 g5 ad k keys.length cq hlt nm hnms Ak2 ck2 kk.2 hc0 hkr _ hiE hz2 o1 o5 o8 S (fun a3 vs gs w3 hs3 o9 o10 S => ?_))
        have hz3 := hs3.size.trans hz2
        have o1 := hs3.keep 1 _ (by decide) o1
        have o5 := hs3.keep 5 _ (by decide) o5
        have o7 := hs3.keep 7 _ (by decide) o7
        have o8 := hs3.keep 8 _ (by decide) o8
        have T := T.trans hs3
        rw [hnd.out, ← hil] at S
        obtain ⟨l2, hl2⟩ : ∃ l2, insN l (kk.1, sumF z h kk.1 kk.2) = l2 := ⟨_, rfl⟩
        rw [hl2] at S J hE2 hiok hil
        obtain ⟨gs9, hgs9⟩ : ∃ x, (gs 9).1 = x := ⟨_, rfl⟩
        rw [hgs9] at S o9
        obtain ⟨A2, c2, hu2, -, -⟩ := ow_form (show Ow w3 81 33 (gs 5).2 l2.length (sgsC l2) from S.at_ (l1 := []))
        rw [hu2] at S
        have h642 := (mayN_64 J.may).1
        refine wp_seq (wp_seq (shl_r11 0 hz3 o10 (fun a4 hs4 o53 => ?_)))
        have hz4 := hs4.size.trans hz3
        have o1 := hs4.keep 1 _ (by decide) o1
        have o5 := hs4.keep 5 _ (by decide) o5
        have o7 := hs4.keep 7 _ (by decide) o7
        have o8 := hs4.keep 8 _ (by decide) o8
        have o9 := hs4.keep 9 _ (by decide) o9
        have o10 := hs4.keep 10 _ (by decide) o10
        have T := T.trans hs4
        refine wp_cond_false (o53.eval (by rw [hz4]; decide)) (wp_skip ?_)
        simp only [Exit.then]
        have S : Held w0 w3 [hKy vk ks.length cs, hNt g5 z h (.slice A l.length c), hNt gs9 z h (.slice A2 l2.length c2), hSg (.slice A2 l2.length c2) l2, hPt g2 z h, hSg (.slice A l.length c) l] := ((((((S.pull 3 rfl).pull 5 rfl).pull 2 rfl).pull 3 rfl).pull 4 rfl).pull 5 rfl)
        refine wp_seq (shl_r14 w0 ad k keys.length cq hlt nm Ak2 kk.2.length ck2 (hc0 _ S.k) vk ks.length (by omega) cs _ S hz4 o1 o7 o8 (fun a5 w4 hs5 h4 => ?_))
        have hz5 := hs5.size.trans hz4
        have o1 := hs5.keep 1 _ (by decide) o1
        have o5 := hs5.keep 5 _ (by decide) o5
        have o8 := hs5.keep 8 _ (by decide) o8
        have o9 := hs5.keep 9 _ (by decide) o9
        have o10 := hs5.keep 10 _ (by decide) o10
        have o53 := hs5.keep 53 _ (by decide) o53
        have T := T.trans hs5
        obtain ⟨vk2, o7, S⟩ := h4
        obtain ⟨cs2, hcs2⟩ : ∃ cs2, cs ++ [.string nm, .slice Ak2 kk.2.length ck2] = cs2 := ⟨_, rfl⟩
        have KC2 := KC.snoc hcl (k := kk) hnv.out hkr
        rw [hcs2] at S KC2
        rw [show ks.length + 1 = (ks ++ [kk]).length from by rw [List.length_append]; rfl] at S
        obtain ⟨Av, cv, hvk2, -, -⟩ := ow_form (show Ow w4 42 2 vk2 (ks ++ [kk]).length cs2 from S.at_ (l1 := []))
        subst hvk2
        have S : Held w0 w4 [hNt g5 z h (.slice A l.length c), hNt gs9 z h (.slice A2 l2.length c2), hSg (.slice A2 l2.length c2) l2, hKy (.slice Av (ks ++ [kk]).length cv) (ks ++ [kk]).length cs2, hPt g2 z h, hSg (.slice A l.length c) l] := (((((S.pull 4 rfl).pull 1 rfl).pull 4 rfl).pull 4 rfl).pull 4 rfl)
        refine wp_seq (shl_r15 w0 g5 gs9 _ _ (ntA_size hh) (ntA_size hh) (ntA_one rfl) _ S hz5 o5 o9 (fun a6 w5 hs6 S => ?_))
        have hz6 := hs6.size.trans hz5
        have o1 := hs6.keep 1 _ (by decide) o1
        have o5 := hs6.keep 5 _ (by decide) o5
        have o8 := hs6.keep 8 _ (by decide) o8
        have o9 := hs6.keep 9 _ (by decide) o9
        have o10 := hs6.keep 10 _ (by decide) o10
        have o53 := hs6.keep 53 _ (by decide) o53
        have o7 := hs6.keep 7 _ (by decide) o7
        have T := T.trans hs6
        have S : Held w0 w5 [hNt g5 z h (.slice A2 l2.length c2), hSg (.slice A2 l2.length c2) l2, hKy (.slice Av (ks ++ [kk]).length cv) (ks ++ [kk]).length cs2, hPt g2 z h, hNt gs9 z h (.slice A2 l2.length c2), hSg (.slice A l.length c) l] := ((((S.pull 4 rfl).pull 4 rfl).pull 4 rfl).pull 3 rfl)
        have hin2 : ∀ x, x ∈ ks ++ [kk] → x ∈ keys := by
          intro x hx
          rcases List.mem_append.1 hx with hx | hx
          · exact hin x hx
          · rw [List.mem_singleton.1 hx]; exact hkm
        have J5 := J.len
        refine wp_seq (wp_seq (shl_r16 (LD0.kp S.k) z hz h hh l2 hiok h642 A2 c2 g5 (S.at_ (l1 := [])) (Rd.of_own (S.at_ (l1 := [_]))) Av cv (ks ++ [kk]) (by omega) (fun x hx => hnm x (hin2 x hx)) cs2 (KC2.kys S.k (Rd.of_own (S.at_ (l1 := [_, _])))) J hz6 o5 o7 (fun a7 w6 hs7 k6 o97 => ?_)))
        have hz7 := hs7.size.trans hz6
        have o1 := hs7.keep 1 _ (by decide) o1
        have o5 := hs7.keep 5 _ (by decide) o5
        have o8 := hs7.keep 8 _ (by decide) o8
        have o9 := hs7.keep 9 _ (by decide) o9
        have o10 := hs7.keep 10 _ (by decide) o10
        have o53 := hs7.keep 53 _ (by decide) o53
        have o7 := hs7.keep 7 _ (by decide) o7
        have T := T.trans hs7
        have S := S.kp k6
        refine wp_cond_false (o97.eval (by rw [hz7]; decide)) (wp_skip ?_)
        simp only [Exit.then]
        refine wp_seq (shl_r18 w0 LD0 z hz h hh A2 c2 l2 hiok h642 g5 ad k keys.length cq hlt nm hnms Ak2 ck2 kk.2 hc0 hkr _ 8 (by rw [hnd.out]; exact hE2) (by decide) hz7 o1 o5 o8 S (fun a8 vs2 gs2 w7 hs8 o11 o12 S => ?_))
        have hz8 := hs8.size.trans hz7
        have T := T.trans hs8
        have o7 := hs8.keep 7 _ (by decide) o7
        have o8 := hs8.keep 8 _ (by decide) o8
        refine wp_seq (shl_r19 8 hz8 o12 (fun a9 hs9 o109 => ?_))
        have hz9 := hs9.size.trans hz8
        have o7 := hs9.keep 7 _ (by decide) o7
        have o8 := hs9.keep 8 _ (by decide) o8
        have o12 := hs9.keep 12 _ (by decide) o12
        have T := T.trans hs9
        refine wp_cond_false (o109.eval (by rw [hz9]; decide)) (wp_skip ?_)
        simp only [Exit.inBlock, Exit.then]
        exact hback a9 w7 l2 (ks ++ [kk]) A2 c2 _ cs2 hz9 hiok J hin2 KC2 (T.more (by decide +kernel)) o8 o7 (S.some_of (List.Sublist.cons _ (List.Sublist.cons_cons _ (List.Sublist.cons_cons _ (List.Sublist.cons_cons _ (List.Sublist.cons_cons _ (List.nil_sublist _)))))))
      · have hiE : signE z l nm.data.toList kk.2 = signE z l kk.1 kk.2 := by rw [hnd.out]
        refine wp_seq (wp_block ?_)
        refine wp_seq (shl_r10N w0 LD0 z hz h hh A c l hok h64 g5 ad k keys.length cq hlt nm hnms Ak2 ck2 kk.2 hc0 hkr _ _ hiE hE hz2 o1 o5 o8 S (fun a3 vs gs w3 hs3 o9 o10 S => ?_))
        have hz3 := hs3.size.trans hz2
        have o7 := hs3.keep 7 _ (by decide) o7
        have o8 := hs3.keep 8 _ (by decide) o8
        have T := T.trans hs3
        refine wp_seq (wp_seq (shl_r11 _ hz3 o10 (fun a4 hs4 o53 => ?_)))
        have hz4 := hs4.size.trans hz3
        have o7 := hs4.keep 7 _ (by decide) o7
        have o8 := hs4.keep 8 _ (by decide) o8
        have o10 := hs4.keep 10 _ (by decide) o10
        have T := T.trans hs4
        have hne : (signE z l kk.1 kk.2 != 0) = true := by simp [hE]
        refine wp_cond_true ((o53.eval (by rw [hz4]; decide)).trans (by rw [hne])) ?_
        have S := S.some_of (List.Sublist.cons _ (List.Sublist.refl _))
        rcases (signE_one (z := z) (l := l) (nm := kk.1) (sec := kk.2)) with e0 | e0 | e0 | e0
        · exact absurd e0 hE
        · rw [e0] at o10
          refine wp_seq (wp_seq (shl_r12a hz4 o10 (fun a6 w6 hs6 k6 o66 => ?_)))
          have hz6 := hs6.size.trans hz4
          refine wp_cond_false (o66.eval (by rw [hz6]; decide)) (wp_skip ?_)
          simp only [Exit.then]
          refine wp_exit ?_
          have o7 := hs6.keep 7 _ (by decide) o7
          have o8 := hs6.keep 8 _ (by decide) o8
          have T := T.trans hs6
          exact hback a6 w6 l ks A c vk cs hz6 hok I hin KC (T.more (by decide +kernel)) o8 o7 (S.kp k6)
        · rw [e0] at o10
          refine wp_seq (wp_seq (shl_r12b hz4 o10 (fun a6 w6 hs6 k6 o66 => ?_)))
          have hz6 := hs6.size.trans hz4
          refine wp_cond_false (o66.eval (by rw [hz6]; decide)) (wp_skip ?_)
          simp only [Exit.then]
          refine wp_exit ?_
          have o7 := hs6.keep 7 _ (by decide) o7
          have o8 := hs6.keep 8 _ (by decide) o8
          have T := T.trans hs6
          exact hback a6 w6 l ks A c vk cs hz6 hok I hin KC (T.more (by decide +kernel)) o8 o7 (S.kp k6)
        · rw [e0] at o10
          refine wp_seq (wp_seq (shl_r12c hz4 o10 (fun a6 w6 hs6 k6 o66 => ?_)))
          have hz6 := hs6.size.trans hz4
          refine wp_cond_false (o66.eval (by rw [hz6]; decide)) (wp_skip ?_)
          simp only [Exit.then]
          refine wp_exit ?_
          have o7 := hs6.keep 7 _ (by decide) o7
          have o8 := hs6.keep 8 _ (by decide) o8
          have T := T.trans hs6
          exact hback a6 w6 l ks A c vk cs hz6 hok I hin KC (T.more (by decide +kernel)) o8 o7 (S.kp k6)
    · refine wp_cond_false ((o39.eval (by rw [hz2]; decide)).trans (by rw [decide_eq_false (by omega)])) (wp_exit ?_)
      simp only [Exit.then, Exit.inBlock]
      exact hend _ _ l ks A c vk cs (T.more (by decide +kernel)) hok I o7 S
  · refine wp_seq (wp_seq (shl_r8N Aq k keys.length cq hlt hz1 o1 o8 (fun a2 w2 hs2 k2 o39 => ?_)))
    have hz2 := hs2.size.trans hz1
    have o1 := hs2.keep 1 _ (by decide) o1
    have o5 := hs2.keep 5 _ (by decide) o5
    have o7 := hs2.keep 7 _ (by decide) o7
    have o8 := hs2.keep 8 _ (by decide) o8
    have T := T.trans hs2
    have S := S.kp k2
    refine wp_cond_false (o39.eval (by rw [hz2]; decide)) (wp_exit ?_)
    simp only [Exit.then, Exit.inBlock]
    exact hend _ _ l ks A c vk cs (T.more (by decide +kernel)) hok I o7 S
set_option maxRecDepth 100000 in
set_option maxHeartbeats 8000000 in
theorem signholds_any (w : World) (z : Int) (hz : -9223372036854775808 ≤ z ∧ z ≤ 9223372036854775807) (h : List UInt8) (hh : h.length = 32) (Aq : Option Addr) (cq : Nat) (keys : List KeyD) (hkl : keys.length < 9223372036854775807) (hnm : ∀ k, k ∈ keys → k.1.length ≤ maxLen) (us : List Value) (hkv : KysF w (.slice Aq keys.length cq) us keys) (LDw : LD w) :
    Calls Tryd.prog 6 #[.agg (ptA z h), .slice Aq keys.length cq] w fun e w' => e = .returned (.bool true) ∧ Kp [] w w' := by
  refine calls_fr Tryd.func6 rfl 161 rfl (fun a0 hsz hdf hAr => ?_)
  have hz0 : a0.tmps.size = 161 := hsz
  have D := hdf
  have o0 := hAr 0 _ rfl
  have o1 := hAr 1 _ rfl
  refine wp_seq (shl_r0 w _ [] (Held.start w) hz0 o0 (fun a1 w1 hs1 o4 h1 => ?_))
  have hz1 := hs1.size.trans hz0
  have o0 := hs1.keep 0 _ (by decide) o0
  have o1 := hs1.keep 1 _ (by decide) o1
  have D := hs1.defers.trans D
  obtain ⟨g2, o2, S⟩ := h1
  refine wp_seq (wp_seq (shl_r1 (LDw.kp S.k) hz1 (fun a2 w2 hs2 o20 k2 => ?_)))
  have hz2 := hs2.size.trans hz1
  have o1 := hs2.keep 1 _ (by decide) o1
  have o2 := hs2.keep 2 _ (by decide) o2
  have D := hs2.defers.trans D
  have S := S.kp k2
  refine wp_cond_false (o20.eval (by rw [hz2]; decide)) (wp_skip ?_)
  simp only [Exit.then]
  refine wp_seq (shl_r3 (LDw.kp S.k) z hz h hh g2 (S.at_ (l1 := [])) hz2 o2 (fun a3 w3 hs3 o6 h3 => ?_))
  have hz3 := hs3.size.trans hz2
  have o1 := hs3.keep 1 _ (by decide) o1
  have o2 := hs3.keep 2 _ (by decide) o2
  have D := hs3.defers.trans D
  obtain ⟨g5, o5, S3⟩ := h3
  have S := S.join S3
  refine wp_seq (wp_seq (shl_r4 _ hz3 o6 (fun a4 hs4 o28 => ?_)))
  have hz4 := hs4.size.trans hz3
  have o1 := hs4.keep 1 _ (by decide) o1
  have o2 := hs4.keep 2 _ (by decide) o2
  have o5 := hs4.keep 5 _ (by decide) o5
  have o6 := hs4.keep 6 _ (by decide) o6
  have D := hs4.defers.trans D
  by_cases hz1' : 0 ≤ z
  · have e0 : chkN z [] = 0 := by unfold chkN; rw [mayN_nil, decide_eq_true hz1']; rfl
    refine wp_cond_false ((o28.eval (by rw [hz4]; decide)).trans (by rw [e0]; rfl)) (wp_skip ?_)
    simp only [Exit.then]
    have eN : newA z h = ntA z h (.slice none 0 0) := by unfold newA; rw [if_pos hz1']
    rw [eN] at S
    have S : Held w w3 [hNt g5 z h (.slice none 0 0), hPt g2 z h] := S.pull 1 rfl
    refine wp_seq (shl_r6 hz4 (fun a5 hs5 o7 => ?_))
    have hz5 := hs5.size.trans hz4
    have o1 := hs5.keep 1 _ (by decide) o1
    have o2 := hs5.keep 2 _ (by decide) o2
    have o5 := hs5.keep 5 _ (by decide) o5
    have D := hs5.defers.trans D
    refine wp_seq (wp_seq (shl_r7 hz5 (fun a6 hs6 o8 => ?_)))
    have hz6 := hs6.size.trans hz5
    have o1 := hs6.keep 1 _ (by decide) o1
    have o2 := hs6.keep 2 _ (by decide) o2
    have o5 := hs6.keep 5 _ (by decide) o5
    have o7 := hs6.keep 7 _ (by decide) o7
    have D := hs6.defers.trans D
    refine shl_l0 LDw z hz hz1' h hh g2 g5 Aq cq keys hkl hnm us hkv hz6 D o1 o2 o5 o7 o8 S (fun a7 w4 l ks A c vk cs hs7 hok I o7 S => ?_)
    have hz7 := hs7.size.trans hz6
    have D := hs7.defers.trans D
    have o2 := hs7.keep 2 _ (by decide) o2
    have o5 := hs7.keep 5 _ (by decide) o5
    simp only [Exit.then]
    obtain ⟨Ak, ck, hvk, -, -⟩ := ow_form (show Ow w4 42 2 vk ks.length cs from S.at_ (l1 := [_, _]))
    subst hvk
    have h64 := (mayN_64 I.may).1
    have hlen := I.len
    have hb5 := S.at_ (l1 := [])
    have hv5 := Rd.of_own (S.at_ (l1 := [_]))
    have hp2 := S.at_ (l1 := [_, _, _])
    have et : textN z h l = told z.toNat h ++ (l.map lineN).flatten := by unfold textN; rw [I.may, if_pos rfl]
    have et0 : textN z h [] = told z.toNat h := by unfold textN; rw [mayN_nil, decide_eq_true hz1', if_pos rfl, List.map_nil, List.flatten_nil, List.append_nil]
    have ec : chkN z l = 0 := by unfold chkN; rw [I.may]; rfl
    have HT := stext_any z hz h hh A c l hok (by omega) w4 (LDw.kp S.k) hv5
    rw [et, ec] at HT
    refine wp_seq (shl_r21 g5 _ (ntA_size hh) hb5 _ _ HT hz7 o5 (fun a8 w5 hs8 o13 o14 k5 => ?_))
    have hz8 := hs8.size.trans hz7
    have o2 := hs8.keep 2 _ (by decide) o2
    have o5 := hs8.keep 5 _ (by decide) o5
    have o7 := hs8.keep 7 _ (by decide) o7
    have D := hs8.defers.trans D
    refine wp_seq (shl_r22 ((LDw.kp S.k).kp k5) z hz h hh g2 (hp2.kp k5 (by simp)) hz8 o2 (fun a9 w6 hs9 o16 h6 => ?_))
    have hz9 := hs9.size.trans hz8
    have o2 := hs9.keep 2 _ (by decide) o2
    have o5 := hs9.keep 5 _ (by decide) o5
    have o7 := hs9.keep 7 _ (by decide) o7
    have o13 := hs9.keep 13 _ (by decide) o13
    have o14 := hs9.keep 14 _ (by decide) o14
    have D := hs9.defers.trans D
    obtain ⟨g15, o15, S6⟩ := h6
    rw [eN] at S6
    have k56 := k5.trans S6.k (by simp)
    have HT0 := stext_any z hz h hh none 0 [] (fun s hs => by cases hs) (by simp) w6 ((LDw.kp S.k).kp k56) (rd_nil_any 33 _)
    rw [et0, e0] at HT0
    refine wp_seq (shl_r23 g15 _ (ntA_size hh) (S6.at_ (l1 := [])) _ _ HT0 hz9 o15 (fun a10 w7 hs10 o17 o18 k7 => ?_))
    have hz10 := hs10.size.trans hz9
    have o2 := hs10.keep 2 _ (by decide) o2
    have o5 := hs10.keep 5 _ (by decide) o5
    have o7 := hs10.keep 7 _ (by decide) o7
    have o13 := hs10.keep 13 _ (by decide) o13
    have o14 := hs10.keep 14 _ (by decide) o14
    have o16 := hs10.keep 16 _ (by decide) o16
    have o15 := hs10.keep 15 _ (by decide) o15
    have D := hs10.defers.trans D
    have k57 := k56.trans k7 (by simp)
    have hb57 := hb5.kp k57 (by simp)
    have hll := lines_len (l := l) (fun s hs => ⟨nmOk_len (rising_nm (mayN_64 I.may).2 s hs), (hok s hs).1⟩)
    have htl : (told z.toNat h).length ≤ 900000 := by
      have h1 := dec_19 (n := z.toNat) (by omega)
      rw [told_length, hexS_length, hh]
      omega
    rw [hlen] at hb57
    refine wp_seq (shl_r24 z hz h hh g5 ks.length (by omega) A Ak c ck hb57 (told z.toNat h) (l.map lineN).flatten (by omega) hz10 o5 o7 o13 o14 o17 o18 (fun a11 w8 hs11 k8 o4 => ?_))
    have hz11 := hs11.size.trans hz10
    have o2 := hs11.keep 2 _ (by decide) o2
    have o5 := hs11.keep 5 _ (by decide) o5
    have o7 := hs11.keep 7 _ (by decide) o7
    have o13 := hs11.keep 13 _ (by decide) o13
    have o14 := hs11.keep 14 _ (by decide) o14
    have o16 := hs11.keep 16 _ (by decide) o16
    have o15 := hs11.keep 15 _ (by decide) o15
    have o17 := hs11.keep 17 _ (by decide) o17
    have o18 := hs11.keep 18 _ (by decide) o18
    have D := hs11.defers.trans D
    refine wp_ret ?_
    exact (bodyPost_ret (results_t1 (by rfl) (o4.eval (by rw [hz11]; decide))) D ⟨rfl, (S.k.trans k57 (by simp)).trans k8 (by simp)⟩)
  · have e0 : chkN z [] = 2 := by unfold chkN; rw [mayN_nil, decide_eq_false hz1']; rfl
    refine wp_cond_true ((o28.eval (by rw [hz4]; decide)).trans (by rw [e0]; rfl)) ?_
    refine wp_seq (shl_r5 z h g2 (S.at_ (l1 := [])) hz4 o2 (fun a5 hs5 o4 => ?_))
    have hz5 := hs5.size.trans hz4
    have o1 := hs5.keep 1 _ (by decide) o1
    have o2 := hs5.keep 2 _ (by decide) o2
    have o5 := hs5.keep 5 _ (by decide) o5
    have o6 := hs5.keep 6 _ (by decide) o6
    have o28 := hs5.keep 28 _ (by decide) o28
    have D := hs5.defers.trans D
    refine wp_ret ?_
    simp only [Exit.then]
    exact (bodyPost_ret (results_t1 (by rfl) (o4.eval (by rw [hz5]; decide))) D ⟨by rw [decide_eq_true (show z < 0 by omega)], S.k⟩)
theorem signholds_law (w : World) (z : Int) (hz : -9223372036854775808 ≤ z ∧ z ≤ 9223372036854775807) (h : List UInt8) (hh : h.length = 32) (v : Value) (keys : List KeyD) (us : List Value) (hkv : KysF w v us keys) (hnm : ∀ k, k ∈ keys → k.1.length ≤ maxLen) (hkl : (keys.length + 1) * 40 ≤ 140737488355328) (LDw : LD w) :
    Calls Tryd.prog 6 #[.agg (ptA z h), v] w fun e w' => e = .returned (.bool true) ∧ Kp [] w w' := by
  obtain ⟨A, c, rfl⟩ := rd_form hkv.1
  exact signholds_any w z hz h hh A c keys (by omega) hnm us hkv LDw
end Go.Proofs.YtapboamjpilckaaDoor
/- What comes in, opened: slices of bytes; how much there is of it. -/
namespace Go.Proofs.YtapboamjpilckaaDoor
open Go.RowKit Go.WideShapes Go.ChangeShapes

section
variable {H : Type} {enc : TypeId × Value → H} {P : Program}
/-! ### Bulk -/
theorem bulk_pos (d : DataW H) : 1 ≤ Rows.uptoBulk d := by
  cases d with
  | lit l => cases l <;> simp [Rows.uptoBulk]
  | nil => simp [Rows.uptoBulk]
  | ptr d => simp [Rows.uptoBulk]
  | slice elems spare => simp [Rows.uptoBulk]
  | agg parts => simp [Rows.uptoBulk]
  | iface t d => simp [Rows.uptoBulk]
  | map entries => simp [Rows.uptoBulk]
  | held h => simp [Rows.uptoBulk]
theorem bulk_len (l : List (DataW H)) : l.length ≤ Rows.uptoBulkAll l := by
  induction l with
  | nil => simp [Rows.uptoBulkAll]
  | cons x r ih => have := bulk_pos x; simp only [Rows.uptoBulkAll, List.length_cons]; omega
theorem bulk_slice (l r : List (DataW H)) : Rows.uptoBulk (.slice l r) = Rows.uptoBulkAll l + Rows.uptoBulkAll r + 1 := by simp [Rows.uptoBulk]
/-! ### A slice of bytes -/
theorem u8_lit {z : Int} (h : (Lit.int .u8 z).wf = true) : 0 ≤ z ∧ z ≤ 255 := by simpa [Lit.wf, IntKind.min, IntKind.max, IntKind.signed, IntKind.bits] using h
theorem open_bytes {W : World} {n : Nat} {t e : TypeId} {cs : List Value} {x : DataW H × List MemPlace} (ht : P.underlying t = some (.slice e)) (he : P.underlying e = some (.int .u8)) (hc : P.cellsOf e = 1)
    (h : DataW.trod enc P W 0 (fun _ => true) true n t cs = some x) : ∃ B bs, cs = [B] ∧ Rd W 1 B bs.length (bv bs) ∧ bs.length + 1 ≤ Rows.uptoBulk x.1 := by
  rcases open_ints ht he hc h with ⟨rfl, rfl⟩ | ⟨a, len, cap, zs, rfl, _, hl, hm, hz, rfl, hcell, hwf⟩
  · exact ⟨_, [], rfl, Rd.nil _ _, by simp [Rows.uptoBulk]⟩
  · simp only [if_true] at hz
    have hbl : ((zs.take len).map fun z => UInt8.ofNat z.toNat).length = len := by rw [List.length_map, List.length_take]; omega
    refine ⟨_, (zs.take len).map fun z => UInt8.ofNat z.toNat, rfl, ?_, ?_⟩
    · rw [hbl]
      refine ⟨by rw [bv_length, hbl]; omega, some a, cap, rfl, hl, hm, (fun h => by cases h), fun ad had j u hu => ?_⟩
      cases had
      rw [bv_get, List.getElem?_map] at hu
      cases hj : (zs.take len)[j]? with
      | none => rw [hj] at hu; simp at hu
      | some z =>
        rw [hj] at hu
        have hz' : zs[j]? = some z := by
          rw [List.getElem?_take] at hj
          split at hj
          · exact hj
          · cases hj
        have hlt : j < zs.length := (List.getElem?_eq_some_iff.1 hz').1
        have hw := u8_lit (hwf z (List.mem_of_getElem? hz'))
        have hg := hcell j hlt
        rw [List.getD_eq_getElem?_getD, hz', Option.getD_some] at hg
        rw [hg]
        simp only [Option.map_some, Option.some.injEq] at hu
        rw [← hu, UInt8.toNat_ofNat', Nat.mod_eq_of_lt (by omega)]
        congr 2
        omega
    · rw [bulk_slice]
      have := bulk_len (lits (H := H) .u8 (zs.take len))
      rw [hbl]
      have hll : (lits (H := H) .u8 (zs.take len)).length = len := by simp [lits]; omega
      omega
end
end Go.Proofs.YtapboamjpilckaaDoor
/- What comes in, opened: slices of Puts. -/
namespace Go.Proofs.YtapboamjpilckaaDoor
open Go.RowKit Go.WideShapes Go.ChangeShapes

section
variable {H : Type} {enc : TypeId × Value → H}
/-- An array of 32 bytes. -/
theorem open_hash {P : Program} {W : World} {n m : Nat} {t e : TypeId} {cs : List Value} {x : DataW H × List MemPlace} (ht : P.underlying t = some (.array m e)) (he : P.underlying e = some (.int .u8)) (hc : P.cellsOf e = 1) (hct : P.cellsOf t = m)
    (h : DataW.trod enc P W 0 (fun _ => true) true n t cs = some x) : ∃ h : List UInt8, h.length = m ∧ cs = bv h ∧ m + 1 ≤ Rows.uptoBulk x.1 := by
  obtain ⟨xs, k, rfl, rfl, hl, hxl, hel⟩ := DataW.trod_array ht h
  rw [hct] at hl
  have one : ∀ i, i < m → ∃ z : Int, cs[i]? = some (.int .u8 z) ∧ 0 ≤ z ∧ z ≤ 255 := fun i hi => by
    have h1 := hel i hi
    rw [hc, Nat.mul_one, cut_one] at h1
    have hx : xs[i]? = some xs[i] := List.getElem?_eq_getElem (by omega)
    rw [hx] at h1
    obtain ⟨z, hz, _, hw⟩ := DataW.trod_int he h1
    have hw := u8_lit hw
    cases hcs : cs[i]? with
    | none => rw [hcs] at hz; cases hz
    | some v => rw [hcs] at hz; cases hz; exact ⟨z, rfl, hw.1, hw.2⟩
  refine ⟨(List.range m).map fun i => (match (cs[i]? : Option Value) with | some (Value.int _ z) => UInt8.ofNat z.toNat | _ => 0), by simp, ?_, ?_⟩
  · apply List.ext_getElem?
    intro i
    rw [bv_get, List.getElem?_map]
    by_cases hi : i < m
    · obtain ⟨z, hz, h1, h2⟩ := one i hi
      rw [hz, List.getElem?_range hi]
      simp only [Option.map_some]
      rw [hz]
      simp only [UInt8.toNat_ofNat', Nat.mod_eq_of_lt (show z.toNat < 2 ^ 8 by omega)]
      congr 2
      omega
    · rw [List.getElem?_eq_none (by omega), List.getElem?_eq_none (by simp; omega)]
      rfl
  · simp only [Rows.uptoBulk]
    have := bulk_len (xs.map (·.1))
    rw [List.length_map, hxl] at this
    omega

theorem Tryd.cellsHash : Tryd.prog.cellsOf 25 = 32 := by kernel_rfl
end
end Go.Proofs.YtapboamjpilckaaDoor
/- Points that came in, opened. -/
namespace Go.Proofs.YtapboamjpilckaaDoor
open Go.RowKit Go.WideShapes Go.ChangeShapes
section
variable {H : Type} {enc : TypeId × Value → H}
theorem Tryd.cellsPoint : Tryd.prog.cellsOf 33 = 33 := by kernel_rfl
theorem Tryd.cellsI64 : Tryd.prog.cellsOf 2 = 1 := by kernel_rfl
set_option maxRecDepth 100000 in
theorem open_pt {W : World} {n : Nat} {cs : List Value} {x : DataW H × List MemPlace} (h : DataW.trod enc Tryd.prog W 0 (fun _ => true) true n 33 cs = some x) :
    ∃ (z : Int) (hh : List UInt8), cs = (ptA z hh).toList ∧ (-9223372036854775808 ≤ z ∧ z ≤ 9223372036854775807) ∧ hh.length = 32 := by
  obtain ⟨xs, k, rfl, rfl, hl, hxl, hf⟩ := DataW.trod_struct Tryd.underlying33 h
  rw [Tryd.cellsPoint] at hl
  obtain ⟨x0, x1, rfl⟩ : ∃ x0 x1, xs = [x0, x1] := by
    match xs, hxl with
    | [x0, x1], _ => exact ⟨x0, x1, rfl⟩
  have f0 : DataW.trod enc Tryd.prog W 0 (fun _ => true) true k 2 ((cs.drop 0).take (Tryd.prog.cellsOf 2)) = some x0 := hf 0 _ rfl
  have f1 : DataW.trod enc Tryd.prog W 0 (fun _ => true) true k 25 ((cs.drop 1).take (Tryd.prog.cellsOf 25)) = some x1 := hf 1 _ rfl
  rw [Tryd.cellsI64] at f0
  rw [Tryd.cellsHash] at f1
  clear hf hxl
  obtain ⟨z, e0, _, w0⟩ := DataW.trod_int Tryd.underlying2 f0
  obtain ⟨hh, hhl, e1, _⟩ := open_hash Tryd.underlying25 Tryd.underlying5 Tryd.cellsU8 Tryd.cellsHash f1
  have w0 := i64_lit w0
  have g0 := at_of_cut (i := 0) e0
  refine ⟨z, hh, ?_, w0, hhl⟩
  obtain ⟨a, l, rfl⟩ := List.exists_cons_of_length_pos (l := cs) (by omega)
  rw [List.length_cons] at hl
  have g0 := Option.some.inj g0
  subst g0
  have : l = bv hh := by
    rw [← e1, List.drop_succ_cons, List.drop_zero, List.take_of_length_le (by omega)]
  rw [this]
  rfl
set_option maxRecDepth 100000 in
theorem open_pt_arg {W : World} {b0 : Nat} {v : Value} {d : DataW H} {pl : List MemPlace} (hv : Value.okWide Tryd.prog W .any b0 33 v) (h : DataW.Trod enc Tryd.prog W 0 (fun _ => true) true 33 v d pl) :
    ∃ (z : Int) (hh : List UInt8), v = .agg (ptA z hh) ∧ (-9223372036854775808 ≤ z ∧ z ≤ 9223372036854775807) ∧ hh.length = 32 := by
  obtain ⟨cs, rfl, hsz⟩ := okWide_struct Tryd.underlying33 hv
  obtain ⟨fuel, hf⟩ := h
  obtain ⟨z, hh, h1, h2, h3⟩ := open_pt hf
  refine ⟨z, hh, ?_, h2, h3⟩
  congr 1
  apply Array.ext'
  exact h1
end
end Go.Proofs.YtapboamjpilckaaDoor
/- Hashes that came in, opened. -/
namespace Go.Proofs.YtapboamjpilckaaDoor
open Go.RowKit Go.WideShapes Go.ChangeShapes
section
variable {H : Type} {enc : TypeId × Value → H}
end
end Go.Proofs.YtapboamjpilckaaDoor
/- Keys that came in, opened. -/
namespace Go.Proofs.YtapboamjpilckaaDoor
open Go.RowKit Go.WideShapes Go.ChangeShapes
section
variable {H : Type} {enc : TypeId × Value → H}
theorem Tryd.cellsKey : Tryd.prog.cellsOf 42 = 2 := by kernel_rfl
theorem Tryd.cellsStr : Tryd.prog.cellsOf 9 = 1 := by kernel_rfl
theorem Tryd.cellsBytesK : Tryd.prog.cellsOf 22 = 1 := by kernel_rfl
theorem str_back (s : ByteArray) : strV s.data.toList = .string s := by
  unfold strV
  congr 1
set_option maxRecDepth 100000 in
theorem open_key {W : World} {n : Nat} {cs : List Value} {x : DataW H × List MemPlace} (h : DataW.trod enc Tryd.prog W 0 (fun _ => true) true n 42 cs = some x) :
    ∃ (nm : ByteArray) (A : Option Addr) (c : Nat) (sec : List UInt8), cs = [.string nm, .slice A sec.length c] ∧ Rd W 1 (.slice A sec.length c) sec.length (bv sec) ∧ nm.size ≤ maxLen ∧ nm.size + (sec.length + 1) ≤ Rows.uptoBulk x.1 := by
  obtain ⟨xs, k, rfl, rfl, hl, hxl, hf⟩ := DataW.trod_struct Tryd.underlying42 h
  rw [Tryd.cellsKey] at hl
  obtain ⟨x0, x1, rfl⟩ : ∃ x0 x1, xs = [x0, x1] := by
    match xs, hxl with
    | [x0, x1], _ => exact ⟨x0, x1, rfl⟩
  have f0 : DataW.trod enc Tryd.prog W 0 (fun _ => true) true k 9 ((cs.drop 0).take (Tryd.prog.cellsOf 9)) = some x0 := hf 0 _ rfl
  have f1 : DataW.trod enc Tryd.prog W 0 (fun _ => true) true k 22 ((cs.drop 1).take (Tryd.prog.cellsOf 22)) = some x1 := hf 1 _ rfl
  rw [Tryd.cellsStr] at f0
  rw [Tryd.cellsBytesK] at f1
  clear hf hxl
  obtain ⟨s, e0, rfl, hs⟩ := DataW.trod_string Tryd.underlying9 f0
  obtain ⟨B, bs, e1, hr, hb⟩ := open_bytes Tryd.underlying22 Tryd.underlying5 Tryd.cellsU8 f1
  obtain ⟨A, c, rfl⟩ := rd_form hr
  have g0 := at_of_cut (i := 0) e0
  have g1 := at_of_cut (i := 1) e1
  refine ⟨s, A, c, bs, ?_, hr, hs, ?_⟩
  · obtain ⟨a, b, rfl⟩ : ∃ a b, cs = [a, b] := by
      match cs, hl with
      | [a, b], _ => exact ⟨a, b, rfl⟩
    cases g0
    cases g1
    rfl
  · have hz := Lib.size_eq s
    simp only [List.map_cons, List.map_nil, Rows.uptoBulk, Rows.uptoBulkAll] at hb ⊢
    omega
set_option maxRecDepth 100000 in
theorem open_keys {W : World} {n : Nat} {v : Value} {x : DataW H × List MemPlace} (h : DataW.trod enc Tryd.prog W 0 (fun _ => true) true n 46 [v] = some x) :
    ∃ ks us, KysF W v us ks ∧ (∀ k, k ∈ ks → k.1.length ≤ maxLen) ∧ ks.length ≤ maxLen ∧ (ks = [] ∨ ∃ elems spare, x.1 = .slice elems spare ∧ elems.length = ks.length) := by
  rcases Deep.open_slice Tryd.underlying46 h with ⟨hv, rfl⟩ | ⟨a, len, cap, m, k, D, Pl, hv, _, hl, hm, hmm, rfl, hel⟩
  · cases hv
    exact ⟨[], [], ⟨Rd.nil _ _, fun i hi => by cases hi⟩, (fun _ h => by cases h), by simp, .inl rfl⟩
  · cases hv
    simp only [if_true] at hmm
    obtain ⟨G, hG⟩ := Deep.choose_lt (α := ByteArray × Value × List UInt8) (n := len) (p := fun i q => (∀ j u, ([.string q.1, q.2.1] : List Value)[j]? = some u → W.cell? ((a.add (i * 2)).add j) = some u) ∧ (∃ A c, q.2.1 = .slice A q.2.2.length c) ∧ Rd W 1 q.2.1 q.2.2.length (bv q.2.2) ∧ q.1.size ≤ maxLen) (fun i hi => by
      obtain ⟨cs, h1, h2⟩ := hel i (by omega)
      rw [Tryd.cellsKey] at h1
      obtain ⟨nm, A, c, sec, rfl, hr, hs, -⟩ := open_key h2
      obtain ⟨_, hlen, hcell⟩ := World.cells?_some h1
      exact ⟨(nm, .slice A sec.length c, sec), (fun j u hu => by rw [hcell j (by have := (List.getElem?_eq_some_iff.1 hu).1; simpa using this)]; exact hu), ⟨A, c, rfl⟩, hr, hs⟩)
    have hkl : ((List.range len).map fun i => (((G i).1.data.toList, (G i).2.2) : KeyD)).length = len := by simp
    have hki : ∀ i (hi : i < ((List.range len).map fun i => (((G i).1.data.toList, (G i).2.2) : KeyD)).length), ((List.range len).map fun i => (((G i).1.data.toList, (G i).2.2) : KeyD))[i] = ((G i).1.data.toList, (G i).2.2) := fun i hi => by simp
    have hul : ((List.range len).flatMap fun i => ([.string (G i).1, (G i).2.1] : List Value)).length = len * 2 := by
      rw [List.length_flatMap]
      simp only [List.length_cons, List.length_nil]
      rw [List.map_const', List.sum_replicate_nat, List.length_range]
    have hui : ∀ i j, i < len → j < 2 → ((List.range len).flatMap fun i => ([.string (G i).1, (G i).2.1] : List Value))[i * 2 + j]? = ([.string (G i).1, (G i).2.1] : List Value)[j]? := by
      clear hul hki hkl hG hel
      intro i j hi hj
      have key : ∀ (L : List Nat) (i : Nat) (x : Nat), L[i]? = some x → (L.flatMap fun i => ([.string (G i).1, (G i).2.1] : List Value))[i * 2 + j]? = ([.string (G x).1, (G x).2.1] : List Value)[j]? := by
        intro L
        induction L with
        | nil => intro i x h; simp at h
        | cons y L ih =>
          intro i x h
          rw [List.flatMap_cons]
          rcases i with _ | i
          · cases h
            rw [Nat.zero_mul, Nat.zero_add, List.getElem?_append_left (by simpa using hj)]
          · rw [List.getElem?_append_right (by simp; omega), show (i + 1) * 2 + j - ([.string (G y).1, (G y).2.1] : List Value).length = i * 2 + j from by simp; omega]
            exact ih i x (by simpa using h)
      exact key _ i i (by rw [List.getElem?_range hi])
    refine ⟨(List.range len).map fun i => ((G i).1.data.toList, (G i).2.2), (List.range len).flatMap fun i => [.string (G i).1, (G i).2.1], ⟨?_, fun i hi => ?_⟩, ?_, by rw [hkl]; omega, .inr ⟨_, _, rfl, by simp⟩⟩
    · rw [hkl]
      refine rd_some hul hl hm (fun ad had j u hu => ?_)
      cases had
      have hj := (List.getElem?_eq_some_iff.1 hu).1
      rw [hul] at hj
      have h2 := hui (j / 2) (j % 2) (by omega) (by omega)
      rw [show j / 2 * 2 + j % 2 = j from by omega, hu] at h2
      have := (hG (j / 2) (by omega)).1 _ _ h2.symm
      rw [add_of_add, show j / 2 * 2 + j % 2 = j from by omega] at this
      exact this
    · rw [hkl] at hi
      obtain ⟨-, ⟨A, c, he⟩, hr, -⟩ := hG i hi
      have e1 := hui i 0 hi (by omega)
      have e2 := hui i 1 hi (by omega)
      rw [hki]
      refine ⟨A, c, ?_, ?_, ?_⟩
      · rw [Nat.add_zero] at e1
        rw [e1, str_back]
        rfl
      · rw [e2]
        show some (G i).2.1 = _
        rw [he]
      · rw [← he]; exact hr
    · intro k hk
      obtain ⟨i, hi, rfl⟩ := List.mem_map.1 hk
      have := (hG i (List.mem_range.1 hi)).2.2.2
      rw [Lib.size_eq] at this
      exact this
theorem bytes_of_ky : Tryd.prog.bytesOf 42 = 40 := by kernel_rfl
theorem sized_kys {ts : List TypeId} {ds : List (DataW H)} (h : (DataW.weightsEach Tryd.prog ts ds).all (· ≤ reachBytes) = true) (j : Nat) {d : DataW H} {ps : List KeyD} (ht : ts[j]? = some 46) (hd : ds[j]? = some d)
    (hb : ps = [] ∨ ∃ elems spare, d = .slice elems spare ∧ elems.length = ps.length) : (ps.length + 1) * 40 ≤ 140737488355328 := by
  rcases hb with rfl | ⟨elems, spare, rfl, hl⟩
  · simp
  · have := sized_slice h ht hd Tryd.underlying46
    rw [bytes_of_ky] at this
    unfold reachBytes at this
    omega
end
end Go.Proofs.YtapboamjpilckaaDoor
/- What the listed variables give; a world for the witness. -/
namespace Go.Proofs.YtapboamjpilckaaDoor
open Go.ChangeShapes Go.WideShapes Go.ChangeAt Go.RowKit
theorem door_met (os : Os) (args : Array Value) : laidMet Tryd.prog Rows.signMacsRow.laid ((World.doorLaid Tryd.prog 2000 os).forCall (fun _ _ => 0) ⟨#[], args, []⟩).memory :=
  laidMet_of_run' 8 (by kernel_rfl) (by kernel_rfl)
theorem LD_laid {W : World} (h : laidMet Tryd.prog Rows.signMacsRow.laid W) : LD W := by
  have h3 := h.tail.tail
  first
    | exact ⟨Lib.tabIs_of_head (g := 0) (by decide +kernel) (by decide +kernel) Tryd.underlying166 Tryd.underlying136 (by kernel_rfl) (by kernel_rfl) h3⟩
    | exact ⟨Lib.tabIs_of_head (g := 1) (by decide +kernel) (by decide +kernel) Tryd.underlying166 Tryd.underlying136 (by kernel_rfl) (by kernel_rfl) h3⟩
    | exact ⟨Lib.tabIs_of_head (g := 2) (by decide +kernel) (by decide +kernel) Tryd.underlying166 Tryd.underlying136 (by kernel_rfl) (by kernel_rfl) h3⟩
    | exact ⟨Lib.tabIs_of_head (g := 3) (by decide +kernel) (by decide +kernel) Tryd.underlying166 Tryd.underlying136 (by kernel_rfl) (by kernel_rfl) h3⟩
    | exact ⟨Lib.tabIs_of_head (g := 4) (by decide +kernel) (by decide +kernel) Tryd.underlying166 Tryd.underlying136 (by kernel_rfl) (by kernel_rfl) h3⟩
    | exact ⟨Lib.tabIs_of_head (g := 5) (by decide +kernel) (by decide +kernel) Tryd.underlying166 Tryd.underlying136 (by kernel_rfl) (by kernel_rfl) h3⟩
end Go.Proofs.YtapboamjpilckaaDoor
/- The row's last step, where a walk has left 'Below' of the world it began in. -/
namespace Go.Proofs.YtapboamjpilckaaDoor
open Go.RowKit Go.WideShapes Go.ChangeShapes

theorem own_knob : ownKnob Tryd.prog.godebug = none := by kernel_rfl

section
variable {H : Type} {enc : TypeId × Value → H} {P : Program}
/-- 'post_of_same' for a world of which 'Below' alone is known (old cells and old marks are as they were). -/
theorem post_below {f : Func} {s : ChangeSpec} {apart fresh handsOn again : Bool} {W W' : World} {args : Array Value} {v : Value} {ds gs : List (DataW H)} {before pa pv : List MemPlace}
    (hW : DataW.Whole enc P f.params.toList s.vars apart W args.toList ds gs before)
    (hres : ∀ (b : Nat) (sp : Nat → Bool) (hd : Bool), DataW.TrodAll enc P W' b sp hd f.resultTypes.toList (v.resultList f.resultTypes.size) (s.fn H (ds ++ gs)).results [])
    (hargs : ∀ sp : Nat → Bool, (∀ p ∈ before, sp p.block = true) → DataW.TrodAll enc P W' 0 sp true f.params.toList args.toList (s.fn H (ds ++ gs)).args pa)
    (hvars : ∀ sp : Nat → Bool, (∀ p ∈ before, sp p.block = true) → DataW.TrodVars enc P W' sp s.vars (s.fn H (ds ++ gs)).vars pv)
    (hps : before = pa ++ pv) (hb : Below W.heap.size W W')
    (hok : ∀ (j : Nat) (t : TypeId) (r : Value), f.resultTypes[j]? = some t → (v.resultList f.resultTypes.size)[j]? = some r → Value.okWide P W' .any 0 t r) :
    s.post enc P f apart fresh handsOn again W args v W' := by
  have hlt : ∀ p ∈ before, p.block < W.heap.size := fun p hp => hW.lt p hp
  have hold : ∀ p ∈ before, (fun b => decide (b < W.heap.size)) p.block = true := fun p hp => by simpa using hlt p hp
  refine ⟨ds, gs, before, [], pa, pv, hW, hres _ _ _, hargs _ hold, hvars _ hold, World.keptBut_mono (fun p hp => ⟨hp, ?_⟩) (hb.frame (· ∈ before)), fun _ => ?_⟩
  · rw [hps, List.mem_append] at hp
    exact Or.inr hp
  · obtain ⟨_, _, _, _, _, hz, hn⟩ := hW
    refine ⟨hok, _, _, ([] ++ pa) ++ pv, ⟨[] ++ pa, pv, trodAll_append (hargs _ (fun _ _ => rfl)) (hres _ _ _), hvars _ (fun _ _ => rfl), rfl, ?_, ?_⟩, ?_⟩
    · intro b off hp
      have hin : MemPlace.cell b off ∈ before := by rw [hps]; simpa using hp
      rw [hb.frozen (hlt _ hin)]
      exact hz b off hin
    · intro ha
      have := hn ha
      rw [hps] at this
      simpa using this
    · intro p hp _
      rw [hps]
      simpa using hp
end
theorem Kp.below0 {w w' : World} (h : Kp [] w w') : Below w.heap.size w w' := h.below (Nat.le_refl _) (by simp)
end Go.Proofs.YtapboamjpilckaaDoor
/- The row's last step, where the arguments read as they did (out of 'Below' alone). -/
namespace Go.Proofs.YtapboamjpilckaaDoor
open Go.RowKit Go.WideShapes Go.ChangeShapes

section
variable {H : Type} {enc : TypeId × Value → H} {P : Program}
theorem trodAll_stays (hl : laidOutB P = true) {W W' : World} {sp' : Nat → Bool} : ∀ {ts : List TypeId} {vs : List Value} {ds : List (DataW H)} {ps : List MemPlace}, ts.all (fun t => P.readableRec t && decide (t < P.types.size)) = true →
    DataW.TrodAll enc P W 0 (fun _ => true) true ts vs ds ps → (∀ p ∈ ps, W.sameAt W' p) → (∀ p ∈ ps, sp' p.block = true) → DataW.TrodAll enc P W' 0 sp' true ts vs ds ps
  | [], [], [], _, _, h, _, _ => h
  | t :: ts, v :: vs, d :: ds, _, hr, ⟨p, q, h1, h2, e⟩, hm, hs => by
    simp only [List.all_cons, Bool.and_eq_true, decide_eq_true_eq] at hr
    exact ⟨p, q, WideElems.Trod_stays hl hr.1.1 hr.1.2 h1 (fun x hx => hm x (by rw [e]; exact List.mem_append_left _ hx)) (fun x hx => hs x (by rw [e]; exact List.mem_append_left _ hx)),
      trodAll_stays hl hr.2 h2 (fun x hx => hm x (by rw [e]; exact List.mem_append_right _ hx)) (fun x hx => hs x (by rw [e]; exact List.mem_append_right _ hx)), e⟩

theorem post_kept {f : Func} {s : ChangeSpec} {apart fresh handsOn again : Bool} {W W' : World} {args : Array Value} {v : Value} {ds gs : List (DataW H)} {before : List MemPlace}
    (hl : laidOutB P = true) (hr : f.params.toList.all (fun t => P.readableRec t && decide (t < P.types.size)) = true) (hsv : s.vars = [])
    (hW : DataW.Whole enc P f.params.toList s.vars apart W args.toList ds gs before)
    (hres : ∀ (b : Nat) (sp : Nat → Bool) (hd : Bool), DataW.TrodAll enc P W' b sp hd f.resultTypes.toList (v.resultList f.resultTypes.size) (s.fn H (ds ++ gs)).results [])
    (hfa : (s.fn H (ds ++ gs)).args = ds) (hfv : (s.fn H (ds ++ gs)).vars = []) (hb : Below W.heap.size W W')
    (hok : ∀ (j : Nat) (t : TypeId) (r : Value), f.resultTypes[j]? = some t → (v.resultList f.resultTypes.size)[j]? = some r → Value.okWide P W' .any 0 t r) :
    s.post enc P f apart fresh handsOn again W args v W' := by
  have hlt : ∀ p ∈ before, p.block < W.heap.size := fun p hp => hW.lt p hp
  have hW2 := hW
  obtain ⟨p, q, hA, hV, rfl, hz, hn⟩ := hW2
  rw [hsv] at hV
  obtain ⟨rfl, rfl⟩ := trodVars_none hV
  refine post_below (pa := p) (pv := []) hW hres (fun sp hs => ?_) (fun sp hs => ?_) rfl hb hok
  · rw [hfa]
    exact trodAll_stays hl hr hA (fun x hx => hb.same (hlt x (List.mem_append_left _ hx))) (fun x hx => hs x (List.mem_append_left _ hx))
  · rw [hsv, hfv]; exact rfl
end
theorem laid_out : laidOutB Tryd.prog = true := by kernel_rfl
end Go.Proofs.YtapboamjpilckaaDoor
