/- Several texts in one: EeM, EeN, EeOpen, Post, PostKept. -/
import Derived.Test.YtdmdnphbheomoaaRows
import Derived.ProofKit
import Derived.OpenShut
import Derived.Carry
import Derived.JoinedCond
import Derived.Test.YtdmdnphbheomoaaP5
set_option linter.unusedVariables false
set_option linter.unusedSimpArgs false
set_option maxRecDepth 100000
set_option maxHeartbeats 8000000
namespace Go.Proofs.Ytdmdnphbheomoaa
/- EntryEach: its third loop; all of it. -/
section
open Go.RowKit Go.Shelf
structure FT (a : Act) (gL gR gN gW gA : Nat) : Prop where
  z : a.tmps.size = 193
  o3 : Sl a 3 (.pointer (some ⟨gL, 0, none⟩))
  o4 : Sl a 4 (.pointer (some ⟨gR, 0, none⟩))
  o6 : Sl a 6 (.pointer (some ⟨gN, 0, none⟩))
  o7 : Sl a 7 (.pointer (some ⟨gW, 0, none⟩))
  o10 : Sl a 10 (.func (.func 58) #[] #[.pointer (some ⟨gA, 0, none⟩)])
theorem FT.same {a a' : Act} {gL gR gN gW gA : Nat} {ds : List Nat} (h : FT a gL gR gN gW gA) (hs : Same a a' ds) (hd : ([3, 4, 6, 7, 10].all fun d => !ds.contains d) = true) : FT a' gL gR gN gW gA := by
  simp only [List.all_cons, List.all_nil, Bool.and_true, Bool.and_eq_true, Bool.not_eq_true'] at hd
  obtain ⟨h3, h4, h6, h7, h10⟩ := hd
  exact ⟨hs.size.trans h.z, hs.keep _ _ h3 h.o3, hs.keep _ _ h4 h.o4, hs.keep _ _ h6 h.o6, hs.keep _ _ h7 h.o7, hs.keep _ _ h10 h.o10⟩
/-- What is held throughout the third loop. -/
abbrev L3 (gN gW : Nat) (els : List (Int × List UInt8)) (uN uW : Value) (wants : List Value) (gR gL : Nat) (lv : Int) (gA : Nat) (v : Value) (ys : List CtV) (R : List Res) : List Res :=
  nwL gN gW els uN uW wants (blkR gR 4 #[.bool false] :: blkR gL 3 #[.int .i64 lv] :: blkR gA 56 #[v] :: rowR 24 2 v ys.length (ctC ys) :: R)
theorem l3_ea {w W : World} {gN gW : Nat} {els : List (Int × List UInt8)} {uN uW : Value} {wants : List Value} {gR gL : Nat} {lv : Int} {gA : Nat} {v : Value} {ys : List CtV} {R : List Res} (S : Held w W (L3 gN gW els uN uW wants gR gL lv gA v ys R)) (hR : (ctR ys).Sublist R) : Held w W (eaL gA v ys) :=
  S.drop.drop.drop.drop.drop.drop.some_of (List.Sublist.cons_cons _ (List.Sublist.cons_cons _ hR))
set_option maxRecDepth 100000 in
theorem ecc_b10 {Q : Exit → Act → World → Prop} {a : Act} {w : World} {rl nn : Nat} (w0 : World) (A : Option Addr) (n c : Nat) (hn : n ≤ 1073741824) (xs : List Value) (L : List Res) (F : Act → Prop) (hF : ∀ a a', F a → Same a a' [150, 151, 152, 153, 154, 155, 16, 156, 157, 158] → F a') (hsz : a.tmps.size = 193) (h0 : F a) (o15 : Sl a 15 (.slice A n c)) (o16 : Sl a 16 (.int .i64 ((0 : Nat) : Int)))
    (S : Held w0 w (rowR 5 1 (.slice A n c) n xs :: L)) (hend : ∀ (a' : Act) (W : World) (xs' : List Value), a'.tmps.size = 193 → F a' → Sl a' 15 (.slice A n c) → Held w0 W (rowR 5 1 (.slice A n c) n xs' :: L) → Q .normal a' W) :
    (Code.block 10 (blockOf 10 Try.f7)).wpIn (Fence.wide.inRound rl) nn Try.prog Q a w := by
  refine wpIn_block ?_
  conv => arg 4; whnf
  refine wpIn_loop (fun a' w' => ∃ (k : Nat) (xs' : List Value), k ≤ n ∧ a'.tmps.size = 193 ∧ F a' ∧ Sl a' 15 (.slice A n c) ∧ Sl a' 16 (.int .i64 ((k : Nat) : Int)) ∧ Held w0 w' (rowR 5 1 (.slice A n c) n xs' :: L)) (fun a' _ => n - (intOf (a'.eval (.tmp 16))).toNat) ⟨0, xs, Nat.zero_le _, hsz, h0, o15, o16, S⟩ ?_
  clear hsz h0 o15 o16 S xs
  rintro a1 w1 ⟨k, xs, hk, hz1, h0, o15, o16, S⟩
  have e16 := o16.eval (by rw [hz1]; decide)
  refine wpIn_seq (wpIn_seq (ecc_r37 A n c k hz1 o15 o16 (fun a2 hs2 o153 => ?_)))
  have hz2 := hs2.size.trans hz1
  have o15 := hs2.keep 15 _ (by decide) o15
  have o16 := hs2.keep 16 _ (by decide) o16
  have h0 := hF _ _ h0 ⟨hs2.size, hs2.defers, fun d v hd => hs2.keep d v (by simp only [List.contains_cons, List.contains_nil, Bool.or_false, Bool.or_eq_false_iff] at hd ⊢; simp only [hd, and_self])⟩
  by_cases hlt : k < n
  · refine wpIn_cond_true ((o153.eval (by rw [hz2]; decide)).trans (by rw [decide_eq_true hlt])) (wpIn_skip ?_)
    simp only [Exit.then]
    obtain ⟨ge, c', he, -, -⟩ := ow_some (S.at_ (l1 := [])) (show 0 < n by omega)
    injection he with hA _ hc
    subst hA
    refine wpIn_seq (wpIn_block ?_)
    refine ecc_r39 w0 ge n c k hlt xs L S hz2 o15 o16 (fun a3 w3 hs3 h3 => ?_)
    obtain ⟨xs', S⟩ := h3
    have hz3 := hs3.size.trans hz2
    have o15 := hs3.keep 15 _ (by decide) o15
    have o16 := hs3.keep 16 _ (by decide) o16
    have h0 := hF _ _ h0 ⟨hs3.size, hs3.defers, fun d v hd => hs3.keep d v (by simp only [List.contains_cons, List.contains_nil, Bool.or_false, Bool.or_eq_false_iff] at hd ⊢; simp only [hd, and_self])⟩
    simp only [Exit.inBlock, Exit.then]
    refine ecc_r38 k (by omega) hz3 o16 (fun a4 hs4 o16 => ?_)
    have hz4 := hs4.size.trans hz3
    have o15 := hs4.keep 15 _ (by decide) o15
    have h0 := hF _ _ h0 ⟨hs4.size, hs4.defers, fun d v hd => hs4.keep d v (by simp only [List.contains_cons, List.contains_nil, Bool.or_false, Bool.or_eq_false_iff] at hd ⊢; simp only [hd, and_self])⟩
    refine ⟨⟨k + 1, xs', hlt, hz4, h0, o15, o16, S⟩, ?_⟩
    show n - (intOf _).toNat < n - (intOf _).toNat
    rw [e16, o16.eval (by rw [hz4]; decide)]
    simp only [intOf]; omega
  · refine wpIn_cond_false ((o153.eval (by rw [hz2]; decide)).trans (by rw [decide_eq_false hlt])) (wpIn_exit ?_)
    simp only [Exit.then, Exit.inBlock]
    exact hend _ _ xs hz2 h0 o15 S
set_option maxRecDepth 100000 in
set_option maxHeartbeats 8000000 in
theorem ecc_b6 {Q : Exit → Act → World → Prop} {a : Act} {w0 w : World} (gL gR gN gW gA : Nat) (els : List (Int × List UInt8)) (uN uW : Value) (wants : List Value) (lv : Int) (A : Option Addr) (c : Nat) (ys : List CtV) (hwl : wants.length = els.length) (hwa : Wan w0 els wants) (hels : elsE ys = els) (hok : EaOk ys) (hyl : ys.length ≤ 1000000) (hel : els.length ≤ 2000) (hle : ∀ e ∈ els, e.2.length ≤ 1073741824)
    (R0 : List Res) (hR0 : (ctR ys).Sublist R0) (gt0 : Nat) (F : FT a gL gR gN gW gA) (D : a.defers = []) (o12 : Sl a 12 (.pointer (some ⟨gt0, 0, none⟩))) (S : Held w0 w (blkR gt0 3 #[.int .i64 ((0 : Nat) : Int)] :: L3 gN gW els uN uW wants gR gL lv gA (.slice A ys.length c) ys R0))
    (hend : ∀ (a' : Act) (W : World) (ds : List Nat) (L : List Res), FT a' gL gR gN gW gA → a'.defers = ds.map markOf → ds.Nodup → (∀ D ∈ ds, obD D ∈ L) → Held w0 W (blkR gR 4 #[.bool false] :: L) → Q .normal a' W) :
    (Code.block 6 (blockOf 6 Try.f7)).wp Try.prog Q a w := by
  obtain ⟨AN, cN, rfl, -, -⟩ := ow_form (S.at_ (l1 := [_, _]))
  obtain ⟨AW, cW, rfl, -, -⟩ := ow_form (S.at_ (l1 := [_, _, _, _]))
  refine wp_block ?_
  conv => arg 2; whnf
  refine wp_loop_ghost (fun gh a wr => ∃ (t gt : Nat) (ds : List Nat) (R : List Res), gh + t = 3 ∧ FT a gL gR gN gW gA ∧ a.defers = ds.map markOf ∧ ds.Nodup ∧ (ctR ys).Sublist R ∧ (∀ D ∈ ds, obD D ∈ R) ∧ Sl a 12 (.pointer (some ⟨gt, 0, none⟩)) ∧ Held w0 wr (blkR gt 3 #[.int .i64 ((t : Nat) : Int)] :: L3 gN gW els (.slice AN els.length cN) (.slice AW els.length cW) wants gR gL lv gA (.slice A ys.length c) ys R)) 3 ⟨0, gt0, [], R0, rfl, F, D, List.nodup_nil, hR0, fun D hD => (by cases hD), o12, S⟩ ?_
  clear F D o12 S hR0 R0
  rintro gh a1 w1 ⟨t, gt, ds, R, hgt, F, D, hnd, hR, hds, o12, S⟩
  refine wp_seq (wp_seq (ecc_r28 gt t (S.at_ (l1 := [])) F.z o12 (fun a2 hs2 o122 => ?_)))
  have F := F.same hs2 (by decide)
  have o12 := hs2.keep 12 _ (by decide) o12
  have D := hs2.defers.trans D
  by_cases ht : t < 3
  · refine wp_cond_true ((o122.eval (by rw [F.z]; decide)).trans (by rw [decide_eq_true (by omega)])) (wp_skip ?_)
    simp only [Exit.then]
    refine wp_seq (wp_block ?_)
    refine wp_seq (ecc_r30 w0 _ S F.z (fun a3 wl hs3 h3 => ?_))
    obtain ⟨gk, o13, S⟩ := h3
    have F := F.same hs3 (by decide)
    have o12 := hs3.keep 12 _ (by decide) o12
    have D := hs3.defers.trans D
    refine wp_seq (wp_seq (ecc_r31 _ F.z F.o10 (fun a4 hs4 o125 => ?_)))
    have F := F.same hs4 (by decide)
    have o12 := hs4.keep 12 _ (by decide) o12
    have o13 := hs4.keep 13 _ (by decide) o13
    have D := hs4.defers.trans D
    clear hs2 hs3 hs4
    have hz4 := F.z
    have hwb := S.k.size
    have HC := Lib.hid (Cells.of S)
    have HL := Lib.hid (Low.of S)
    have HA : Held w0 wl (eaL gA (.slice A ys.length c) ys) := l3_ea S.drop.drop hR
    have HCA := Lib.hid (Cells.of HA)
    have hDn : wl.heap.size ∉ ds := fun hm => by
      have h1 := HL.out (obD wl.heap.size) (by have := hds _ hm; simp [this]) wl.heap.size (by simp [obD, objR])
      omega
    have hgkn : ∀ (k : Nat) (W : World) (o : Obj), Held w0 W (blkR gk 3 #[.int .i64 ((k : Nat) : Int)] :: blkR gt 3 #[.int .i64 ((t : Nat) : Int)] :: L3 gN gW els (.slice AN els.length cN) (.slice AW els.length cW) wants gR gL lv gA (.slice A ys.length c) ys R) → W.heap[wl.heap.size]? = some o → o.isCells = false → Held w0 W (objR wl.heap.size o :: blkR gk 3 #[.int .i64 ((k : Nat) : Int)] :: blkR gt 3 #[.int .i64 ((t : Nat) : Int)] :: L3 gN gW els (.slice AN els.length cN) (.slice AW els.length cW) wants gR gL lv gA (.slice A ys.length c) ys R) := fun k W o S' hD ho => S'.withObj hwb hD (Cells.not HC.out.tail.blk S' (Nat.le_refl _) hD ho)
    refine wp_block ?_
    refine wp_range (n := 3) (ps := #[126, 127]) (gf := 58) (lb := #[.pointer (some ⟨gA, 0, none⟩)]) (o125.eval (by rw [hz4]; decide)) (enters_of Try.func58 (by kernel_rfl) rfl) (encs := EX.encs) (Z := EX.Z w0 wl.heap.size gA (.slice A ys.length c) ys) (X := EX.X w0 wl.heap.size gA (.slice A ys.length c) ys) (S := fun xs => xs.length = (elsE ys).length) (Sp := fun _ => True) (N := (elsE ys).length) (ee_seq w0 gA A c ys hyl hok wl HA _) (fun x => (Held.stays hwb HCA.out.blk).and (stays_size _ _)) (fun _ => rfl)
      (fun pre W => (t = 0 → lv ≤ 0 ∨ (pre.length : Int) < lv) ∧ Held w0 W (blkR gk 3 #[.int .i64 ((pre.length : Nat) : Int)] :: blkR gt 3 #[.int .i64 ((t : Nat) : Int)] :: L3 gN gW els (.slice AN els.length cN) (.slice AW els.length cW) wants gR gL lv gA (.slice A ys.length c) ys R))
      (fun c' pre W => c' = .exit 8 ∧ t = 0 ∧ (pre.length : Int) = lv ∧ Held w0 W (blkR gk 3 #[.int .i64 ((pre.length : Nat) : Int)] :: blkR gt 3 #[.int .i64 ((t : Nat) : Int)] :: L3 gN gW els (.slice AN els.length cN) (.slice AW els.length cW) wants gR gL lv gA (.slice A ys.length c) ys R)) ?hI ?hIx ?h0
      (fun pre x W => els[pre.length]? = some (x.num, x.e) ∧ (t = 0 → lv ≤ 0 ∨ (pre.length : Int) < lv) ∧ Held w0 W (rowR 5 1 x.v x.e.length (bv x.e) :: blkR x.g 24 #[.int .i64 x.b.f, x.b.v] :: blkR gk 3 #[.int .i64 ((pre.length : Nat) : Int)] :: blkR gt 3 #[.int .i64 ((t : Nat) : Int)] :: L3 gN gW els (.slice AN els.length cN) (.slice AW els.length cW) wants gR gL lv gA (.slice A ys.length c) ys R)) ?hI' ?hprep
      (fun T pre x a' W => FT a' gL gR gN gW gA ∧ a'.defers = [] ∧ Sl a' 12 (.pointer (some ⟨gt, 0, none⟩)) ∧ Sl a' 13 (.pointer (some ⟨gk, 0, none⟩)) ∧ Sl a' 14 (.int .i64 x.num) ∧ Sl a' 15 x.v ∧ Held w0 W (rowR 5 1 x.v x.e.length (bv x.e) :: blkR x.g 24 #[.int .i64 x.b.f, x.b.v] :: blkR gk 3 #[.int .i64 ((pre.length : Nat) : Int)] :: blkR gt 3 #[.int .i64 ((t : Nat) : Int)] :: L3 gN gW els (.slice AN els.length cN) (.slice AW els.length cW) wants gR gL lv gA (.slice A ys.length c) ys R)) ?hA ?assign ?body ?done ?stop
    case hI => exact fun pre => (Stays.pure _ _).and (Held.stays hwb HC.out.tail.blk)
    case hIx => exact fun c pre => (Stays.pure _ _).and ((Stays.pure _ _).and ((Stays.pure _ _).and (Held.stays hwb HC.out.tail.blk)))
    case h0 => exact ⟨fun _ => by simp only [List.length_nil]; omega, S⟩
    case hI' => exact fun pre x => (Stays.pure _ _).and ((Stays.pure _ _).and (Held.stays hwb HC.out.tail.blk.blk.row))
    case hprep =>
      rintro pre x W0 W1 ⟨h1, S⟩ k ⟨hx, he, hg, T⟩ _
      rw [hels] at he
      have hb : ∀ b ∈ (blkR x.g 24 #[.int .i64 x.b.f, x.b.v]).fp, wl.heap.size ≤ b := fun b hb => by
        have : b = x.g := by simpa [blkR] using hb
        omega
      exact ⟨he, h1, hx w0 _ (S.also T (HL.out.same rfl) hb)⟩
    case hA => exact fun pre x a' => (Stays.pure _ _).and ((Stays.pure _ _).and ((Stays.pure _ _).and ((Stays.pure _ _).and ((Stays.pure _ _).and ((Stays.pure _ _).and (Held.stays hwb HC.out.tail.blk.blk.row))))))
    case assign =>
      rintro pre x W ⟨he, hlv2, S⟩ K hK
      have hfr : ((#[126, 127] : Array Nat).zip (EX.encs x)).foldl (fun t (p, v) => t.setIfInBounds p v) a4.tmps = (a4.tmps.setIfInBounds 126 (.int .i64 x.num)).setIfInBounds 127 x.v := by
        rw [← Array.foldl_toList, Array.toList_zip]
        rfl
      rw [hfr]
      clear hfr
      obtain ⟨a5, ha5⟩ : ∃ a5 : Act, ({ tmps := (a4.tmps.setIfInBounds 126 (.int .i64 x.num)).setIfInBounds 127 x.v, defers := [] } : Act) = a5 := ⟨_, rfl⟩
      rw [ha5]
      obtain ⟨hz5, D5, hkeep, o126, o127⟩ := same_range2 (by decide) a5 ha5.symm
      clear ha5
      have hz5 := hz5.trans hz4
      refine wpIn_seq (ecc_r32 _ hz5 o126 (fun a6 hs6 o14 => ?_))
      have hz6 := hs6.size.trans hz5
      refine ecc_r33 _ hz6 (hs6.keep 127 _ (by decide) o127) (fun a7 hs7 o15 => ?_)
      have hk7 : ∀ d v, ([14, 15, 126, 127].contains d) = false → Sl a4 d v → Sl a7 d v := fun d v hd h => by
        simp only [List.contains_cons, List.contains_nil, Bool.or_false, Bool.or_eq_false_iff] at hd
        exact hs7.keep d v (by simp only [List.contains_cons, List.contains_nil, Bool.or_false, hd]) (hs6.keep d v (by simp only [List.contains_cons, List.contains_nil, Bool.or_false, hd]) (hkeep d v (by simp only [List.contains_cons, List.contains_nil, Bool.or_false, hd]) h))
      exact hK _ _ (Kp.refl _ _) ⟨⟨hs7.size.trans hz6, hk7 3 _ (by decide) F.o3, hk7 4 _ (by decide) F.o4, hk7 6 _ (by decide) F.o6, hk7 7 _ (by decide) F.o7, hk7 10 _ (by decide) F.o10⟩, hs7.defers.trans (hs6.defers.trans D5), hk7 12 _ (by decide) o12, hk7 13 _ (by decide) o13, hs7.keep 14 _ (by decide) o14, o15, S⟩
    case body =>
      rintro pre x a5 W5 ⟨he, hlv2, S'⟩ ⟨F, D5, o12, o13, o14, o15, S⟩ hlen ⟨o, ho, hoc⟩ ⟨d, hd, hdc⟩
      clear S' D hz4
      obtain ⟨num, e, v, g, b⟩ := x
      simp only at he o14 o15 S
      have hx8 : pre.length < els.length := (List.getElem?_eq_some_iff.1 he).1
      obtain ⟨Av, cv, rfl, -, -⟩ := ow_form (S.at_ (l1 := []))
      obtain ⟨gy, cy, hN, -, -⟩ := ow_some (S.at_ (l1 := [_, _, _, _, _])) (show 0 < els.length by omega)
      obtain ⟨gz, cz, hW, -, -⟩ := ow_some (S.at_ (l1 := [_, _, _, _, _, _, _])) (show 0 < els.length by omega)
      obtain rfl : AN = some ⟨gy, 0, none⟩ := by injection hN
      obtain rfl : AW = some ⟨gz, 0, none⟩ := by injection hW
      clear hN hW
      have S := S.withTwo (HC.out.tail.blk.blk.row) hwb (show wl.heap.size ≤ wl.heap.size + 1 by omega) (Nat.le_refl _) (by omega) ho hoc hd hdc
      have hsz5 : wl.heap.size ≤ W5.heap.size := by
        have := (Array.getElem?_eq_some_iff.1 hd).1
        omega
      have Sd := S.kp ((Kp.refl [] W5).drew)
      obtain ⟨vw, hvw, hrw⟩ := hwa _ _ he
      have hcz : ∀ V, Kp [] W5.drew V → V.cell? ⟨gy, pre.length, none⟩ = some (.int .i64 num) := fun V kV => by
        have h1 := (Sd.kp kV).at_ (l1 := [_, _, _, _, _, _, _])
        have h2 := (show Ow V 2 1 (.slice (some ⟨gy, 0, none⟩) els.length cN) els.length (els.map fun e => (.int .i64 e.1 : Value)) from h1).cellAt pre.length (by omega)
        rw [List.getElem?_map, he] at h2
        exact h2
      have hcw : ∀ V, Kp [] W5.drew V → V.cell? ⟨gz, pre.length, none⟩ = some vw := fun V kV => by
        have h1 := (Sd.kp kV).at_ (l1 := [_, _, _, _, _, _, _, _, _])
        have h2 := (show Ow V 25 1 (.slice (some ⟨gz, 0, none⟩) els.length cW) els.length wants from h1).cellAt pre.length (by omega)
        rw [hvw] at h2
        exact h2
      refine wpIn_block ?_
      refine wpIn_seq (wpIn_seq (ecc_r34 gk gW gN gy gz pre.length els.length cN cW num e _ vw (Sd.at_ (l1 := [_, _, _, _])) (Sd.at_ (l1 := [_, _, _, _, _, _, _, _])) (Sd.at_ (l1 := [_, _, _, _, _, _])) (Lib.hid (by omega)) hcz hcw (Rd.of_own (show Ow W5.drew 5 1 (.slice Av e.length cv) e.length (bv e) from Sd.at_ (l1 := [_, _]))) (hrw _ Sd.k) F.z F.o6 F.o7 o13 o14 o15 (fun a6 W6 hs6 k6 o149 => ?_)))
      have F := F.same hs6 (by decide)
      have o12 := hs6.keep 12 _ (by decide) o12
      have o13 := hs6.keep 13 _ (by decide) o13
      have o15 := hs6.keep 15 _ (by decide) o15
      refine wpIn_cond_false (o149.eval (by rw [F.z]; decide)) (wpIn_skip ?_)
      simp only [Exit.then]
      have S := Sd.kp k6
      clear Sd hcz hcw hrw
      refine wpIn_seq (wpIn_seq (ecc_r36 F.z (fun a7 hs7 o16 => ?_)))
      have F := F.same hs7 (by decide)
      have o12 := hs7.keep 12 _ (by decide) o12
      have o13 := hs7.keep 13 _ (by decide) o13
      have o15 := hs7.keep 15 _ (by decide) o15
      have S := S.pull 2 rfl
      refine ecc_b10 w0 Av e.length cv (hle (num, e) (List.mem_of_getElem? he)) (bv e) _ (fun a => FT a gL gR gN gW gA ∧ Sl a 12 (.pointer (some ⟨gt, 0, none⟩)) ∧ Sl a 13 (.pointer (some ⟨gk, 0, none⟩))) (fun a a' h hs => ⟨h.1.same hs (by decide), hs.keep 12 _ (by decide) h.2.1, hs.keep 13 _ (by decide) h.2.2⟩) F.z ⟨F, o12, o13⟩ o15 o16 S (fun a8 W8 xs8 hz8 h8 o15 S => ?_)
      obtain ⟨F, o12, o13⟩ := h8
      simp only [Exit.then]
      have S := S.pull 4 rfl
      refine wpIn_seq (ecc_r40 w0 gk pre.length (by omega) _ S F.z o13 (fun a9 W9 hs9 S => ?_))
      have F := F.same hs9 (by decide)
      have o12 := hs9.keep 12 _ (by decide) o12
      have o13 := hs9.keep 13 _ (by decide) o13
      have hbl := S.at_ (l1 := [_, _, _, _, _, _, _, _, _, _, _])
      have hp1 : (pre ++ [(⟨num, e, .slice Av e.length cv, g, b⟩ : EX)]).length = pre.length + 1 := by rw [List.length_append, List.length_singleton]
      have hfin : ∀ W, Kp [] W9 W → Same2 (wl.heap.size + 1) wl.heap.size W5 W ∧ EX.Z w0 wl.heap.size gA (.slice A ys.length c) ys ⟨num, e, .slice Av e.length cv, g, b⟩ W ∧ Held w0 W (blkR gk 3 #[.int .i64 (((pre ++ [(⟨num, e, .slice Av e.length cv, g, b⟩ : EX)]).length : Nat) : Int)] :: blkR gt 3 #[.int .i64 ((t : Nat) : Int)] :: L3 gN gW els (.slice (some ⟨gy, 0, none⟩) els.length cN) (.slice (some ⟨gz, 0, none⟩) els.length cW) wants gR gL lv gA (.slice A ys.length c) ys R) := fun W kW => by
        rw [hp1]
        have S := S.kp kW
        have S := ((((((((((((((S.pull 13 rfl).pull 13 rfl).pull 13 rfl).pull 13 rfl).pull 13 rfl).pull 13 rfl).pull 13 rfl).pull 13 rfl).pull 13 rfl).pull 9 rfl).pull 13 rfl).pull 11 rfl).pull 13 rfl).pull 13 rfl)
        have h2 := S.same2 ho hd
        refine ⟨h2, ⟨?_, ?_⟩, S.drop.drop.drop.drop⟩
        · exact S.drop.drop.drop.some_of (List.Sublist.cons_cons _ (List.Sublist.cons _ (List.Sublist.cons _ (List.Sublist.cons _ (List.Sublist.cons _ (List.Sublist.cons _ (List.Sublist.cons _ (List.Sublist.cons _ (List.Sublist.cons _ (List.Sublist.cons_cons _ (List.Sublist.cons_cons _ hR)))))))))))
        · have h3 : W.heap[wl.heap.size]? = _ := h2.2.trans hd
          have := (Array.getElem?_eq_some_iff.1 h3).1
          omega
      by_cases ht0 : t = 0
      · refine wpIn_seq (ecc_r41Y gt gk gL t (pre.length + 1) lv (S.at_ (l1 := [_, _, _, _, _])) (S.at_ (l1 := [])) hbl (Lib.hid ht0) _ rfl F.z F.o3 o12 o13 (fun a10 W10 hs10 k10 o167 => ?_))
        obtain ⟨hf1, hf2, hf3⟩ := hfin W10 k10
        cases hq : (((pre.length + 1 : Nat) : Int) == lv)
        · refine wpIn_cond_false ((o167.eval (by rw [hs10.size, F.z]; decide)).trans (by rw [hq])) (wpIn_skip ?_)
          simp only [Exit.then, Exit.inBlock]
          refine ⟨hf1, hf2, fun _ => ?_, hf3⟩
          have h1 := ne_of_beq_false hq
          have h2 := hlv2 ht0
          rw [hp1]
          omega
        · refine wpIn_cond_true ((o167.eval (by rw [hs10.size, F.z]; decide)).trans (by rw [hq])) (wpIn_exit ?_)
          simp only [Exit.then, Exit.inBlock]
          exact ⟨hf1, rfl, ht0, by rw [hp1]; exact eq_of_beq hq, hf3⟩
      · refine wpIn_seq (ecc_r41N gt gk gL t (pre.length + 1) lv (S.at_ (l1 := [_, _, _, _, _])) (S.at_ (l1 := [])) hbl (Lib.hid ht0) F.z F.o3 o12 o13 (fun a10 W10 hs10 k10 o167 => ?_))
        obtain ⟨hf1, hf2, hf3⟩ := hfin W10 k10
        refine wpIn_cond_false (o167.eval (by rw [hs10.size, F.z]; decide)) (wpIn_skip ?_)
        simp only [Exit.then, Exit.inBlock]
        exact ⟨hf1, hf2, fun h => absurd h ht0, hf3⟩
    case done =>
      rintro xs W hxs ⟨hlv2, S⟩ hD
      rw [hels] at hxs
      rw [hxs] at S
      obtain ⟨a5, ha5⟩ : ∃ a5 : Act, ({ a4 with defers := markOf wl.heap.size :: a4.defers } : Act) = a5 := ⟨_, rfl⟩
      rw [ha5]
      have F5 : FT a5 gL gR gN gW gA := by rw [← ha5]; exact ⟨F.z, F.o3, F.o4, F.o6, F.o7, F.o10⟩
      have o12 : Sl a5 12 (.pointer (some ⟨gt, 0, none⟩)) := by rw [← ha5]; exact o12
      have o13 : Sl a5 13 (.pointer (some ⟨gk, 0, none⟩)) := by rw [← ha5]; exact o13
      have hD5 : a5.defers = (wl.heap.size :: ds).map markOf := by rw [← ha5]; show markOf wl.heap.size :: a4.defers = _; rw [D]; rfl
      clear ha5
      simp only [Exit.inBlock, Exit.then]
      have S := hgkn _ _ _ S hD rfl
      by_cases ht0 : t = 0
      · skip
        have hbk := S.at_ (l1 := [_])
        have hbt := S.at_ (l1 := [_, _])
        have hbw := S.at_ (l1 := [_, _, _, _, _])
        have hbl := S.at_ (l1 := [_, _, _, _, _, _, _, _])
        refine wp_seq (ecc_r42B gt gk gL t _ lv hbt hbk hbl gW els.length cW AW hbw (Lib.hid ⟨ht0, rfl⟩) F5.z F5.o3 F5.o7 o12 o13 (fun a6 W6 hs6 k6 o190 => ?_))
        have F := F5.same hs6 (by decide)
        have o12 := hs6.keep 12 _ (by decide) o12
        have S := S.kp k6
        refine wp_cond_false (o190.eval (by rw [F.z]; decide)) (wp_skip ?_)
        simp only [Exit.then, Exit.inBlock]
        refine wp_seq (wp_seq (ecc_r44 gt t (S.at_ (l1 := [_, _])) F.z o12 (fun a7 hs7 o191 => ?_)))
        have F := F.same hs7 (by decide)
        refine ecc_r45 w0 t _ S F.z o191 (fun a8 W8 hs8 h8 => ?_)
        obtain ⟨g8, o12, S⟩ := h8
        have F := F.same hs8 (by decide)
        simp only [Exit.then]
        refine ecc_r29 w0 g8 t (by omega) _ S F.z o12 (fun a9 W9 hs9 S => ?_)
        have o12 := hs9.keep 12 _ (by decide) o12
        have F := F.same hs9 (by decide)
        have S : Held w0 W9 (blkR g8 3 #[.int .i64 ((t + 1 : Nat) : Int)] :: L3 gN gW els (.slice AN els.length cN) (.slice AW els.length cW) wants gR gL lv gA (.slice A ys.length c) ys (obD wl.heap.size :: R)) := (((((((((((((S.pull 1 rfl).pull 11 rfl).pull 11 rfl).pull 11 rfl).pull 11 rfl).pull 11 rfl).pull 11 rfl).pull 11 rfl).pull 11 rfl).pull 9 rfl).pull 11 rfl).pull 11 rfl)).drop.drop
        exact ⟨gh - 1, by omega, t + 1, g8, wl.heap.size :: ds, obD wl.heap.size :: R, by omega, F, hs9.defers.trans (hs8.defers.trans (hs7.defers.trans (hs6.defers.trans hD5))), List.nodup_cons.2 ⟨hDn, hnd⟩, hR.trans (List.sublist_cons_self _ _), fun D hD => by
          rcases List.mem_cons.1 hD with rfl | h
          · exact List.mem_cons_self ..
          · exact List.mem_cons_of_mem _ (hds D h), o12, S⟩
      · skip
        have hbk := S.at_ (l1 := [_])
        have hbt := S.at_ (l1 := [_, _])
        have hbw := S.at_ (l1 := [_, _, _, _, _])
        have hbl := S.at_ (l1 := [_, _, _, _, _, _, _, _])
        refine wp_seq (ecc_r42A gt gk gL t _ lv hbt hbk hbl gW els.length cW AW hbw (Lib.hid ⟨by omega, rfl⟩) F5.z F5.o3 F5.o7 o12 o13 (fun a6 W6 hs6 k6 o190 => ?_))
        have F := F5.same hs6 (by decide)
        have o12 := hs6.keep 12 _ (by decide) o12
        have S := S.kp k6
        refine wp_cond_false (o190.eval (by rw [F.z]; decide)) (wp_skip ?_)
        simp only [Exit.then, Exit.inBlock]
        refine wp_seq (wp_seq (ecc_r44 gt t (S.at_ (l1 := [_, _])) F.z o12 (fun a7 hs7 o191 => ?_)))
        have F := F.same hs7 (by decide)
        refine ecc_r45 w0 t _ S F.z o191 (fun a8 W8 hs8 h8 => ?_)
        obtain ⟨g8, o12, S⟩ := h8
        have F := F.same hs8 (by decide)
        simp only [Exit.then]
        refine ecc_r29 w0 g8 t (by omega) _ S F.z o12 (fun a9 W9 hs9 S => ?_)
        have o12 := hs9.keep 12 _ (by decide) o12
        have F := F.same hs9 (by decide)
        have S : Held w0 W9 (blkR g8 3 #[.int .i64 ((t + 1 : Nat) : Int)] :: L3 gN gW els (.slice AN els.length cN) (.slice AW els.length cW) wants gR gL lv gA (.slice A ys.length c) ys (obD wl.heap.size :: R)) := (((((((((((((S.pull 1 rfl).pull 11 rfl).pull 11 rfl).pull 11 rfl).pull 11 rfl).pull 11 rfl).pull 11 rfl).pull 11 rfl).pull 11 rfl).pull 9 rfl).pull 11 rfl).pull 11 rfl)).drop.drop
        exact ⟨gh - 1, by omega, t + 1, g8, wl.heap.size :: ds, obD wl.heap.size :: R, by omega, F, hs9.defers.trans (hs8.defers.trans (hs7.defers.trans (hs6.defers.trans hD5))), List.nodup_cons.2 ⟨hDn, hnd⟩, hR.trans (List.sublist_cons_self _ _), fun D hD => by
          rcases List.mem_cons.1 hD with rfl | h
          · exact List.mem_cons_self ..
          · exact List.mem_cons_of_mem _ (hds D h), o12, S⟩
    case stop =>
      rintro c' pre W - ⟨rfl, ht0, hpl, S⟩ hD
      obtain ⟨a5, ha5⟩ : ∃ a5 : Act, ({ a4 with defers := markOf wl.heap.size :: a4.defers } : Act) = a5 := ⟨_, rfl⟩
      rw [ha5]
      have F5 : FT a5 gL gR gN gW gA := by rw [← ha5]; exact ⟨F.z, F.o3, F.o4, F.o6, F.o7, F.o10⟩
      have o12 : Sl a5 12 (.pointer (some ⟨gt, 0, none⟩)) := by rw [← ha5]; exact o12
      have o13 : Sl a5 13 (.pointer (some ⟨gk, 0, none⟩)) := by rw [← ha5]; exact o13
      have hD5 : a5.defers = (wl.heap.size :: ds).map markOf := by rw [← ha5]; show markOf wl.heap.size :: a4.defers = _; rw [D]; rfl
      clear ha5
      refine wp_exit ?_
      simp only [Exit.inBlock, Exit.then]
      have S := hgkn _ _ _ S hD rfl
      by_cases hpe : pre.length = els.length
      · skip
        have hbk := S.at_ (l1 := [_])
        have hbt := S.at_ (l1 := [_, _])
        have hbw := S.at_ (l1 := [_, _, _, _, _])
        have hbl := S.at_ (l1 := [_, _, _, _, _, _, _, _])
        refine wp_seq (ecc_r42B gt gk gL t _ lv hbt hbk hbl gW els.length cW AW hbw (Lib.hid ⟨ht0, hpe⟩) F5.z F5.o3 F5.o7 o12 o13 (fun a6 W6 hs6 k6 o190 => ?_))
        have F := F5.same hs6 (by decide)
        have o12 := hs6.keep 12 _ (by decide) o12
        have S := S.kp k6
        refine wp_cond_false (o190.eval (by rw [F.z]; decide)) (wp_skip ?_)
        simp only [Exit.then, Exit.inBlock]
        refine wp_seq (wp_seq (ecc_r44 gt t (S.at_ (l1 := [_, _])) F.z o12 (fun a7 hs7 o191 => ?_)))
        have F := F.same hs7 (by decide)
        refine ecc_r45 w0 t _ S F.z o191 (fun a8 W8 hs8 h8 => ?_)
        obtain ⟨g8, o12, S⟩ := h8
        have F := F.same hs8 (by decide)
        simp only [Exit.then]
        refine ecc_r29 w0 g8 t (by omega) _ S F.z o12 (fun a9 W9 hs9 S => ?_)
        have o12 := hs9.keep 12 _ (by decide) o12
        have F := F.same hs9 (by decide)
        have S : Held w0 W9 (blkR g8 3 #[.int .i64 ((t + 1 : Nat) : Int)] :: L3 gN gW els (.slice AN els.length cN) (.slice AW els.length cW) wants gR gL lv gA (.slice A ys.length c) ys (obD wl.heap.size :: R)) := (((((((((((((S.pull 1 rfl).pull 11 rfl).pull 11 rfl).pull 11 rfl).pull 11 rfl).pull 11 rfl).pull 11 rfl).pull 11 rfl).pull 11 rfl).pull 9 rfl).pull 11 rfl).pull 11 rfl)).drop.drop
        exact ⟨gh - 1, by omega, t + 1, g8, wl.heap.size :: ds, obD wl.heap.size :: R, by omega, F, hs9.defers.trans (hs8.defers.trans (hs7.defers.trans (hs6.defers.trans hD5))), List.nodup_cons.2 ⟨hDn, hnd⟩, hR.trans (List.sublist_cons_self _ _), fun D hD => by
          rcases List.mem_cons.1 hD with rfl | h
          · exact List.mem_cons_self ..
          · exact List.mem_cons_of_mem _ (hds D h), o12, S⟩
      · skip
        have hbk := S.at_ (l1 := [_])
        have hbt := S.at_ (l1 := [_, _])
        have hbw := S.at_ (l1 := [_, _, _, _, _])
        have hbl := S.at_ (l1 := [_, _, _, _, _, _, _, _])
        refine wp_seq (ecc_r42C gt gk gL t _ lv hbt hbk hbl gW els.length cW AW hbw (Lib.hid ⟨ht0, hpe, hpl⟩) F5.z F5.o3 F5.o7 o12 o13 (fun a6 W6 hs6 k6 o190 => ?_))
        have F := F5.same hs6 (by decide)
        have o12 := hs6.keep 12 _ (by decide) o12
        have S := S.kp k6
        refine wp_cond_false (o190.eval (by rw [F.z]; decide)) (wp_skip ?_)
        simp only [Exit.then, Exit.inBlock]
        refine wp_seq (wp_seq (ecc_r44 gt t (S.at_ (l1 := [_, _])) F.z o12 (fun a7 hs7 o191 => ?_)))
        have F := F.same hs7 (by decide)
        refine ecc_r45 w0 t _ S F.z o191 (fun a8 W8 hs8 h8 => ?_)
        obtain ⟨g8, o12, S⟩ := h8
        have F := F.same hs8 (by decide)
        simp only [Exit.then]
        refine ecc_r29 w0 g8 t (by omega) _ S F.z o12 (fun a9 W9 hs9 S => ?_)
        have o12 := hs9.keep 12 _ (by decide) o12
        have F := F.same hs9 (by decide)
        have S : Held w0 W9 (blkR g8 3 #[.int .i64 ((t + 1 : Nat) : Int)] :: L3 gN gW els (.slice AN els.length cN) (.slice AW els.length cW) wants gR gL lv gA (.slice A ys.length c) ys (obD wl.heap.size :: R)) := (((((((((((((S.pull 1 rfl).pull 11 rfl).pull 11 rfl).pull 11 rfl).pull 11 rfl).pull 11 rfl).pull 11 rfl).pull 11 rfl).pull 11 rfl).pull 9 rfl).pull 11 rfl).pull 11 rfl)).drop.drop
        exact ⟨gh - 1, by omega, t + 1, g8, wl.heap.size :: ds, obD wl.heap.size :: R, by omega, F, hs9.defers.trans (hs8.defers.trans (hs7.defers.trans (hs6.defers.trans hD5))), List.nodup_cons.2 ⟨hDn, hnd⟩, hR.trans (List.sublist_cons_self _ _), fun D hD => by
          rcases List.mem_cons.1 hD with rfl | h
          · exact List.mem_cons_self ..
          · exact List.mem_cons_of_mem _ (hds D h), o12, S⟩
  · refine wp_cond_false ((o122.eval (by rw [F.z]; decide)).trans (by rw [decide_eq_false (by omega)])) (wp_exit ?_)
    simp only [Exit.then, Exit.inBlock]
    have S := S.pull 5 rfl
    exact hend _ _ ds _ F D hnd (fun D hD => by have := hds D hD; simp [this]) S
end
/- EntryEach, all of it. -/
section
open Go.RowKit Go.Shelf
theorem okL_any {l : List BtV} {i : Nat} {p : Int × List (List UInt8)} (h : (okL l)[i]? = some p) : ∃ x ∈ l, p = (x.f, x.L) ∧ chk x.f x.L = 0 := by
  have h1 := List.mem_of_getElem? h
  simp only [okL, List.mem_map, List.mem_filter, beq_iff_eq] at h1
  obtain ⟨x, ⟨h2, h3⟩, h4⟩ := h1
  exact ⟨x, h2, h4.symm, h3⟩
theorem elsO_mem {l : List BtV} {p : Int × List UInt8} (h : p ∈ elsO (okL l)) : ∃ x ∈ l, p.2 ∈ x.L := by
  simp only [elsO, List.mem_flatMap, List.mem_map, List.mem_range] at h
  obtain ⟨b, h1, j, h2, h3⟩ := h
  obtain ⟨i, hi, he⟩ := List.mem_iff_getElem.1 h1
  obtain ⟨x, hx, e, -⟩ := okL_any (l := l) (i := i) (p := b) (by rw [List.getElem?_eq_getElem hi, he])
  refine ⟨x, hx, ?_⟩
  subst e
  subst h3
  simp only at h2 ⊢
  rw [List.getD_eq_getElem?_getD, List.getElem?_eq_getElem h2]
  exact List.getElem_mem h2
/-- What is lent, as batches. -/
def lzB (zs : List LZ) : List BtV := zs.map fun z => ⟨z.1.f, some ⟨z.2.1, 0, none⟩, z.2.2.1, z.1.L⟩
theorem okL_lzB (zs : List LZ) : okL (lzB zs) = okL (zs.map (·.1)) := by
  induction zs with
  | nil => rfl
  | cons z zs ih =>
    by_cases h : chk z.1.f z.1.L = 0
    · simp only [okL, lzB, List.map_cons, List.filter_cons, h] at ih ⊢
      simpa using ih
    · simp only [okL, lzB, List.map_cons, List.filter_cons, h] at ih ⊢
      simpa [h] using ih
set_option maxRecDepth 100000 in
set_option maxHeartbeats 8000000 in
theorem entryeach_any (A : Option Addr) (c : Nat) (l : List BtV) (lv : Int) (w : World) (hf : BtsF w A l) (hB : ∀ x ∈ l, ∀ e ∈ x.L, e.length ≤ 1073741824) :
    Calls Try.prog 7 #[.slice A l.length c, .int .i64 lv] w fun e w' => e = .returned (.bool true) ∧ Kp [] w w' := by
  refine calls_mfr Try.func7 rfl 193 rfl (fun a0 hz0 hdf hAr => ?_)
  have D := hdf
  have o0 := hAr 0 _ rfl
  have o1 := hAr 1 _ rfl
  have hret : ∀ (a : Act) (W : World) (gR : Nat) (ds : List Nat) (L : List Res), a.tmps.size = 193 → a.defers = ds.map markOf → Sl a 4 (.pointer (some ⟨gR, 0, none⟩)) → ds.Nodup → (∀ D ∈ ds, obD D ∈ L) → Held w W (blkR gR 4 #[.bool true] :: L) → bodyPostM Fence.wide 3 Try.prog Try.f7 (fun e w' => e = .returned (.bool true) ∧ Kp [] w w') .ret a W := by
    intro a W gR ds L hza hda o4 hnd hds S
    have hm : ∀ D ∈ ds, W.heap[D]? = some (.deferred (some [])) ∧ w.heap.size ≤ D := fun D hD =>
      ⟨S.ok (obD D) (List.mem_cons_of_mem _ (hds D hD)), S.base (obD D) (List.mem_cons_of_mem _ (hds D hD)) D (by simp [obD, objR])⟩
    have hbk := S.at_ (l1 := [])
    refine ret_marks ds hda hnd (fun D hD => (hm D hD).1) (fun V hk => ?_)
    have hbk2 := Blk.kp hbk hk (fun hmm => by
      have h1 := (hm _ hmm).1
      have h2 : W.heap[gR]? = _ := hbk
      rw [h1] at h2
      cases h2)
    have h8 : a.tmps[4]?.getD undef = .pointer (some ⟨gR, 0, none⟩) := by rw [← Array.getD_eq_getD_getElem?]; exact o4.eval (by rw [hza]; decide)
    have hc5 : V.cell? ⟨gR, 0, none⟩ = some (.bool true) := hbk2.cell 0
    refine ⟨.bool true, ?_, rfl, S.k.trans hk (fun g hg => .inr (hm g hg).2)⟩
    simp [results, Try.f7, go_sem, h8, hc5]
  refine wp_seq (ecc_r0 w lv [] (Held.start w) hz0 o1 (fun a1 w1 hs1 h1 => ?_))
  obtain ⟨gL, gR, o3, o4, S⟩ := h1
  have hz1 := hs1.size.trans hz0
  have o0 := hs1.keep 0 _ (by decide) o0
  have D := hs1.defers.trans D
  refine wp_seq (wp_seq (ecc_r1 A l.length c hz1 o0 (fun a2 hs2 o19 => ?_)))
  have hz2 := hs2.size.trans hz1
  have o0 := hs2.keep 0 _ (by decide) o0
  have o3 := hs2.keep 3 _ (by decide) o3
  have o4 := hs2.keep 4 _ (by decide) o4
  have D := hs2.defers.trans D
  by_cases hll : l.length ≤ 20
  · refine wp_cond_false ((o19.eval (by rw [hz2]; decide)).trans (by rw [decide_eq_false (by omega)])) (wp_skip ?_)
    simp only [Exit.then]
    refine wp_seq (ecc_r3 hz2 (fun a3 hs3 o5 => ?_))
    have hz3 := hs3.size.trans hz2
    refine wp_seq (ecc_r4 w _ S hz3 (fun a4 w4 hs4 h4 => ?_))
    obtain ⟨gN, o6, S⟩ := h4
    have hz4 := hs4.size.trans hz3
    refine wp_seq (ecc_r5 w _ S hz4 (fun a5 w5 hs5 h5 => ?_))
    obtain ⟨gW, o7, S⟩ := h5
    have hz5 := hs5.size.trans hz4
    have F : FE a5 (.slice A l.length c) gL gR gN gW (.slice none 0 0) := ⟨hz5, hs5.defers.trans (hs4.defers.trans (hs3.defers.trans D)), hs5.keep 0 _ (by decide) (hs4.keep 0 _ (by decide) (hs3.keep 0 _ (by decide) o0)), hs5.keep 3 _ (by decide) (hs4.keep 3 _ (by decide) (hs3.keep 3 _ (by decide) o3)), hs5.keep 4 _ (by decide) (hs4.keep 4 _ (by decide) (hs3.keep 4 _ (by decide) o4)), hs5.keep 5 _ (by decide) (hs4.keep 5 _ (by decide) o5), hs5.keep 6 _ (by decide) o6, o7⟩
    have SN : NW w w5 gN gW [] [blkR gR 4 #[.bool false], blkR gL 3 #[.int .i64 lv]] := by
      have r1 : Ow w5 25 1 (.slice none 0 0) 0 [] := World.ownsRow_nil _ _ _ _
      have S := S.rownew r1 (Kp.refl [] w5) (fun g hg => by cases hg)
      have r2 : Ow w5 2 1 (.slice none 0 0) 0 [] := World.ownsRow_nil _ _ _ _
      have S := S.rownew r2 (Kp.refl [] w5) (fun g hg => by cases hg)
      have S := (((S.pull 1 rfl).pull 2 rfl).pull 2 rfl).pull 3 rfl
      exact ⟨_, _, [], rfl, fun j e h => by simp at h, S⟩
    clear S
    refine wp_seq (wp_seq (ecc_r6 hz5 (fun a6 hs6 o8 => ?_)))
    have F := F.same hs6 (by decide)
    refine ecc_b0 A c l hll hf lv gL gR gN gW F o8 SN (fun a' W L u F S => hret a' W gR [] L F.z F.D F.o4 List.nodup_nil (fun D hD => by cases hD) S) (fun a7 w7 zs u hzk hzs h50 F SN => ?_)
    simp only [Exit.then]
    obtain ⟨uN, uW, wants, hwl, hwa, S⟩ := SN
    have hzl : zs.length = l.length := by rw [← hzs, List.length_map]
    obtain ⟨Am, cm, rfl, -, -⟩ := ow_form (S.at_ (l1 := [_, _, _, _]))
    have hbl : (lzB zs).length = l.length := by rw [lzB, List.length_map, hzl]
    have hbt : BtsF w7 Am (lzB zs) := fun k x hx => by
      rw [lzB, List.getElem?_map] at hx
      obtain ⟨z, hz, rfl⟩ : ∃ z, zs[k]? = some z ∧ _ = x := by
        cases h : zs[k]? with
        | none => rw [h] at hx; cases hx
        | some z => rw [h] at hx; exact ⟨z, rfl, Option.some.inj hx⟩
      have hkl : k < zs.length := (List.getElem?_eq_some_iff.1 hz).1
      have hzl2 : l[k]? = some z.1 := by rw [← hzs, List.getElem?_map, hz]; rfl
      obtain ⟨ga, ca, he, -, -⟩ := ow_some (S.at_ (l1 := [_, _, _, _])) (show 0 < l.length by omega)
      obtain rfl : Am = some ⟨ga, 0, none⟩ := by injection he
      refine ⟨⟨ga, 0, none⟩, rfl, fun j u hu => ?_, ?_⟩
      · obtain ⟨h1, h2⟩ := lzC_get hz
        rw [add_of_add]
        obtain ⟨-, A', c', he, -, -, -, h5⟩ := Rd.of_own (show Ow w7 24 2 (.slice (some ⟨ga, 0, none⟩) l.length cm) l.length (lzC zs) from S.at_ (l1 := [_, _, _, _]))
        cases he
        refine h5 _ rfl _ _ ?_
        rcases j with _ | j
        · cases hu; exact h1
        rcases j with _ | j
        · cases hu; exact h2
        · cases hu
      · obtain ⟨-, -, -, hok⟩ := hf k z.1 hzl2
        refine ⟨?_, hok.hf, hok.hl, hok.hb⟩
        have hml : ∀ r, r ∈ lentL z.2 z.1.L → r ∈ lzR zs := fun r hr => List.mem_flatMap.2 ⟨z, List.mem_of_getElem? hz, hr⟩
        exact (Lent.of (M := z.2.2.2.2) (hzk z (List.mem_of_getElem? hz)) (S.drop.drop.drop.drop.drop.drop.drop) (hml _ (by simp [lentL])) (hml _ (by simp [lentL])) (fun r hr => hml r (by simp [lentL, hr]))).txs
    have HE := each_any Am cm (lzB zs) (by omega) w7 hbt
    rw [hbl] at HE
    refine wp_seq (ecc_r17 _ (fun gA w' => ∃ v ys, ys.map (fun y : CtV => (y.f, y.L)) = okL (lzB zs) ∧ ys.length ≤ (lzB zs).length ∧ Held w7 w' (blkR gA 56 #[v] :: rowR 24 2 v ys.length (ctC ys) :: ctR ys)) (HE.mono (fun e w' h => by obtain ⟨gA, v, ys, h1, h2, h3, h4⟩ := h; exact ⟨gA, h1, v, ys, h2, by rw [hbl]; exact h3, h4⟩)) F.z F.o5 (fun a8 w8 hs8 h8 => ?_))
    obtain ⟨gA, o10, v, ys, hys, hyl, T⟩ := h8
    have F := F.same hs8 (by decide)
    obtain ⟨Ay, cy, rfl, -, -⟩ := ow_form (T.at_ (l1 := [_]))
    have S := S.join T
    clear T HE
    refine wp_seq (wp_seq (ecc_r18 gA F.z o10 (fun a9 hs9 o92 => ?_)))
    have F := F.same hs9 (by decide)
    have o10 := hs9.keep 10 _ (by decide) o10
    refine wp_cond_false (o92.eval (by rw [F.z]; decide)) (wp_skip ?_)
    simp only [Exit.then]
    refine wp_seq (wp_seq (ecc_r20 F.z (fun a10 hs10 o11 => ?_)))
    have F := F.same hs10 (by decide)
    have o10 := hs10.keep 10 _ (by decide) o10
    have S : Held w w8 (rowR 24 2 (.slice Am l.length cm) l.length (lzC zs) :: (lzR zs ++ L3 gN gW (elsO (okL l)) uN uW wants gR gL lv gA (.slice Ay ys.length cy) ys (ctR ys))) := by
      have S1 := S.pull 4 rfl
      have S2 : Held w w8 ((rowR 24 2 (.slice Am l.length cm) l.length (lzC zs) :: blkR gN 57 #[uN] :: rowR 2 1 uN (elsO (okL l)).length ((elsO (okL l)).map fun e => (.int .i64 e.1 : Value)) :: blkR gW 22 #[uW] :: rowR 25 1 uW (elsO (okL l)).length wants :: blkR gR 4 #[.bool false] :: [blkR gL 3 #[.int .i64 lv]]) ++ (lzR zs ++ (blkR gA 56 #[.slice Ay ys.length cy] :: rowR 24 2 (.slice Ay ys.length cy) ys.length (ctC ys) :: ctR ys))) := S1
      refine S2.perm ?_
      refine List.Perm.cons _ ?_
      exact List.perm_append_comm_assoc (blkR gN 57 #[uN] :: rowR 2 1 uN (elsO (okL l)).length ((elsO (okL l)).map fun e => (.int .i64 e.1 : Value)) :: blkR gW 22 #[uW] :: rowR 25 1 uW (elsO (okL l)).length wants :: blkR gR 4 #[.bool false] :: [blkR gL 3 #[.int .i64 lv]]) (lzR zs) _
    refine ecc_b4 A c l hll hf (fun x hx => ⟨h50 x hx, hB x hx⟩) gL gR gN gW _ _ zs hzk hzs _ F o10 o11 S (fun a11 w11 F o10 S => ?_)
    simp only [Exit.then]
    have hels : elsE ys = elsO (okL l) := by rw [elsE_elsO, hys, okL_lzB, hzs]
    have hok : EaOk ys := fun i y hy => by
      have h1 : (okL l)[i]? = some (y.f, y.L) := by rw [← hzs, ← okL_lzB, ← hys, List.getElem?_map, hy]; rfl
      obtain ⟨x, hx, e, h0⟩ := okL_any h1
      obtain ⟨e1, e2⟩ := Prod.mk.inj e
      rw [e1, e2]
      obtain ⟨h2, h3, h4, -⟩ := chk0 h0
      exact ⟨h2, by omega, fun e he => Nat.le_trans (hB x hx e he) (by decide)⟩
    refine wp_seq (wp_seq (ecc_r27 w _ S F.z (fun a12 w12 hs12 h12 => ?_)))
    obtain ⟨gt, o12, S⟩ := h12
    have F := F.same hs12 (by decide)
    have o10 := hs12.keep 10 _ (by decide) o10
    have hel := elsO_len h50
    refine ecc_b6 gL gR gN gW gA (elsO (okL l)) uN uW wants lv Ay cy ys hwl hwa hels hok (by omega) (by omega) (fun e he => by obtain ⟨x, hx, h1⟩ := elsO_mem he; exact hB x hx _ h1) _ (List.Sublist.refl _) gt ⟨F.z, F.o3, F.o4, F.o6, F.o7, o10⟩ F.D o12 S (fun a13 w13 ds L F D hnd hds S => ?_)
    simp only [Exit.then]
    refine wp_seq (ecc_r46 w gR _ _ S F.z F.o4 (fun a14 w14 hs14 S => ?_))
    refine wp_ret ?_
    exact hret _ _ gR ds L (hs14.size.trans F.z) (hs14.defers.trans D) (hs14.keep 4 _ (by decide) F.o4) hnd hds S
  · refine wp_cond_true ((o19.eval (by rw [hz2]; decide)).trans (by rw [decide_eq_true (by omega)])) ?_
    refine wp_seq (ecc_r2 w gR _ _ S hz2 o4 (fun a3 w3 hs3 S => ?_))
    refine wp_ret ?_
    simp only [Exit.then, Exit.inBlock]
    exact hret _ _ gR [] _ (hs3.size.trans hz2) (hs3.defers.trans D) (hs3.keep 4 _ (by decide) o4) List.nodup_nil (fun D hD => by cases hD) S
end
/- EntryEach: its batches, opened. -/
section
open Go.RowKit Go.WideShapes Go.ChangeShapes
section
variable {H : Type} {enc : TypeId × Value → H}
theorem Try.cellsBatchE : Try.prog.cellsOf 24 = 2 := by kernel_rfl
theorem Try.cellsInt64E : Try.prog.cellsOf 2 = 1 := by kernel_rfl
theorem Try.cellsTextsE : Try.prog.cellsOf 22 = 1 := by kernel_rfl
set_option maxRecDepth 100000 in
theorem open_bt {W : World} {n : Nat} {cs : List Value} {x : DataW H × List MemPlace} (h : DataW.trod enc Try.prog W 0 (fun _ => true) true n 24 cs = some x) :
    ∃ v : BtV, cs = v.C.toList ∧ Txs W (.slice v.A v.L.length v.c) v.L ∧ (-9223372036854775808 ≤ v.f ∧ v.f ≤ 9223372036854775807) ∧ TxsLe v.L (Rows.uptoBulk x.1) := by
  obtain ⟨xs, k, rfl, rfl, hl, hxl, hf⟩ := DataW.trod_struct Try.underlying24 h
  rw [Try.cellsBatchE] at hl
  obtain ⟨x0, x1, rfl⟩ : ∃ x0 x1, xs = [x0, x1] := by
    match xs, hxl with
    | [x0, x1], _ => exact ⟨x0, x1, rfl⟩
  have f0 : DataW.trod enc Try.prog W 0 (fun _ => true) true k 2 ((cs.drop 0).take (Try.prog.cellsOf 2)) = some x0 := hf 0 _ rfl
  have f1 : DataW.trod enc Try.prog W 0 (fun _ => true) true k 22 ((cs.drop 1).take (Try.prog.cellsOf 22)) = some x1 := hf 1 _ rfl
  rw [Try.cellsInt64E] at f0
  rw [Try.cellsTextsE] at f1
  clear hf hxl
  obtain ⟨a, b, rfl⟩ : ∃ a b, cs = [a, b] := by
    match cs, hl with
    | [a, b], _ => exact ⟨a, b, rfl⟩
  obtain ⟨f, e0, _, w0⟩ := DataW.trod_int Try.underlying2 f0
  have g0 := at_of_cut (i := 0) e0
  cases g0
  obtain ⟨L, hT, hL⟩ := open_texts (v := b) f1
  obtain ⟨A, c, rfl, -, -⟩ := hT.open_
  refine ⟨⟨f, A, c, L⟩, rfl, hT, i64_lit w0, hL.le ?_⟩
  simp only [List.map_cons, List.map_nil, Rows.uptoBulk, Rows.uptoBulkAll]
  omega
set_option maxRecDepth 100000 in
theorem open_bts {W : World} {n : Nat} {v : Value} {x : DataW H × List MemPlace} (h : DataW.trod enc Try.prog W 0 (fun _ => true) true n 56 [v] = some x) (hb : Rows.uptoBulk x.1 ≤ 1048576) :
    ∃ (A : Option Addr) (c : Nat) (l : List BtV), v = .slice A l.length c ∧ BtsF W A l ∧ ∀ x ∈ l, ∀ e ∈ x.L, e.length ≤ 1073741824 := by
  rcases Deep.open_slice Try.underlying56 h with ⟨hv, rfl⟩ | ⟨a, len, cap, m, k, D, Pl, hv, _, hl, hm, hmm, rfl, hel⟩
  · cases hv
    exact ⟨none, 0, [], rfl, (fun i x hx => by simp at hx), fun x hx => by cases hx⟩
  · cases hv
    simp only [if_true] at hmm
    rw [bulk_slice, bulk_range] at hb
    obtain ⟨G, hG⟩ := Deep.choose_lt (α := Option BtV) (n := len) (p := fun i o => ∃ q, o = some q ∧ (∀ j u, q.C.toList[j]? = some u → W.cell? ((a.add (i * 2)).add j) = some u) ∧ BtOk W q ∧ ∀ e ∈ q.L, e.length ≤ 1073741824) (fun i hi => by
      obtain ⟨cs, h1, h2⟩ := hel i (by omega)
      rw [Try.cellsBatchE] at h1
      obtain ⟨q, rfl, hT, hf, hL⟩ := open_bt h2
      obtain ⟨_, hlen, hcell⟩ := World.cells?_some h1
      have hL := hL.le (c := 1048576) (by
        have h9 : Rows.uptoBulk (D i) ≤ sumTo (fun i => Rows.uptoBulk (D i)) len := sumTo_at (f := fun i => Rows.uptoBulk (D i)) hi
        show Rows.uptoBulk (D i) ≤ _
        omega)
      exact ⟨some q, q, rfl, (fun j u hu => by rw [hcell j (by have := (List.getElem?_eq_some_iff.1 hu).1; simpa [BtV.C] using this)]; exact hu), ⟨hT, hf, by have := hL.n; omega, fun e he => by have := hL.each e he; omega⟩, fun e he => by have := hL.each e he; omega⟩)
    have hll : ((List.range len).map fun i => (G i).getD ⟨0, none, 0, []⟩).length = len := by simp
    have hat : ∀ i x, ((List.range len).map fun i => (G i).getD ⟨0, none, 0, []⟩)[i]? = some x → (∀ j u, x.C.toList[j]? = some u → W.cell? ((a.add (i * 2)).add j) = some u) ∧ BtOk W x ∧ ∀ e ∈ x.L, e.length ≤ 1073741824 := fun i x hx => by
      have hi : i < len := by have := (List.getElem?_eq_some_iff.1 hx).1; rwa [hll] at this
      rw [List.getElem?_map, List.getElem?_range hi] at hx
      obtain ⟨q, hq, h1, h2, h3⟩ := hG i hi
      simp only [Option.map_some, hq, Option.getD_some, Option.some.injEq] at hx
      subst hx
      exact ⟨h1, h2, h3⟩
    refine ⟨some a, cap, (List.range len).map fun i => (G i).getD ⟨0, none, 0, []⟩, by rw [hll], fun i x hx => ?_, fun x hx => ?_⟩
    · obtain ⟨h1, h2, -⟩ := hat i x hx
      exact ⟨a, rfl, h1, h2⟩
    · obtain ⟨i, hi, he⟩ := List.mem_iff_getElem.1 hx
      exact (hat i x (by rw [List.getElem?_eq_getElem hi, he])).2.2
end
theorem each15_upto (w : World) (A : Option Addr) (c : Nat) (l : List BtV) (hf : BtsF w A l) (hB : ∀ x ∈ l, ∀ e ∈ x.L, e.length ≤ 1073741824) (lv : Int) (_hlv : -9223372036854775808 ≤ lv ∧ lv ≤ 9223372036854775807) :
    Calls Try.prog 7 #[.slice A l.length c, .int .i64 lv] w fun r w' => r = .returned (.bool true) ∧ Kp [] w w' :=
  entryeach_any A c l lv w hf hB
end
/- The row's last step, where a walk has left 'Below' of the world it began in. -/
section
open Go.RowKit Go.WideShapes Go.ChangeShapes

theorem own_knob : ownKnob Try.prog.godebug = none := by kernel_rfl

section
variable {H : Type} {enc : TypeId × Value → H} {P : Program}
/-- 'post_of_same' for a world of which 'Below' alone is known (old cells and old marks are as they were). -/
theorem post_below {f : Func} {s : ChangeSpec} {apart fresh handsOn again : Bool} {W W' : World} {args : Array Value} {v : Value} {ds gs : List (DataW H)} {before pa pv : List MemPlace}
    (hW : DataW.Whole enc P f.params.toList s.vars apart W args.toList ds gs before)
    (hres : ∀ (b : Nat) (sp : Nat → Bool) (hd : Bool), DataW.TrodAll enc P W' b sp hd f.resultTypes.toList (v.resultList f.resultTypes.size) (s.fn H (ds ++ gs)).results [])
    (hargs : ∀ sp : Nat → Bool, (∀ p ∈ before, sp p.block = true) → DataW.TrodAll enc P W' 0 sp true f.params.toList args.toList (s.fn H (ds ++ gs)).args pa)
    (hvars : ∀ sp : Nat → Bool, (∀ p ∈ before, sp p.block = true) → DataW.TrodVars enc P W' sp s.vars (s.fn H (ds ++ gs)).vars pv)
    (hps : before = pa ++ pv) (hb : Below W.heap.size W W')
    (hok : ∀ (j : Nat) (t : TypeId) (r : Value), f.resultTypes[j]? = some t → (v.resultList f.resultTypes.size)[j]? = some r → Value.okWide P W' .any 0 t r) :
    s.post enc P f apart fresh handsOn again W args v W' := by
  have hlt : ∀ p ∈ before, p.block < W.heap.size := fun p hp => hW.lt p hp
  have hold : ∀ p ∈ before, (fun b => decide (b < W.heap.size)) p.block = true := fun p hp => by simpa using hlt p hp
  refine ⟨ds, gs, before, [], pa, pv, hW, hres _ _ _, hargs _ hold, hvars _ hold, World.keptBut_mono (fun p hp => ⟨hp, ?_⟩) (hb.frame (· ∈ before)), fun _ => ?_⟩
  · rw [hps, List.mem_append] at hp
    exact Or.inr hp
  · obtain ⟨_, _, _, _, _, hz, hn⟩ := hW
    refine ⟨hok, _, _, ([] ++ pa) ++ pv, ⟨[] ++ pa, pv, trodAll_append (hargs _ (fun _ _ => rfl)) (hres _ _ _), hvars _ (fun _ _ => rfl), rfl, ?_, ?_⟩, ?_⟩
    · intro b off hp
      have hin : MemPlace.cell b off ∈ before := by rw [hps]; simpa using hp
      rw [hb.frozen (hlt _ hin)]
      exact hz b off hin
    · intro ha
      have := hn ha
      rw [hps] at this
      simpa using this
    · intro p hp _
      rw [hps]
      simpa using hp
end
theorem Kp.below0 {w w' : World} (h : Kp [] w w') : Below w.heap.size w w' := h.below (Nat.le_refl _) (by simp)
end
/- The row's last step, where the arguments read as they did (out of 'Below' alone). -/
section
open Go.RowKit Go.WideShapes Go.ChangeShapes

section
variable {H : Type} {enc : TypeId × Value → H} {P : Program}
theorem trodAll_stays (hl : laidOutB P = true) {W W' : World} {sp' : Nat → Bool} : ∀ {ts : List TypeId} {vs : List Value} {ds : List (DataW H)} {ps : List MemPlace}, ts.all (fun t => P.readableRec t && decide (t < P.types.size)) = true →
    DataW.TrodAll enc P W 0 (fun _ => true) true ts vs ds ps → (∀ p ∈ ps, W.sameAt W' p) → (∀ p ∈ ps, sp' p.block = true) → DataW.TrodAll enc P W' 0 sp' true ts vs ds ps
  | [], [], [], _, _, h, _, _ => h
  | t :: ts, v :: vs, d :: ds, _, hr, ⟨p, q, h1, h2, e⟩, hm, hs => by
    simp only [List.all_cons, Bool.and_eq_true, decide_eq_true_eq] at hr
    exact ⟨p, q, WideElems.Trod_stays hl hr.1.1 hr.1.2 h1 (fun x hx => hm x (by rw [e]; exact List.mem_append_left _ hx)) (fun x hx => hs x (by rw [e]; exact List.mem_append_left _ hx)),
      trodAll_stays hl hr.2 h2 (fun x hx => hm x (by rw [e]; exact List.mem_append_right _ hx)) (fun x hx => hs x (by rw [e]; exact List.mem_append_right _ hx)), e⟩

theorem post_kept {f : Func} {s : ChangeSpec} {apart fresh handsOn again : Bool} {W W' : World} {args : Array Value} {v : Value} {ds gs : List (DataW H)} {before : List MemPlace}
    (hl : laidOutB P = true) (hr : f.params.toList.all (fun t => P.readableRec t && decide (t < P.types.size)) = true) (hsv : s.vars = [])
    (hW : DataW.Whole enc P f.params.toList s.vars apart W args.toList ds gs before)
    (hres : ∀ (b : Nat) (sp : Nat → Bool) (hd : Bool), DataW.TrodAll enc P W' b sp hd f.resultTypes.toList (v.resultList f.resultTypes.size) (s.fn H (ds ++ gs)).results [])
    (hfa : (s.fn H (ds ++ gs)).args = ds) (hfv : (s.fn H (ds ++ gs)).vars = []) (hb : Below W.heap.size W W')
    (hok : ∀ (j : Nat) (t : TypeId) (r : Value), f.resultTypes[j]? = some t → (v.resultList f.resultTypes.size)[j]? = some r → Value.okWide P W' .any 0 t r) :
    s.post enc P f apart fresh handsOn again W args v W' := by
  have hlt : ∀ p ∈ before, p.block < W.heap.size := fun p hp => hW.lt p hp
  have hW2 := hW
  obtain ⟨p, q, hA, hV, rfl, hz, hn⟩ := hW2
  rw [hsv] at hV
  obtain ⟨rfl, rfl⟩ := trodVars_none hV
  refine post_below (pa := p) (pv := []) hW hres (fun sp hs => ?_) (fun sp hs => ?_) rfl hb hok
  · rw [hfa]
    exact trodAll_stays hl hr hA (fun x hx => hb.same (hlt x (List.mem_append_left _ hx))) (fun x hx => hs x (List.mem_append_left _ hx))
  · rw [hsv, hfv]; exact rfl
end
theorem laid_out : laidOutB Try.prog = true := by kernel_rfl
end
end Go.Proofs.Ytdmdnphbheomoaa
