/- Several texts in one: CpH, CpI, CpJ, Open, CpOpen, Post, PostKept. -/
import Derived.ProofKit
import Derived.OpenShut
import Derived.Deep.Slices
import Derived.JoinedCond
import Derived.Carry
import Derived.SizedLaws
import Derived.Test.YtgldgkdnnimglaaRows
import Derived.Test.YtgldgkdnnimglaaP5
set_option linter.unusedVariables false
set_option linter.unusedSimpArgs false
set_option maxRecDepth 100000
set_option maxHeartbeats 8000000
namespace Go.Proofs.Ytgldgkdnnimglaa
/- CrcParts: its switch, its inner loops. -/
section
open Go.RowKit Go.Shelf
abbrev txR (A : Option Addr) (c : Nat) (b : List UInt8) : Res := rowR 5 1 (.slice A b.length c) b.length (bv b)
/-- What the law holds: both Sums, both texts (rows among R); number ko's first. -/
structure St2 (w0 W : World) (gO gT ko m : Nat) (X R : List Res) (cs ts : Array Value) (p : Nat) (v : Value) (b : List UInt8) (A : Option Addr) (c : Nat) (q : Nat) (u : Value) (d : List UInt8) (B : Option Addr) (e : Nat) : Prop where
  hcs : cs.size = 2
  hts : ts.size = 2
  cp : cs[ko]? = some (.pointer (some ⟨p, 0, none⟩))
  cq : cs[1 - ko]? = some (.pointer (some ⟨q, 0, none⟩))
  tp : ts[ko]? = some (.slice A b.length c)
  tq : ts[1 - ko]? = some (.slice B d.length e)
  rp : txR A c b ∈ R
  rq : txR B e d ∈ R
  lb : b.length ≤ m
  ld : d.length ≤ m
  S : Held w0 W (X ++ (blkR gO 49 cs :: blkR gT 50 ts :: sumsR p v b :: sumsR q u d :: R))
def Stt (w0 W : World) (gO gT m : Nat) (X : List Res) : Prop := ∃ R cs ts p v b A c q u d B e, St2 w0 W gO gT 0 m X R cs ts p v b A c q u d B e
theorem St2.flip {w0 W : World} {gO gT ko m : Nat} {X R : List Res} {cs ts : Array Value} {p : Nat} {v : Value} {b : List UInt8} {A : Option Addr} {c : Nat} {q : Nat} {u : Value} {d : List UInt8} {B : Option Addr} {e : Nat} (h : St2 w0 W gO gT ko m X R cs ts p v b A c q u d B e) (hk : ko < 2) : St2 w0 W gO gT (1 - ko) m X R cs ts q u d B e p v b A c :=
  have e1 : 1 - (1 - ko) = ko := by omega
  ⟨h.hcs, h.hts, h.cq, by rw [e1]; exact h.cp, h.tq, by rw [e1]; exact h.tp, h.rq, h.rp, h.ld, h.lb, h.S.perm (List.Perm.append_left X ((List.Perm.swap _ _ _).cons _ |>.cons _))⟩
theorem St2.st {w0 W : World} {gO gT ko m : Nat} {X R : List Res} {cs ts : Array Value} {p : Nat} {v : Value} {b : List UInt8} {A : Option Addr} {c : Nat} {q : Nat} {u : Value} {d : List UInt8} {B : Option Addr} {e : Nat} (h : St2 w0 W gO gT ko m X R cs ts p v b A c q u d B e) (hk : ko < 2) : Stt w0 W gO gT m X := by
  rcases (show ko = 0 ∨ ko = 1 by omega) with rfl | rfl
  · exact ⟨_, _, _, _, _, _, _, _, _, _, _, _, _, h⟩
  · exact ⟨_, _, _, _, _, _, _, _, _, _, _, _, _, h.flip (by omega)⟩
theorem Stt.pick {w0 W : World} {gO gT m : Nat} {X : List Res} (h : Stt w0 W gO gT m X) (ko : Nat) (hk : ko < 2) : ∃ R cs ts p v b A c q u d B e, St2 w0 W gO gT ko m X R cs ts p v b A c q u d B e := by
  obtain ⟨R, cs, ts, p, v, b, A, c, q, u, d, B, e, h⟩ := h
  rcases (show ko = 0 ∨ ko = 1 by omega) with rfl | rfl
  · exact ⟨_, _, _, _, _, _, _, _, _, _, _, _, _, h⟩
  · exact ⟨_, _, _, _, _, _, _, _, _, _, _, _, _, h.flip (by omega)⟩
theorem Stt.kp {w0 W W' : World} {gO gT m : Nat} {X : List Res} (h : Stt w0 W gO gT m X) (k : Kp [] W W') : Stt w0 W' gO gT m X := by
  obtain ⟨R, cs, ts, p, v, b, A, c, q, u, d, B, e, h⟩ := h
  exact ⟨R, cs, ts, p, v, b, A, c, q, u, d, B, e, h.hcs, h.hts, h.cp, h.cq, h.tp, h.tq, h.rp, h.rq, h.lb, h.ld, h.S.kp k⟩
/-- Another prefix. -/
theorem Stt.pre {w0 W : World} {gO gT m : Nat} {X Y : List Res} (h : Stt w0 W gO gT m X) (hY : ∀ L, Held w0 W (X ++ L) → Held w0 W (Y ++ L)) : Stt w0 W gO gT m Y := by
  obtain ⟨R, cs, ts, p, v, b, A, c, q, u, d, B, e, h⟩ := h
  exact ⟨R, cs, ts, p, v, b, A, c, q, u, d, B, e, h.hcs, h.hts, h.cp, h.cq, h.tp, h.tq, h.rp, h.rq, h.lb, h.ld, hY _ h.S⟩
structure FM (a : Act) (s0 : Value) (gO gT m k g7 : Nat) (xv yv : Value) : Prop where
  z : a.tmps.size = 269
  D : a.defers = []
  o0 : Sl a 0 s0
  o3 : Sl a 3 (.pointer (some ⟨gO, 0, none⟩))
  o4 : Sl a 4 (.pointer (some ⟨gT, 0, none⟩))
  o5 : Sl a 5 (.int .i64 ((m : Nat) : Int))
  o6 : Sl a 6 (.int .i64 ((k : Nat) : Int))
  o7 : Sl a 7 (.pointer (some ⟨g7, 0, none⟩))
  o9 : Sl a 9 xv
  o10 : Sl a 10 yv
theorem FM.same {a a' : Act} {s0 : Value} {gO gT m k g7 : Nat} {xv yv : Value} {ds : List Nat} (h : FM a s0 gO gT m k g7 xv yv) (hs : Same a a' ds) (hd : ([0, 3, 4, 5, 6, 7, 9, 10].all fun d => !ds.contains d) = true) : FM a' s0 gO gT m k g7 xv yv := by
  simp only [List.all_cons, List.all_nil, Bool.and_true, Bool.and_eq_true, Bool.not_eq_true'] at hd
  obtain ⟨h0, h3, h4, h5, h6, h7, h9, h10⟩ := hd
  exact ⟨hs.size.trans h.z, hs.defers.trans h.D, hs.keep _ _ h0 h.o0, hs.keep _ _ h3 h.o3, hs.keep _ _ h4 h.o4, hs.keep _ _ h5 h.o5, hs.keep _ _ h6 h.o6, hs.keep _ _ h7 h.o7, hs.keep _ _ h9 h.o9, hs.keep _ _ h10 h.o10⟩
/-- All that pieces wants. -/
theorem Held.forPieces {w0 W : World} {gS gN p : Nat} {z : Int} {v : Value} {b : List UInt8} {A : Option Addr} {c : Nat} {L : List Res} (S : Held w0 W (blkR gS 47 #[.pointer (some ⟨p, 0, none⟩)] :: blkR gN 3 #[.int .i64 z] :: sumsR p v b :: L)) (hr : txR A c b ∈ L) :
    Held w0 W (allL gS gN p z v b ++ [rowR 5 1 (.slice A b.length c) b.length (bv b)]) := by
  obtain ⟨L1, L2, rfl⟩ := List.append_of_mem hr
  have S := (((S.pull 2 rfl).split).pull 3 rfl).pull 3 rfl
  refine S.some_of ?_
  show List.Sublist (blkR gS 47 #[.pointer (some ⟨p, 0, none⟩)] :: blkR gN 3 #[.int .i64 z] :: blkR p 66 #[.int .i64 b.length, v] :: rowR 23 1 v b.length (smv b) :: [rowR 5 1 (.slice A b.length c) b.length (bv b)]) _
  refine List.Sublist.cons_cons _ (List.Sublist.cons_cons _ (List.Sublist.cons_cons _ (List.Sublist.cons_cons _ ?_)))
  exact List.singleton_sublist.2 (by simp)
/-- Range of a Sums, any numbers. -/
theorem s_range_all (p : Nat) (v : Value) (bs : List UInt8) (ix jx : Int) (hb : bs.length ≤ 1000000) (w : World) (h : Sm w p v bs) :
    Calls Try.prog 36 #[.pointer (some ⟨p, 0, none⟩), .int .i64 ix, .int .i64 jx] w fun e w' => e = .returned (.tuple #[.int .u32 ((if 0 ≤ ix ∧ ix ≤ jx ∧ jx ≤ bs.length then crc ((bs.drop ix.toNat).take (jx.toNat - ix.toNat)) else 0 : Nat) : Int), .bool (decide (0 ≤ ix ∧ ix ≤ jx ∧ jx ≤ bs.length))]) ∧ Kp [] w w' := by
  by_cases h1 : 0 ≤ ix ∧ ix ≤ jx ∧ jx ≤ bs.length
  · rw [if_pos h1, decide_eq_true h1]
    obtain ⟨i, rfl⟩ : ∃ i : Nat, ix = i := ⟨ix.toNat, by omega⟩
    obtain ⟨j, rfl⟩ : ∃ j : Nat, jx = j := ⟨jx.toNat, by omega⟩
    exact s_range p v bs i j (by omega) (by omega) (by omega) w h
  · rw [if_neg h1, decide_eq_false h1]
    refine (s_range_no p v bs ix jx (by omega) w h).mono ?_
    rintro e w' ⟨rfl, rfl⟩
    exact ⟨rfl, Kp.refl _ _⟩
set_option maxRecDepth 100000 in
theorem pmn_b3 {Q : Exit → Act → World → Prop} {a : Act} {w0 w : World} (s0 : Value) (gO gT m kk g7 gx nx cx : Nat) (hnx : nx ≤ 1000000) (yv : Value) (zs : List UInt8) (hzl : zs.length = nx + 2) (L : List Res) (F : FM a s0 gO gT m kk g7 (.slice (some ⟨gx, 0, none⟩) nx cx) yv) (o17 : Sl a 17 (.int .i64 ((0 : Nat) : Int)))
    (S : Held w0 w (rowR 5 1 (.slice (some ⟨gx, 0, none⟩) (nx + 2) cx) (nx + 2) (bv zs) :: L))
    (hend : ∀ (a' : Act) (W : World) (ys : List UInt8), FM a' s0 gO gT m kk g7 (.slice (some ⟨gx, 0, none⟩) nx cx) yv → Held w0 W (rowR 5 1 (.slice (some ⟨gx, 0, none⟩) (nx + 2) cx) (nx + 2) (bv ys) :: L) → Q .normal a' W) : (Code.block 3 (blockOf 3 Try.f10)).wp Try.prog Q a w := by
  refine wp_block ?_
  conv => arg 2; whnf
  refine wp_loop (fun a' w' => ∃ (x : Nat) (ys : List UInt8), x ≤ nx ∧ ys.length = nx + 2 ∧ FM a' s0 gO gT m kk g7 (.slice (some ⟨gx, 0, none⟩) nx cx) yv ∧ Sl a' 17 (.int .i64 ((x : Nat) : Int)) ∧ Held w0 w' (rowR 5 1 (.slice (some ⟨gx, 0, none⟩) (nx + 2) cx) (nx + 2) (bv ys) :: L)) (fun a' _ => nx - (intOf (a'.eval (.tmp 17))).toNat) ⟨0, zs, Nat.zero_le _, hzl, F, o17, S⟩ ?_
  clear F o17 S hzl
  rintro a1 w1 ⟨x, ys, hx, hyl, F, o17, S⟩
  have e17 := o17.eval (by rw [F.z]; decide)
  refine wp_seq (wp_seq (pmn_r44 gx nx cx x F.z F.o9 o17 (fun a2 hs2 o218 => ?_)))
  have F := F.same hs2 (by decide)
  have o17 := hs2.keep 17 _ (by decide) o17
  by_cases hlt : x < nx
  · refine wp_cond_true ((o218.eval (by rw [F.z]; decide)).trans (by rw [decide_eq_true hlt])) (wp_skip ?_)
    simp only [Exit.then]
    refine wp_seq (wp_block ?_)
    refine pmn_r46 w0 gx nx cx x hlt ys hyl _ S F.z F.o9 o17 (fun a3 w3 hs3 _ h3 => ?_)
    obtain ⟨ys2, hyl2, S⟩ := h3
    have F := F.same hs3 (by decide)
    have o17 := hs3.keep 17 _ (by decide) o17
    simp only [Exit.inBlock, Exit.then]
    refine pmn_r45 x (by omega) F.z o17 (fun a4 hs4 o17 => ?_)
    have F := F.same hs4 (by decide)
    refine ⟨⟨x + 1, ys2, hlt, hyl2, F, o17, S⟩, ?_⟩
    show nx - (intOf _).toNat < nx - (intOf _).toNat
    rw [e17, o17.eval (by rw [F.z]; decide)]
    simp only [intOf]; omega
  · refine wp_cond_false ((o218.eval (by rw [F.z]; decide)).trans (by rw [decide_eq_false hlt])) (wp_exit ?_)
    simp only [Exit.then, Exit.inBlock]
    exact hend _ _ ys F S
set_option maxRecDepth 100000 in
theorem pmn_b5 {Q : Exit → Act → World → Prop} {a : Act} {w0 w : World} (s0 : Value) (gO gT m kk g7 : Nat) (hm : m ≤ 100000) (xv yv : Value) (F : FM a s0 gO gT m kk g7 xv yv) (o18 : Sl a 18 (.int .i64 ((0 : Nat) : Int)))
    (S : Stt w0 w gO gT m [])
    (hend : ∀ (a' : Act) (W : World), FM a' s0 gO gT m kk g7 xv yv → Stt w0 W gO gT m [] → Q .normal a' W) : (Code.block 5 (blockOf 5 Try.f10)).wp Try.prog Q a w := by
  refine wp_block ?_
  conv => arg 2; whnf
  refine wp_loop (fun a' w' => ∃ (x : Nat), x ≤ 2 ∧ FM a' s0 gO gT m kk g7 xv yv ∧ Sl a' 18 (.int .i64 ((x : Nat) : Int)) ∧ Stt w0 w' gO gT m []) (fun a' _ => 2 - (intOf (a'.eval (.tmp 18))).toNat) ⟨0, by omega, F, o18, S⟩ ?_
  clear F o18 S
  rintro a1 w1 ⟨x, hx, F, o18, S⟩
  have e18 := o18.eval (by rw [F.z]; decide)
  refine wp_seq (wp_seq (pmn_r48 x F.z o18 (fun a2 hs2 o230 => ?_)))
  have F := F.same hs2 (by decide)
  have o18 := hs2.keep 18 _ (by decide) o18
  by_cases hlt : x < 2
  · refine wp_cond_true ((o230.eval (by rw [F.z]; decide)).trans (by rw [decide_eq_true (by omega)])) (wp_skip ?_)
    simp only [Exit.then]
    obtain ⟨R, cs, ts, p, v, b, A, c, q, u, d, B, e, T⟩ := S.pick x hlt
    have T0 : Held w0 w1 (blkR gO 49 cs :: blkR gT 50 ts :: sumsR p v b :: sumsR q u d :: R) := T.S
    have hlb := T.lb
    have hSm : ∀ V, Kp [] w1 V → Sm V p v b := fun V kV => (T0.kp kV).at_ (l1 := [_, _])
    have hRd : ∀ V, Kp [] w1 V → Rd V 1 (.slice A b.length c) b.length (bv b) := fun V kV => Rd.of_own (show Ow V 5 1 (.slice A b.length c) b.length (bv b) from (T0.kp kV).ok (txR A c b) (by have := T.rp; simp [this]))
    have kd : ∀ V, Kp [] w1.drew V → Kp [] w1 V := fun V kV => ((Kp.refl [] w1).drew).trans kV (by simp)
    refine wp_seq (wp_block ?_)
    refine wp_seq (pmn_r50 ts cs gT gO p x hlt T.cp A b.length c T.tp ((T0.at_ (l1 := [])).drew) ((T0.at_ (l1 := [_])).drew) (crc b) (fun V kV => ?_) F.z F.o3 F.o4 o18 (fun a3 w3 hs3 k3 o19 o20 => ?_))
    · have h := s_range p v b 0 b.length (by omega) (by omega) (by omega) V (hSm V (kd V kV))
      rw [List.drop_zero, Nat.sub_zero, List.take_length] at h
      exact h
    have F := F.same hs3 (by decide)
    have o18 := hs3.keep 18 _ (by decide) o18
    have k3 := kd _ k3
    have T1 := T0.kp k3
    have kd3 : ∀ V, Kp [] w3.drew V → Kp [] w1 V := fun V kV => k3.trans (((Kp.refl [] w3).drew).trans kV (by simp)) (by simp)
    refine wp_seq (pmn_r51 ts cs gT gO p x hlt T.cp A b.length c T.tp ((T1.at_ (l1 := [])).drew) ((T1.at_ (l1 := [_])).drew) (crc b) (fun V kV => (s_len p v b V (hSm V (kd3 V kV))).mono (fun e w' h => ⟨h.1, by rw [← h.2]; exact Kp.refl _ _⟩)) (fun V kV => (rsum_any _ _ b V (hRd V (kd3 V kV))).mono (fun e w' h => ⟨h.1, by rw [← h.2]; exact Kp.refl _ _⟩)) F.z F.o3 F.o4 o18 o19 o20 (fun a4 w4 hs4 k4 o264 => ?_))
    have F := F.same hs4 (by decide)
    have o18 := hs4.keep 18 _ (by decide) o18
    have k4 := k3.trans (((Kp.refl [] w3).drew).trans k4 (by simp)) (by simp)
    refine wp_cond_false (o264.eval (by rw [F.z]; decide)) (wp_skip ?_)
    simp only [Exit.inBlock, Exit.then]
    refine pmn_r49 x (by omega) F.z o18 (fun a5 hs5 o18 => ?_)
    have F := F.same hs5 (by decide)
    refine ⟨⟨x + 1, by omega, F, o18, S.kp k4⟩, ?_⟩
    show 2 - (intOf _).toNat < 2 - (intOf _).toNat
    rw [e18, o18.eval (by rw [F.z]; decide)]
    simp only [intOf]; omega
  · refine wp_cond_false ((o230.eval (by rw [F.z]; decide)).trans (by rw [decide_eq_false (by omega)])) (wp_exit ?_)
    simp only [Exit.then, Exit.inBlock]
    exact hend _ _ F S
end
/- CrcParts: its switch. -/
section
open Go.RowKit Go.Shelf
theorem set2_self {ts : Array Value} {ko : Nat} {x : Value} (h : ts.size = 2) (hk : ko < 2) : (ts.setIfInBounds ko x)[ko]? = some x := by
  rw [Array.getElem?_setIfInBounds_self_of_lt (by omega)]
theorem set2_other {ts : Array Value} {ko j : Nat} {x : Value} (hj : ko ≠ j) : (ts.setIfInBounds ko x)[j]? = ts[j]? := Array.getElem?_setIfInBounds_ne hj
theorem row_le {w0 W : World} {L : List Res} {A : Option Addr} {c : Nat} {b : List UInt8} (S : Held w0 W L) (h : txR A c b ∈ L) : b.length ≤ c := by
  obtain ⟨_, _, he, h1, -⟩ := ow_form (show Ow W 5 1 (.slice A b.length c) b.length (bv b) from S.ok (txR A c b) h)
  cases he
  exact h1
set_option maxRecDepth 100000 in
set_option maxHeartbeats 4000000 in
theorem pmn_k0 {Q : Exit → Act → World → Prop} {a : Act} {w0 w : World} (s0 : Value) (gO gT ko m kk g7 : Nat) (hko : ko < 2) (kd on fr tq : Int) (AB AC : Option Addr) (nB cB nC cC : Nat) (bB bC : List UInt8) (gx cx gy cy gS gN : Nat) (hm : m ≤ 100000) (R : List Res) (cs ts : Array Value) (p : Nat) (v : Value) (b : List UInt8) (A : Option Addr) (c : Nat) (q : Nat) (u : Value) (d : List UInt8) (B : Option Addr) (e : Nat) (hbm : b.length + nB + nC ≤ m) (hlB : bB.length = nB) (hlC : bC.length = nC) (hvB : ∀ V, Kp [] w0 V → Rd V 1 (.slice AB nB cB) nB (bv bB)) (hvC : ∀ V, Kp [] w0 V → Rd V 1 (.slice AC nC cC) nC (bv bC))
    (F : FM a s0 gO gT m kk g7 (.slice (some ⟨gx, 0, none⟩) nB cx) (.slice (some ⟨gy, 0, none⟩) nC cy)) (o8 : Sl a 8 (.int .i64 ((ko : Nat) : Int))) (o11 : Sl a 11 (.func (.func 48) #[] #[.pointer (some ⟨gS, 0, none⟩), .pointer (some ⟨gN, 0, none⟩)]))
    (T : St2 w0 w gO gT ko m [blkR gS 47 #[.pointer (some ⟨p, 0, none⟩)], blkR gN 3 #[.int .i64 (if fr < 1 then 1 else fr)], rowR 5 1 (.slice (some ⟨gx, 0, none⟩) (nB + 2) cx) (nB + 2) (bv (bB ++ [165, 90])), rowR 5 1 (.slice (some ⟨gy, 0, none⟩) (nC + 2) cy) (nC + 2) (bv (bC ++ [165, 90])), blkR g7 52 #[.int .i64 kd, .int .i64 on, .int .i64 fr, .int .i64 tq, .slice AB nB cB, .slice AC nC cC]] R cs ts p v b A c q u d B e)
    (hend : ∀ (a' : Act) (W : World), FM a' s0 gO gT m kk g7 (.slice (some ⟨gx, 0, none⟩) nB cx) (.slice (some ⟨gy, 0, none⟩) nC cy) → Stt w0 W gO gT m [rowR 5 1 (.slice (some ⟨gx, 0, none⟩) (nB + 2) cx) (nB + 2) (bv (bB ++ [165, 90])), rowR 5 1 (.slice (some ⟨gy, 0, none⟩) (nC + 2) cy) (nC + 2) (bv (bC ++ [165, 90])), blkR g7 52 #[.int .i64 kd, .int .i64 on, .int .i64 fr, .int .i64 tq, .slice AB nB cB, .slice AC nC cC]] → Q .normal a' W) :
    ((Code.seq (Code.seq (Code.region 18 (opsOf 18 Try.f10).toArray false) (Code.cond (.tmp 80) (Code.seq (Code.region 19 (opsOf 19 Try.f10).toArray false) .ret) .skip)) (Code.seq (Code.region 20 (opsOf 20 Try.f10).toArray true) (Code.seq (Code.region 21 (opsOf 21 Try.f10).toArray true) (Code.cond (.tmp 102) (Code.seq (Code.region 22 (opsOf 22 Try.f10).toArray false) .ret) .skip))))).wp Try.prog Q a w := by
  have hkk : 1 - ko ≠ ko := by omega
  have hkk2 : ko ≠ 1 - ko := by omega
  obtain ⟨R', hR⟩ : ∃ R', R.Perm (txR A c b :: R') := by
    obtain ⟨L1, L2, rfl⟩ := List.append_of_mem T.rp
    exact ⟨L1 ++ L2, List.perm_middle⟩
  have S : Held w0 w (blkR gS 47 #[.pointer (some ⟨p, 0, none⟩)] :: blkR gN 3 #[.int .i64 (if fr < 1 then 1 else fr)] :: rowR 5 1 (.slice (some ⟨gx, 0, none⟩) (nB + 2) cx) (nB + 2) (bv (bB ++ [165, 90])) :: rowR 5 1 (.slice (some ⟨gy, 0, none⟩) (nC + 2) cy) (nC + 2) (bv (bC ++ [165, 90])) :: blkR g7 52 #[.int .i64 kd, .int .i64 on, .int .i64 fr, .int .i64 tq, .slice AB nB cB, .slice AC nC cC] :: blkR gO 49 cs :: blkR gT 50 ts :: sumsR p v b :: sumsR q u d :: txR A c b :: R') := T.S.perm (List.Perm.append_left [_, _, _, _, _, _, _, _, _] hR)
  have hcs := T.hcs
  have hts := T.hts
  have hcp := T.cp
  have hcq := T.cq
  have htp := T.tp
  have htq := T.tq
  have hlb := T.lb
  have hld := T.ld
  have hrq : txR B e d ∈ txR A c b :: R' := hR.mem_iff.1 T.rq
  have hbc := row_le S (A := A) (c := c) (b := b) (by simp)
  clear T
  have S := ((((S.pull 5 rfl).pull 4 rfl).pull 4 rfl).pull 7 rfl)
  refine wp_seq (wp_seq (pmn_r18 w0 cs gO p ko hko hcp gx nB cx gy nC cy bB bC hlB hlC v b (by omega) _ S F.z F.o3 o8 F.o9 F.o10 (fun a1 w2 hs1 o80 h2 => ?_)))
  have F := F.same hs1 (by decide)
  have o8 := hs1.keep 8 _ (by decide) o8
  have o11 := hs1.keep 11 _ (by decide) o11
  obtain ⟨v2, S⟩ := h2
  refine wp_cond_false (o80.eval (by rw [F.z]; decide)) (wp_skip ?_)
  simp only [Exit.then]
  have S := (((S.pull 9 rfl).pull 7 rfl).pull 8 rfl)
  refine wp_seq (pmn_r20 w0 ts gT ko hko A b.length c htp kd on fr tq AB AC nB cB nC cC g7 b bB bC (by omega) hvB hvC _ F.z F.o4 F.o7 o8 S (fun a2 vs gs w3 hs2 S => ?_))
  have F := F.same hs2 (by decide)
  have o8 := hs2.keep 8 _ (by decide) o8
  have o11 := hs2.keep 11 _ (by decide) o11
  obtain ⟨b2, hb2⟩ : ∃ b2, b ++ (bB ++ bC) = b2 := ⟨_, rfl⟩
  have hl2 : b2.length = b.length + nB + nC := by rw [← hb2]; simp [hlB, hlC]; try omega
  obtain ⟨A6, c6, h6, -, -⟩ := ow_form (show Ow _ 5 1 (vs 11) (b.length + nB + nC) (bv b ++ bv bB ++ bv bC) from S.at_ (l1 := []))
  rw [h6, show bv b ++ bv bB ++ bv bC = bv b2 from by rw [← hb2]; simp [bv_append], ← hl2] at S
  try rw [hb2] at S
  have ht2 : (ts.setIfInBounds ko (.slice A6 b2.length c6))[ko]? = some (.slice A6 b2.length c6) := set2_self hts hko
  have hb6 := row_le S (A := A6) (c := c6) (b := b2) (List.mem_cons_self ..)
  have S := (((S.pull 4 rfl).pull 9 rfl).pull 9 rfl)
  have HP := fun (V : World) (kV : Kp [] w3.drew V) => pieces_any w0 gS gN p (if fr < 1 then 1 else fr) 0 v2 b2 (by omega) A6 c6 hb6 V (Held.forPieces (S.kp (((Kp.refl [] w3).drew).trans kV (by simp))) (by simp))
  refine wp_seq (pmn_r21 gS gN _ gT ko hko A6 b2.length c6 ht2 kd on fr tq AB AC nB cB nC cC g7 ((S.at_ (l1 := [_, _, _, _])).drew) ((S.at_ (l1 := [_, _, _, _, _])).drew) HP F.z F.o4 F.o7 o8 o11 (fun a3 w4 hs3 k4 o102 => ?_))
  have F := F.same hs3 (by decide)
  have o8 := hs3.keep 8 _ (by decide) o8
  have S := S.kp (((Kp.refl [] w3).drew).trans k4 (by simp))
  refine wp_cond_false (o102.eval (by rw [F.z]; decide)) (wp_skip ?_)
  have S := (((((((((((S.pull 6 rfl).pull 4 rfl).pull 10 rfl).pull 5 rfl).pull 6 rfl).pull 10 rfl).pull 8 rfl).pull 10 rfl).pull 10 rfl).pull 10 rfl).pull 10 rfl)
  have S := S.drop.drop
  refine hend _ _ F (St2.st (ko := ko) ⟨hcs, by rw [Array.size_setIfInBounds]; exact hts, hcp, hcq, ht2, by rw [set2_other hkk2]; exact htq, by simp, List.mem_cons_of_mem _ hrq, by omega, hld, S⟩ hko)
set_option maxRecDepth 100000 in
set_option maxHeartbeats 4000000 in
theorem pmn_k1 {Q : Exit → Act → World → Prop} {a : Act} {w0 w : World} (s0 : Value) (gO gT ko m kk g7 : Nat) (hko : ko < 2) (kd on fr tq : Int) (AB AC : Option Addr) (nB cB nC cC : Nat) (bB bC : List UInt8) (gx cx gy cy gS gN : Nat) (hm : m ≤ 100000) (R : List Res) (cs ts : Array Value) (p : Nat) (v : Value) (b : List UInt8) (A : Option Addr) (c : Nat) (q : Nat) (u : Value) (d : List UInt8) (B : Option Addr) (e : Nat) (hbm : b.length + nB + nC ≤ m) (hlB : bB.length = nB) (hlC : bC.length = nC) (hvB : ∀ V, Kp [] w0 V → Rd V 1 (.slice AB nB cB) nB (bv bB)) (hvC : ∀ V, Kp [] w0 V → Rd V 1 (.slice AC nC cC) nC (bv bC))
    (F : FM a s0 gO gT m kk g7 (.slice (some ⟨gx, 0, none⟩) nB cx) (.slice (some ⟨gy, 0, none⟩) nC cy)) (o8 : Sl a 8 (.int .i64 ((ko : Nat) : Int))) (o11 : Sl a 11 (.func (.func 48) #[] #[.pointer (some ⟨gS, 0, none⟩), .pointer (some ⟨gN, 0, none⟩)]))
    (T : St2 w0 w gO gT ko m [blkR gS 47 #[.pointer (some ⟨p, 0, none⟩)], blkR gN 3 #[.int .i64 (if fr < 1 then 1 else fr)], rowR 5 1 (.slice (some ⟨gx, 0, none⟩) (nB + 2) cx) (nB + 2) (bv (bB ++ [165, 90])), rowR 5 1 (.slice (some ⟨gy, 0, none⟩) (nC + 2) cy) (nC + 2) (bv (bC ++ [165, 90])), blkR g7 52 #[.int .i64 kd, .int .i64 on, .int .i64 fr, .int .i64 tq, .slice AB nB cB, .slice AC nC cC]] R cs ts p v b A c q u d B e)
    (hend : ∀ (a' : Act) (W : World), FM a' s0 gO gT m kk g7 (.slice (some ⟨gx, 0, none⟩) nB cx) (.slice (some ⟨gy, 0, none⟩) nC cy) → Stt w0 W gO gT m [rowR 5 1 (.slice (some ⟨gx, 0, none⟩) (nB + 2) cx) (nB + 2) (bv (bB ++ [165, 90])), rowR 5 1 (.slice (some ⟨gy, 0, none⟩) (nC + 2) cy) (nC + 2) (bv (bC ++ [165, 90])), blkR g7 52 #[.int .i64 kd, .int .i64 on, .int .i64 fr, .int .i64 tq, .slice AB nB cB, .slice AC nC cC]] → Q .normal a' W) :
    ((Code.seq (Code.region 24 (opsOf 24 Try.f10).toArray true) (Code.seq (Code.region 25 (opsOf 25 Try.f10).toArray true) (Code.seq (Code.region 26 (opsOf 26 Try.f10).toArray false) (Code.cond (.tmp 134) (Code.seq (Code.region 27 (opsOf 27 Try.f10).toArray false) .ret) .skip))))).wp Try.prog Q a w := by
  have hkk : 1 - ko ≠ ko := by omega
  have hkk2 : ko ≠ 1 - ko := by omega
  obtain ⟨R', hR⟩ : ∃ R', R.Perm (txR A c b :: R') := by
    obtain ⟨L1, L2, rfl⟩ := List.append_of_mem T.rp
    exact ⟨L1 ++ L2, List.perm_middle⟩
  have S : Held w0 w (blkR gS 47 #[.pointer (some ⟨p, 0, none⟩)] :: blkR gN 3 #[.int .i64 (if fr < 1 then 1 else fr)] :: rowR 5 1 (.slice (some ⟨gx, 0, none⟩) (nB + 2) cx) (nB + 2) (bv (bB ++ [165, 90])) :: rowR 5 1 (.slice (some ⟨gy, 0, none⟩) (nC + 2) cy) (nC + 2) (bv (bC ++ [165, 90])) :: blkR g7 52 #[.int .i64 kd, .int .i64 on, .int .i64 fr, .int .i64 tq, .slice AB nB cB, .slice AC nC cC] :: blkR gO 49 cs :: blkR gT 50 ts :: sumsR p v b :: sumsR q u d :: txR A c b :: R') := T.S.perm (List.Perm.append_left [_, _, _, _, _, _, _, _, _] hR)
  have hcs := T.hcs
  have hts := T.hts
  have hcp := T.cp
  have hcq := T.cq
  have htp := T.tp
  have htq := T.tq
  have hlb := T.lb
  have hld := T.ld
  have hrq : txR B e d ∈ txR A c b :: R' := hR.mem_iff.1 T.rq
  have hbc := row_le S (A := A) (c := c) (b := b) (by simp)
  clear T
  have kd0 : ∀ V, Kp [] w.drew V → Kp [] w V := fun V kV => ((Kp.refl [] w).drew).trans kV (by simp)
  refine wp_seq (pmn_r24 cs gO p ko hko hcp ((S.at_ (l1 := [_, _, _, _, _])).drew) kd on fr tq AB AC nB cB nC cC g7 ((S.at_ (l1 := [_, _, _, _])).drew) _ _ (fun V kV => s_range_all p v b fr tq (by omega) V ((S.kp (kd0 V kV)).at_ (l1 := [_, _, _, _, _, _, _]))) F.z F.o3 F.o7 o8 (fun a1 w2 hs1 k2 o12 o13 => ?_))
  have F := F.same hs1 (by decide)
  have o8 := hs1.keep 8 _ (by decide) o8
  have S := S.kp (kd0 _ k2)
  have kd2 : ∀ V, Kp [] w2.drew V → Kp [] w2 V := fun V kV => ((Kp.refl [] w2).drew).trans kV (by simp)
  refine wp_seq (pmn_r25 ts gT ko hko A b.length c htp ((S.at_ (l1 := [_, _, _, _, _, _])).drew) kd on fr tq AB AC nB cB nC cC g7 ((S.at_ (l1 := [_, _, _, _])).drew) _ _ (fun V kV => rrange_any A b.length c b rfl hbc fr tq V (Rd.of_own (show Ow V 5 1 (.slice A b.length c) b.length (bv b) from (S.kp (kd2 V kV)).at_ (l1 := [_, _, _, _, _, _, _, _, _])))) F.z F.o4 F.o7 o8 (fun a2 w3 hs2 k3 o14 o15 => ?_))
  have F := F.same hs2 (by decide)
  have o12 := hs2.keep 12 _ (by decide) o12
  have o13 := hs2.keep 13 _ (by decide) o13
  have S := S.kp (kd2 _ k3)
  refine wp_seq (pmn_r26 _ _ F.z o12 o13 o14 o15 (fun a3 w4 hs3 k4 o134 => ?_))
  have F := F.same hs3 (by decide)
  have S := S.kp k4
  refine wp_cond_false (o134.eval (by rw [F.z]; decide)) (wp_skip ?_)
  have S := ((((((((((S.pull 9 rfl).pull 9 rfl).pull 9 rfl).pull 9 rfl).pull 9 rfl).pull 9 rfl).pull 9 rfl).pull 9 rfl).pull 9 rfl).pull 9 rfl)
  have S := S.drop.drop
  refine hend _ _ F (St2.st (ko := ko) ⟨hcs, hts, hcp, hcq, htp, htq, by simp, hrq, hlb, hld, S⟩ hko)
set_option maxRecDepth 100000 in
set_option maxHeartbeats 4000000 in
theorem pmn_k2 {Q : Exit → Act → World → Prop} {a : Act} {w0 w : World} (s0 : Value) (gO gT ko m kk g7 : Nat) (hko : ko < 2) (kd on fr tq : Int) (AB AC : Option Addr) (nB cB nC cC : Nat) (bB bC : List UInt8) (gx cx gy cy gS gN : Nat) (hm : m ≤ 100000) (R : List Res) (cs ts : Array Value) (p : Nat) (v : Value) (b : List UInt8) (A : Option Addr) (c : Nat) (q : Nat) (u : Value) (d : List UInt8) (B : Option Addr) (e : Nat) (hbm : b.length + nB + nC ≤ m) (hlB : bB.length = nB) (hlC : bC.length = nC) (hvB : ∀ V, Kp [] w0 V → Rd V 1 (.slice AB nB cB) nB (bv bB)) (hvC : ∀ V, Kp [] w0 V → Rd V 1 (.slice AC nC cC) nC (bv bC))
    (F : FM a s0 gO gT m kk g7 (.slice (some ⟨gx, 0, none⟩) nB cx) (.slice (some ⟨gy, 0, none⟩) nC cy)) (o8 : Sl a 8 (.int .i64 ((ko : Nat) : Int))) (o11 : Sl a 11 (.func (.func 48) #[] #[.pointer (some ⟨gS, 0, none⟩), .pointer (some ⟨gN, 0, none⟩)]))
    (T : St2 w0 w gO gT ko m [blkR gS 47 #[.pointer (some ⟨p, 0, none⟩)], blkR gN 3 #[.int .i64 (if fr < 1 then 1 else fr)], rowR 5 1 (.slice (some ⟨gx, 0, none⟩) (nB + 2) cx) (nB + 2) (bv (bB ++ [165, 90])), rowR 5 1 (.slice (some ⟨gy, 0, none⟩) (nC + 2) cy) (nC + 2) (bv (bC ++ [165, 90])), blkR g7 52 #[.int .i64 kd, .int .i64 on, .int .i64 fr, .int .i64 tq, .slice AB nB cB, .slice AC nC cC]] R cs ts p v b A c q u d B e)
    (hend : ∀ (a' : Act) (W : World), FM a' s0 gO gT m kk g7 (.slice (some ⟨gx, 0, none⟩) nB cx) (.slice (some ⟨gy, 0, none⟩) nC cy) → Stt w0 W gO gT m [rowR 5 1 (.slice (some ⟨gx, 0, none⟩) (nB + 2) cx) (nB + 2) (bv (bB ++ [165, 90])), rowR 5 1 (.slice (some ⟨gy, 0, none⟩) (nC + 2) cy) (nC + 2) (bv (bC ++ [165, 90])), blkR g7 52 #[.int .i64 kd, .int .i64 on, .int .i64 fr, .int .i64 tq, .slice AB nB cB, .slice AC nC cC]] → Q .normal a' W) :
    ((Code.seq (Code.region 29 (opsOf 29 Try.f10).toArray true) (Code.seq (Code.region 30 (opsOf 30 Try.f10).toArray true) (Code.cond (.tmp 162) (Code.seq (Code.region 31 (opsOf 31 Try.f10).toArray false) .ret) .skip)))).wp Try.prog Q a w := by
  have hkk : 1 - ko ≠ ko := by omega
  have hkk2 : ko ≠ 1 - ko := by omega
  obtain ⟨R', hR⟩ : ∃ R', R.Perm (txR A c b :: R') := by
    obtain ⟨L1, L2, rfl⟩ := List.append_of_mem T.rp
    exact ⟨L1 ++ L2, List.perm_middle⟩
  have S : Held w0 w (blkR gS 47 #[.pointer (some ⟨p, 0, none⟩)] :: blkR gN 3 #[.int .i64 (if fr < 1 then 1 else fr)] :: rowR 5 1 (.slice (some ⟨gx, 0, none⟩) (nB + 2) cx) (nB + 2) (bv (bB ++ [165, 90])) :: rowR 5 1 (.slice (some ⟨gy, 0, none⟩) (nC + 2) cy) (nC + 2) (bv (bC ++ [165, 90])) :: blkR g7 52 #[.int .i64 kd, .int .i64 on, .int .i64 fr, .int .i64 tq, .slice AB nB cB, .slice AC nC cC] :: blkR gO 49 cs :: blkR gT 50 ts :: sumsR p v b :: sumsR q u d :: txR A c b :: R') := T.S.perm (List.Perm.append_left [_, _, _, _, _, _, _, _, _] hR)
  have hcs := T.hcs
  have hts := T.hts
  have hcp := T.cp
  have hcq := T.cq
  have htp := T.tp
  have htq := T.tq
  have hlb := T.lb
  have hld := T.ld
  have hrq : txR B e d ∈ txR A c b :: R' := hR.mem_iff.1 T.rq
  have hbc := row_le S (A := A) (c := c) (b := b) (by simp)
  clear T
  have S := ((S.pull 4 rfl).pull 5 rfl)
  refine wp_seq (pmn_r29 w0 cs gO p ko hko hcp kd on fr tq AB AC nB cB nC cC g7 _ F.z F.o3 F.o7 o8 S (fun a1 vs gs w2 hs1 o16 S => ?_))
  have F := F.same hs1 (by decide)
  have o8 := hs1.keep 8 _ (by decide) o8
  generalize (gs 5).1 = hS at *
  generalize (gs 5).2 = hN at *
  have S := (((S.pull 9 rfl).pull 2 rfl).pull 2 rfl)
  have HP := fun (lv : Int) (V : World) (kV : Kp [] w2.drew V) => pieces_any w0 hS hN p fr lv v b (by omega) A c hbc V (Held.forPieces (S.kp (((Kp.refl [] w2).drew).trans kV (by simp))) (by simp))
  refine wp_seq (pmn_r30 hS hN ts gT ko hko A b.length c htp kd on fr tq AB AC nB cB nC cC g7 ((S.at_ (l1 := [_, _, _, _, _, _, _, _, _])).drew) ((S.at_ (l1 := [_, _, _, _])).drew) (HP tq) (HP 0) F.z F.o4 F.o7 o8 o16 (fun a2 w3 hs2 k3 o162 => ?_))
  have F := F.same hs2 (by decide)
  have S := S.kp (((Kp.refl [] w2).drew).trans k3 (by simp))
  refine wp_cond_false (o162.eval (by rw [F.z]; decide)) (wp_skip ?_)
  have S := ((((((((((((S.pull 11 rfl).pull 11 rfl).pull 4 rfl).pull 11 rfl).pull 6 rfl).pull 7 rfl).pull 11 rfl).pull 11 rfl).pull 11 rfl).pull 11 rfl).pull 11 rfl).pull 11 rfl)
  have S := S.drop.drop.drop.drop
  refine hend _ _ F (St2.st (ko := ko) ⟨hcs, hts, hcp, hcq, htp, htq, by simp, hrq, hlb, hld, S⟩ hko)
set_option maxRecDepth 100000 in
set_option maxHeartbeats 4000000 in
theorem pmn_k3 {Q : Exit → Act → World → Prop} {a : Act} {w0 w : World} (s0 : Value) (gO gT ko m kk g7 : Nat) (hko : ko < 2) (kd on fr tq : Int) (AB AC : Option Addr) (nB cB nC cC : Nat) (bB bC : List UInt8) (gx cx gy cy gS gN : Nat) (hm : m ≤ 100000) (R : List Res) (cs ts : Array Value) (p : Nat) (v : Value) (b : List UInt8) (A : Option Addr) (c : Nat) (q : Nat) (u : Value) (d : List UInt8) (B : Option Addr) (e : Nat) (hbm : b.length + nB + nC ≤ m) (hlB : bB.length = nB) (hlC : bC.length = nC) (hvB : ∀ V, Kp [] w0 V → Rd V 1 (.slice AB nB cB) nB (bv bB)) (hvC : ∀ V, Kp [] w0 V → Rd V 1 (.slice AC nC cC) nC (bv bC))
    (F : FM a s0 gO gT m kk g7 (.slice (some ⟨gx, 0, none⟩) nB cx) (.slice (some ⟨gy, 0, none⟩) nC cy)) (o8 : Sl a 8 (.int .i64 ((ko : Nat) : Int))) (o11 : Sl a 11 (.func (.func 48) #[] #[.pointer (some ⟨gS, 0, none⟩), .pointer (some ⟨gN, 0, none⟩)]))
    (T : St2 w0 w gO gT ko m [blkR gS 47 #[.pointer (some ⟨p, 0, none⟩)], blkR gN 3 #[.int .i64 (if fr < 1 then 1 else fr)], rowR 5 1 (.slice (some ⟨gx, 0, none⟩) (nB + 2) cx) (nB + 2) (bv (bB ++ [165, 90])), rowR 5 1 (.slice (some ⟨gy, 0, none⟩) (nC + 2) cy) (nC + 2) (bv (bC ++ [165, 90])), blkR g7 52 #[.int .i64 kd, .int .i64 on, .int .i64 fr, .int .i64 tq, .slice AB nB cB, .slice AC nC cC]] R cs ts p v b A c q u d B e)
    (hend : ∀ (a' : Act) (W : World), FM a' s0 gO gT m kk g7 (.slice (some ⟨gx, 0, none⟩) nB cx) (.slice (some ⟨gy, 0, none⟩) nC cy) → Stt w0 W gO gT m [rowR 5 1 (.slice (some ⟨gx, 0, none⟩) (nB + 2) cx) (nB + 2) (bv (bB ++ [165, 90])), rowR 5 1 (.slice (some ⟨gy, 0, none⟩) (nC + 2) cy) (nC + 2) (bv (bC ++ [165, 90])), blkR g7 52 #[.int .i64 kd, .int .i64 on, .int .i64 fr, .int .i64 tq, .slice AB nB cB, .slice AC nC cC]] → Q .normal a' W) :
    ((Code.seq (Code.region 33 (opsOf 33 Try.f10).toArray false) (Code.region 34 (opsOf 34 Try.f10).toArray false))).wp Try.prog Q a w := by
  have hkk : 1 - ko ≠ ko := by omega
  have hkk2 : ko ≠ 1 - ko := by omega
  obtain ⟨R', hR⟩ : ∃ R', R.Perm (txR A c b :: R') := by
    obtain ⟨L1, L2, rfl⟩ := List.append_of_mem T.rp
    exact ⟨L1 ++ L2, List.perm_middle⟩
  have S : Held w0 w (blkR gS 47 #[.pointer (some ⟨p, 0, none⟩)] :: blkR gN 3 #[.int .i64 (if fr < 1 then 1 else fr)] :: rowR 5 1 (.slice (some ⟨gx, 0, none⟩) (nB + 2) cx) (nB + 2) (bv (bB ++ [165, 90])) :: rowR 5 1 (.slice (some ⟨gy, 0, none⟩) (nC + 2) cy) (nC + 2) (bv (bC ++ [165, 90])) :: blkR g7 52 #[.int .i64 kd, .int .i64 on, .int .i64 fr, .int .i64 tq, .slice AB nB cB, .slice AC nC cC] :: blkR gO 49 cs :: blkR gT 50 ts :: sumsR p v b :: sumsR q u d :: txR A c b :: R') := T.S.perm (List.Perm.append_left [_, _, _, _, _, _, _, _, _] hR)
  have hcs := T.hcs
  have hts := T.hts
  have hcp := T.cp
  have hcq := T.cq
  have htp := T.tp
  have htq := T.tq
  have hlb := T.lb
  have hld := T.ld
  have hrq : txR B e d ∈ txR A c b :: R' := hR.mem_iff.1 T.rq
  have hbc := row_le S (A := A) (c := c) (b := b) (by simp)
  clear T
  obtain ⟨Av, cv, hv, -, -⟩ := ow_form (show Ow w 23 1 v b.length (smv b) from (show Sm w p v b from (S.at_ (l1 := [_, _, _, _, _, _, _]))).2)
  subst hv
  have S := ((S.pull 7 rfl).pull 6 rfl)
  refine wp_seq (pmn_r33 w0 cs gO p ko hko hcp _ hcq Av cv b (by omega) _ S F.z F.o3 o8 (fun a1 w2 hs1 h2 => ?_))
  have F := F.same hs1 (by decide)
  have o8 := hs1.keep 8 _ (by decide) o8
  obtain ⟨q2, u2, S⟩ := h2
  have S := (S.pull 8 rfl)
  refine pmn_r34 w0 ts gT ko hko A b.length c htp _ htq _ S F.z F.o4 o8 (fun a2 w3 hs2 S => ?_)
  have F := F.same hs2 (by decide)
  have S := (((((((((((S.pull 10 rfl).pull 2 rfl).pull 3 rfl).pull 3 rfl).pull 4 rfl).pull 9 rfl).pull 9 rfl).pull 9 rfl).pull 10 rfl).pull 10 rfl).pull 10 rfl)
  have S := S.drop.drop.drop
  refine hend _ _ F (St2.st (ko := ko) ⟨by rw [Array.size_setIfInBounds]; exact hcs, by rw [Array.size_setIfInBounds]; exact hts, by rw [set2_other hkk]; exact hcp, set2_self hcs (by omega), by rw [set2_other hkk]; exact htp, set2_self hts (by omega), by simp, by simp, hlb, hlb, S⟩ hko)
set_option maxRecDepth 100000 in
set_option maxHeartbeats 4000000 in
theorem pmn_k4 {Q : Exit → Act → World → Prop} {a : Act} {w0 w : World} (s0 : Value) (gO gT ko m kk g7 : Nat) (hko : ko < 2) (kd on fr tq : Int) (AB AC : Option Addr) (nB cB nC cC : Nat) (bB bC : List UInt8) (gx cx gy cy gS gN : Nat) (hm : m ≤ 100000) (R : List Res) (cs ts : Array Value) (p : Nat) (v : Value) (b : List UInt8) (A : Option Addr) (c : Nat) (q : Nat) (u : Value) (d : List UInt8) (B : Option Addr) (e : Nat) (hbm : b.length + nB + nC ≤ m) (hlB : bB.length = nB) (hlC : bC.length = nC) (hvB : ∀ V, Kp [] w0 V → Rd V 1 (.slice AB nB cB) nB (bv bB)) (hvC : ∀ V, Kp [] w0 V → Rd V 1 (.slice AC nC cC) nC (bv bC))
    (F : FM a s0 gO gT m kk g7 (.slice (some ⟨gx, 0, none⟩) nB cx) (.slice (some ⟨gy, 0, none⟩) nC cy)) (o8 : Sl a 8 (.int .i64 ((ko : Nat) : Int))) (o11 : Sl a 11 (.func (.func 48) #[] #[.pointer (some ⟨gS, 0, none⟩), .pointer (some ⟨gN, 0, none⟩)]))
    (T : St2 w0 w gO gT ko m [blkR gS 47 #[.pointer (some ⟨p, 0, none⟩)], blkR gN 3 #[.int .i64 (if fr < 1 then 1 else fr)], rowR 5 1 (.slice (some ⟨gx, 0, none⟩) (nB + 2) cx) (nB + 2) (bv (bB ++ [165, 90])), rowR 5 1 (.slice (some ⟨gy, 0, none⟩) (nC + 2) cy) (nC + 2) (bv (bC ++ [165, 90])), blkR g7 52 #[.int .i64 kd, .int .i64 on, .int .i64 fr, .int .i64 tq, .slice AB nB cB, .slice AC nC cC]] R cs ts p v b A c q u d B e)
    (hend : ∀ (a' : Act) (W : World), FM a' s0 gO gT m kk g7 (.slice (some ⟨gx, 0, none⟩) nB cx) (.slice (some ⟨gy, 0, none⟩) nC cy) → Stt w0 W gO gT m [rowR 5 1 (.slice (some ⟨gx, 0, none⟩) (nB + 2) cx) (nB + 2) (bv (bB ++ [165, 90])), rowR 5 1 (.slice (some ⟨gy, 0, none⟩) (nC + 2) cy) (nC + 2) (bv (bC ++ [165, 90])), blkR g7 52 #[.int .i64 kd, .int .i64 on, .int .i64 fr, .int .i64 tq, .slice AB nB cB, .slice AC nC cC]] → Q .normal a' W) :
    ((Code.seq (Code.region 36 (opsOf 36 Try.f10).toArray false) (Code.region 37 (opsOf 37 Try.f10).toArray true))).wp Try.prog Q a w := by
  have hkk : 1 - ko ≠ ko := by omega
  have hkk2 : ko ≠ 1 - ko := by omega
  obtain ⟨R', hR⟩ : ∃ R', R.Perm (txR A c b :: R') := by
    obtain ⟨L1, L2, rfl⟩ := List.append_of_mem T.rp
    exact ⟨L1 ++ L2, List.perm_middle⟩
  have S : Held w0 w (blkR gS 47 #[.pointer (some ⟨p, 0, none⟩)] :: blkR gN 3 #[.int .i64 (if fr < 1 then 1 else fr)] :: rowR 5 1 (.slice (some ⟨gx, 0, none⟩) (nB + 2) cx) (nB + 2) (bv (bB ++ [165, 90])) :: rowR 5 1 (.slice (some ⟨gy, 0, none⟩) (nC + 2) cy) (nC + 2) (bv (bC ++ [165, 90])) :: blkR g7 52 #[.int .i64 kd, .int .i64 on, .int .i64 fr, .int .i64 tq, .slice AB nB cB, .slice AC nC cC] :: blkR gO 49 cs :: blkR gT 50 ts :: sumsR p v b :: sumsR q u d :: txR A c b :: R') := T.S.perm (List.Perm.append_left [_, _, _, _, _, _, _, _, _] hR)
  have hcs := T.hcs
  have hts := T.hts
  have hcp := T.cp
  have hcq := T.cq
  have htp := T.tp
  have htq := T.tq
  have hlb := T.lb
  have hld := T.ld
  have hrq : txR B e d ∈ txR A c b :: R' := hR.mem_iff.1 T.rq
  have hbc := row_le S (A := A) (c := c) (b := b) (by simp)
  clear T
  have S := (((S.pull 3 rfl).pull 3 rfl).pull 5 rfl)
  refine wp_seq (pmn_r36 w0 cs gO ko hko _ hcp gx nB cx gy nC cy bB bC hlB hlC (by omega) _ S F.z F.o3 o8 F.o9 F.o10 (fun a1 w2 hs1 h2 => ?_))
  have F := F.same hs1 (by decide)
  have o8 := hs1.keep 8 _ (by decide) o8
  obtain ⟨p2, v2, S⟩ := h2
  have S := ((S.pull 6 rfl).pull 7 rfl)
  refine pmn_r37 w0 ts gT ko hko A b.length c htp kd on fr tq AB AC nB cB nC cC g7 bB bC (by omega) hvB hvC _ F.z F.o4 F.o7 o8 S (fun a2 vs gs w3 hs2 S => ?_)
  have F := F.same hs2 (by decide)
  obtain ⟨b2, hb2⟩ : ∃ b2, bB ++ bC = b2 := ⟨_, rfl⟩
  have hl2 : b2.length = nB + nC := by rw [← hb2]; simp [hlB, hlC]; try omega
  obtain ⟨A6, c6, h6, -, -⟩ := ow_form (show Ow _ 5 1 (vs 7) (nB + nC) (bv bB ++ bv bC) from S.at_ (l1 := []))
  rw [h6, show bv bB ++ bv bC = bv b2 from by rw [← hb2]; simp [bv_append], ← hl2] at S
  try rw [hb2] at S
  have S := ((((((((((((S.pull 11 rfl).pull 1 rfl).pull 11 rfl).pull 5 rfl).pull 4 rfl).pull 6 rfl).pull 6 rfl).pull 8 rfl).pull 8 rfl).pull 11 rfl).pull 11 rfl).pull 11 rfl)
  have S := S.drop.drop.drop
  refine hend _ _ F (St2.st (ko := ko) ⟨by rw [Array.size_setIfInBounds]; exact hcs, by rw [Array.size_setIfInBounds]; exact hts, set2_self hcs hko, by rw [set2_other hkk2]; exact hcq, set2_self hts hko, by rw [set2_other hkk2]; exact htq, by simp, List.mem_cons_of_mem _ hrq, by omega, hld, S⟩ hko)
set_option maxRecDepth 100000 in
set_option maxHeartbeats 4000000 in
theorem pmn_k5 {Q : Exit → Act → World → Prop} {a : Act} {w0 w : World} (s0 : Value) (gO gT ko m kk g7 : Nat) (hko : ko < 2) (kd on fr tq : Int) (AB AC : Option Addr) (nB cB nC cC : Nat) (bB bC : List UInt8) (gx cx gy cy gS gN : Nat) (hm : m ≤ 100000) (R : List Res) (cs ts : Array Value) (p : Nat) (v : Value) (b : List UInt8) (A : Option Addr) (c : Nat) (q : Nat) (u : Value) (d : List UInt8) (B : Option Addr) (e : Nat) (hbm : b.length + nB + nC ≤ m) (hlB : bB.length = nB) (hlC : bC.length = nC) (hvB : ∀ V, Kp [] w0 V → Rd V 1 (.slice AB nB cB) nB (bv bB)) (hvC : ∀ V, Kp [] w0 V → Rd V 1 (.slice AC nC cC) nC (bv bC))
    (F : FM a s0 gO gT m kk g7 (.slice (some ⟨gx, 0, none⟩) nB cx) (.slice (some ⟨gy, 0, none⟩) nC cy)) (o8 : Sl a 8 (.int .i64 ((ko : Nat) : Int))) (o11 : Sl a 11 (.func (.func 48) #[] #[.pointer (some ⟨gS, 0, none⟩), .pointer (some ⟨gN, 0, none⟩)]))
    (T : St2 w0 w gO gT ko m [blkR gS 47 #[.pointer (some ⟨p, 0, none⟩)], blkR gN 3 #[.int .i64 (if fr < 1 then 1 else fr)], rowR 5 1 (.slice (some ⟨gx, 0, none⟩) (nB + 2) cx) (nB + 2) (bv (bB ++ [165, 90])), rowR 5 1 (.slice (some ⟨gy, 0, none⟩) (nC + 2) cy) (nC + 2) (bv (bC ++ [165, 90])), blkR g7 52 #[.int .i64 kd, .int .i64 on, .int .i64 fr, .int .i64 tq, .slice AB nB cB, .slice AC nC cC]] R cs ts p v b A c q u d B e)
    (hend : ∀ (a' : Act) (W : World), FM a' s0 gO gT m kk g7 (.slice (some ⟨gx, 0, none⟩) nB cx) (.slice (some ⟨gy, 0, none⟩) nC cy) → Stt w0 W gO gT m [rowR 5 1 (.slice (some ⟨gx, 0, none⟩) (nB + 2) cx) (nB + 2) (bv (bB ++ [165, 90])), rowR 5 1 (.slice (some ⟨gy, 0, none⟩) (nC + 2) cy) (nC + 2) (bv (bC ++ [165, 90])), blkR g7 52 #[.int .i64 kd, .int .i64 on, .int .i64 fr, .int .i64 tq, .slice AB nB cB, .slice AC nC cC]] → Q .normal a' W) :
    ((Code.seq (Code.region 39 (opsOf 39 Try.f10).toArray false) (Code.region 40 (opsOf 40 Try.f10).toArray false))).wp Try.prog Q a w := by
  have hkk : 1 - ko ≠ ko := by omega
  have hkk2 : ko ≠ 1 - ko := by omega
  obtain ⟨R', hR⟩ : ∃ R', R.Perm (txR A c b :: R') := by
    obtain ⟨L1, L2, rfl⟩ := List.append_of_mem T.rp
    exact ⟨L1 ++ L2, List.perm_middle⟩
  have S : Held w0 w (blkR gS 47 #[.pointer (some ⟨p, 0, none⟩)] :: blkR gN 3 #[.int .i64 (if fr < 1 then 1 else fr)] :: rowR 5 1 (.slice (some ⟨gx, 0, none⟩) (nB + 2) cx) (nB + 2) (bv (bB ++ [165, 90])) :: rowR 5 1 (.slice (some ⟨gy, 0, none⟩) (nC + 2) cy) (nC + 2) (bv (bC ++ [165, 90])) :: blkR g7 52 #[.int .i64 kd, .int .i64 on, .int .i64 fr, .int .i64 tq, .slice AB nB cB, .slice AC nC cC] :: blkR gO 49 cs :: blkR gT 50 ts :: sumsR p v b :: sumsR q u d :: txR A c b :: R') := T.S.perm (List.Perm.append_left [_, _, _, _, _, _, _, _, _] hR)
  have hcs := T.hcs
  have hts := T.hts
  have hcp := T.cp
  have hcq := T.cq
  have htp := T.tp
  have htq := T.tq
  have hlb := T.lb
  have hld := T.ld
  have hrq : txR B e d ∈ txR A c b :: R' := hR.mem_iff.1 T.rq
  have hbc := row_le S (A := A) (c := c) (b := b) (by simp)
  clear T
  have S := (S.pull 5 rfl)
  refine wp_seq (pmn_r39 w0 cs gO ko hko _ hcp _ S F.z F.o3 o8 (fun a1 w2 hs1 h2 => ?_))
  have F := F.same hs1 (by decide)
  have o8 := hs1.keep 8 _ (by decide) o8
  obtain ⟨p2, v2, S⟩ := h2
  have S := (S.pull 7 rfl)
  refine pmn_r40 w0 ts gT ko hko A b.length c htp _ S F.z F.o4 o8 (fun a2 w3 hs2 S => ?_)
  have F := F.same hs2 (by decide)
  have h0 : Ow w3 5 1 (.slice none 0 0) 0 [] := World.ownsRow_nil _ _ _ _
  have S := S.rownew h0 (Kp.refl [] w3) (fun g hg => by cases hg)
  have S : Held w0 w3 (txR none 0 [] :: _) := S
  have S := ((((((((((((S.pull 11 rfl).pull 1 rfl).pull 11 rfl).pull 4 rfl).pull 4 rfl).pull 5 rfl).pull 10 rfl).pull 10 rfl).pull 10 rfl).pull 11 rfl).pull 11 rfl).pull 11 rfl)
  have S := S.drop.drop.drop
  refine hend _ _ F (St2.st (ko := ko) (b := []) (A := none) (c := 0) (R := txR none 0 [] :: txR A c b :: R') ⟨by rw [Array.size_setIfInBounds]; exact hcs, by rw [Array.size_setIfInBounds]; exact hts, set2_self hcs hko, by rw [set2_other hkk2]; exact hcq, set2_self hts hko, by rw [set2_other hkk2]; exact htq, by simp, List.mem_cons_of_mem _ hrq, by simp, hld, S⟩ hko)
end
/- CrcParts, whole. -/
section
open Go.RowKit Go.Shelf
set_option maxRecDepth 100000 in
set_option maxHeartbeats 4000000 in
theorem pmn_b2 {Q : Exit → Act → World → Prop} {a : Act} {w0 w : World} (s0 : Value) (gO gT ko m kk g7 : Nat) (hko : ko < 2) (kd on fr tq : Int) (AB AC : Option Addr) (nB cB nC cC : Nat) (bB bC : List UInt8) (gx cx gy cy gS gN : Nat) (hm : m ≤ 100000) (R : List Res) (cs ts : Array Value) (p : Nat) (v : Value) (b : List UInt8) (A : Option Addr) (c : Nat) (q : Nat) (u : Value) (d : List UInt8) (B : Option Addr) (e : Nat) (hbm : b.length + nB + nC ≤ m) (hlB : bB.length = nB) (hlC : bC.length = nC) (hvB : ∀ V, Kp [] w0 V → Rd V 1 (.slice AB nB cB) nB (bv bB)) (hvC : ∀ V, Kp [] w0 V → Rd V 1 (.slice AC nC cC) nC (bv bC))
    (F : FM a s0 gO gT m kk g7 (.slice (some ⟨gx, 0, none⟩) nB cx) (.slice (some ⟨gy, 0, none⟩) nC cy)) (o8 : Sl a 8 (.int .i64 ((ko : Nat) : Int))) (o11 : Sl a 11 (.func (.func 48) #[] #[.pointer (some ⟨gS, 0, none⟩), .pointer (some ⟨gN, 0, none⟩)]))
    (o69 : Sl a 69 (.int .i64 kd)) (T : St2 w0 w gO gT ko m [blkR gS 47 #[.pointer (some ⟨p, 0, none⟩)], blkR gN 3 #[.int .i64 (if fr < 1 then 1 else fr)], rowR 5 1 (.slice (some ⟨gx, 0, none⟩) (nB + 2) cx) (nB + 2) (bv (bB ++ [165, 90])), rowR 5 1 (.slice (some ⟨gy, 0, none⟩) (nC + 2) cy) (nC + 2) (bv (bC ++ [165, 90])), blkR g7 52 #[.int .i64 kd, .int .i64 on, .int .i64 fr, .int .i64 tq, .slice AB nB cB, .slice AC nC cC]] R cs ts p v b A c q u d B e)
    (hend : ∀ (a' : Act) (W : World), FM a' s0 gO gT m kk g7 (.slice (some ⟨gx, 0, none⟩) nB cx) (.slice (some ⟨gy, 0, none⟩) nC cy) → Stt w0 W gO gT m [rowR 5 1 (.slice (some ⟨gx, 0, none⟩) (nB + 2) cx) (nB + 2) (bv (bB ++ [165, 90])), rowR 5 1 (.slice (some ⟨gy, 0, none⟩) (nC + 2) cy) (nC + 2) (bv (bC ++ [165, 90])), blkR g7 52 #[.int .i64 kd, .int .i64 on, .int .i64 fr, .int .i64 tq, .slice AB nB cB, .slice AC nC cC]] → Q .normal a' W) : (Code.block 2 (blockOf 2 Try.f10)).wp Try.prog Q a w := by
  refine wp_block ?_
  conv => arg 2; whnf
  refine wp_seq (pmn_r17 kd F.z o69 (fun a1 hs1 o70 => ?_))
  have F := F.same hs1 (by decide)
  have o8 := hs1.keep 8 _ (by decide) o8
  have o11 := hs1.keep 11 _ (by decide) o11
  have o69 := hs1.keep 69 _ (by decide) o69
  by_cases h0 : kd = 0
  · refine wp_cond_true ((o70.eval (by rw [F.z]; decide)).trans (by rw [h0]; rfl)) ?_
    exact pmn_k0 s0 gO gT ko m kk g7 hko kd on fr tq AB AC nB cB nC cC bB bC gx cx gy cy gS gN hm R cs ts p v b A c q u d B e hbm hlB hlC hvB hvC F o8 o11 T (fun a' W F' S' => by simp only [Exit.inBlock]; exact hend a' W F' S')
  refine wp_cond_false ((o70.eval (by rw [F.z]; decide)).trans (by rw [beq_false_of_ne h0])) ?_
  refine wp_seq (pmn_r23 kd F.z o69 (fun a2 hs2 o103 => ?_))
  have F := F.same hs2 (by decide)
  have o8 := hs2.keep 8 _ (by decide) o8
  have o11 := hs2.keep 11 _ (by decide) o11
  have o69 := hs2.keep 69 _ (by decide) o69
  by_cases h1 : kd = 1
  · refine wp_cond_true ((o103.eval (by rw [F.z]; decide)).trans (by rw [h1]; rfl)) ?_
    exact pmn_k1 s0 gO gT ko m kk g7 hko kd on fr tq AB AC nB cB nC cC bB bC gx cx gy cy gS gN hm R cs ts p v b A c q u d B e hbm hlB hlC hvB hvC F o8 o11 T (fun a' W F' S' => by simp only [Exit.inBlock]; exact hend a' W F' S')
  refine wp_cond_false ((o103.eval (by rw [F.z]; decide)).trans (by rw [beq_false_of_ne h1])) ?_
  refine wp_seq (pmn_r28 kd F.z o69 (fun a3 hs3 o135 => ?_))
  have F := F.same hs3 (by decide)
  have o8 := hs3.keep 8 _ (by decide) o8
  have o11 := hs3.keep 11 _ (by decide) o11
  have o69 := hs3.keep 69 _ (by decide) o69
  by_cases h2 : kd = 2
  · refine wp_cond_true ((o135.eval (by rw [F.z]; decide)).trans (by rw [h2]; rfl)) ?_
    exact pmn_k2 s0 gO gT ko m kk g7 hko kd on fr tq AB AC nB cB nC cC bB bC gx cx gy cy gS gN hm R cs ts p v b A c q u d B e hbm hlB hlC hvB hvC F o8 o11 T (fun a' W F' S' => by simp only [Exit.inBlock]; exact hend a' W F' S')
  refine wp_cond_false ((o135.eval (by rw [F.z]; decide)).trans (by rw [beq_false_of_ne h2])) ?_
  refine wp_seq (pmn_r32 kd F.z o69 (fun a4 hs4 o163 => ?_))
  have F := F.same hs4 (by decide)
  have o8 := hs4.keep 8 _ (by decide) o8
  have o11 := hs4.keep 11 _ (by decide) o11
  have o69 := hs4.keep 69 _ (by decide) o69
  by_cases h3 : kd = 3
  · refine wp_cond_true ((o163.eval (by rw [F.z]; decide)).trans (by rw [h3]; rfl)) ?_
    exact pmn_k3 s0 gO gT ko m kk g7 hko kd on fr tq AB AC nB cB nC cC bB bC gx cx gy cy gS gN hm R cs ts p v b A c q u d B e hbm hlB hlC hvB hvC F o8 o11 T (fun a' W F' S' => by simp only [Exit.inBlock]; exact hend a' W F' S')
  refine wp_cond_false ((o163.eval (by rw [F.z]; decide)).trans (by rw [beq_false_of_ne h3])) ?_
  refine wp_seq (pmn_r35 kd F.z o69 (fun a5 hs5 o178 => ?_))
  have F := F.same hs5 (by decide)
  have o8 := hs5.keep 8 _ (by decide) o8
  have o11 := hs5.keep 11 _ (by decide) o11
  have o69 := hs5.keep 69 _ (by decide) o69
  by_cases h4 : kd = 4
  · refine wp_cond_true ((o178.eval (by rw [F.z]; decide)).trans (by rw [h4]; rfl)) ?_
    exact pmn_k4 s0 gO gT ko m kk g7 hko kd on fr tq AB AC nB cB nC cC bB bC gx cx gy cy gS gN hm R cs ts p v b A c q u d B e hbm hlB hlC hvB hvC F o8 o11 T (fun a' W F' S' => by simp only [Exit.inBlock]; exact hend a' W F' S')
  refine wp_cond_false ((o178.eval (by rw [F.z]; decide)).trans (by rw [beq_false_of_ne h4])) ?_
  refine wp_seq (pmn_r38 kd F.z o69 (fun a6 hs6 o195 => ?_))
  have F := F.same hs6 (by decide)
  have o8 := hs6.keep 8 _ (by decide) o8
  have o11 := hs6.keep 11 _ (by decide) o11
  have o69 := hs6.keep 69 _ (by decide) o69
  by_cases h5 : kd = 5
  · refine wp_cond_true ((o195.eval (by rw [F.z]; decide)).trans (by rw [h5]; rfl)) ?_
    exact pmn_k5 s0 gO gT ko m kk g7 hko kd on fr tq AB AC nB cB nC cC bB bC gx cx gy cy gS gN hm R cs ts p v b A c q u d B e hbm hlB hlC hvB hvC F o8 o11 T (fun a' W F' S' => by simp only [Exit.inBlock]; exact hend a' W F' S')
  refine wp_cond_false ((o195.eval (by rw [F.z]; decide)).trans (by rw [beq_false_of_ne h5])) ?_
  refine wp_skip ?_
  simp only [Exit.inBlock]
  exact hend _ _ F ((T.st hko).pre (fun L S => S.some_of (by simp)))
structure OpV where
  kd : Int
  on : Int
  fr : Int
  tq : Int
  AB : Option Addr
  AC : Option Addr
  nB : Nat
  cB : Nat
  nC : Nat
  cC : Nat
  bB : List UInt8
  bC : List UInt8
def OpV.A (x : OpV) : Array Value := #[.int .i64 x.kd, .int .i64 x.on, .int .i64 x.fr, .int .i64 x.tq, .slice x.AB x.nB x.cB, .slice x.AC x.nC x.cC]
structure OpOk (V : World) (x : OpV) : Prop where
  hB : Rd V 1 (.slice x.AB x.nB x.cB) x.nB (bv x.bB)
  hC : Rd V 1 (.slice x.AC x.nC x.cC) x.nC (bv x.bC)
  hon : -9223372036854775808 ≤ x.on ∧ x.on ≤ 9223372036854775807
  lB : x.nB ≤ 281474976710656
  lC : x.nC ≤ 281474976710656
/-- A list of operations in memory. -/
def OpsF (V : World) (A : Option Addr) (l : List OpV) : Prop := ∀ (k : Nat) (x : OpV), l[k]? = some x → ∃ ad, A = some ad ∧ (∀ j u, x.A.toList[j]? = some u → V.cell? ((ad.add (k * 6)).add j) = some u) ∧ OpOk V x
theorem OpsF.kp {V V' : World} {A : Option Addr} {l : List OpV} (h : OpsF V A l) (k : Kp [] V V') : OpsF V' A l := fun i x hx => by
  obtain ⟨ad, h1, h2, h3⟩ := h i x hx
  exact ⟨ad, h1, fun j u hu => cell_kept (h2 j u hu) k, rd_old h3.hB k, rd_old h3.hC k, h3.hon, h3.lB, h3.lC⟩
theorem rd_lens {V : World} {A : Option Addr} {n c : Nat} {b : List UInt8} (h : Rd V 1 (.slice A n c) n (bv b)) : b.length = n := by
  obtain ⟨h1, A', c', he, h2, h3, -⟩ := h
  cases he
  rw [bv_length] at h1
  omega
theorem tmod_two {on : Int} : ∃ ko : Nat, ko < 2 ∧ Int.tmod (wrap64 (Int.tmod on 2 + 2)) 2 = (ko : Int) := by
  have h1 := Int.tmod_lt_of_pos on (show (0 : Int) < 2 by decide)
  have h2 := Int.lt_tmod_of_pos on (show (0 : Int) < 2 by decide)
  generalize Int.tmod on 2 = t at *
  rcases (show t = -1 ∨ t = 0 ∨ t = 1 by omega) with rfl | rfl | rfl
  · exact ⟨1, by decide, by unfold wrap64; decide +kernel⟩
  · exact ⟨0, by decide, by unfold wrap64; decide +kernel⟩
  · exact ⟨1, by decide, by unfold wrap64; decide +kernel⟩
set_option maxRecDepth 100000 in
set_option maxHeartbeats 8000000 in
theorem crcparts_any (A : Option Addr) (c : Nat) (l : List OpV) (hll : l.length ≤ 9000000000000000000) (w : World) (hops : OpsF w A l) :
    Calls Try.prog 10 #[.slice A l.length c] w fun e w' => e = .returned (.bool true) ∧ Kp [] w w' := by
  refine calls_fr Try.func10 rfl 269 rfl (fun a0 hsz hdf hAr => ?_)
  have hz0 : a0.tmps.size = 269 := hsz
  have D := hdf
  have o0 := hAr 0 _ rfl
  refine wp_seq (pmn_r0 hz0 (fun a1 hs1 o2 => ?_))
  have hz1 := hs1.size.trans hz0
  have o0 := hs1.keep 0 _ (by decide) o0
  have D := hs1.defers.trans D
  refine wp_seq (pmn_r1 w [] (Held.start w) hz1 (fun a2 w2 hs2 h2 => ?_))
  have hz2 := hs2.size.trans hz1
  have o0 := hs2.keep 0 _ (by decide) o0
  have D := hs2.defers.trans D
  obtain ⟨gO, p0, v0, p1, v1, o3, S⟩ := h2
  refine wp_seq (pmn_r2 w _ S hz2 (fun a3 w3 hs3 h3 => ?_))
  have hz3 := hs3.size.trans hz2
  have o0 := hs3.keep 0 _ (by decide) o0
  have o3 := hs3.keep 3 _ (by decide) o3
  have D := hs3.defers.trans D
  obtain ⟨gT, o4, S⟩ := h3
  refine wp_seq (pmn_r3 hz3 (fun a4 hs4 o5 => ?_))
  have hz4 := hs4.size.trans hz3
  have o0 := hs4.keep 0 _ (by decide) o0
  have o3 := hs4.keep 3 _ (by decide) o3
  have o4 := hs4.keep 4 _ (by decide) o4
  have D := hs4.defers.trans D
  refine wp_seq (wp_seq (pmn_r4 hz4 (fun a5 hs5 o6 => ?_)))
  have hz5 := hs5.size.trans hz4
  have o0 := hs5.keep 0 _ (by decide) o0
  have o3 := hs5.keep 3 _ (by decide) o3
  have o4 := hs5.keep 4 _ (by decide) o4
  have o5 := hs5.keep 5 _ (by decide) o5
  have D := hs5.defers.trans D
  have h0 : Ow w3 5 1 (.slice none 0 0) 0 [] := World.ownsRow_nil _ _ _ _
  have S := S.rownew h0 (Kp.refl [] w3) (fun g hg => by cases hg)
  have S : Held w w3 (txR none 0 [] :: _) := S
  have S := (((((S.pull 0 rfl).pull 3 rfl).pull 4 rfl).pull 3 rfl).pull 4 rfl)
  have T0 : Stt w w3 gO gT 0 [] := St2.st (ko := 0) (b := []) (A := none) (c := 0) (d := []) (B := none) (e := 0) (R := [txR none 0 []]) ⟨rfl, rfl, rfl, rfl, rfl, rfl, by simp, by simp, by simp, by simp, S⟩ (by decide)
  refine wp_block ?_
  conv => arg 2; whnf
  refine wp_loop (fun a' w' => ∃ (k m : Nat), k ≤ l.length ∧ m ≤ 100000 ∧ a'.tmps.size = 269 ∧ a'.defers = [] ∧ Sl a' 0 (.slice A l.length c) ∧ Sl a' 3 (.pointer (some ⟨gO, 0, none⟩)) ∧ Sl a' 4 (.pointer (some ⟨gT, 0, none⟩)) ∧ Sl a' 5 (.int .i64 ((m : Nat) : Int)) ∧ Sl a' 6 (.int .i64 ((k : Nat) : Int)) ∧ Stt w w' gO gT m []) (fun a' _ => l.length - (intOf (a'.eval (.tmp 6))).toNat) ⟨0, 0, Nat.zero_le _, by omega, hz5, D, o0, o3, o4, o5, o6, T0⟩ ?_
  iterate 9 (try clear o0)
  iterate 9 (try clear o3)
  iterate 9 (try clear o4)
  iterate 9 (try clear o5)
  iterate 9 (try clear o6)
  iterate 9 (try clear S)
  iterate 9 (try clear T0)
  iterate 9 (try clear D)
  iterate 9 (try clear h0)
  rintro a6 w6 ⟨k, m, hk, hm, hz6, D, o0, o3, o4, o5, o6, T⟩
  have e6 := o6.eval (by rw [hz6]; decide)
  refine wp_seq (wp_seq (pmn_r5 A l.length c k hz6 o0 o6 (fun a7 hs7 o27 => ?_)))
  have hz7 := hs7.size.trans hz6
  have o0 := hs7.keep 0 _ (by decide) o0
  have o3 := hs7.keep 3 _ (by decide) o3
  have o4 := hs7.keep 4 _ (by decide) o4
  have o5 := hs7.keep 5 _ (by decide) o5
  have o6 := hs7.keep 6 _ (by decide) o6
  have D := hs7.defers.trans D
  by_cases hlt : k < l.length
  · refine wp_cond_true ((o27.eval (by rw [hz7]; decide)).trans (by rw [decide_eq_true hlt])) (wp_skip ?_)
    simp only [Exit.then]
    obtain ⟨x, hx⟩ : ∃ x, l[k]? = some x := ⟨_, List.getElem?_eq_getElem hlt⟩
    obtain ⟨R, cs, ts, p, v, b, At, ct, q, u, d, B, e, T⟩ := T
    have hall := fun (V : World) (kV : Kp [] w V) => (hops.kp kV) k x hx
    obtain ⟨ad, rfl, hcell, hok⟩ := hall w6 T.S.k
    have hok2 : ∀ V, Kp [] w V → OpOk V x := fun V kV => by obtain ⟨_, _, _, h⟩ := hall V kV; exact h
    clear hall
    obtain ⟨kd, on, fr, tq, AB, AC, nB, cB, nC, cC, bB, bC⟩ := x
    simp only [OpV.A] at hcell
    have hlB := rd_lens hok.hB
    have hlC := rd_lens hok.hC
    have hB48 := hok.lB
    have hC48 := hok.lC
    have hon := hok.hon
    simp only at hlB hB48 hlC hC48 hon
    have hvB : ∀ V, Kp [] w V → Rd V 1 (.slice AB nB cB) nB (bv bB) := fun V kV => (hok2 V kV).hB
    have hvC : ∀ V, Kp [] w V → Rd V 1 (.slice AC nC cC) nC (bv bC) := fun V kV => (hok2 V kV).hC
    clear hok hok2
    refine wp_seq (wp_block ?_)
    refine wp_seq (pmn_r7 w ad k l.length c hlt kd on fr tq AB AC nB cB nC cC hcell _ T.S hz7 o0 o6 (fun a8 w8 hs8 h8 => ?_))
    have hz8 := hs8.size.trans hz7
    have o0 := hs8.keep 0 _ (by decide) o0
    have o3 := hs8.keep 3 _ (by decide) o3
    have o4 := hs8.keep 4 _ (by decide) o4
    have o5 := hs8.keep 5 _ (by decide) o5
    have o6 := hs8.keep 6 _ (by decide) o6
    have o27 := hs8.keep 27 _ (by decide) o27
    have D := hs8.defers.trans D
    obtain ⟨g7, o7, S⟩ := h8
    refine wp_seq (pmn_r8 kd on fr tq AB AC nB cB nC cC g7 m (S.at_ (l1 := [])) hm hB48 hC48 hz8 o5 o7 (fun a9 hs9 o5 => ?_))
    have hz9 := hs9.size.trans hz8
    have o0 := hs9.keep 0 _ (by decide) o0
    have o3 := hs9.keep 3 _ (by decide) o3
    have o4 := hs9.keep 4 _ (by decide) o4
    have o6 := hs9.keep 6 _ (by decide) o6
    have o27 := hs9.keep 27 _ (by decide) o27
    have o7 := hs9.keep 7 _ (by decide) o7
    have D := hs9.defers.trans D
    refine wp_seq (wp_seq (pmn_r9 (m + nB + nC) hz9 o5 (fun a10 hs10 o44 => ?_)))
    have hz10 := hs10.size.trans hz9
    have o0 := hs10.keep 0 _ (by decide) o0
    have o3 := hs10.keep 3 _ (by decide) o3
    have o4 := hs10.keep 4 _ (by decide) o4
    have o5 := hs10.keep 5 _ (by decide) o5
    have o6 := hs10.keep 6 _ (by decide) o6
    have o27 := hs10.keep 27 _ (by decide) o27
    have o7 := hs10.keep 7 _ (by decide) o7
    have D := hs10.defers.trans D
    by_cases hbig : 100000 < m + nB + nC
    · refine wp_cond_true ((o44.eval (by rw [hz10]; decide)).trans (by rw [decide_eq_true (by omega)])) ?_
      refine wp_seq (pmn_r10 hz10 (fun a11 w11 hs11 o2 k11 => ?_))
      have hz11 := hs11.size.trans hz10
      have o0 := hs11.keep 0 _ (by decide) o0
      have o3 := hs11.keep 3 _ (by decide) o3
      have o4 := hs11.keep 4 _ (by decide) o4
      have o5 := hs11.keep 5 _ (by decide) o5
      have o6 := hs11.keep 6 _ (by decide) o6
      have o27 := hs11.keep 27 _ (by decide) o27
      have o7 := hs11.keep 7 _ (by decide) o7
      have o44 := hs11.keep 44 _ (by decide) o44
      have D := hs11.defers.trans D
      refine wp_ret ?_
      simp only [Exit.inBlock, Exit.then]
      exact bodyPost_ret (results_T1 (by rfl) (o2.eval (by rw [hz11]; decide))) D ⟨rfl, S.k.trans k11 (by simp)⟩
    refine wp_cond_false ((o44.eval (by rw [hz10]; decide)).trans (by rw [decide_eq_false (by omega)])) (wp_skip ?_)
    simp only [Exit.then]
    obtain ⟨ko, hko, hkoe⟩ := tmod_two (on := on)
    have T : Stt w w8 gO gT m [blkR g7 52 #[.int .i64 kd, .int .i64 on, .int .i64 fr, .int .i64 tq, .slice AB nB cB, .slice AC nC cC]] := ⟨R, cs, ts, p, v, b, At, ct, q, u, d, B, e, T.hcs, T.hts, T.cp, T.cq, T.tp, T.tq, T.rp, T.rq, T.lb, T.ld, S⟩
    clear S
    obtain ⟨R, cs, ts, p, v, b, At, ct, q, u, d, B, e, T⟩ := T.pick ko hko
    have S : Held w w8 (blkR g7 52 #[.int .i64 kd, .int .i64 on, .int .i64 fr, .int .i64 tq, .slice AB nB cB, .slice AC nC cC] :: blkR gO 49 cs :: blkR gT 50 ts :: sumsR p v b :: sumsR q u d :: R) := T.S
    refine wp_seq (pmn_r11 kd on fr tq AB AC nB cB nC cC g7 ko (S.at_ (l1 := [])) hon hkoe hz10 o7 (fun a11 hs11 o8 => ?_))
    have hz11 := hs11.size.trans hz10
    have o0 := hs11.keep 0 _ (by decide) o0
    have o3 := hs11.keep 3 _ (by decide) o3
    have o4 := hs11.keep 4 _ (by decide) o4
    have o5 := hs11.keep 5 _ (by decide) o5
    have o6 := hs11.keep 6 _ (by decide) o6
    have o27 := hs11.keep 27 _ (by decide) o27
    have o7 := hs11.keep 7 _ (by decide) o7
    have o44 := hs11.keep 44 _ (by decide) o44
    have D := hs11.defers.trans D
    refine wp_seq (wp_seq (pmn_r12 cs gO p ko hko T.cp (S.at_ (l1 := [_])) hz11 o3 o8 (fun a12 hs12 o54 => ?_)))
    have hz12 := hs12.size.trans hz11
    have o0 := hs12.keep 0 _ (by decide) o0
    have o3 := hs12.keep 3 _ (by decide) o3
    have o4 := hs12.keep 4 _ (by decide) o4
    have o5 := hs12.keep 5 _ (by decide) o5
    have o6 := hs12.keep 6 _ (by decide) o6
    have o27 := hs12.keep 27 _ (by decide) o27
    have o7 := hs12.keep 7 _ (by decide) o7
    have o44 := hs12.keep 44 _ (by decide) o44
    have o8 := hs12.keep 8 _ (by decide) o8
    have D := hs12.defers.trans D
    refine wp_cond_false (o54.eval (by rw [hz12]; decide)) (wp_skip ?_)
    simp only [Exit.then]
    refine wp_seq (pmn_r14 w kd on fr tq AB AC nB cB nC cC g7 bB bC (by omega) (by omega) hvB hvC _ hz12 o7 S (fun a13 vs gs w13 hs13 o9 o10 S => ?_))
    have hz13 := hs13.size.trans hz12
    have o0 := hs13.keep 0 _ (by decide) o0
    have o3 := hs13.keep 3 _ (by decide) o3
    have o4 := hs13.keep 4 _ (by decide) o4
    have o5 := hs13.keep 5 _ (by decide) o5
    have o6 := hs13.keep 6 _ (by decide) o6
    have o7 := hs13.keep 7 _ (by decide) o7
    have o8 := hs13.keep 8 _ (by decide) o8
    have D := hs13.defers.trans D
    obtain ⟨⟨gx, cx⟩, hgx⟩ : ∃ t, gs 2 = t := ⟨_, rfl⟩
    obtain ⟨⟨gy, cy⟩, hgy⟩ : ∃ t, gs 5 = t := ⟨_, rfl⟩
    rw [hgx] at S o9
    rw [hgy] at S o10
    simp only at S o9 o10
    clear hgx hgy
    have S := ((S.pull 2 rfl).pull 3 rfl)
    refine wp_seq (pmn_r15 w cs gO p ko hko T.cp kd on fr tq AB AC nB cB nC cC g7 _ hz13 o3 o7 o8 S (fun a14 vs' gs' w14 hs14 o11 S => ?_))
    have hz14 := hs14.size.trans hz13
    have o0 := hs14.keep 0 _ (by decide) o0
    have o3 := hs14.keep 3 _ (by decide) o3
    have o4 := hs14.keep 4 _ (by decide) o4
    have o5 := hs14.keep 5 _ (by decide) o5
    have o6 := hs14.keep 6 _ (by decide) o6
    have o7 := hs14.keep 7 _ (by decide) o7
    have o8 := hs14.keep 8 _ (by decide) o8
    have o9 := hs14.keep 9 _ (by decide) o9
    have o10 := hs14.keep 10 _ (by decide) o10
    have D := hs14.defers.trans D
    obtain ⟨⟨gS, gN⟩, hgS⟩ : ∃ t, gs' 6 = t := ⟨_, rfl⟩
    rw [hgS] at S o11
    simp only at S o11
    clear hgS
    have S := (((((((((S.pull 8 rfl).pull 8 rfl).pull 8 rfl).pull 5 rfl).pull 6 rfl).pull 8 rfl).pull 8 rfl).pull 8 rfl).pull 8 rfl)
    refine wp_seq (wp_seq (pmn_r16 kd on fr tq AB AC nB cB nC cC g7 (S.at_ (l1 := [_, _, _, _])) hz14 o7 (fun a15 hs15 o69 => ?_)))
    have hz15 := hs15.size.trans hz14
    have o0 := hs15.keep 0 _ (by decide) o0
    have o3 := hs15.keep 3 _ (by decide) o3
    have o4 := hs15.keep 4 _ (by decide) o4
    have o5 := hs15.keep 5 _ (by decide) o5
    have o6 := hs15.keep 6 _ (by decide) o6
    have o7 := hs15.keep 7 _ (by decide) o7
    have o8 := hs15.keep 8 _ (by decide) o8
    have o9 := hs15.keep 9 _ (by decide) o9
    have o10 := hs15.keep 10 _ (by decide) o10
    have o11 := hs15.keep 11 _ (by decide) o11
    have D := hs15.defers.trans D
    have hbm : b.length + nB + nC ≤ m + nB + nC := by have := T.lb; omega
    have F : FM a15 (.slice (some ad) l.length c) gO gT (m + nB + nC) k g7 (.slice (some ⟨gx, 0, none⟩) nB cx) (.slice (some ⟨gy, 0, none⟩) nC cy) := ⟨hz15, D, o0, o3, o4, o5, o6, o7, o9, o10⟩
    have T : St2 w w14 gO gT ko (m + nB + nC) [_, _, _, _, _] R cs ts p v b At ct q u d B e := ⟨T.hcs, T.hts, T.cp, T.cq, T.tp, T.tq, T.rp, T.rq, by have := T.lb; omega, by have := T.ld; omega, S⟩
    iterate 9 (try clear o0)
    iterate 9 (try clear o3)
    iterate 9 (try clear o4)
    iterate 9 (try clear o5)
    iterate 9 (try clear o6)
    iterate 9 (try clear o7)
    iterate 9 (try clear o9)
    iterate 9 (try clear o10)
    refine pmn_b2 (.slice (some ad) l.length c) gO gT ko (m + nB + nC) k g7 hko kd on fr tq AB AC nB cB nC cC bB bC gx cx gy cy gS gN (by omega) R cs ts p v b At ct q u d B e hbm hlB hlC hvB hvC F o8 o11 o69 T (fun a16 w16 F T => ?_)
    clear S
    simp only [Exit.inBlock, Exit.then]
    obtain ⟨R, cs, ts, p, v, b, At, ct, q, u, d, B, e, T⟩ := T
    have S : Held w w16 (rowR 5 1 (.slice (some ⟨gx, 0, none⟩) (nB + 2) cx) (nB + 2) (bv (bB ++ [165, 90])) :: rowR 5 1 (.slice (some ⟨gy, 0, none⟩) (nC + 2) cy) (nC + 2) (bv (bC ++ [165, 90])) :: blkR g7 52 #[.int .i64 kd, .int .i64 on, .int .i64 fr, .int .i64 tq, .slice AB nB cB, .slice AC nC cC] :: blkR gO 49 cs :: blkR gT 50 ts :: sumsR p v b :: sumsR q u d :: R) := T.S
    refine wp_seq (wp_seq (pmn_r41 kd on fr tq AB AC nB cB nC cC g7 gx nB cx gy nC cy (S.at_ (l1 := [_, _])) (fun V kV => (ckept_any gx cx nB _ bB V ((S.kp kV).at_ (l1 := [])) (hvB V (S.k.trans kV (by simp))) (by omega)).mono (fun e w' h => ⟨h.1, by rw [← h.2]; exact Kp.refl _ _⟩)) (fun V kV => (ckept_any gy cy nC _ bC V ((S.kp kV).at_ (l1 := [_])) (hvC V (S.k.trans kV (by simp))) (by omega)).mono (fun e w' h => ⟨h.1, by rw [← h.2]; exact Kp.refl _ _⟩)) F.z F.o7 F.o9 F.o10 (fun a17 w17 hs17 k17 o214 => ?_)))
    have F := F.same hs17 (by decide)
    have S := S.kp k17
    refine wp_cond_false (o214.eval (by rw [F.z]; decide)) (wp_skip ?_)
    simp only [Exit.then]
    refine wp_seq (wp_seq (pmn_r43 F.z (fun a18 hs18 o17 => ?_)))
    have F := F.same hs18 (by decide)
    refine pmn_b3 _ gO gT _ k g7 gx nB cx (by omega) _ (bB ++ [165, 90]) (by rw [List.length_append, hlB]; rfl) _ F o17 S (fun a19 w19 ys F S => ?_)
    simp only [Exit.then]
    refine wp_seq (pmn_r47 F.z (fun a20 hs20 o18 => ?_))
    have F := F.same hs20 (by decide)
    have T : Stt w w19 gO gT (m + nB + nC) [] := ⟨R, cs, ts, p, v, b, At, ct, q, u, d, B, e, T.hcs, T.hts, T.cp, T.cq, T.tp, T.tq, T.rp, T.rq, T.lb, T.ld, S.drop.drop.drop⟩
    refine pmn_b5 _ gO gT _ k g7 (by omega) _ _ F o18 T (fun a21 w21 F T => ?_)
    simp only [Exit.inBlock, Exit.then]
    refine pmn_r6 k (by omega) F.z F.o6 (fun a22 hs22 o6 => ?_)
    have hz22 := hs22.size.trans F.z
    refine ⟨⟨k + 1, m + nB + nC, hlt, by omega, hz22, hs22.defers.trans F.D, hs22.keep 0 _ (by decide) F.o0, hs22.keep 3 _ (by decide) F.o3, hs22.keep 4 _ (by decide) F.o4, hs22.keep 5 _ (by decide) F.o5, o6, T⟩, ?_⟩
    show l.length - (intOf _).toNat < l.length - (intOf _).toNat
    rw [e6, o6.eval (by rw [hz22]; decide)]
    simp only [intOf]; omega
  · refine wp_cond_false ((o27.eval (by rw [hz7]; decide)).trans (by rw [decide_eq_false hlt])) (wp_exit ?_)
    simp only [Exit.then, Exit.inBlock]
    obtain ⟨R, cs, ts, p, v, b, At, ct, q, u, d, B, e, T⟩ := T
    refine wp_seq (pmn_r53 hz7 (fun a8 w8 hs8 k8 o2 => ?_))
    refine wp_ret ?_
    exact bodyPost_ret (results_T1 (by rfl) (o2.eval (by rw [hs8.size, hz7]; decide))) (hs8.defers.trans D) ⟨rfl, T.S.k.trans k8 (by simp)⟩
end
/- What comes in, opened: slices of bytes; how much there is of it. -/
section
open Go.RowKit Go.WideShapes Go.ChangeShapes

section
variable {H : Type} {enc : TypeId × Value → H} {P : Program}
/-! ### Bulk -/
theorem bulk_pos (d : DataW H) : 1 ≤ Rows.uptoBulk d := by
  cases d with
  | lit l => cases l <;> simp [Rows.uptoBulk]
  | nil => simp [Rows.uptoBulk]
  | ptr d => simp [Rows.uptoBulk]
  | slice elems spare => simp [Rows.uptoBulk]
  | agg parts => simp [Rows.uptoBulk]
  | iface t d => simp [Rows.uptoBulk]
  | map entries => simp [Rows.uptoBulk]
  | held h => simp [Rows.uptoBulk]
theorem bulk_len (l : List (DataW H)) : l.length ≤ Rows.uptoBulkAll l := by
  induction l with
  | nil => simp [Rows.uptoBulkAll]
  | cons x r ih => have := bulk_pos x; simp only [Rows.uptoBulkAll, List.length_cons]; omega
theorem bulk_slice (l r : List (DataW H)) : Rows.uptoBulk (.slice l r) = Rows.uptoBulkAll l + Rows.uptoBulkAll r + 1 := by simp [Rows.uptoBulk]
/-! ### A slice of bytes -/
theorem u8_lit {z : Int} (h : (Lit.int .u8 z).wf = true) : 0 ≤ z ∧ z ≤ 255 := by simpa [Lit.wf, IntKind.min, IntKind.max, IntKind.signed, IntKind.bits] using h
theorem open_bytes {W : World} {n : Nat} {t e : TypeId} {cs : List Value} {x : DataW H × List MemPlace} (ht : P.underlying t = some (.slice e)) (he : P.underlying e = some (.int .u8)) (hc : P.cellsOf e = 1)
    (h : DataW.trod enc P W 0 (fun _ => true) true n t cs = some x) : ∃ B bs, cs = [B] ∧ Rd W 1 B bs.length (bv bs) ∧ bs.length + 1 ≤ Rows.uptoBulk x.1 := by
  rcases open_ints ht he hc h with ⟨rfl, rfl⟩ | ⟨a, len, cap, zs, rfl, _, hl, hm, hz, rfl, hcell, hwf⟩
  · exact ⟨_, [], rfl, Rd.nil _ _, by simp [Rows.uptoBulk]⟩
  · simp only [if_true] at hz
    have hbl : ((zs.take len).map fun z => UInt8.ofNat z.toNat).length = len := by rw [List.length_map, List.length_take]; omega
    refine ⟨_, (zs.take len).map fun z => UInt8.ofNat z.toNat, rfl, ?_, ?_⟩
    · rw [hbl]
      refine ⟨by rw [bv_length, hbl]; omega, some a, cap, rfl, hl, hm, (fun h => by cases h), fun ad had j u hu => ?_⟩
      cases had
      rw [bv_get, List.getElem?_map] at hu
      cases hj : (zs.take len)[j]? with
      | none => rw [hj] at hu; simp at hu
      | some z =>
        rw [hj] at hu
        have hz' : zs[j]? = some z := by
          rw [List.getElem?_take] at hj
          split at hj
          · exact hj
          · cases hj
        have hlt : j < zs.length := (List.getElem?_eq_some_iff.1 hz').1
        have hw := u8_lit (hwf z (List.mem_of_getElem? hz'))
        have hg := hcell j hlt
        rw [List.getD_eq_getElem?_getD, hz', Option.getD_some] at hg
        rw [hg]
        simp only [Option.map_some, Option.some.injEq] at hu
        rw [← hu, UInt8.toNat_ofNat', Nat.mod_eq_of_lt (by omega)]
        congr 2
        omega
    · rw [bulk_slice]
      have := bulk_len (lits (H := H) .u8 (zs.take len))
      rw [hbl]
      have hll : (lits (H := H) .u8 (zs.take len)).length = len := by simp [lits]; omega
      omega
/-- The same, with the reading's length. -/
theorem open_bytes_len {W : World} {n : Nat} {t e : TypeId} {cs : List Value} {x : DataW H × List MemPlace} (ht : P.underlying t = some (.slice e)) (he : P.underlying e = some (.int .u8)) (hc : P.cellsOf e = 1)
    (h : DataW.trod enc P W 0 (fun _ => true) true n t cs = some x) : ∃ B bs, cs = [B] ∧ Rd W 1 B bs.length (bv bs) ∧ bs.length + 1 ≤ Rows.uptoBulk x.1 ∧ (bs = [] ∨ ∃ elems spare, x.1 = .slice elems spare ∧ elems.length = bs.length) := by
  obtain ⟨B, bs, h1, h2, h3⟩ := open_bytes ht he hc h
  refine ⟨B, bs, h1, h2, h3, ?_⟩
  rcases open_ints ht he hc h with ⟨hB, _⟩ | ⟨a, len, cap, zs, hB, _, _, _, hz, hx, _, _⟩
  · left
    obtain ⟨A, c, hv, _⟩ := h2.2
    rw [h1, hv] at hB
    simp only [List.cons.injEq, Value.slice.injEq, and_true] at hB
    exact List.eq_nil_of_length_eq_zero hB.2.1
  · right
    simp only [if_true] at hz
    refine ⟨_, _, by rw [hx], ?_⟩
    obtain ⟨A, c, hv, _⟩ := h2.2
    rw [h1, hv] at hB
    simp only [List.cons.injEq, Value.slice.injEq, and_true] at hB
    simp [lits]
    omega
end
end
/- CrcParts: its argument, opened. -/
section
open Go.RowKit Go.WideShapes Go.ChangeShapes
section
variable {H : Type} {enc : TypeId × Value → H}
theorem Try.cellsOpP : Try.prog.cellsOf 52 = 6 := by kernel_rfl
theorem Try.cellsIntP : Try.prog.cellsOf 3 = 1 := by kernel_rfl
theorem Try.cellsBytesP : Try.prog.cellsOf 22 = 1 := by kernel_rfl
theorem bytes_of_u8p : Try.prog.bytesOf 5 = 1 := by kernel_rfl
theorem bytes_of_op : Try.prog.bytesOf 52 = 80 := by kernel_rfl
/-- What a reading of a row of bytes says of its length. -/
def RowW (d : DataW H) (b : List UInt8) : Prop := b = [] ∨ ∃ elems spare, d = .slice elems spare ∧ elems.length = b.length
theorem RowW.le {d : DataW H} {b : List UInt8} (h : RowW d b) (hw : ∀ n, n ∈ d.weights Try.prog 22 → n ≤ reachBytes) : b.length ≤ 281474976710656 := by
  rcases h with rfl | ⟨elems, spare, rfl, hl⟩
  · simp
  · have := hw ((elems.length + spare.length) * Try.prog.bytesOf 5) (by simp [DataW.weights, Try.underlying22])
    rw [bytes_of_u8p] at this
    unfold reachBytes at this
    omega
theorem weights_mem_allP {e : TypeId} : ∀ {l : List (DataW H)} {i : Nat} {d : DataW H}, l[i]? = some d → ∀ n, n ∈ d.weights Try.prog e → n ∈ DataW.weightsAll Try.prog e l
  | [], _, _, h, _, _ => by simp at h
  | x :: l, 0, d, h, n, hn => by
    cases h
    rw [DataW.weightsAll]
    exact List.mem_append_left _ hn
  | x :: l, i + 1, d, h, n, hn => by
    rw [DataW.weightsAll]
    exact List.mem_append_right _ (weights_mem_allP (by simpa using h) n hn)
set_option maxRecDepth 100000 in
theorem open_op {W : World} {n : Nat} {cs : List Value} {x : DataW H × List MemPlace} (h : DataW.trod enc Try.prog W 0 (fun _ => true) true n 52 cs = some x) :
    ∃ v : OpV, cs = v.A.toList ∧ ((∀ n, n ∈ x.1.weights Try.prog 52 → n ≤ reachBytes) → OpOk W v) := by
  obtain ⟨xs, k, rfl, rfl, hl, hxl, hf⟩ := DataW.trod_struct Try.underlying52 h
  rw [Try.cellsOpP] at hl
  obtain ⟨x0, x1, x2, x3, x4, x5, rfl⟩ : ∃ x0 x1 x2 x3 x4 x5, xs = [x0, x1, x2, x3, x4, x5] := by
    match xs, hxl with
    | [x0, x1, x2, x3, x4, x5], _ => exact ⟨x0, x1, x2, x3, x4, x5, rfl⟩
  have f0 : DataW.trod enc Try.prog W 0 (fun _ => true) true k 3 ((cs.drop 0).take (Try.prog.cellsOf 3)) = some x0 := hf 0 _ rfl
  have f1 : DataW.trod enc Try.prog W 0 (fun _ => true) true k 3 ((cs.drop 1).take (Try.prog.cellsOf 3)) = some x1 := hf 1 _ rfl
  have f2 : DataW.trod enc Try.prog W 0 (fun _ => true) true k 3 ((cs.drop 2).take (Try.prog.cellsOf 3)) = some x2 := hf 2 _ rfl
  have f3 : DataW.trod enc Try.prog W 0 (fun _ => true) true k 3 ((cs.drop 3).take (Try.prog.cellsOf 3)) = some x3 := hf 3 _ rfl
  have f4 : DataW.trod enc Try.prog W 0 (fun _ => true) true k 22 ((cs.drop 4).take (Try.prog.cellsOf 22)) = some x4 := hf 4 _ rfl
  have f5 : DataW.trod enc Try.prog W 0 (fun _ => true) true k 22 ((cs.drop 5).take (Try.prog.cellsOf 22)) = some x5 := hf 5 _ rfl
  rw [Try.cellsIntP] at f0 f1 f2 f3
  rw [Try.cellsBytesP] at f4 f5
  clear hf hxl
  obtain ⟨kd, e0, _, w0⟩ := DataW.trod_int Try.underlying3 f0
  obtain ⟨on, e1, _, w1⟩ := DataW.trod_int Try.underlying3 f1
  obtain ⟨fr, e2, _, w2⟩ := DataW.trod_int Try.underlying3 f2
  obtain ⟨tq, e3, _, w3⟩ := DataW.trod_int Try.underlying3 f3
  obtain ⟨B1, p, e4, r4, _, l4⟩ := open_bytes_len Try.underlying22 Try.underlying5 Try.cellsU8 f4
  obtain ⟨B2, q, e5, r5, _, l5⟩ := open_bytes_len Try.underlying22 Try.underlying5 Try.cellsU8 f5
  obtain ⟨Ap, cp, rfl⟩ := rd_form r4
  obtain ⟨Aq, cq, rfl⟩ := rd_form r5
  have g0 := at_of_cut (i := 0) e0
  have g1 := at_of_cut (i := 1) e1
  have g2 := at_of_cut (i := 2) e2
  have g3 := at_of_cut (i := 3) e3
  have g4 := at_of_cut (i := 4) e4
  have g5 := at_of_cut (i := 5) e5
  refine ⟨⟨kd, on, fr, tq, Ap, Aq, p.length, cp, q.length, cq, p, q⟩, ?_, fun hw => ⟨r4, r5, i64_lit w1, RowW.le (d := x4.1) l4 fun n hn => hw n ?_, RowW.le (d := x5.1) l5 fun n hn => hw n ?_⟩⟩
  · obtain ⟨a, b, c, d, e, f, rfl⟩ : ∃ a b c d e f, cs = [a, b, c, d, e, f] := by
      match cs, hl with
      | [a, b, c, d, e, f], _ => exact ⟨a, b, c, d, e, f, rfl⟩
    cases g0
    cases g1
    cases g2
    cases g3
    cases g4
    cases g5
    rfl
  · simp only [List.map_cons, List.map_nil]
    rw [DataW.weights, Try.underlying52]
    exact DataW.weights_mem_each (j := 4) (t := 22) rfl rfl _ hn
  · simp only [List.map_cons, List.map_nil]
    rw [DataW.weights, Try.underlying52]
    exact DataW.weights_mem_each (j := 5) (t := 22) rfl rfl _ hn
set_option maxRecDepth 100000 in
theorem open_ops {W : World} {n : Nat} {v : Value} {x : DataW H × List MemPlace} (h : DataW.trod enc Try.prog W 0 (fun _ => true) true n 46 [v] = some x) (hw : ∀ n, n ∈ x.1.weights Try.prog 46 → n ≤ reachBytes) :
    ∃ (A : Option Addr) (c : Nat) (l : List OpV), v = .slice A l.length c ∧ l.length ≤ 9000000000000000000 ∧ OpsF W A l := by
  rcases Deep.open_slice Try.underlying46 h with ⟨hv, rfl⟩ | ⟨a, len, cap, m, k, D, Pl, hv, _, hl, hm, hmm, rfl, hel⟩
  · cases hv
    exact ⟨none, 0, [], rfl, by simp, fun i x hx => by simp at hx⟩
  · cases hv
    simp only [if_true] at hmm
    obtain ⟨G, hG⟩ := Deep.choose_lt (α := Option OpV) (n := len) (p := fun i o => ∃ q, o = some q ∧ (∀ j u, q.A.toList[j]? = some u → W.cell? ((a.add (i * 6)).add j) = some u) ∧ OpOk W q) (fun i hi => by
      obtain ⟨cs, h1, h2⟩ := hel i (by omega)
      rw [Try.cellsOpP] at h1
      obtain ⟨q, rfl, hq⟩ := open_op h2
      obtain ⟨_, hlen, hcell⟩ := World.cells?_some h1
      refine ⟨some q, q, rfl, (fun j u hu => by rw [hcell j (by have := (List.getElem?_eq_some_iff.1 hu).1; simpa [OpV.A] using this)]; exact hu), hq fun n hn => hw n ?_⟩
      rw [DataW.weights, Try.underlying46]
      refine List.mem_cons_of_mem _ (List.mem_append_left _ (weights_mem_allP (i := i) (d := D i) ?_ n hn))
      rw [List.getElem?_map, List.getElem?_range hi]
      rfl)
    have hb : len * 80 ≤ reachBytes := by
      have := hw ((len + (m - len)) * Try.prog.bytesOf 52) (by simp [DataW.weights, Try.underlying46])
      rw [bytes_of_op] at this
      omega
    unfold reachBytes at hb
    have hll : ((List.range len).map fun i => (G i).getD ⟨0, 0, 0, 0, none, none, 0, 0, 0, 0, [], []⟩).length = len := by simp
    refine ⟨some a, cap, (List.range len).map fun i => (G i).getD ⟨0, 0, 0, 0, none, none, 0, 0, 0, 0, [], []⟩, by rw [hll], by rw [hll]; omega, fun i x hx => ?_⟩
    have hi : i < len := by have := (List.getElem?_eq_some_iff.1 hx).1; rwa [hll] at this
    rw [List.getElem?_map, List.getElem?_range hi] at hx
    obtain ⟨q, hq, h1, h2⟩ := hG i hi
    simp only [Option.map_some, hq, Option.getD_some, Option.some.injEq] at hx
    subst hx
    exact ⟨a, rfl, h1, h2⟩
end
end
/- The row's last step, where a walk has left 'Below' of the world it began in. -/
section
open Go.RowKit Go.WideShapes Go.ChangeShapes

theorem own_knob : ownKnob Try.prog.godebug = none := by kernel_rfl

section
variable {H : Type} {enc : TypeId × Value → H} {P : Program}
/-- 'post_of_same' for a world of which 'Below' alone is known (old cells and old marks are as they were). -/
theorem post_below {f : Func} {s : ChangeSpec} {apart fresh handsOn again : Bool} {W W' : World} {args : Array Value} {v : Value} {ds gs : List (DataW H)} {before pa pv : List MemPlace}
    (hW : DataW.Whole enc P f.params.toList s.vars apart W args.toList ds gs before)
    (hres : ∀ (b : Nat) (sp : Nat → Bool) (hd : Bool), DataW.TrodAll enc P W' b sp hd f.resultTypes.toList (v.resultList f.resultTypes.size) (s.fn H (ds ++ gs)).results [])
    (hargs : ∀ sp : Nat → Bool, (∀ p ∈ before, sp p.block = true) → DataW.TrodAll enc P W' 0 sp true f.params.toList args.toList (s.fn H (ds ++ gs)).args pa)
    (hvars : ∀ sp : Nat → Bool, (∀ p ∈ before, sp p.block = true) → DataW.TrodVars enc P W' sp s.vars (s.fn H (ds ++ gs)).vars pv)
    (hps : before = pa ++ pv) (hb : Below W.heap.size W W')
    (hok : ∀ (j : Nat) (t : TypeId) (r : Value), f.resultTypes[j]? = some t → (v.resultList f.resultTypes.size)[j]? = some r → Value.okWide P W' .any 0 t r) :
    s.post enc P f apart fresh handsOn again W args v W' := by
  have hlt : ∀ p ∈ before, p.block < W.heap.size := fun p hp => hW.lt p hp
  have hold : ∀ p ∈ before, (fun b => decide (b < W.heap.size)) p.block = true := fun p hp => by simpa using hlt p hp
  refine ⟨ds, gs, before, [], pa, pv, hW, hres _ _ _, hargs _ hold, hvars _ hold, World.keptBut_mono (fun p hp => ⟨hp, ?_⟩) (hb.frame (· ∈ before)), fun _ => ?_⟩
  · rw [hps, List.mem_append] at hp
    exact Or.inr hp
  · obtain ⟨_, _, _, _, _, hz, hn⟩ := hW
    refine ⟨hok, _, _, ([] ++ pa) ++ pv, ⟨[] ++ pa, pv, trodAll_append (hargs _ (fun _ _ => rfl)) (hres _ _ _), hvars _ (fun _ _ => rfl), rfl, ?_, ?_⟩, ?_⟩
    · intro b off hp
      have hin : MemPlace.cell b off ∈ before := by rw [hps]; simpa using hp
      rw [hb.frozen (hlt _ hin)]
      exact hz b off hin
    · intro ha
      have := hn ha
      rw [hps] at this
      simpa using this
    · intro p hp _
      rw [hps]
      simpa using hp
end
theorem Kp.below0 {w w' : World} (h : Kp [] w w') : Below w.heap.size w w' := h.below (Nat.le_refl _) (by simp)
end
/- The row's last step, where the arguments read as they did (out of 'Below' alone). -/
section
open Go.RowKit Go.WideShapes Go.ChangeShapes

section
variable {H : Type} {enc : TypeId × Value → H} {P : Program}
theorem trodAll_stays (hl : laidOutB P = true) {W W' : World} {sp' : Nat → Bool} : ∀ {ts : List TypeId} {vs : List Value} {ds : List (DataW H)} {ps : List MemPlace}, ts.all (fun t => P.readableRec t && decide (t < P.types.size)) = true →
    DataW.TrodAll enc P W 0 (fun _ => true) true ts vs ds ps → (∀ p ∈ ps, W.sameAt W' p) → (∀ p ∈ ps, sp' p.block = true) → DataW.TrodAll enc P W' 0 sp' true ts vs ds ps
  | [], [], [], _, _, h, _, _ => h
  | t :: ts, v :: vs, d :: ds, _, hr, ⟨p, q, h1, h2, e⟩, hm, hs => by
    simp only [List.all_cons, Bool.and_eq_true, decide_eq_true_eq] at hr
    exact ⟨p, q, WideElems.Trod_stays hl hr.1.1 hr.1.2 h1 (fun x hx => hm x (by rw [e]; exact List.mem_append_left _ hx)) (fun x hx => hs x (by rw [e]; exact List.mem_append_left _ hx)),
      trodAll_stays hl hr.2 h2 (fun x hx => hm x (by rw [e]; exact List.mem_append_right _ hx)) (fun x hx => hs x (by rw [e]; exact List.mem_append_right _ hx)), e⟩

theorem post_kept {f : Func} {s : ChangeSpec} {apart fresh handsOn again : Bool} {W W' : World} {args : Array Value} {v : Value} {ds gs : List (DataW H)} {before : List MemPlace}
    (hl : laidOutB P = true) (hr : f.params.toList.all (fun t => P.readableRec t && decide (t < P.types.size)) = true) (hsv : s.vars = [])
    (hW : DataW.Whole enc P f.params.toList s.vars apart W args.toList ds gs before)
    (hres : ∀ (b : Nat) (sp : Nat → Bool) (hd : Bool), DataW.TrodAll enc P W' b sp hd f.resultTypes.toList (v.resultList f.resultTypes.size) (s.fn H (ds ++ gs)).results [])
    (hfa : (s.fn H (ds ++ gs)).args = ds) (hfv : (s.fn H (ds ++ gs)).vars = []) (hb : Below W.heap.size W W')
    (hok : ∀ (j : Nat) (t : TypeId) (r : Value), f.resultTypes[j]? = some t → (v.resultList f.resultTypes.size)[j]? = some r → Value.okWide P W' .any 0 t r) :
    s.post enc P f apart fresh handsOn again W args v W' := by
  have hlt : ∀ p ∈ before, p.block < W.heap.size := fun p hp => hW.lt p hp
  have hW2 := hW
  obtain ⟨p, q, hA, hV, rfl, hz, hn⟩ := hW2
  rw [hsv] at hV
  obtain ⟨rfl, rfl⟩ := trodVars_none hV
  refine post_below (pa := p) (pv := []) hW hres (fun sp hs => ?_) (fun sp hs => ?_) rfl hb hok
  · rw [hfa]
    exact trodAll_stays hl hr hA (fun x hx => hb.same (hlt x (List.mem_append_left _ hx))) (fun x hx => hs x (List.mem_append_left _ hx))
  · rw [hsv, hfv]; exact rfl
end
theorem laid_out : laidOutB Try.prog = true := by kernel_rfl
end
end Go.Proofs.Ytgldgkdnnimglaa
