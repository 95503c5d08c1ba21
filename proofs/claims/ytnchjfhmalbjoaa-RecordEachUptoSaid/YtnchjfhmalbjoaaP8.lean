/- Several texts in one: RecEach. -/
import Derived.Test.YtnchjfhmalbjoaaP7
/- RecordEach: the walk. -/
namespace Go.Proofs.Ytnchjfhmalbjoaa
open Go.RowKit Go.Shelf
attribute [local go_sem] Oper.semAt_some
def FR (w : World) (A : Option Addr) (c n : Nat) (leave : Int) (gm cm bx gw gt : Nat) (U : Nat → Value) : Array Value := #[.slice A n c, .int .i64 leave, U 2, .pointer (some ⟨w.heap.size, 0, none⟩), .pointer (some ⟨w.heap.size + 1, 0, none⟩), .slice (some ⟨gm, 0, none⟩) n cm, .func (.func 39) #[] #[.pointer (some ⟨bx, 0, none⟩)], .pointer (some ⟨gw, 0, none⟩), .pointer (some ⟨gt, 0, none⟩), U 9, U 10, U 11, U 12, U 13, U 14, U 15, U 16, U 17, U 18, U 19, U 20, U 21, U 22, U 23, U 24, U 25, U 26, U 27, U 28, U 29, U 30, U 31, U 32, U 33, U 34, U 35, U 36, U 37, U 38, U 39, U 40, U 41, U 42, U 43, U 44, U 45, U 46, U 47, U 48, U 49, U 50, U 51, U 52, U 53, U 54, U 55, U 56, U 57, U 58, U 59, U 60, U 61, U 62, U 63, U 64, U 65, U 66, U 67, U 68, U 69, U 70, U 71, U 72, U 73, U 74, U 75, U 76, U 77, U 78, U 79, U 80, U 81, U 82, U 83, U 84, U 85, U 86, U 87, U 88, U 89, U 90, U 91, U 92, U 93, U 94, U 95, U 96, U 97, U 98, U 99, U 100, U 101, U 102, U 103, U 104, U 105, U 106, U 107, U 108, U 109, U 110, U 111, U 112, U 113, U 114, U 115]
abbrev LE (w : World) (bx gw : Nat) (Ac : Option Addr) (cc n gm cm : Nat) (v p : Value) (b : List UInt8) (leave : Int) (Bs : List Value) (T : List Res) : List Res :=
  blkR gw 40 #[v, p, .int .i64 ((sc b).good : Int), .int .i64 (why b : Int)] :: blkR bx 23 #[.slice Ac n cc] :: rowR 5 1 (.slice Ac n cc) n (bv b) :: rowR 5 1 (.slice (some ⟨gm, 0, none⟩) n cm) n (List.replicate n (.int .u8 99)) ::
    blkR (w.heap.size + 1) 4 #[.bool false] :: blkR w.heap.size 3 #[.int .i64 leave] :: (scR v p (sc b) Bs ++ T)
/-- What is held between two rounds, k of them over. -/
abbrev LI (w : World) (bx gw : Nat) (Ac : Option Addr) (cc n gm cm : Nat) (Av : Option Addr) (cv : Nat) (Ap : Option Addr) (cp : Nat) (b : List UInt8) (leave : Int) (Bs : List Value) (ds : List Nat) (t gt g9 k : Nat) : List Res :=
  blkR g9 3 #[.int .i64 (k : Int)] :: blkR gt 3 #[.int .i64 (t : Int)] :: LE w bx gw Ac cc n gm cm (.slice Av (sc b).recs.length cv) (.slice Ap (sc b).places.length cp) b leave Bs (ds.map obD)
def EI (w wl : World) (bx gw : Nat) (Ac : Option Addr) (cc n gm cm : Nat) (Av : Option Addr) (cv : Nat) (Ap : Option Addr) (cp : Nat) (b : List UInt8) (leave : Int) (Bs : List Value) (ds : List Nat) (t gt g9 : Nat) (pre : List RX) (W : World) : Prop :=
  (t = 0 → leave ≤ 0 ∨ (pre.length : Int) < leave) ∧ Held w W (LI w bx gw Ac cc n gm cm Av cv Ap cp b leave Bs ds t gt g9 pre.length)
def EI' (w wl : World) (bx gw : Nat) (Ac : Option Addr) (cc n gm cm : Nat) (Av : Option Addr) (cv : Nat) (Ap : Option Addr) (cp : Nat) (b : List UInt8) (leave : Int) (Bs : List Value) (ds : List Nat) (t gt g9 : Nat) (pre : List RX) (x : RX) (W : World) : Prop :=
  ((sc b).places[pre.length]? = some x.at_ ∧ (sc b).recs[pre.length]? = some x.r) ∧ (t = 0 → leave ≤ 0 ∨ (pre.length : Int) < leave) ∧ Held w W (LX (LI w bx gw Ac cc n gm cm Av cv Ap cp b leave Bs ds t gt g9 pre.length) x)
set_option maxRecDepth 100000 in
set_option maxHeartbeats 4000000 in
theorem each_true (x : Value) (b : List UInt8) (leave : Int) (hlv : -9223372036854775808 ≤ leave ∧ leave ≤ 9223372036854775807) (w : World) (hx : Rd w 1 x b.length (bv b)) (hn : b.length ≤ 1073741824) :
    Calls Try.prog 7 #[x, .int .i64 leave] w fun e w' => e = .returned (.bool true) ∧ Kp [] w w' := by
  obtain ⟨A, c, rfl⟩ := rd_form hx
  have Hx := Lib.hid hx
  have hlb : b.length + 64 ≤ 140737488355328 := by omega
  clear hx
  refine calls_marks Try.func7 rfl ?_
  simp only [Try.ntmps7, List.size_toArray, List.length_cons, List.length_nil, Nat.reduceAdd, Nat.reduceSub, Array.replicate_succ, Array.replicate_zero, List.push_toArray, List.append_toArray, List.nil_append, List.cons_append]
  have K0 := Lib.hid (((Kp.refl [] w).alloc (.cells #[.int .i64 leave] 3)).alloc (.cells #[.bool false] 4))
  have S0 := ((Held.start w).newBlk 3 #[.int .i64 leave]).newBlk 4 #[.bool false]
  rw [World.size_alloc] at S0
  have S0 := Lib.hid S0
  go_wp2_with fail
  refine (lent07_any _ b b.length _ (rd_old Hx.out K0.out) (by omega)).mono ?_
  rintro e w1 ⟨gm, cm, rfl, o1, k1, f1⟩
  have S1 := Lib.hid (S0.out.rownew o1 k1 (fun g hg => by simp [Value.ownBlock] at hg; subst hg; exact f1))
  clear o1 k1 f1
  go_wp2_with fail
  refine (all_any _ b b.length _ (lent_row rfl (S1.out.at_ (l1 := []))) (by omega)).mono ?_
  rintro e w2 ⟨Ac, cc, rfl, S2⟩
  have S3 := Lib.hid ((S1.out.join S2).perm List.perm_append_comm)
  clear S2
  generalize w1.heap.size = bx at *
  have HX2 := Lib.hid (rd_old Hx.out S3.out.k)
  have hfn := fun (W : World) => run_eql_func_nil (P := Try.prog) W 50 Try.underlying50 rfl (.func 39) #[] #[.pointer (some ⟨bx, 0, none⟩)]
  go_wp2_with fail
  refine (left07_any gm cm b.length _ b _ (S3.out.at_ (l1 := [_, _])) HX2.out (by omega)).mono ?_
  rintro e w' ⟨rfl, rfl⟩
  go_wp2_with fail
  clear hfn
  refine (over07_any _ b.length _ _ (ow_take (S3.out.at_ (l1 := [_, _])) (by omega) (by omega)) (by omega)).mono ?_
  rintro e w3 ⟨rfl, o4, k4⟩
  have S4 := Lib.hid (S3.out.turnAt (l1 := [_, _]) (rowR 5 1 (.slice (some ⟨gm, 0, none⟩) b.length cm) b.length (List.replicate b.length (.int .u8 99))) k4 o4 (fun g hg => .inl hg))
  have HX3 := Lib.hid (rd_old Hx.out S4.out.k)
  clear o4 k4 HX2
  go_wp2_with fail
  refine (rscan_any A c b _ HX3.out (by omega) (by omega)).mono ?_
  rintro e w5 ⟨v, p, Bs, rfl, hB, S5'⟩
  have HB := Lib.hid hB
  have Hpl := Lib.hid (scN_places b b.length)
  have hsl : (sc b).recs.length ≤ b.length := sc_le b b.length
  clear hB
  obtain ⟨Av, cv, hv, _, _⟩ := ow_form (S5'.at_ (l1 := []))
  obtain ⟨Ap, cp, hp, _, _⟩ := ow_form (S5'.at_ (l1 := [_]))
  have S5 := Lib.hid ((S4.out.join S5').newBlk 40 #[v, p, .int .i64 ((sc b).good : Int), .int .i64 (why b : Int)])
  clear S5' HX3
  subst hv hp
  have S6 := Lib.hid (S5.out.newBlk 3 #[.int .i64 0])
  rw [World.size_alloc] at S6
  go_wp2_with fail
  generalize w5.heap.size = gw at *
  refine wp_loop_ghost (fun gh a wr => ∃ (t gt : Nat) (ds : List Nat), a.defers = ds.map markOf ∧ a.tmps = FR w A c b.length leave gm cm bx gw gt (fun i => a.tmps.getD i undef) ∧ gh + t = 2 ∧ ds.Nodup ∧ ds.length = t ∧ Held w wr (blkR gt 3 #[.int .i64 (t : Int)] :: LE w bx gw Ac cc b.length gm cm (.slice Av (sc b).recs.length cv) (.slice Ap (sc b).places.length cp) b leave Bs (ds.map obD))) 2 ?start ?round
  case start => exact ⟨0, gw + 1, [], rfl, rfl, rfl, List.nodup_nil, rfl, by simp only [List.map_nil, LE, List.append_nil]; exact S6.out⟩
  case round =>
    clear S6 S5 S4 S3 S1 S0
    rintro gh ⟨tmps, dfs⟩ wr ⟨t, gt, ds, hD, hT, htg, hnd, hdl, S⟩
    simp only at hD hT
    subst hD
    generalize (fun i => tmps.getD i undef) = U at hT
    subst hT
    unfold FR
    have S7 := Lib.hid S
    obtain ⟨c1, c2, c3⟩ := Blk.c1 (S.at_ (l1 := []))
    rcases (show t = 2 ∨ t < 2 by omega) with rfl | ht
    · go_wp2_with (go_at_call 18; (with_reducible refine (known07_true _).mono ?_); rintro e w9 ⟨rfl, k9⟩; have S9 := Lib.hid (S7.out.kp k9); obtain ⟨d1, d2, d3⟩ := Blk.c1 (S9.out.at_ (l1 := [_, _, _, _, _])))
      have S10 : Hid (Held w (w9.setCell ⟨w.heap.size + 1, 0, none⟩ (.bool true)) _) := Lib.hid (S9.out.set (l1 := [_, _, _, _, _]) 0 (.bool true))
      have hmem : ∀ D, D ∈ ds → (w9.setCell ⟨w.heap.size + 1, 0, none⟩ (.bool true)).heap[D]? = some (.deferred (some [])) ∧ w.heap.size ≤ D := fun D hD => by
        have hm := List.mem_append_right (scR (.slice Av (sc b).recs.length cv) (.slice Ap (sc b).places.length cp) (sc b) Bs) (List.mem_map.2 ⟨D, hD, rfl⟩ : obD D ∈ ds.map obD)
        have hm := List.mem_cons_of_mem (blkR gt 3 #[.int .i64 ((2 : Nat) : Int)]) (List.mem_cons_of_mem (blkR gw 40 #[.slice Av (sc b).recs.length cv, .slice Ap (sc b).places.length cp, .int .i64 ((sc b).good : Int), .int .i64 (why b : Int)]) (List.mem_cons_of_mem (blkR bx 23 #[.slice Ac b.length cc]) (List.mem_cons_of_mem (rowR 5 1 (.slice Ac b.length cc) b.length (bv b)) (List.mem_cons_of_mem (rowR 5 1 (.slice (some ⟨gm, 0, none⟩) b.length cm) b.length (List.replicate b.length (.int .u8 99))) (List.mem_cons_of_mem (blkR (w.heap.size + 1) 4 (#[.bool false].setIfInBounds 0 (.bool true))) (List.mem_cons_of_mem (blkR w.heap.size 3 #[.int .i64 leave]) hm))))))
        exact ⟨S10.out.ok (obD D) hm, S10.out.base (obD D) hm D (by simp [obD, objR])⟩
      refine ret_marks ds rfl hnd (fun D hD => (hmem D hD).1) (fun W hk => ?_)
      have hbk := S10.out.at_ (l1 := [_, _, _, _, _])
      have hbk2 := Blk.kp hbk hk (fun hm => by
        have h1 := (hmem _ hm).1
        have h2 : (w9.setCell ⟨w.heap.size + 1, 0, none⟩ (.bool true)).heap[w.heap.size + 1]? = _ := hbk
        rw [h1] at h2
        cases h2)
      have hc5 : W.cell? ⟨w.heap.size + 1, 0, none⟩ = some (.bool true) := hbk2.cell 0
      refine ⟨.bool true, ?_, rfl, S10.out.k.trans hk (fun g hg => .inr (hmem g hg).2)⟩
      simp [results, Try.f7, go_sem, hc5]
    · have htt : (t : Int) < 2 := by omega
      go_wp2
      have S8 := Lib.hid (S7.out.newBlk 3 #[.int .i64 0])
      obtain ⟨g9, hg9⟩ : ∃ g9, wr.heap.size = g9 := ⟨_, rfl⟩
      obtain ⟨wl, hwl⟩ : ∃ wl, wr.alloc (.cells #[.int .i64 0] 3) = wl := ⟨_, rfl⟩
      rw [hg9, hwl] at S8 ⊢
      clear hg9 hwl S7 S c1 c2 c3
      have hwb := S8.out.k.size
      have HC := Lib.hid (Cells.of S8.out)
      have hown : AllOwn bx Ac cc b wl := ⟨((S8.out.at_ (l1 := [_, _, _])).cell 0 : _), Rd.of_own (S8.out.at_ (l1 := [_, _, _, _]))⟩
      have hncc : b.length ≤ cc := by obtain ⟨_, _, h, h1, _⟩ := ow_form (S8.out.at_ (l1 := [_, _, _, _])); cases h; exact h1
      refine wp_range (n := 3) (gf := 39) (lb := #[.pointer (some ⟨bx, 0, none⟩)]) rfl (enters_of Try.func39 (by kernel_rfl) rfl) (encs := RX.encs) (Z := RX.Z bx Ac cc b) (X := RX.X b) (all1_seq bx Ac cc b wl hown hncc hlb _) (fun x => RX.stays _ _ _ _ _ x) (fun _ => rfl)
        (EI w wl bx gw Ac cc b.length gm cm Av cv Ap cp b leave Bs ds t gt g9) (fun c pre W => c = .exit 2 ∧ t = 0 ∧ (pre.length : Int) = leave ∧ pre.length ≤ (sc b).recs.length ∧ 0 < pre.length ∧ Held w W (LI w bx gw Ac cc b.length gm cm Av cv Ap cp b leave Bs ds t gt g9 pre.length)) ?hI ?hIx ?h0
        (EI' w wl bx gw Ac cc b.length gm cm Av cv Ap cp b leave Bs ds t gt g9) ?hI' ?hprep
        (fun T pre x a' W => ∃ Bx, a' = { tmps := (((T.setIfInBounds 33 (.int .i64 (x.at_ : Int))).setIfInBounds 34 (.agg #[.int .u8 (x.r.1.toNat : Int), x.v])).setIfInBounds 10 (.int .i64 (x.at_ : Int))).setIfInBounds 11 (.pointer (some ⟨Bx, 0, none⟩)), defers := [] } ∧ Held w W (blkR Bx 25 #[.int .u8 (x.r.1.toNat : Int), x.v] :: LX (LI w bx gw Ac cc b.length gm cm Av cv Ap cp b leave Bs ds t gt g9 pre.length) x)) ?hA ?assign ?body ?done ?stop
      case hI => exact fun pre => (Stays.pure _ _).and (Held.stays hwb HC.out.tail.blk)
      case hIx => exact fun c pre => (Stays.pure _ _).and ((Stays.pure _ _).and ((Stays.pure _ _).and ((Stays.pure _ _).and ((Stays.pure _ _).and (Held.stays hwb HC.out.tail.blk)))))
      case h0 => exact ⟨fun _ => by simp only [List.length_nil]; omega, S8.out⟩
      case hI' => exact fun pre x => (Stays.pure _ _).and ((Stays.pure _ _).and (Held.stays hwb HC.out.tail.blk.row.blk))
      case hprep =>
        rintro pre x W0 W1 ⟨h1, S⟩ k ⟨hx, p1, p2, _, _⟩ hlen
        exact ⟨⟨p1, p2⟩, h1, hx w _ S⟩
      case hA => exact fun pre x a' => Stays.ex fun Bx => (Stays.pure _ _).and (Held.stays hwb HC.out.tail.blk.row.blk.blk)
      case assign =>
        rintro pre x W ⟨hx, _, S⟩ K hK
        obtain ⟨at_, ⟨kd, bd⟩, v, gx, sz⟩ := x
        obtain ⟨A1, c1, hv, _, _⟩ := ow_form (S.at_ (l1 := [_]))
        simp only at hv
        subst hv
        have hkd := kd.toNat_lt
        simp only [RX.encs]
        gi_wp2
        exact hK _ _ ((Kp.refl [] W).alloc _) ⟨W.heap.size, rfl, S.newBlk _ _⟩
      case body =>
        rintro pre x a' W ⟨hx, hlv2, S'⟩ ⟨Bx, rfl, S⟩ hlen ⟨o, ho, hoc⟩ ⟨d, hd, hdc⟩
        clear S'
        obtain ⟨at_, ⟨kd, bd⟩, v, gx, sz⟩ := x
        obtain ⟨A1, c1, hv, _, _⟩ := ow_form (S.at_ (l1 := [_, _]))
        simp only at hv hx
        subst hv
        have hkd := kd.toNat_lt
        simp only at S
        have hl8 := List.getElem?_eq_some_iff.1 hx.2
        have hlt : pre.length < (sc b).recs.length := hlen
        have hpl2 : (sc b).places.length = (sc b).recs.length := Hpl.out
        have SB := Lib.hid (S.withTwo (HC.out.tail.blk.row.blk.blk) hwb (show wl.heap.size ≤ wl.heap.size + 1 by omega) (Nat.le_refl _) (by omega) ho hoc hd hdc)
        obtain ⟨B, hB⟩ : ∃ B, Bs[pre.length]? = some B := ⟨_, List.getElem?_eq_getElem (by rw [← HB.out]; exact hlt)⟩
        obtain ⟨gv, cv', hv, _, _⟩ := ow_some (SB.out.at_ (l1 := [_, _, _, _, _, _, _, _, _, _, _, _, _])) (by omega)
        obtain ⟨gp, cp', hp, _, _⟩ := ow_some (SB.out.at_ (l1 := [_, _, _, _, _, _, _, _, _, _, _, _, _, _])) (by omega)
        obtain ⟨av, hav⟩ : ∃ av, Av = some av := by injection hv with e; exact ⟨_, e⟩
        obtain ⟨ap, hap⟩ : ∃ ap, Ap = some ap := by injection hp with e; exact ⟨_, e⟩
        subst hav hap
        clear hv hp
        have SBd := Lib.hid (SB.out.kp ((Kp.refl [] W).drew))
        have HBb : Hid (∀ V, Held w V (objR (wl.heap.size + 1) o :: objR wl.heap.size d :: blkR Bx 25 #[.int .u8 (kd.toNat : Int), .slice A1 bd.length c1] :: LX (LI w bx gw Ac cc b.length gm cm (some av) cv (some ap) cp b leave Bs ds t gt g9 pre.length) ⟨at_, (kd, bd), .slice A1 bd.length c1, gx, sz⟩) → Rd V 1 B bd.length (bv bd)) := Lib.hid (fun V SV => by
          refine Rd.of_own (e := 5) (SV.ok (rowR 5 1 B bd.length (bv bd)) ?_)
          have hm := bodiesR_mem _ Bs pre.length _ B hx.2 hB
          repeat (first | exact List.mem_append_left _ (List.mem_cons_of_mem _ (List.mem_cons_of_mem _ hm)) | apply List.mem_cons_of_mem))
        gi_wp2
        refine in_region_lexf [34] [] (fun V : World => Held w V (objR (wl.heap.size + 1) o :: objR wl.heap.size d :: blkR Bx 25 #[.int .u8 (kd.toNat : Int), .slice A1 bd.length c1] :: LX (LI w bx gw Ac cc b.length gm cm (some av) cv (some ap) cp b leave Bs ds t gt g9 pre.length) ⟨at_, (kd, bd), .slice A1 bd.length c1, gx, sz⟩)) (by kernel_rfl) (by kernel_rfl) (by kernel_rfl) SBd.out (fun σ hne f hf hsur => ?_)
        have Hsur := Lib.hid hsur
        clear hsur
        have q9 := fun y => (Blk.c1 ((hf y).at_ (l1 := [_, _, _, _, _]))).1
        have qw := fun y => (Blk.c4 ((hf y).at_ (l1 := [_, _, _, _, _, _, _]))).1
        have qw2 := fun y => (Blk.c4 ((hf y).at_ (l1 := [_, _, _, _, _, _, _]))).2.1
        have qB := fun y => (Blk.c2 ((hf y).at_ (l1 := [_, _]))).1
        have qB2 := fun y => (Blk.c2 ((hf y).at_ (l1 := [_, _]))).2.1
        have qp := fun y => places_at ((hf y).at_ (l1 := [_, _, _, _, _, _, _, _, _, _, _, _, _, _])) hx.1
        have qr := fun y => (recs_at ((hf y).at_ (l1 := [_, _, _, _, _, _, _, _, _, _, _, _, _])) hx.2 hB).1
        have qr2 := fun y => (recs_at ((hf y).at_ (l1 := [_, _, _, _, _, _, _, _, _, _, _, _, _])) hx.2 hB).2
        have hdq : decide ((sc b).recs.length ≤ pre.length) = false := by simp; omega
        clear hf
        go_wp2_with (first
          | (refine lex_nil ⟨rfl, ?_⟩)
          | (refine lex_qq Hsur.out rfl rfl rfl ?_; intro K hK; go_big_quiet_op; go_big_quiet_on) | (refine lex_skipk rfl ?_; intro K hK; go_simp; refine hK _ _ ?_; clear hK K) | (refine lex_e rfl rfl ?_; intro K hK; go_step) | (refine lex_nil ?_)
          | (go_at_call 13; (with_reducible refine (same_true _ _ bd _ _ _ (Rd.of_own (SBd.out.at_ (l1 := [_, _, _, _]))) (HBb.out _ SBd.out)).mono ?_); rintro e w' ⟨rfl, rfl⟩)
          | ((with_reducible apply And.intro); · (intro hl; first | (exact ls_absurd hl rfl) | exact SBd.out)))
        obtain ⟨e1, e2, _, _, e5⟩ := Blk.c2 (SBd.out.at_ (l1 := [_, _]))
        have hbl : bd.length ≤ 140737488355328 := by have := sc_body_le b b.length _ (List.mem_of_getElem? hx.2); simp only at this; omega
        gi_wp2
        refine ⟨trivial, ?_⟩
        gi_at_call 16
        refine (CallsIn.inRound _ (callsIn_wide.2 (over07_any _ bd.length _ _ (SBd.out.at_ (l1 := [_, _, _, _])) hbl))).mono ?_
        rintro e w4 ⟨rfl, o4, k4⟩
        have S4 := Lib.hid (SBd.out.rowset (l1 := [_, _, _, _]) o4 k4)
        obtain ⟨e1, e2, e3⟩ := Blk.c1 (S4.out.at_ (l1 := [_, _, _, _, _]))
        have S5 : Hid (Held w (w4.setCell ⟨g9, 0, none⟩ (.int .i64 ((pre.length : Int) + 1))) _) := Lib.hid (S4.out.set (l1 := [_, _, _, _, _]) 0 (.int .i64 ((pre.length : Int) + 1)))
        have f1 := Blk.c1 (S5.out.at_ (l1 := [_, _, _, _, _, _]))
        have f2 := Blk.c1 (S5.out.at_ (l1 := [_, _, _, _, _, _, _, _, _, _, _, _]))
        have f3 := Blk.c1 (S5.out.at_ (l1 := [_, _, _, _, _]))
        clear o4 k4 SBd
        gi_wp2
        all_goals
          have hS2 := S5.out.same2 ho hd
          have hZ : RX.Z bx Ac cc b ⟨at_, (kd, bd), .slice A1 bd.length c1, gx, sz⟩ (w4.setCell ⟨g9, 0, none⟩ (.int .i64 ((pre.length : Int) + 1))) := ⟨⟨(S5.out.at_ (l1 := [_, _, _, _, _, _, _, _])).cell 0, Rd.of_own (S5.out.at_ (l1 := [_, _, _, _, _, _, _, _, _]))⟩, S5.out.at_ (l1 := [_, _, _])⟩
          have hL : Held w (w4.setCell ⟨g9, 0, none⟩ (.int .i64 ((pre.length : Int) + 1))) (LI w bx gw Ac cc b.length gm cm (some av) cv (some ap) cp b leave Bs ds t gt g9 (pre ++ [(⟨at_, (kd, bd), .slice A1 bd.length c1, gx, sz⟩ : RX)]).length) := by
            rw [List.length_append]
            exact S5.out.drop.drop.drop.drop.drop
          have hpl1 : (pre ++ [(⟨at_, (kd, bd), .slice A1 bd.length c1, gx, sz⟩ : RX)]).length = pre.length + 1 := by simp
          try (rename_i hq; first | (have hq' := eq_of_beq hq) | (have hq' := ne_of_beq_false hq))
          first
            | exact ⟨hS2, hZ, fun h => by rw [hpl1]; have := hlv2 h; omega, hL⟩
            | exact ⟨hS2, rfl, by omega, by rw [hpl1]; omega, by rw [hpl1]; omega, by rw [hpl1]; omega, hL⟩
      case done =>
        rintro xs W ⟨hp, hr⟩ ⟨h1, S⟩ hD
        have hxl : xs.length = (sc b).recs.length := by rw [← hr, List.length_map]
        rw [hxl] at S h1
        have hDn : wl.heap.size ∉ ds := fun hm => by
          have hmm := List.mem_append_right (scR (.slice Av (sc b).recs.length cv) (.slice Ap (sc b).places.length cp) (sc b) Bs) (List.mem_map.2 ⟨_, hm, rfl⟩ : obD wl.heap.size ∈ ds.map obD)
          have := (obD wl.heap.size).lt wl (S8.out.ok _ (by repeat (first | exact hmm | apply List.mem_cons_of_mem))) wl.heap.size (by simp [obD, objR])
          omega
        have S1 := S.withObj hwb hD (HC.out.tail.blk.not S (Nat.le_refl _) hD rfl)
        obtain ⟨c1, _, c3⟩ := Blk.c1 (S1.at_ (l1 := [_]))
        obtain ⟨d1, _, d3⟩ := Blk.c1 (S1.at_ (l1 := [_, _]))
        obtain ⟨e1, _, _, _⟩ := Blk.c4 (S1.at_ (l1 := [_, _, _]))
        obtain ⟨f1, _, f3⟩ := Blk.c1 (S1.at_ (l1 := [_, _, _, _, _, _, _, _]))
        rcases (show (t = 0 ∧ leave ≤ 0) ∨ (t = 0 ∧ 0 < leave ∧ ((sc b).recs.length : Int) < leave) ∨ t = 1 by omega) with ⟨ht0, hl0⟩ | ⟨ht0, hl0, hl1⟩ | ht0
        · subst ht0
          go_wp2
          have S3 := ((S1.newBlk 3 #[.int .i64 ((0 + 1 : Nat) : Int)]).dropAt (l1 := [_, _])).dropAt (l1 := [_, _])
          have S4 := (S3.perm ((List.Perm.swap _ _ _).trans (List.perm_middle (l₁ := blkR W.heap.size 3 #[.int .i64 ((0 + 1 : Nat) : Int)] :: blkR gw 40 #[.slice Av (sc b).recs.length cv, .slice Ap (sc b).places.length cp, .int .i64 ((sc b).good : Int), .int .i64 (why b : Int)] :: blkR bx 23 #[.slice Ac b.length cc] :: rowR 5 1 (.slice Ac b.length cc) b.length (bv b) :: rowR 5 1 (.slice (some ⟨gm, 0, none⟩) b.length cm) b.length (List.replicate b.length (.int .u8 99)) :: blkR (w.heap.size + 1) 4 #[.bool false] :: blkR w.heap.size 3 #[.int .i64 leave] :: scR (.slice Av (sc b).recs.length cv) (.slice Ap (sc b).places.length cp) (sc b) Bs) (l₂ := ds.map obD)).symm))
          exact ⟨gh - 1, by omega, 0 + 1, W.heap.size, wl.heap.size :: ds, rfl, rfl, by omega, List.nodup_cons.2 ⟨hDn, hnd⟩, by rw [List.length_cons, hdl], S4⟩
        · subst ht0
          go_wp2
          have S3 := ((S1.newBlk 3 #[.int .i64 ((0 + 1 : Nat) : Int)]).dropAt (l1 := [_, _])).dropAt (l1 := [_, _])
          have S4 := (S3.perm ((List.Perm.swap _ _ _).trans (List.perm_middle (l₁ := blkR W.heap.size 3 #[.int .i64 ((0 + 1 : Nat) : Int)] :: blkR gw 40 #[.slice Av (sc b).recs.length cv, .slice Ap (sc b).places.length cp, .int .i64 ((sc b).good : Int), .int .i64 (why b : Int)] :: blkR bx 23 #[.slice Ac b.length cc] :: rowR 5 1 (.slice Ac b.length cc) b.length (bv b) :: rowR 5 1 (.slice (some ⟨gm, 0, none⟩) b.length cm) b.length (List.replicate b.length (.int .u8 99)) :: blkR (w.heap.size + 1) 4 #[.bool false] :: blkR w.heap.size 3 #[.int .i64 leave] :: scR (.slice Av (sc b).recs.length cv) (.slice Ap (sc b).places.length cp) (sc b) Bs) (l₂ := ds.map obD)).symm))
          exact ⟨gh - 1, by omega, 0 + 1, W.heap.size, wl.heap.size :: ds, rfl, rfl, by omega, List.nodup_cons.2 ⟨hDn, hnd⟩, by rw [List.length_cons, hdl], S4⟩
        · subst ht0
          go_wp2
          have S3 := ((S1.newBlk 3 #[.int .i64 ((1 + 1 : Nat) : Int)]).dropAt (l1 := [_, _])).dropAt (l1 := [_, _])
          have S4 := (S3.perm ((List.Perm.swap _ _ _).trans (List.perm_middle (l₁ := blkR W.heap.size 3 #[.int .i64 ((1 + 1 : Nat) : Int)] :: blkR gw 40 #[.slice Av (sc b).recs.length cv, .slice Ap (sc b).places.length cp, .int .i64 ((sc b).good : Int), .int .i64 (why b : Int)] :: blkR bx 23 #[.slice Ac b.length cc] :: rowR 5 1 (.slice Ac b.length cc) b.length (bv b) :: rowR 5 1 (.slice (some ⟨gm, 0, none⟩) b.length cm) b.length (List.replicate b.length (.int .u8 99)) :: blkR (w.heap.size + 1) 4 #[.bool false] :: blkR w.heap.size 3 #[.int .i64 leave] :: scR (.slice Av (sc b).recs.length cv) (.slice Ap (sc b).places.length cp) (sc b) Bs) (l₂ := ds.map obD)).symm))
          exact ⟨gh - 1, by omega, 1 + 1, W.heap.size, wl.heap.size :: ds, rfl, rfl, by omega, List.nodup_cons.2 ⟨hDn, hnd⟩, by rw [List.length_cons, hdl], S4⟩
      case stop =>
        rintro c pre W _ ⟨rfl, ht0, hpl, hle, hpos, S⟩ hD
        have hDn : wl.heap.size ∉ ds := fun hm => by
          have hmm := List.mem_append_right (scR (.slice Av (sc b).recs.length cv) (.slice Ap (sc b).places.length cp) (sc b) Bs) (List.mem_map.2 ⟨_, hm, rfl⟩ : obD wl.heap.size ∈ ds.map obD)
          have := (obD wl.heap.size).lt wl (S8.out.ok _ (by repeat (first | exact hmm | apply List.mem_cons_of_mem))) wl.heap.size (by simp [obD, objR])
          omega
        have S1 := S.withObj hwb hD (HC.out.tail.blk.not S (Nat.le_refl _) hD rfl)
        obtain ⟨c1, _, c3⟩ := Blk.c1 (S1.at_ (l1 := [_]))
        obtain ⟨d1, _, d3⟩ := Blk.c1 (S1.at_ (l1 := [_, _]))
        obtain ⟨e1, _, _, _⟩ := Blk.c4 (S1.at_ (l1 := [_, _, _]))
        obtain ⟨f1, _, f3⟩ := Blk.c1 (S1.at_ (l1 := [_, _, _, _, _, _, _, _]))
        have hl0 : 0 < leave := by omega
        have hl1 : ((pre.length : Int)) ≤ (sc b).recs.length := by omega
        rw [hpl] at hl1 c1
        subst ht0
        go_wp2
        have S3 := ((S1.newBlk 3 #[.int .i64 ((0 + 1 : Nat) : Int)]).dropAt (l1 := [_, _])).dropAt (l1 := [_, _])
        have S4 := (S3.perm ((List.Perm.swap _ _ _).trans (List.perm_middle (l₁ := blkR W.heap.size 3 #[.int .i64 ((0 + 1 : Nat) : Int)] :: blkR gw 40 #[.slice Av (sc b).recs.length cv, .slice Ap (sc b).places.length cp, .int .i64 ((sc b).good : Int), .int .i64 (why b : Int)] :: blkR bx 23 #[.slice Ac b.length cc] :: rowR 5 1 (.slice Ac b.length cc) b.length (bv b) :: rowR 5 1 (.slice (some ⟨gm, 0, none⟩) b.length cm) b.length (List.replicate b.length (.int .u8 99)) :: blkR (w.heap.size + 1) 4 #[.bool false] :: blkR w.heap.size 3 #[.int .i64 leave] :: scR (.slice Av (sc b).recs.length cv) (.slice Ap (sc b).places.length cp) (sc b) Bs) (l₂ := ds.map obD)).symm))
        exact ⟨gh - 1, by omega, 0 + 1, W.heap.size, wl.heap.size :: ds, rfl, rfl, by omega, List.nodup_cons.2 ⟨hDn, hnd⟩, by rw [List.length_cons, hdl], S4⟩
theorem each_upto (w : World) (x : Value) (b : List UInt8) (hx : Rd w 1 x b.length (bv b)) (hb : b.length ≤ 1048576) (leave : Int) (hlv : -9223372036854775808 ≤ leave ∧ leave ≤ 9223372036854775807) :
    Calls Try.prog 7 #[x, .int .i64 leave] w fun e w' => e = .returned (.bool true) ∧ Kp [] w w' := each_true x b leave hlv w hx (by omega)
end Go.Proofs.Ytnchjfhmalbjoaa
