/- Several texts in one: SigAW. -/
import Derived.Test.YtapboamjpilckaaDoorP8
/- spoil of the law; Join of both: their regions. -/
namespace Go.Proofs.YtapboamjpilckaaDoor
open Go.RowKit
theorem chk_bne (z : Int) (l : List SigD) : (chkN z l != 0) = !mayN z l := by unfold chkN; cases mayN z l <;> rfl
def spoiltS : SigD := ([115, 112, 111, 105, 108, 116], List.replicate 32 0)
theorem Tryd.built_spoilt : Tryd.prog.built 81 [(0, .string ⟨#[115, 112, 111, 105, 108, 116]⟩)] = some (sgA spoiltS) := by kernel_rfl
theorem Tryd.fill_two : Instr.fill (fun i => some (i * 33, 33)) ((Array.range (2 * 33)).map ((sgA ([], List.replicate 32 0))[· % (sgA ([], List.replicate 32 0)).size]!)) [(0, .agg (sgA spoiltS)), (1, .agg (sgA spoiltS))] = some (sgA spoiltS ++ sgA spoiltS) := by kernel_rfl
theorem wpList_sigs2 {ops : Array Oper} {rest : List Oper} {o : Oper} {a : Act} {w : World} {Q : Exit → Act → World → Prop} (hg : o.guard = none) (x y : Operand) (ho : o.op = .buildSlice 34 2 #[(0, x), (1, y)]) (cs cc : Array Value)
    (hf : Instr.fill (fun i => some (i * 33, 33)) ((Array.range (2 * 33)).map ((sgA ([], List.replicate 32 0))[· % (sgA ([], List.replicate 32 0)).size]!)) [(0, .agg cs), (1, .agg cs)] = some cc) (hx : a.eval x = .agg cs) (hy : a.eval y = .agg cs)
    (h : wpList Tryd.prog ops Q rest (a.put o.dst (.slice (some ⟨w.heap.size, 0, none⟩) 2 2)) (w.alloc (.cells cc 81))) : wpList Tryd.prog ops Q (o :: rest) a w := by
  obtain ⟨i0, hi, hz, hsize, -⟩ := info_parts Tryd.infoSigZ
  refine wpList_plain hg fun _ hK => wp_buildSlice 34 81 2 #[(0, x), (1, y)] ho cc i0 _ Tryd.underlying34 hi hz (by rw [hsize]; decide) (by rw [hsize]; decide) ?_ (hK _ _ h)
  rw [hsize, show ((#[(0, x), (1, y)] : Array (Nat × Operand)).map fun (i, x) => (i, a.eval x)).toList = [(0, .agg cs), (1, .agg cs)] from by simp [hx, hy]]
  exact hf
theorem rd_two {w : World} {vb : Nat} {t : TypeId} (hb : Blk w vb t (sgA spoiltS ++ sgA spoiltS)) (hs : (sgA spoiltS).size = 33) : Rd w 33 (.slice (some ⟨vb, 0, none⟩) 2 2) 2 (sgA spoiltS ++ sgA spoiltS).toList :=
  ⟨by rw [Array.length_toList, Array.size_append, hs], _, _, rfl, Nat.le_refl _, by unfold maxLen; omega, (fun h => by cases h), fun ad had j u hu => by cases had; exact hb.agg j u hu⟩
theorem Tryd.built_note2 (z : Int) (hh : List UInt8) (hl : hh.length = 32) (A : Option Addr) (n c : Nat) : Tryd.prog.built 36 [(0, .agg (ptA z hh)), (1, .slice A n c)] = some (ntA z hh (.slice A n c)) := by
  rw [Tryd.builtN_is]
  have hs : (ptA z hh).size = 33 := ptA_size hl
  have hs0 : zeroN.size = 34 := rfl
  have h : ((ptA z hh).zipIdx.foldl (fun cs (x : Value × Nat) => cs.setIfInBounds (0 + x.2) x.1) zeroN) = ntA z hh (.slice none 0 0) := by
    have h1 := foldl_place 0 (ptA z hh).toList 0 zeroN
    rw [show (ptA z hh).zipIdx.foldl (fun cs (x : Value × Nat) => cs.setIfInBounds (0 + x.2) x.1) zeroN = ((ptA z hh).toList.zipIdx 0).foldl (fun cs (x : Value × Nat) => cs.setIfInBounds (0 + x.2) x.1) zeroN from by rw [← Array.foldl_toList, Array.toList_zipIdx], h1]
    rw [hs0, List.take_of_length_le (l := (ptA z hh).toList) (by rw [Array.length_toList, hs]; decide), Array.length_toList, hs]
    rfl
  unfold Instr.fill
  show (if (decide ((ptA z hh).size ≠ 33) || decide (0 + (ptA z hh).size > zeroN.size)) = true then none else Instr.fill (#[(0, 33), (33, 1)][·]?) ((ptA z hh).zipIdx.foldl (fun cs (x : Value × Nat) => cs.setIfInBounds (0 + x.2) x.1) zeroN) [(1, .slice A n c)]) = _
  rw [hs, hs0, h, if_neg (by decide)]
  unfold Instr.fill
  show (if (decide (1 ≠ 1) || decide (33 + 1 > (ntA z hh (.slice none 0 0)).size)) = true then none else some ((ntA z hh (.slice none 0 0)).setIfInBounds (33 + 0) (.slice A n c))) = _
  rw [ntA_size hl, Nat.add_zero, ntA_setSigs hl]
  rfl
-- REG ssp0
set_option maxRecDepth 100000 in
set_option maxHeartbeats 2000000 in
theorem ssp_r0 {Q : Exit → Act → World → Prop} {a : Act} {w : World} (w0 : World) (ca : Array Value) (L : List Res) (S : Held w0 w L) (hsz : a.tmps.size = 22) (o0 : Sl a 0 (.agg ca))
    (hend : ∀ (a' : Act) (W : World), Same a a' [1] → (∃ g1, Sl a' 1 (.pointer (some ⟨g1, 0, none⟩)) ∧ Held w0 W (blkR g1 36 ca :: L)) → Q .normal a' W) : (Code.region 0 (opsOf 0 Tryd.f26).toArray false).wp Tryd.prog Q a w := by
  refine wp_region_lit (l := (opsOf 0 Tryd.f26)) ?_
  conv => arg 4; whnf
  unfold Sl at o0
  have S1 := Lib.hid (S.newBlk 36 ca)
  go_wp2_with fail
  try simp only [Act.put]
  exact hend _ _ (by repeat (first | (with_reducible refine same_set (by decide) ?_) | (with_reducible exact same_nil))) (⟨_, (by unfold Sl; simp [hsz]), S1.out⟩)
-- END ssp0
-- REG ssp1
set_option maxRecDepth 100000 in
set_option maxHeartbeats 2000000 in
theorem ssp_r1 {Q : Exit → Act → World → Prop} {a : Act} {w : World}  (hsz : a.tmps.size = 22) 
    (hend : ∀ (a' : Act), Same a a' [2] → Sl a' 2 (.int .i64 ((0 : Nat) : Int)) → Q .normal a' (w)) : (Code.region 1 (opsOf 1 Tryd.f26).toArray false).wp Tryd.prog Q a w := by
  refine wp_region_lit (l := (opsOf 1 Tryd.f26)) ?_
  conv => arg 4; whnf
  go_wp2_with fail
  try simp only [Act.put]
  exact hend _ (by repeat (first | (with_reducible refine same_set (by decide) ?_) | (with_reducible exact same_nil))) (by unfold Sl; first | (simp [hsz]; done) | (simp [hsz]; omega))
-- END ssp1
-- REG ssp2
set_option maxRecDepth 100000 in
set_option maxHeartbeats 2000000 in
theorem ssp_r2 {Q : Exit → Act → World → Prop} {a : Act} {w : World} (z : Int) (h : List UInt8) (hh : h.length = 32) (A : Option Addr) (n c : Nat) (g1 k : Nat) (hb : Blk w g1 36 (ntA z h (.slice A n c))) (hsz : a.tmps.size = 22) (o1 : Sl a 1 (.pointer (some ⟨g1, 0, none⟩))) (o2 : Sl a 2 (.int .i64 ((k : Nat) : Int)))
    (hend : ∀ (a' : Act), Same a a' [3, 4, 5, 6, 7] → Sl a' 7 (.bool (decide (k < n))) → Q .normal a' (w)) : (Code.region 2 (opsOf 2 Tryd.f26).toArray false).wp Tryd.prog Q a w := by
  refine wp_region_lit (l := (opsOf 2 Tryd.f26)) ?_
  conv => arg 4; whnf
  unfold Sl at o1 o2
  have c33 : w.cell? ⟨g1, 33, none⟩ = some (.slice A n c) := by rw [hb.cell]; exact ntA_sigs hh
  go_wp2_with fail
  try simp only [Act.put]
  exact hend _ (by repeat (first | (with_reducible refine same_set (by decide) ?_) | (with_reducible exact same_nil))) (by unfold Sl; first | (simp [hsz]; done) | (simp [hsz]; omega))
-- END ssp2
-- REG ssp4
set_option maxRecDepth 100000 in
set_option maxHeartbeats 2000000 in
theorem ssp_r4 {Q : Exit → Act → World → Prop} {a : Act} {w : World} (w0 : World) (z : Int) (h : List UInt8) (hh : h.length = 32) (n c g1 gr k : Nat) (hk : k < n) (hn : n ≤ c) (cur : Array Value) (hcs : cur.size = c * 33) (L : List Res) (S : Held w0 w (blkR gr 81 cur :: blkR g1 36 (ntA z h (.slice (some ⟨gr, 0, none⟩) n c)) :: L)) (hsz : a.tmps.size = 22) (o1 : Sl a 1 (.pointer (some ⟨g1, 0, none⟩))) (o2 : Sl a 2 (.int .i64 ((k : Nat) : Int)))
    (hend : ∀ (a' : Act) (W : World), Same a a' [10, 11, 12, 13, 14] → (∃ cur' : Array Value, cur'.size = c * 33 ∧ Held w0 W (blkR gr 81 cur' :: blkR g1 36 (ntA z h (.slice (some ⟨gr, 0, none⟩) n c)) :: L)) → Q .normal a' W) : (Code.region 4 (opsOf 4 Tryd.f26).toArray false).wp Tryd.prog Q a w := by
  refine wp_region_lit (l := (opsOf 4 Tryd.f26)) ?_
  conv => arg 4; whnf
  unfold Sl at o1 o2
  have S := Lib.hid S
  have c33 : w.cell? ⟨g1, 33, none⟩ = some (.slice (some ⟨gr, 0, none⟩) n c) := by rw [(S.out.at_ (l1 := [_])).cell]; exact ntA_sigs hh
  have h0 : 0 ≤ (k : Int) := by omega
  have h1 : (k : Int) < (n : Int) := by omega
  have hz2 : Hid ((sgA spoiltS).size = 33) := Lib.hid (sgA_size rfl)
  have HO := Lib.hid (sgA_one spoiltS)
  have hf : Hid (k * 33 + 33 ≤ cur.size) := Lib.hid (by omega)
  have hcs := Lib.hid hcs
  clear hn
  generalize ntA z h (.slice (some ⟨gr, 0, none⟩) n c) = ca at *
  have HB := Lib.hid Tryd.built_spoilt
  generalize sgA spoiltS = cs at *
  go_wp2_with (first
    | (refine wpList_buildP rfl 81 _ rfl [(0, .string ⟨#[115, 112, 111, 105, 108, 116]⟩)] (by simp [Act.eval]) _ HB.out ?_)
    | (refine wpList_store_agg rfl 81 (.tmp 14) (.tmp 13) rfl gr (k * 33) (by simp [Act.eval, Act.put, hsz]) cs (by simp [Act.eval, Act.put, hsz]) 81 cur (S.out.at_ (l1 := [])) (by rw [hz2.out]; exact Tryd.infoSig) (by rw [hz2.out]; exact hf.out) HO.out ?_; intro w7 b7 k7; have S7 := Lib.hid (Held.setBlk (l1 := []) S.out b7 k7); clear b7 k7))
  try simp only [Act.put]
  exact hend _ _ (by repeat (first | (with_reducible refine same_set (by decide) ?_) | (with_reducible exact same_nil))) (⟨_, by rw [List.size_toArray, List.length_append, List.length_append, List.length_take, List.length_drop, Array.length_toList, Array.length_toList, hz2.out, hcs.out]; have := hf.out; have := hcs.out; omega, S7.out⟩)
-- END ssp4
-- REG ssp3
set_option maxRecDepth 100000 in
set_option maxHeartbeats 2000000 in
theorem ssp_r3 {Q : Exit → Act → World → Prop} {a : Act} {w : World} (k : Nat) (hk : k < 9223372036854775807) (hsz : a.tmps.size = 22) (o2 : Sl a 2 (.int .i64 ((k : Nat) : Int)))
    (hend : ∀ (a' : Act), Same a a' [8, 9, 2] → Sl a' 2 (.int .i64 ((k + 1 : Nat) : Int)) → Q .normal a' (w)) : (Code.region 3 (opsOf 3 Tryd.f26).toArray false).wp Tryd.prog Q a w := by
  refine wp_region_lit (l := (opsOf 3 Tryd.f26)) ?_
  conv => arg 4; whnf
  unfold Sl at o2
  have hw : wrap64 ((k : Int) + 1) = (k : Int) + 1 := by unfold wrap64; omega
  go_wp2_with fail
  try simp only [Act.put]
  exact hend _ (by repeat (first | (with_reducible refine same_set (by decide) ?_) | (with_reducible exact same_nil))) (by unfold Sl; first | (simp [hsz]; done) | (simp [hsz]; omega))
-- END ssp3
-- REG ssp5
set_option maxRecDepth 100000 in
set_option maxHeartbeats 2000000 in
theorem ssp_r5 {Q : Exit → Act → World → Prop} {a : Act} {w : World} (w0 : World) (z : Int) (h : List UInt8) (hh : h.length = 32) (A : Option Addr) (n c g1 : Nat) (hn : n ≤ 2000000) (xs : List Value) (L : List Res) (S : Held w0 w (rowR 81 33 (.slice A n c) n xs :: blkR g1 36 (ntA z h (.slice A n c)) :: L)) (hsz : a.tmps.size = 22) (o1 : Sl a 1 (.pointer (some ⟨g1, 0, none⟩)))
    (hend : ∀ (a' : Act) (W : World), Same a a' [15, 16, 17, 18, 19, 20, 21] → (Held w0 W L) → Q .normal a' W) : (Code.region 5 (opsOf 5 Tryd.f26).toArray false).wp Tryd.prog Q a w := by
  refine wp_region_lit (l := (opsOf 5 Tryd.f26)) ?_
  conv => arg 4; whnf
  unfold Sl at o1
  have S := Lib.hid S
  have c33 : w.cell? ⟨g1, 33, none⟩ = some (.slice A n c) := by rw [(S.out.at_ (l1 := [_])).cell]; exact ntA_sigs hh
  have HB := Lib.hid Tryd.built_spoilt
  have hz2 : Hid ((sgA spoiltS).size = 33) := Lib.hid (sgA_size rfl)
  have HO : Hid (∀ u, u ∈ (sgA spoiltS ++ sgA spoiltS).toList → u.oneCell' = true) := Lib.hid (by intro u hu; rw [Array.toList_append] at hu; rcases List.mem_append.1 hu with hu | hu <;> exact sgA_one spoiltS u hu)
  have HR := Lib.hid (fun V (hb : Blk V w.heap.size 81 (sgA spoiltS ++ sgA spoiltS)) => rd_two hb hz2.out)
  have HF := Lib.hid Tryd.fill_two
  have C33 := Lib.hid (fun V (b : Blk V g1 36 (ntA z h (.slice A n c))) => show V.cell? ⟨g1, 33, none⟩ = some (.slice A n c) from by rw [b.cell]; exact ntA_sigs hh)
  have hb1 : Hid (n + 2 ≤ maxLen ∧ (n + 2) * 48 ≤ 140737488355328) := Lib.hid (by unfold maxLen; omega)
  generalize ntA z h (.slice A n c) = ca at *
  obtain ⟨cc, hcc⟩ : ∃ cc, sgA spoiltS ++ sgA spoiltS = cc := ⟨_, rfl⟩
  rw [hcc] at HO HR HF
  generalize sgA spoiltS = cs at *
  go_wp2_with (first
    | (refine wpList_buildP rfl 81 _ rfl [(0, .string ⟨#[115, 112, 111, 105, 108, 116]⟩)] (by simp [Act.eval]) _ HB.out ?_)
    | (refine wpList_sigs2 rfl (.tmp 17) (.tmp 18) rfl cs cc HF.out (by simp [Act.eval, Act.put, hsz]) (by simp [Act.eval, Act.put, hsz]) ?_; have S2 := Lib.hid ((S.out.newBlk 81 cc).pull 1 rfl); have HR2 := Lib.hid (HR.out _ (S2.out.at_ (l1 := [_]))))
    | (at_builtin; refine wpList_appH rfl (.tmp 16) (.tmp 19) 34 81 rfl Tryd.infoSigZ Tryd.underlying34 rfl (by decide) (.slice A n c) n xs (by simp [Act.eval, Act.put, hsz]) S2.out (.slice (some ⟨w.heap.size, 0, none⟩) 2 2) 2 cc.toList (by simp [Act.eval, Act.put, hsz]) HR2.out HO.out hb1.out.1 hb1.out.2 ?_; intro v2 w2 S3; obtain ⟨A2, c2, hv2, -, -⟩ := ow_form (show Ow w2 81 33 v2 (n + 2) _ from S3.at_ (l1 := [])); subst hv2; have c34 := C33.out _ (S3.at_ (l1 := [_, _])); have f34 := (show Blk w2 g1 _ _ from S3.at_ (l1 := [_, _])).frozen 33; have S4 := Lib.hid (S3.set (l1 := [_, _]) 33 (.slice A2 (n + 2) c2)); clear S3))
  try simp only [Act.put]
  exact hend _ _ (by repeat (first | (with_reducible refine same_set (by decide) ?_) | (with_reducible exact same_nil))) (S4.out.some_of (List.Sublist.cons _ (List.Sublist.cons _ (List.Sublist.cons _ (List.Sublist.refl _)))))
-- END ssp5
-- REG sjn0
set_option maxRecDepth 100000 in
set_option maxHeartbeats 2000000 in
theorem sjn_r0 {Q : Exit → Act → World → Prop} {a : Act} {w : World} (w0 : World) (ca cb : Array Value) (L : List Res) (S : Held w0 w L) (hsz : a.tmps.size = 76) (o0 : Sl a 0 (.agg ca)) (o1 : Sl a 1 (.agg cb))
    (hend : ∀ (a' : Act) (W : World), Same a a' [2, 3, 4, 5] → Sl a' 5 (.int .i64 (0 : Int)) → (∃ g2 g3 g4, Sl a' 2 (.pointer (some ⟨g2, 0, none⟩)) ∧ Sl a' 3 (.pointer (some ⟨g3, 0, none⟩)) ∧ Sl a' 4 (.pointer (some ⟨g4, 0, none⟩)) ∧ Held w0 W (blkR g4 36 zeroN :: blkR g3 36 cb :: blkR g2 36 ca :: L)) → Q .normal a' W) : (Code.region 0 (opsOf 0 Tryd.f35).toArray false).wp Tryd.prog Q a w := by
  refine wp_region_lit (l := (opsOf 0 Tryd.f35)) ?_
  conv => arg 4; whnf
  unfold Sl at o0 o1
  have S1 := Lib.hid (((S.newBlk 36 ca).newBlkN 36 cb (g := w.heap.size + 1) (by simp)).newBlkN 36 zeroN (g := w.heap.size + 2) (by simp))
  go_wp2_with fail
  try simp only [Act.put]
  exact hend _ _ (by repeat (first | (with_reducible refine same_set (by decide) ?_) | (with_reducible exact same_nil))) (by unfold Sl; first | (simp [hsz]; done) | (simp [hsz]; omega)) (⟨_, _, _, (by unfold Sl; simp [hsz]), (by unfold Sl; simp [hsz]), (by unfold Sl; simp [hsz]), S1.out⟩)
-- END sjn0
-- REG sjn1N
set_option maxRecDepth 100000 in
set_option maxHeartbeats 2000000 in
theorem sjn_r1N {Q : Exit → Act → World → Prop} {a : Act} {w : World} (LDw : LD w) (z : Int) (hz : -9223372036854775808 ≤ z ∧ z ≤ 9223372036854775807) (h : List UInt8) (hh : h.length = 32) (A : Option Addr) (c : Nat) (l : List SigD) (hok : SgOk l) (hll : l.length ≤ 9223372036854775807) (y : Int) (hy : -9223372036854775808 ≤ y ∧ y ≤ 9223372036854775807) (g : List UInt8) (hg : g.length = 32) (B : Option Addr) (e : Nat) (m : List SigD) (hmk : SgOk m) (hml : m.length ≤ 9223372036854775807) (g2 g3 : Nat) (hb2 : Blk w g2 36 (ntA z h (.slice A l.length c))) (hb3 : Blk w g3 36 (ntA y g (.slice B m.length e))) (hv : Rd w 33 (.slice A l.length c) l.length (sgsC l)) (hu : Rd w 33 (.slice B m.length e) m.length (sgsC m)) (hm1 : mayN z l = false) (hsz : a.tmps.size = 76) (o2 : Sl a 2 (.pointer (some ⟨g2, 0, none⟩))) (o3 : Sl a 3 (.pointer (some ⟨g3, 0, none⟩)))
    (hend : ∀ (a' : Act) (W : World), Same a a' [11, 12, 13, 14, 15, 16, 17, 18, 19, 20, 21, 22, 23, 24, 25] → Kp [] w W → Sl a' 25 (.bool true) → Q .normal a' W) : (Code.region 1 (opsOf 1 Tryd.f35).toArray false).wp Tryd.prog Q a w := by
  have hap : apartB (opsOf 1 Tryd.f35) = true := by kernel_rfl
  refine wp_region_invS (l := (opsOf 1 Tryd.f35)) (fun i v W => match i with | 0 => v = .agg (ntA z h (.slice A l.length c)) | 1 => v = .int .i64 (chkN z l) | 2 => v = .bool true | 3 => v = .bool true | 7 => v = .bool true | 8 => v = .bool true | 14 => v = .bool true | _ => True) hap ?_ ?_ ?_
  · intro i v W W' h _
    iterate 15 (rcases i with _ | i; · exact h)
    exact h
  · refine ⟨?_, ?_, ?_, ?_, ?_, ?_, ?_, ?_, ?_, ?_, ?_, ?_, ?_, ?_, ?_, trivial⟩
    · intro vs A' W hA hW hd hu K hK
      refine wpOp_free _ rfl rfl ?_
      conv => arg 2; whnf
      have e2 : A'.tmps[2]?.getD undef = .pointer (some ⟨g2, 0, none⟩) := slot_out hA hap (Nat.lt_of_lt_of_eq (Nat.le_of_ble_eq_true rfl : 2 < 76) hsz.symm) (by kernel_rfl) o2
      clear hA hd hu o2 o3
      refine op_runs (v := .agg (ntA z h (.slice A l.length c))) (w' := W) (exec_load rfl (by simpa [Act.eval] using e2) (run_loadAt_agg W (⟨g2, 0, none⟩) 36 (ntA z h (.slice A l.length c)).toList _ (Blk.agg (hb2.kp hW (by simp))) Tryd.underlying36 rfl (by rw [Array.length_toList, ntA_size hh]; exact Tryd.infoNote))) ?_
      exact hK _ _ (Kp.refl _ _) rfl
    · intro vs A' W hA hW hd hu K hK
      refine wpOp_free _ rfl rfl ?_
      conv => arg 2; whnf
      have f0 : vs 0 = .agg (ntA z h (.slice A l.length c)) := hd 0 (by kernel_rfl)
      have e11 : A'.tmps[11]?.getD undef = vs 0 := slot_in hA hap (Nat.lt_of_lt_of_eq (Nat.le_of_ble_eq_true rfl : 11 < 76) hsz.symm) (by kernel_rfl)
      rw [f0] at e11
      clear hA hd hu o2 o3
      go_step
      refine (scheck_any z hz h hh l hok hll A c W (LDw.kp hW) (rd_old hv hW)).mono ?_
      rintro e w' ⟨rfl, k⟩
      exact hK _ _ k rfl
    · intro vs A' W hA hW hd hu K hK
      refine wpOp_free _ rfl rfl ?_
      conv => arg 2; whnf
      have f1 : vs 1 = .int .i64 (chkN z l) := hd 1 (by kernel_rfl)
      have e12 : A'.tmps[12]?.getD undef = vs 1 := slot_in hA hap (Nat.lt_of_lt_of_eq (Nat.le_of_ble_eq_true rfl : 12 < 76) hsz.symm) (by kernel_rfl)
      rw [f1] at e12
      clear hA hd hu o2 o3
      go_step
      exact hK _ _ (Kp.refl _ _) (show Value.bool (chkN z l != 0) = Value.bool true from by rw [chk_bne, hm1] <;> rfl)
    · intro vs A' W hA hW hd hu K hK
      refine wpOp_free _ rfl rfl ?_
      conv => arg 2; whnf
      have f2 : vs 2 = .bool true := hd 2 (by kernel_rfl)
      have e13 : A'.tmps[13]?.getD undef = vs 2 := slot_in hA hap (Nat.lt_of_lt_of_eq (Nat.le_of_ble_eq_true rfl : 13 < 76) hsz.symm) (by kernel_rfl)
      rw [f2] at e13
      clear hA hd hu o2 o3
      go_step
      exact hK _ _ (Kp.refl _ _) rfl
    · intro vs A' W hA hW hd hu K hK
      have f3 : vs 3 = .bool true := hd 3 (by kernel_rfl)
      have e14 : A'.tmps[14]?.getD undef = vs 3 := slot_in hA hap (Nat.lt_of_lt_of_eq (Nat.le_of_ble_eq_true rfl : 14 < 76) hsz.symm) (by kernel_rfl)
      rw [f3] at e14
      refine wpOp_skip _ rfl 3 14 false rfl rfl e14 ?_
      exact hK _ _ (Kp.refl _ _) trivial
    · intro vs A' W hA hW hd hu K hK
      have f3 : vs 3 = .bool true := hd 3 (by kernel_rfl)
      have e14 : A'.tmps[14]?.getD undef = vs 3 := slot_in hA hap (Nat.lt_of_lt_of_eq (Nat.le_of_ble_eq_true rfl : 14 < 76) hsz.symm) (by kernel_rfl)
      rw [f3] at e14
      refine wpOp_skip _ rfl 3 14 false rfl rfl e14 ?_
      exact hK _ _ (Kp.refl _ _) trivial
    · intro vs A' W hA hW hd hu K hK
      have f3 : vs 3 = .bool true := hd 3 (by kernel_rfl)
      have e14 : A'.tmps[14]?.getD undef = vs 3 := slot_in hA hap (Nat.lt_of_lt_of_eq (Nat.le_of_ble_eq_true rfl : 14 < 76) hsz.symm) (by kernel_rfl)
      rw [f3] at e14
      refine wpOp_skip _ rfl 3 14 false rfl rfl e14 ?_
      exact hK _ _ (Kp.refl _ _) trivial
    · intro vs A' W hA hW hd hu K hK
      refine wpOp_free _ rfl rfl ?_
      conv => arg 2; whnf
      have f3 : vs 3 = .bool true := hd 3 (by kernel_rfl)
      have e14 : A'.tmps[14]?.getD undef = vs 3 := slot_in hA hap (Nat.lt_of_lt_of_eq (Nat.le_of_ble_eq_true rfl : 14 < 76) hsz.symm) (by kernel_rfl)
      rw [f3] at e14
      have e17 : A'.tmps[17]?.getD undef = vs 6 := slot_in hA hap (Nat.lt_of_lt_of_eq (Nat.le_of_ble_eq_true rfl : 17 < 76) hsz.symm) (by kernel_rfl)
      clear hA hd hu o2 o3
      go_step
      exact hK _ _ (Kp.refl _ _) rfl
    · intro vs A' W hA hW hd hu K hK
      refine wpOp_free _ rfl rfl ?_
      conv => arg 2; whnf
      have f7 : vs 7 = .bool true := hd 7 (by kernel_rfl)
      have e18 : A'.tmps[18]?.getD undef = vs 7 := slot_in hA hap (Nat.lt_of_lt_of_eq (Nat.le_of_ble_eq_true rfl : 18 < 76) hsz.symm) (by kernel_rfl)
      rw [f7] at e18
      clear hA hd hu o2 o3
      go_step
      exact hK _ _ (Kp.refl _ _) rfl
    · intro vs A' W hA hW hd hu K hK
      have f8 : vs 8 = .bool true := hd 8 (by kernel_rfl)
      have e19 : A'.tmps[19]?.getD undef = vs 8 := slot_in hA hap (Nat.lt_of_lt_of_eq (Nat.le_of_ble_eq_true rfl : 19 < 76) hsz.symm) (by kernel_rfl)
      rw [f8] at e19
      refine wpOp_skip _ rfl 8 19 false rfl rfl e19 ?_
      exact hK _ _ (Kp.refl _ _) trivial
    · intro vs A' W hA hW hd hu K hK
      have f8 : vs 8 = .bool true := hd 8 (by kernel_rfl)
      have e19 : A'.tmps[19]?.getD undef = vs 8 := slot_in hA hap (Nat.lt_of_lt_of_eq (Nat.le_of_ble_eq_true rfl : 19 < 76) hsz.symm) (by kernel_rfl)
      rw [f8] at e19
      refine wpOp_skip _ rfl 8 19 false rfl rfl e19 ?_
      exact hK _ _ (Kp.refl _ _) trivial
    · intro vs A' W hA hW hd hu K hK
      have f8 : vs 8 = .bool true := hd 8 (by kernel_rfl)
      have e19 : A'.tmps[19]?.getD undef = vs 8 := slot_in hA hap (Nat.lt_of_lt_of_eq (Nat.le_of_ble_eq_true rfl : 19 < 76) hsz.symm) (by kernel_rfl)
      rw [f8] at e19
      refine wpOp_skip _ rfl 8 19 false rfl rfl e19 ?_
      exact hK _ _ (Kp.refl _ _) trivial
    · intro vs A' W hA hW hd hu K hK
      have f8 : vs 8 = .bool true := hd 8 (by kernel_rfl)
      have e19 : A'.tmps[19]?.getD undef = vs 8 := slot_in hA hap (Nat.lt_of_lt_of_eq (Nat.le_of_ble_eq_true rfl : 19 < 76) hsz.symm) (by kernel_rfl)
      rw [f8] at e19
      refine wpOp_skip _ rfl 8 19 false rfl rfl e19 ?_
      exact hK _ _ (Kp.refl _ _) trivial
    · intro vs A' W hA hW hd hu K hK
      have f8 : vs 8 = .bool true := hd 8 (by kernel_rfl)
      have e19 : A'.tmps[19]?.getD undef = vs 8 := slot_in hA hap (Nat.lt_of_lt_of_eq (Nat.le_of_ble_eq_true rfl : 19 < 76) hsz.symm) (by kernel_rfl)
      rw [f8] at e19
      refine wpOp_skip _ rfl 8 19 false rfl rfl e19 ?_
      exact hK _ _ (Kp.refl _ _) trivial
    · intro vs A' W hA hW hd hu K hK
      refine wpOp_free _ rfl rfl ?_
      conv => arg 2; whnf
      have f8 : vs 8 = .bool true := hd 8 (by kernel_rfl)
      have e19 : A'.tmps[19]?.getD undef = vs 8 := slot_in hA hap (Nat.lt_of_lt_of_eq (Nat.le_of_ble_eq_true rfl : 19 < 76) hsz.symm) (by kernel_rfl)
      rw [f8] at e19
      have e24 : A'.tmps[24]?.getD undef = vs 13 := slot_in hA hap (Nat.lt_of_lt_of_eq (Nat.le_of_ble_eq_true rfl : 24 < 76) hsz.symm) (by kernel_rfl)
      clear hA hd hu o2 o3
      go_step
      exact hK _ _ (Kp.refl _ _) rfl
  · intro vs W hW hp
    rw [show putAll vs (opsOf 1 Tryd.f35) 0 a = putD [(11, vs 0), (12, vs 1), (13, vs 2), (14, vs 3), (15, vs 4), (16, vs 5), (17, vs 6), (18, vs 7), (19, vs 8), (20, vs 9), (21, vs 10), (22, vs 11), (23, vs 12), (24, vs 13), (25, vs 14)] a from by kernel_rfl]
    exact hend _ W (same_putD _ a) hW (sl_putD _ a 25 _ (by rw [show vs 14 = _ from hp 14 (Nat.le_of_ble_eq_true (by kernel_rfl))]; kernel_rfl))
-- END sjn1N
-- REG sjn1M
set_option maxRecDepth 100000 in
set_option maxHeartbeats 2000000 in
theorem sjn_r1M {Q : Exit → Act → World → Prop} {a : Act} {w : World} (LDw : LD w) (z : Int) (hz : -9223372036854775808 ≤ z ∧ z ≤ 9223372036854775807) (h : List UInt8) (hh : h.length = 32) (A : Option Addr) (c : Nat) (l : List SigD) (hok : SgOk l) (hll : l.length ≤ 9223372036854775807) (y : Int) (hy : -9223372036854775808 ≤ y ∧ y ≤ 9223372036854775807) (g : List UInt8) (hg : g.length = 32) (B : Option Addr) (e : Nat) (m : List SigD) (hmk : SgOk m) (hml : m.length ≤ 9223372036854775807) (g2 g3 : Nat) (hb2 : Blk w g2 36 (ntA z h (.slice A l.length c))) (hb3 : Blk w g3 36 (ntA y g (.slice B m.length e))) (hv : Rd w 33 (.slice A l.length c) l.length (sgsC l)) (hu : Rd w 33 (.slice B m.length e) m.length (sgsC m)) (hm1 : mayN z l = true) (hm2 : mayN y m = false) (hsz : a.tmps.size = 76) (o2 : Sl a 2 (.pointer (some ⟨g2, 0, none⟩))) (o3 : Sl a 3 (.pointer (some ⟨g3, 0, none⟩)))
    (hend : ∀ (a' : Act) (W : World), Same a a' [11, 12, 13, 14, 15, 16, 17, 18, 19, 20, 21, 22, 23, 24, 25] → Kp [] w W → Sl a' 25 (.bool true) → Q .normal a' W) : (Code.region 1 (opsOf 1 Tryd.f35).toArray false).wp Tryd.prog Q a w := by
  have hap : apartB (opsOf 1 Tryd.f35) = true := by kernel_rfl
  refine wp_region_invS (l := (opsOf 1 Tryd.f35)) (fun i v W => match i with | 0 => v = .agg (ntA z h (.slice A l.length c)) | 1 => v = .int .i64 (chkN z l) | 2 => v = .bool false | 3 => v = .bool false | 4 => v = .agg (ntA y g (.slice B m.length e)) | 5 => v = .int .i64 (chkN y m) | 6 => v = .bool true | 7 => v = .bool true | 8 => v = .bool true | 14 => v = .bool true | _ => True) hap ?_ ?_ ?_
  · intro i v W W' h _
    iterate 15 (rcases i with _ | i; · exact h)
    exact h
  · refine ⟨?_, ?_, ?_, ?_, ?_, ?_, ?_, ?_, ?_, ?_, ?_, ?_, ?_, ?_, ?_, trivial⟩
    · intro vs A' W hA hW hd hu K hK
      refine wpOp_free _ rfl rfl ?_
      conv => arg 2; whnf
      have e2 : A'.tmps[2]?.getD undef = .pointer (some ⟨g2, 0, none⟩) := slot_out hA hap (Nat.lt_of_lt_of_eq (Nat.le_of_ble_eq_true rfl : 2 < 76) hsz.symm) (by kernel_rfl) o2
      clear hA hd hu o2 o3
      refine op_runs (v := .agg (ntA z h (.slice A l.length c))) (w' := W) (exec_load rfl (by simpa [Act.eval] using e2) (run_loadAt_agg W (⟨g2, 0, none⟩) 36 (ntA z h (.slice A l.length c)).toList _ (Blk.agg (hb2.kp hW (by simp))) Tryd.underlying36 rfl (by rw [Array.length_toList, ntA_size hh]; exact Tryd.infoNote))) ?_
      exact hK _ _ (Kp.refl _ _) rfl
    · intro vs A' W hA hW hd hu K hK
      refine wpOp_free _ rfl rfl ?_
      conv => arg 2; whnf
      have f0 : vs 0 = .agg (ntA z h (.slice A l.length c)) := hd 0 (by kernel_rfl)
      have e11 : A'.tmps[11]?.getD undef = vs 0 := slot_in hA hap (Nat.lt_of_lt_of_eq (Nat.le_of_ble_eq_true rfl : 11 < 76) hsz.symm) (by kernel_rfl)
      rw [f0] at e11
      clear hA hd hu o2 o3
      go_step
      refine (scheck_any z hz h hh l hok hll A c W (LDw.kp hW) (rd_old hv hW)).mono ?_
      rintro e w' ⟨rfl, k⟩
      exact hK _ _ k rfl
    · intro vs A' W hA hW hd hu K hK
      refine wpOp_free _ rfl rfl ?_
      conv => arg 2; whnf
      have f1 : vs 1 = .int .i64 (chkN z l) := hd 1 (by kernel_rfl)
      have e12 : A'.tmps[12]?.getD undef = vs 1 := slot_in hA hap (Nat.lt_of_lt_of_eq (Nat.le_of_ble_eq_true rfl : 12 < 76) hsz.symm) (by kernel_rfl)
      rw [f1] at e12
      clear hA hd hu o2 o3
      go_step
      exact hK _ _ (Kp.refl _ _) (show Value.bool (chkN z l != 0) = Value.bool false from by rw [chk_bne, hm1] <;> rfl)
    · intro vs A' W hA hW hd hu K hK
      refine wpOp_free _ rfl rfl ?_
      conv => arg 2; whnf
      have f2 : vs 2 = .bool false := hd 2 (by kernel_rfl)
      have e13 : A'.tmps[13]?.getD undef = vs 2 := slot_in hA hap (Nat.lt_of_lt_of_eq (Nat.le_of_ble_eq_true rfl : 13 < 76) hsz.symm) (by kernel_rfl)
      rw [f2] at e13
      clear hA hd hu o2 o3
      go_step
      exact hK _ _ (Kp.refl _ _) rfl
    · intro vs A' W hA hW hd hu K hK
      have f3 : vs 3 = .bool false := hd 3 (by kernel_rfl)
      have e14 : A'.tmps[14]?.getD undef = vs 3 := slot_in hA hap (Nat.lt_of_lt_of_eq (Nat.le_of_ble_eq_true rfl : 14 < 76) hsz.symm) (by kernel_rfl)
      rw [f3] at e14
      refine wpOp_go _ rfl 3 14 false rfl rfl e14 ?_
      conv => arg 2; whnf
      have e3 : A'.tmps[3]?.getD undef = .pointer (some ⟨g3, 0, none⟩) := slot_out hA hap (Nat.lt_of_lt_of_eq (Nat.le_of_ble_eq_true rfl : 3 < 76) hsz.symm) (by kernel_rfl) o3
      clear hA hd hu o2 o3
      refine op_runs (v := .agg (ntA y g (.slice B m.length e))) (w' := W) (exec_load rfl (by simpa [Act.eval] using e3) (run_loadAt_agg W (⟨g3, 0, none⟩) 36 (ntA y g (.slice B m.length e)).toList _ (Blk.agg (hb3.kp hW (by simp))) Tryd.underlying36 rfl (by rw [Array.length_toList, ntA_size hg]; exact Tryd.infoNote))) ?_
      exact hK _ _ (Kp.refl _ _) rfl
    · intro vs A' W hA hW hd hu K hK
      have f3 : vs 3 = .bool false := hd 3 (by kernel_rfl)
      have e14 : A'.tmps[14]?.getD undef = vs 3 := slot_in hA hap (Nat.lt_of_lt_of_eq (Nat.le_of_ble_eq_true rfl : 14 < 76) hsz.symm) (by kernel_rfl)
      rw [f3] at e14
      refine wpOp_go _ rfl 3 14 false rfl rfl e14 ?_
      conv => arg 2; whnf
      have f4 : vs 4 = .agg (ntA y g (.slice B m.length e)) := hd 4 (by kernel_rfl)
      have e15 : A'.tmps[15]?.getD undef = vs 4 := slot_in hA hap (Nat.lt_of_lt_of_eq (Nat.le_of_ble_eq_true rfl : 15 < 76) hsz.symm) (by kernel_rfl)
      rw [f4] at e15
      clear hA hd hu o2 o3
      go_step
      refine (scheck_any y hy g hg m hmk hml B e W (LDw.kp hW) (rd_old hu hW)).mono ?_
      rintro e w' ⟨rfl, k⟩
      exact hK _ _ k rfl
    · intro vs A' W hA hW hd hu K hK
      have f3 : vs 3 = .bool false := hd 3 (by kernel_rfl)
      have e14 : A'.tmps[14]?.getD undef = vs 3 := slot_in hA hap (Nat.lt_of_lt_of_eq (Nat.le_of_ble_eq_true rfl : 14 < 76) hsz.symm) (by kernel_rfl)
      rw [f3] at e14
      refine wpOp_go _ rfl 3 14 false rfl rfl e14 ?_
      conv => arg 2; whnf
      have f5 : vs 5 = .int .i64 (chkN y m) := hd 5 (by kernel_rfl)
      have e16 : A'.tmps[16]?.getD undef = vs 5 := slot_in hA hap (Nat.lt_of_lt_of_eq (Nat.le_of_ble_eq_true rfl : 16 < 76) hsz.symm) (by kernel_rfl)
      rw [f5] at e16
      clear hA hd hu o2 o3
      go_step
      exact hK _ _ (Kp.refl _ _) (show Value.bool (chkN y m != 0) = Value.bool true from by rw [chk_bne, hm2] <;> rfl)
    · intro vs A' W hA hW hd hu K hK
      refine wpOp_free _ rfl rfl ?_
      conv => arg 2; whnf
      have f3 : vs 3 = .bool false := hd 3 (by kernel_rfl)
      have e14 : A'.tmps[14]?.getD undef = vs 3 := slot_in hA hap (Nat.lt_of_lt_of_eq (Nat.le_of_ble_eq_true rfl : 14 < 76) hsz.symm) (by kernel_rfl)
      rw [f3] at e14
      have f6 : vs 6 = .bool true := hd 6 (by kernel_rfl)
      have e17 : A'.tmps[17]?.getD undef = vs 6 := slot_in hA hap (Nat.lt_of_lt_of_eq (Nat.le_of_ble_eq_true rfl : 17 < 76) hsz.symm) (by kernel_rfl)
      rw [f6] at e17
      clear hA hd hu o2 o3
      go_step
      exact hK _ _ (Kp.refl _ _) rfl
    · intro vs A' W hA hW hd hu K hK
      refine wpOp_free _ rfl rfl ?_
      conv => arg 2; whnf
      have f7 : vs 7 = .bool true := hd 7 (by kernel_rfl)
      have e18 : A'.tmps[18]?.getD undef = vs 7 := slot_in hA hap (Nat.lt_of_lt_of_eq (Nat.le_of_ble_eq_true rfl : 18 < 76) hsz.symm) (by kernel_rfl)
      rw [f7] at e18
      clear hA hd hu o2 o3
      go_step
      exact hK _ _ (Kp.refl _ _) rfl
    · intro vs A' W hA hW hd hu K hK
      have f8 : vs 8 = .bool true := hd 8 (by kernel_rfl)
      have e19 : A'.tmps[19]?.getD undef = vs 8 := slot_in hA hap (Nat.lt_of_lt_of_eq (Nat.le_of_ble_eq_true rfl : 19 < 76) hsz.symm) (by kernel_rfl)
      rw [f8] at e19
      refine wpOp_skip _ rfl 8 19 false rfl rfl e19 ?_
      exact hK _ _ (Kp.refl _ _) trivial
    · intro vs A' W hA hW hd hu K hK
      have f8 : vs 8 = .bool true := hd 8 (by kernel_rfl)
      have e19 : A'.tmps[19]?.getD undef = vs 8 := slot_in hA hap (Nat.lt_of_lt_of_eq (Nat.le_of_ble_eq_true rfl : 19 < 76) hsz.symm) (by kernel_rfl)
      rw [f8] at e19
      refine wpOp_skip _ rfl 8 19 false rfl rfl e19 ?_
      exact hK _ _ (Kp.refl _ _) trivial
    · intro vs A' W hA hW hd hu K hK
      have f8 : vs 8 = .bool true := hd 8 (by kernel_rfl)
      have e19 : A'.tmps[19]?.getD undef = vs 8 := slot_in hA hap (Nat.lt_of_lt_of_eq (Nat.le_of_ble_eq_true rfl : 19 < 76) hsz.symm) (by kernel_rfl)
      rw [f8] at e19
      refine wpOp_skip _ rfl 8 19 false rfl rfl e19 ?_
      exact hK _ _ (Kp.refl _ _) trivial
    · intro vs A' W hA hW hd hu K hK
      have f8 : vs 8 = .bool true := hd 8 (by kernel_rfl)
      have e19 : A'.tmps[19]?.getD undef = vs 8 := slot_in hA hap (Nat.lt_of_lt_of_eq (Nat.le_of_ble_eq_true rfl : 19 < 76) hsz.symm) (by kernel_rfl)
      rw [f8] at e19
      refine wpOp_skip _ rfl 8 19 false rfl rfl e19 ?_
      exact hK _ _ (Kp.refl _ _) trivial
    · intro vs A' W hA hW hd hu K hK
      have f8 : vs 8 = .bool true := hd 8 (by kernel_rfl)
      have e19 : A'.tmps[19]?.getD undef = vs 8 := slot_in hA hap (Nat.lt_of_lt_of_eq (Nat.le_of_ble_eq_true rfl : 19 < 76) hsz.symm) (by kernel_rfl)
      rw [f8] at e19
      refine wpOp_skip _ rfl 8 19 false rfl rfl e19 ?_
      exact hK _ _ (Kp.refl _ _) trivial
    · intro vs A' W hA hW hd hu K hK
      refine wpOp_free _ rfl rfl ?_
      conv => arg 2; whnf
      have f8 : vs 8 = .bool true := hd 8 (by kernel_rfl)
      have e19 : A'.tmps[19]?.getD undef = vs 8 := slot_in hA hap (Nat.lt_of_lt_of_eq (Nat.le_of_ble_eq_true rfl : 19 < 76) hsz.symm) (by kernel_rfl)
      rw [f8] at e19
      have e24 : A'.tmps[24]?.getD undef = vs 13 := slot_in hA hap (Nat.lt_of_lt_of_eq (Nat.le_of_ble_eq_true rfl : 24 < 76) hsz.symm) (by kernel_rfl)
      clear hA hd hu o2 o3
      go_step
      exact hK _ _ (Kp.refl _ _) rfl
  · intro vs W hW hp
    rw [show putAll vs (opsOf 1 Tryd.f35) 0 a = putD [(11, vs 0), (12, vs 1), (13, vs 2), (14, vs 3), (15, vs 4), (16, vs 5), (17, vs 6), (18, vs 7), (19, vs 8), (20, vs 9), (21, vs 10), (22, vs 11), (23, vs 12), (24, vs 13), (25, vs 14)] a from by kernel_rfl]
    exact hend _ W (same_putD _ a) hW (sl_putD _ a 25 _ (by rw [show vs 14 = _ from hp 14 (Nat.le_of_ble_eq_true (by kernel_rfl))]; kernel_rfl))
-- END sjn1M
-- REG sjn1Y
set_option maxRecDepth 100000 in
set_option maxHeartbeats 2000000 in
theorem sjn_r1Y {Q : Exit → Act → World → Prop} {a : Act} {w : World} (LDw : LD w) (z : Int) (hz : -9223372036854775808 ≤ z ∧ z ≤ 9223372036854775807) (h : List UInt8) (hh : h.length = 32) (A : Option Addr) (c : Nat) (l : List SigD) (hok : SgOk l) (hll : l.length ≤ 9223372036854775807) (y : Int) (hy : -9223372036854775808 ≤ y ∧ y ≤ 9223372036854775807) (g : List UInt8) (hg : g.length = 32) (B : Option Addr) (e : Nat) (m : List SigD) (hmk : SgOk m) (hml : m.length ≤ 9223372036854775807) (g2 g3 : Nat) (hb2 : Blk w g2 36 (ntA z h (.slice A l.length c))) (hb3 : Blk w g3 36 (ntA y g (.slice B m.length e))) (hv : Rd w 33 (.slice A l.length c) l.length (sgsC l)) (hu : Rd w 33 (.slice B m.length e) m.length (sgsC m)) (hm1 : mayN z l = true) (hm2 : mayN y m = true) (bq : Bool) (hbq : (!(decide (z = y) && (h == g))) = bq) (hsz : a.tmps.size = 76) (o2 : Sl a 2 (.pointer (some ⟨g2, 0, none⟩))) (o3 : Sl a 3 (.pointer (some ⟨g3, 0, none⟩)))
    (hend : ∀ (a' : Act) (W : World), Same a a' [11, 12, 13, 14, 15, 16, 17, 18, 19, 20, 21, 22, 23, 24, 25] → Kp [] w W → Sl a' 25 (.bool bq) → Q .normal a' W) : (Code.region 1 (opsOf 1 Tryd.f35).toArray false).wp Tryd.prog Q a w := by
  have hap : apartB (opsOf 1 Tryd.f35) = true := by kernel_rfl
  refine wp_region_invS (l := (opsOf 1 Tryd.f35)) (fun i v W => match i with | 0 => v = .agg (ntA z h (.slice A l.length c)) | 1 => v = .int .i64 (chkN z l) | 2 => v = .bool false | 3 => v = .bool false | 4 => v = .agg (ntA y g (.slice B m.length e)) | 5 => v = .int .i64 (chkN y m) | 6 => v = .bool false | 7 => v = .bool false | 8 => v = .bool false | 9 => v = .pointer (some ⟨g2, 0, none⟩) | 10 => v = .agg (ptA z h) | 11 => v = .pointer (some ⟨g3, 0, none⟩) | 12 => v = .agg (ptA y g) | 13 => v = .bool bq | 14 => v = .bool bq | _ => True) hap ?_ ?_ ?_
  · intro i v W W' h _
    iterate 15 (rcases i with _ | i; · exact h)
    exact h
  · refine ⟨?_, ?_, ?_, ?_, ?_, ?_, ?_, ?_, ?_, ?_, ?_, ?_, ?_, ?_, ?_, trivial⟩
    · intro vs A' W hA hW hd hu K hK
      refine wpOp_free _ rfl rfl ?_
      conv => arg 2; whnf
      have e2 : A'.tmps[2]?.getD undef = .pointer (some ⟨g2, 0, none⟩) := slot_out hA hap (Nat.lt_of_lt_of_eq (Nat.le_of_ble_eq_true rfl : 2 < 76) hsz.symm) (by kernel_rfl) o2
      clear hA hd hu o2 o3
      refine op_runs (v := .agg (ntA z h (.slice A l.length c))) (w' := W) (exec_load rfl (by simpa [Act.eval] using e2) (run_loadAt_agg W (⟨g2, 0, none⟩) 36 (ntA z h (.slice A l.length c)).toList _ (Blk.agg (hb2.kp hW (by simp))) Tryd.underlying36 rfl (by rw [Array.length_toList, ntA_size hh]; exact Tryd.infoNote))) ?_
      exact hK _ _ (Kp.refl _ _) rfl
    · intro vs A' W hA hW hd hu K hK
      refine wpOp_free _ rfl rfl ?_
      conv => arg 2; whnf
      have f0 : vs 0 = .agg (ntA z h (.slice A l.length c)) := hd 0 (by kernel_rfl)
      have e11 : A'.tmps[11]?.getD undef = vs 0 := slot_in hA hap (Nat.lt_of_lt_of_eq (Nat.le_of_ble_eq_true rfl : 11 < 76) hsz.symm) (by kernel_rfl)
      rw [f0] at e11
      clear hA hd hu o2 o3
      go_step
      refine (scheck_any z hz h hh l hok hll A c W (LDw.kp hW) (rd_old hv hW)).mono ?_
      rintro e w' ⟨rfl, k⟩
      exact hK _ _ k rfl
    · intro vs A' W hA hW hd hu K hK
      refine wpOp_free _ rfl rfl ?_
      conv => arg 2; whnf
      have f1 : vs 1 = .int .i64 (chkN z l) := hd 1 (by kernel_rfl)
      have e12 : A'.tmps[12]?.getD undef = vs 1 := slot_in hA hap (Nat.lt_of_lt_of_eq (Nat.le_of_ble_eq_true rfl : 12 < 76) hsz.symm) (by kernel_rfl)
      rw [f1] at e12
      clear hA hd hu o2 o3
      go_step
      exact hK _ _ (Kp.refl _ _) (show Value.bool (chkN z l != 0) = Value.bool false from by rw [chk_bne, hm1] <;> rfl)
    · intro vs A' W hA hW hd hu K hK
      refine wpOp_free _ rfl rfl ?_
      conv => arg 2; whnf
      have f2 : vs 2 = .bool false := hd 2 (by kernel_rfl)
      have e13 : A'.tmps[13]?.getD undef = vs 2 := slot_in hA hap (Nat.lt_of_lt_of_eq (Nat.le_of_ble_eq_true rfl : 13 < 76) hsz.symm) (by kernel_rfl)
      rw [f2] at e13
      clear hA hd hu o2 o3
      go_step
      exact hK _ _ (Kp.refl _ _) rfl
    · intro vs A' W hA hW hd hu K hK
      have f3 : vs 3 = .bool false := hd 3 (by kernel_rfl)
      have e14 : A'.tmps[14]?.getD undef = vs 3 := slot_in hA hap (Nat.lt_of_lt_of_eq (Nat.le_of_ble_eq_true rfl : 14 < 76) hsz.symm) (by kernel_rfl)
      rw [f3] at e14
      refine wpOp_go _ rfl 3 14 false rfl rfl e14 ?_
      conv => arg 2; whnf
      have e3 : A'.tmps[3]?.getD undef = .pointer (some ⟨g3, 0, none⟩) := slot_out hA hap (Nat.lt_of_lt_of_eq (Nat.le_of_ble_eq_true rfl : 3 < 76) hsz.symm) (by kernel_rfl) o3
      clear hA hd hu o2 o3
      refine op_runs (v := .agg (ntA y g (.slice B m.length e))) (w' := W) (exec_load rfl (by simpa [Act.eval] using e3) (run_loadAt_agg W (⟨g3, 0, none⟩) 36 (ntA y g (.slice B m.length e)).toList _ (Blk.agg (hb3.kp hW (by simp))) Tryd.underlying36 rfl (by rw [Array.length_toList, ntA_size hg]; exact Tryd.infoNote))) ?_
      exact hK _ _ (Kp.refl _ _) rfl
    · intro vs A' W hA hW hd hu K hK
      have f3 : vs 3 = .bool false := hd 3 (by kernel_rfl)
      have e14 : A'.tmps[14]?.getD undef = vs 3 := slot_in hA hap (Nat.lt_of_lt_of_eq (Nat.le_of_ble_eq_true rfl : 14 < 76) hsz.symm) (by kernel_rfl)
      rw [f3] at e14
      refine wpOp_go _ rfl 3 14 false rfl rfl e14 ?_
      conv => arg 2; whnf
      have f4 : vs 4 = .agg (ntA y g (.slice B m.length e)) := hd 4 (by kernel_rfl)
      have e15 : A'.tmps[15]?.getD undef = vs 4 := slot_in hA hap (Nat.lt_of_lt_of_eq (Nat.le_of_ble_eq_true rfl : 15 < 76) hsz.symm) (by kernel_rfl)
      rw [f4] at e15
      clear hA hd hu o2 o3
      go_step
      refine (scheck_any y hy g hg m hmk hml B e W (LDw.kp hW) (rd_old hu hW)).mono ?_
      rintro e w' ⟨rfl, k⟩
      exact hK _ _ k rfl
    · intro vs A' W hA hW hd hu K hK
      have f3 : vs 3 = .bool false := hd 3 (by kernel_rfl)
      have e14 : A'.tmps[14]?.getD undef = vs 3 := slot_in hA hap (Nat.lt_of_lt_of_eq (Nat.le_of_ble_eq_true rfl : 14 < 76) hsz.symm) (by kernel_rfl)
      rw [f3] at e14
      refine wpOp_go _ rfl 3 14 false rfl rfl e14 ?_
      conv => arg 2; whnf
      have f5 : vs 5 = .int .i64 (chkN y m) := hd 5 (by kernel_rfl)
      have e16 : A'.tmps[16]?.getD undef = vs 5 := slot_in hA hap (Nat.lt_of_lt_of_eq (Nat.le_of_ble_eq_true rfl : 16 < 76) hsz.symm) (by kernel_rfl)
      rw [f5] at e16
      clear hA hd hu o2 o3
      go_step
      exact hK _ _ (Kp.refl _ _) (show Value.bool (chkN y m != 0) = Value.bool false from by rw [chk_bne, hm2] <;> rfl)
    · intro vs A' W hA hW hd hu K hK
      refine wpOp_free _ rfl rfl ?_
      conv => arg 2; whnf
      have f3 : vs 3 = .bool false := hd 3 (by kernel_rfl)
      have e14 : A'.tmps[14]?.getD undef = vs 3 := slot_in hA hap (Nat.lt_of_lt_of_eq (Nat.le_of_ble_eq_true rfl : 14 < 76) hsz.symm) (by kernel_rfl)
      rw [f3] at e14
      have f6 : vs 6 = .bool false := hd 6 (by kernel_rfl)
      have e17 : A'.tmps[17]?.getD undef = vs 6 := slot_in hA hap (Nat.lt_of_lt_of_eq (Nat.le_of_ble_eq_true rfl : 17 < 76) hsz.symm) (by kernel_rfl)
      rw [f6] at e17
      clear hA hd hu o2 o3
      go_step
      exact hK _ _ (Kp.refl _ _) rfl
    · intro vs A' W hA hW hd hu K hK
      refine wpOp_free _ rfl rfl ?_
      conv => arg 2; whnf
      have f7 : vs 7 = .bool false := hd 7 (by kernel_rfl)
      have e18 : A'.tmps[18]?.getD undef = vs 7 := slot_in hA hap (Nat.lt_of_lt_of_eq (Nat.le_of_ble_eq_true rfl : 18 < 76) hsz.symm) (by kernel_rfl)
      rw [f7] at e18
      clear hA hd hu o2 o3
      go_step
      exact hK _ _ (Kp.refl _ _) rfl
    · intro vs A' W hA hW hd hu K hK
      have f8 : vs 8 = .bool false := hd 8 (by kernel_rfl)
      have e19 : A'.tmps[19]?.getD undef = vs 8 := slot_in hA hap (Nat.lt_of_lt_of_eq (Nat.le_of_ble_eq_true rfl : 19 < 76) hsz.symm) (by kernel_rfl)
      rw [f8] at e19
      refine wpOp_go _ rfl 8 19 false rfl rfl e19 ?_
      conv => arg 2; whnf
      have e2 : A'.tmps[2]?.getD undef = .pointer (some ⟨g2, 0, none⟩) := slot_out hA hap (Nat.lt_of_lt_of_eq (Nat.le_of_ble_eq_true rfl : 2 < 76) hsz.symm) (by kernel_rfl) o2
      clear hA hd hu o2 o3
      go_step
      exact hK _ _ (Kp.refl _ _) rfl
    · intro vs A' W hA hW hd hu K hK
      have f8 : vs 8 = .bool false := hd 8 (by kernel_rfl)
      have e19 : A'.tmps[19]?.getD undef = vs 8 := slot_in hA hap (Nat.lt_of_lt_of_eq (Nat.le_of_ble_eq_true rfl : 19 < 76) hsz.symm) (by kernel_rfl)
      rw [f8] at e19
      refine wpOp_go _ rfl 8 19 false rfl rfl e19 ?_
      conv => arg 2; whnf
      have f9 : vs 9 = .pointer (some ⟨g2, 0, none⟩) := hd 9 (by kernel_rfl)
      have e20 : A'.tmps[20]?.getD undef = vs 9 := slot_in hA hap (Nat.lt_of_lt_of_eq (Nat.le_of_ble_eq_true rfl : 20 < 76) hsz.symm) (by kernel_rfl)
      rw [f9] at e20
      clear hA hd hu o2 o3
      refine op_runs (v := .agg (ptA z h)) (w' := W) (exec_load rfl (by simpa [Act.eval] using e20) (run_loadAt_agg W (⟨g2, 0, none⟩) 33 (ptA z h).toList _ (nt_pointAt (hb2.kp hW (by simp))) Tryd.underlying33 rfl (by rw [Array.length_toList, ptA_size hh]; exact Tryd.infoPointP))) ?_
      exact hK _ _ (Kp.refl _ _) rfl
    · intro vs A' W hA hW hd hu K hK
      have f8 : vs 8 = .bool false := hd 8 (by kernel_rfl)
      have e19 : A'.tmps[19]?.getD undef = vs 8 := slot_in hA hap (Nat.lt_of_lt_of_eq (Nat.le_of_ble_eq_true rfl : 19 < 76) hsz.symm) (by kernel_rfl)
      rw [f8] at e19
      refine wpOp_go _ rfl 8 19 false rfl rfl e19 ?_
      conv => arg 2; whnf
      have e3 : A'.tmps[3]?.getD undef = .pointer (some ⟨g3, 0, none⟩) := slot_out hA hap (Nat.lt_of_lt_of_eq (Nat.le_of_ble_eq_true rfl : 3 < 76) hsz.symm) (by kernel_rfl) o3
      clear hA hd hu o2 o3
      go_step
      exact hK _ _ (Kp.refl _ _) rfl
    · intro vs A' W hA hW hd hu K hK
      have f8 : vs 8 = .bool false := hd 8 (by kernel_rfl)
      have e19 : A'.tmps[19]?.getD undef = vs 8 := slot_in hA hap (Nat.lt_of_lt_of_eq (Nat.le_of_ble_eq_true rfl : 19 < 76) hsz.symm) (by kernel_rfl)
      rw [f8] at e19
      refine wpOp_go _ rfl 8 19 false rfl rfl e19 ?_
      conv => arg 2; whnf
      have f11 : vs 11 = .pointer (some ⟨g3, 0, none⟩) := hd 11 (by kernel_rfl)
      have e22 : A'.tmps[22]?.getD undef = vs 11 := slot_in hA hap (Nat.lt_of_lt_of_eq (Nat.le_of_ble_eq_true rfl : 22 < 76) hsz.symm) (by kernel_rfl)
      rw [f11] at e22
      clear hA hd hu o2 o3
      refine op_runs (v := .agg (ptA y g)) (w' := W) (exec_load rfl (by simpa [Act.eval] using e22) (run_loadAt_agg W (⟨g3, 0, none⟩) 33 (ptA y g).toList _ (nt_pointAt (hb3.kp hW (by simp))) Tryd.underlying33 rfl (by rw [Array.length_toList, ptA_size hg]; exact Tryd.infoPointP))) ?_
      exact hK _ _ (Kp.refl _ _) rfl
    · intro vs A' W hA hW hd hu K hK
      have f8 : vs 8 = .bool false := hd 8 (by kernel_rfl)
      have e19 : A'.tmps[19]?.getD undef = vs 8 := slot_in hA hap (Nat.lt_of_lt_of_eq (Nat.le_of_ble_eq_true rfl : 19 < 76) hsz.symm) (by kernel_rfl)
      rw [f8] at e19
      refine wpOp_go _ rfl 8 19 false rfl rfl e19 ?_
      conv => arg 2; whnf
      have f10 : vs 10 = .agg (ptA z h) := hd 10 (by kernel_rfl)
      have e21 : A'.tmps[21]?.getD undef = vs 10 := slot_in hA hap (Nat.lt_of_lt_of_eq (Nat.le_of_ble_eq_true rfl : 21 < 76) hsz.symm) (by kernel_rfl)
      rw [f10] at e21
      have f12 : vs 12 = .agg (ptA y g) := hd 12 (by kernel_rfl)
      have e23 : A'.tmps[23]?.getD undef = vs 12 := slot_in hA hap (Nat.lt_of_lt_of_eq (Nat.le_of_ble_eq_true rfl : 23 < 76) hsz.symm) (by kernel_rfl)
      rw [f12] at e23
      clear hA hd hu o2 o3
      refine op_runs (v := .bool bq) (w' := W) (exec_bin_agg rfl (by simpa [Act.eval] using e21) (by simpa [Act.eval] using e23) Tryd.eqGuardType33 ((neq_pt W z y h g hh hg).trans (by rw [hbq]))) ?_
      exact hK _ _ (Kp.refl _ _) rfl
    · intro vs A' W hA hW hd hu K hK
      refine wpOp_free _ rfl rfl ?_
      conv => arg 2; whnf
      have f8 : vs 8 = .bool false := hd 8 (by kernel_rfl)
      have e19 : A'.tmps[19]?.getD undef = vs 8 := slot_in hA hap (Nat.lt_of_lt_of_eq (Nat.le_of_ble_eq_true rfl : 19 < 76) hsz.symm) (by kernel_rfl)
      rw [f8] at e19
      have f13 : vs 13 = .bool bq := hd 13 (by kernel_rfl)
      have e24 : A'.tmps[24]?.getD undef = vs 13 := slot_in hA hap (Nat.lt_of_lt_of_eq (Nat.le_of_ble_eq_true rfl : 24 < 76) hsz.symm) (by kernel_rfl)
      rw [f13] at e24
      clear hA hd hu o2 o3
      go_step
      exact hK _ _ (Kp.refl _ _) rfl
  · intro vs W hW hp
    rw [show putAll vs (opsOf 1 Tryd.f35) 0 a = putD [(11, vs 0), (12, vs 1), (13, vs 2), (14, vs 3), (15, vs 4), (16, vs 5), (17, vs 6), (18, vs 7), (19, vs 8), (20, vs 9), (21, vs 10), (22, vs 11), (23, vs 12), (24, vs 13), (25, vs 14)] a from by kernel_rfl]
    exact hend _ W (same_putD _ a) hW (sl_putD _ a 25 _ (by rw [show vs 14 = _ from hp 14 (Nat.le_of_ble_eq_true (by kernel_rfl))]; kernel_rfl))
-- END sjn1Y
-- REG sjn2
set_option maxRecDepth 100000 in
set_option maxHeartbeats 2000000 in
theorem sjn_r2 {Q : Exit → Act → World → Prop} {a : Act} {w : World} (w0 : World) (g4 : Nat) (L : List Res) (S : Held w0 w (blkR g4 36 zeroN :: L)) (hsz : a.tmps.size = 76) (o4 : Sl a 4 (.pointer (some ⟨g4, 0, none⟩)))
    (hend : ∀ (a' : Act) (W : World), Same a a' [26, 5] → Sl a' 5 (.int .i64 (2 : Int)) → (Held w0 W (blkR g4 36 zeroN :: L)) → Q .normal a' W) : (Code.region 2 (opsOf 2 Tryd.f35).toArray false).wp Tryd.prog Q a w := by
  refine wp_region_lit (l := (opsOf 2 Tryd.f35)) ?_
  conv => arg 4; whnf
  unfold Sl at o4
  have S := Lib.hid S
  have HB0 := Lib.hid Tryd.built_noteZ
  have hzz : Hid (zeroN.size = 34) := Lib.hid rfl
  have hOz : Hid (∀ u, u ∈ zeroN.toList → u.oneCell' = true) := Lib.hid (ntA_one (v := .slice none 0 0) rfl)
  generalize zeroN = cz at *
  go_wp2_with (first | (refine wpList_buildC rfl 36 _ rfl [] (by simp [Act.eval, Act.put]) _ HB0.out ?_) | (refine wpList_store_blk rfl 36 (.tmp 4) (.tmp 26) rfl g4 (by simp [Act.eval, Act.put, hsz, o4]) cz (by simp [Act.eval, Act.put, hsz]) 36 _ (S.out.at_ (l1 := [])) (by rw [hzz.out]; exact Tryd.infoNote) (by rw [hzz.out]) hOz.out ?_; intro w7 b7 k7; have S7 := Lib.hid (Held.setBlk (l1 := []) S.out b7 k7); clear b7 k7))
  try simp only [Act.put]
  exact hend _ _ (by repeat (first | (with_reducible refine same_set (by decide) ?_) | (with_reducible exact same_nil))) (by unfold Sl; first | (simp [hsz]; done) | (simp [hsz]; omega)) (S7.out)
-- END sjn2
-- REG sjn11
set_option maxRecDepth 100000 in
set_option maxHeartbeats 2000000 in
theorem sjn_r11 {Q : Exit → Act → World → Prop} {a : Act} {w : World} (w0 : World) (g4 : Nat) (L : List Res) (S : Held w0 w (blkR g4 36 zeroN :: L)) (hsz : a.tmps.size = 76) (o4 : Sl a 4 (.pointer (some ⟨g4, 0, none⟩)))
    (hend : ∀ (a' : Act) (W : World), Same a a' [68, 5] → Sl a' 5 (.int .i64 (8 : Int)) → (Held w0 W (blkR g4 36 zeroN :: L)) → Q .normal a' W) : (Code.region 11 (opsOf 11 Tryd.f35).toArray false).wp Tryd.prog Q a w := by
  refine wp_region_lit (l := (opsOf 11 Tryd.f35)) ?_
  conv => arg 4; whnf
  unfold Sl at o4
  have S := Lib.hid S
  have HB0 := Lib.hid Tryd.built_noteZ
  have hzz : Hid (zeroN.size = 34) := Lib.hid rfl
  have hOz : Hid (∀ u, u ∈ zeroN.toList → u.oneCell' = true) := Lib.hid (ntA_one (v := .slice none 0 0) rfl)
  generalize zeroN = cz at *
  go_wp2_with (first | (refine wpList_buildC rfl 36 _ rfl [] (by simp [Act.eval, Act.put]) _ HB0.out ?_) | (refine wpList_store_blk rfl 36 (.tmp 4) (.tmp 68) rfl g4 (by simp [Act.eval, Act.put, hsz, o4]) cz (by simp [Act.eval, Act.put, hsz]) 36 _ (S.out.at_ (l1 := [])) (by rw [hzz.out]; exact Tryd.infoNote) (by rw [hzz.out]) hOz.out ?_; intro w7 b7 k7; have S7 := Lib.hid (Held.setBlk (l1 := []) S.out b7 k7); clear b7 k7))
  try simp only [Act.put]
  exact hend _ _ (by repeat (first | (with_reducible refine same_set (by decide) ?_) | (with_reducible exact same_nil))) (by unfold Sl; first | (simp [hsz]; done) | (simp [hsz]; omega)) (S7.out)
-- END sjn11
-- REG sjn14
set_option maxRecDepth 100000 in
set_option maxHeartbeats 2000000 in
theorem sjn_r14 {Q : Exit → Act → World → Prop} {a : Act} {w : World} (w0 : World) (g4 : Nat) (L : List Res) (S : Held w0 w (blkR g4 36 zeroN :: L)) (hsz : a.tmps.size = 76) (o4 : Sl a 4 (.pointer (some ⟨g4, 0, none⟩)))
    (hend : ∀ (a' : Act) (W : World), Same a a' [74, 5] → Sl a' 5 (.int .i64 (380 : Int)) → (Held w0 W (blkR g4 36 zeroN :: L)) → Q .normal a' W) : (Code.region 14 (opsOf 14 Tryd.f35).toArray false).wp Tryd.prog Q a w := by
  refine wp_region_lit (l := (opsOf 14 Tryd.f35)) ?_
  conv => arg 4; whnf
  unfold Sl at o4
  have S := Lib.hid S
  have HB0 := Lib.hid Tryd.built_noteZ
  have hzz : Hid (zeroN.size = 34) := Lib.hid rfl
  have hOz : Hid (∀ u, u ∈ zeroN.toList → u.oneCell' = true) := Lib.hid (ntA_one (v := .slice none 0 0) rfl)
  generalize zeroN = cz at *
  go_wp2_with (first | (refine wpList_buildC rfl 36 _ rfl [] (by simp [Act.eval, Act.put]) _ HB0.out ?_) | (refine wpList_store_blk rfl 36 (.tmp 4) (.tmp 74) rfl g4 (by simp [Act.eval, Act.put, hsz, o4]) cz (by simp [Act.eval, Act.put, hsz]) 36 _ (S.out.at_ (l1 := [])) (by rw [hzz.out]; exact Tryd.infoNote) (by rw [hzz.out]) hOz.out ?_; intro w7 b7 k7; have S7 := Lib.hid (Held.setBlk (l1 := []) S.out b7 k7); clear b7 k7))
  try simp only [Act.put]
  exact hend _ _ (by repeat (first | (with_reducible refine same_set (by decide) ?_) | (with_reducible exact same_nil))) (by unfold Sl; first | (simp [hsz]; done) | (simp [hsz]; omega)) (S7.out)
-- END sjn14
-- REG sjn15
set_option maxRecDepth 100000 in
set_option maxHeartbeats 2000000 in
theorem sjn_r15 {Q : Exit → Act → World → Prop} {a : Act} {w : World} (w0 : World) (g6 g4 : Nat) (cn : Array Value) (hcn : cn.size = 34) (h1 : ∀ u, u ∈ cn.toList → u.oneCell' = true) (L : List Res) (S : Held w0 w (blkR g4 36 zeroN :: blkR g6 36 cn :: L)) (hsz : a.tmps.size = 76) (o4 : Sl a 4 (.pointer (some ⟨g4, 0, none⟩))) (o6 : Sl a 6 (.pointer (some ⟨g6, 0, none⟩)))
    (hend : ∀ (a' : Act) (W : World), Same a a' [75, 5] → Sl a' 5 (.int .i64 (0 : Int)) → (Held w0 W (blkR g4 36 cn :: blkR g6 36 cn :: L)) → Q .normal a' W) : (Code.region 15 (opsOf 15 Tryd.f35).toArray false).wp Tryd.prog Q a w := by
  refine wp_region_lit (l := (opsOf 15 Tryd.f35)) ?_
  conv => arg 4; whnf
  unfold Sl at o4 o6
  have S1 := Lib.hid S
  clear S
  have hz2 := Lib.hid hcn
  have HO := Lib.hid h1
  clear hcn h1
  go_wp2_with (first
    | (refine wpList_load_blk rfl 36 (.tmp 6) rfl g6 (by simp [Act.eval, Act.put, hsz, o6]) 36 _ (S1.out.at_ (l1 := [_])) _ Tryd.underlying36 rfl (by rw [hz2.out]; exact Tryd.infoNote) ?_)
    | (refine wpList_store_blk rfl 36 (.tmp 4) (.tmp 75) rfl g4 (by simp [Act.eval, Act.put, hsz, o4]) cn (by simp [Act.eval, Act.put, hsz]) 36 _ (S1.out.at_ (l1 := [])) (by rw [hz2.out]; exact Tryd.infoNote) (by rw [hz2.out]; rfl) HO.out ?_; intro w7 b7 k7; have S7 := Lib.hid (Held.setBlk (l1 := []) S1.out b7 k7); clear b7 k7))
  try simp only [Act.put]
  exact hend _ _ (by repeat (first | (with_reducible refine same_set (by decide) ?_) | (with_reducible exact same_nil))) (by unfold Sl; first | (simp [hsz]; done) | (simp [hsz]; omega)) (S7.out)
-- END sjn15
-- REG sjn3
set_option maxRecDepth 100000 in
set_option maxHeartbeats 2000000 in
theorem sjn_r3 {Q : Exit → Act → World → Prop} {a : Act} {w : World} (w0 : World) (z : Int) (h : List UInt8) (hh : h.length = 32) (A : Option Addr) (c : Nat) (l : List SigD) (hok : SgOk l) (hll : l.length ≤ 64) (hv : ∀ V, Kp [] w0 V → Rd V 33 (.slice A l.length c) l.length (sgsC l)) (g2 : Nat) (L : List Res) (hsz : a.tmps.size = 76) (o2 : Sl a 2 (.pointer (some ⟨g2, 0, none⟩)))
    (S0 : Held w0 w (blkR g2 36 (ntA z h (.slice A l.length c)) :: L))
    (hend : ∀ (a' : Act) (vs : Nat → Value) (gs : Nat → Nat) (W : World), Same a a' [27, 28, 29, 30, 31, 32, 6] → Sl a' 6 (.pointer (some ⟨gs 6, 0, none⟩)) → Held w0 W (rowR 81 33 (vs 4) l.length (sgsC l) :: blkR (gs 6) 36 (ntA z h (vs 4)) :: blkR g2 36 (ntA z h (.slice A l.length c)) :: L) → Q .normal a' W) : (Code.region 3 (opsOf 3 Tryd.f35).toArray true).wp Tryd.prog Q a w := by
  have hap : apartB (opsOf 3 Tryd.f35) = true := by kernel_rfl
  refine wp_region_sep (Γ := Nat) (l := (opsOf 3 Tryd.f35)) 2 [0, 1, 2, 3, 4, 5, 7, 8, 9]
    (fun i vs gs => match i with | 0 => vs 0 = .pointer (some ⟨g2, 0, none⟩) | 1 => vs 1 = .agg (ptA z h) | 2 => vs 2 = .pointer (some ⟨g2, 33, none⟩) | 3 => vs 3 = .slice A l.length c | 5 => vs 5 = .agg (ntA z h (vs 4)) | 6 => vs 6 = .pointer (some ⟨gs 6, 0, none⟩) | _ => True)
    (fun i vs gs => match i with | 4 => [rowR 81 33 (vs 4) l.length (sgsC l)] | 6 => [blkR (gs 6) 36 zeroN] | 7 => [blkR (gs 6) 36 (ntA z h (vs 4))] | 8 => [blkR g2 36 (ntA z h (.slice A l.length c))] | 9 => L | _ => [])
    (fun i => match i with | 7 => [6] | _ => []) (fun i => match i with | 1 => [8] | 3 => [8] | 5 => [4] | 7 => [4] | _ => []) S0 (by kernel_rfl) hap (by kernel_rfl) (by kernel_rfl) (fun i => match i with | 0 => [0] | 1 => [1] | 2 => [2] | 3 => [3] | 4 => [4] | 5 => [4, 5] | 6 => [6] | 7 => [4, 6] | _ => []) (by kernel_rfl) ?_ (by kernel_rfl) ?_ ?_ ?_
  · intro s vs vs' gs gs' h
    iterate 10 (rcases s with _ | s; · (first | exact ⟨rfl, id⟩ | (simp only [List.mem_cons, List.not_mem_nil, or_false, forall_eq_or_imp, forall_eq] at h; simp [h])))
    exact ⟨rfl, id⟩
  · simp only [List.range, List.range.loop, List.flatMap_cons, List.flatMap_nil, List.append_nil]
    exact List.Perm.refl _
  · clear S0 hend
    refine ⟨?_, ?_, ?_, ?_, ?_, ?_, ?_, ?_, trivial⟩
    · intro vs gs A' W LF hA S hR hd hu K hK
      replace hK := hK default
      have e2 : A'.tmps[2]?.getD undef = .pointer (some ⟨g2, 0, none⟩) := slot_out hA hap (Nat.lt_of_lt_of_eq (Nat.le_of_ble_eq_true rfl : 2 < 76) hsz.symm) (by kernel_rfl) o2
      clear hA o2
      go_step
      exact hK _ _ S rfl
    · intro vs gs A' W LF hA S hR hd hu K hK
      replace hK := hK default
      have f0 : vs 0 = .pointer (some ⟨g2, 0, none⟩) := hd 0 (by kernel_rfl)
      have e27 : A'.tmps[27]?.getD undef = vs 0 := slot_in hA hap (Nat.lt_of_lt_of_eq (Nat.le_of_ble_eq_true rfl : 27 < 76) hsz.symm) (by kernel_rfl)
      rw [f0] at e27
      clear hA o2
      refine op_runs (v := .agg (ptA z h)) (w' := W) (exec_load rfl (by simpa [Act.eval] using e27) (run_loadAt_agg W (⟨g2, 0, none⟩) 33 (ptA z h).toList _ (nt_pointAt (show Blk W g2 36 (ntA z h (.slice A l.length c)) from S.ok (blkR g2 36 (ntA z h (.slice A l.length c))) (hR 8 (List.mem_singleton.2 rfl) _ (List.mem_singleton.2 rfl)))) Tryd.underlying33 rfl (by rw [Array.length_toList, ptA_size hh]; exact Tryd.infoPointP))) ?_
      exact hK _ _ S rfl
    · intro vs gs A' W LF hA S hR hd hu K hK
      replace hK := hK default
      have e2 : A'.tmps[2]?.getD undef = .pointer (some ⟨g2, 0, none⟩) := slot_out hA hap (Nat.lt_of_lt_of_eq (Nat.le_of_ble_eq_true rfl : 2 < 76) hsz.symm) (by kernel_rfl) o2
      clear hA o2
      go_step
      exact hK _ _ S rfl
    · intro vs gs A' W LF hA S hR hd hu K hK
      replace hK := hK default
      have f2 : vs 2 = .pointer (some ⟨g2, 33, none⟩) := hd 2 (by kernel_rfl)
      have e29 : A'.tmps[29]?.getD undef = vs 2 := slot_in hA hap (Nat.lt_of_lt_of_eq (Nat.le_of_ble_eq_true rfl : 29 < 76) hsz.symm) (by kernel_rfl)
      rw [f2] at e29
      clear hA o2
      have c33 : W.cell? ⟨g2, 33, none⟩ = some (.slice A l.length c) := by rw [(show Blk W g2 36 (ntA z h (.slice A l.length c)) from S.ok (blkR g2 36 (ntA z h (.slice A l.length c))) (hR 8 (List.mem_singleton.2 rfl) _ (List.mem_singleton.2 rfl))).cell]; exact ntA_sigs hh
      go_step
      exact hK _ _ S rfl
    · intro vs gs A' W LF hA S hR hd hu K hK
      replace hK := hK default
      have f3 : vs 3 = .slice A l.length c := hd 3 (by kernel_rfl)
      have e30 : A'.tmps[30]?.getD undef = vs 3 := slot_in hA hap (Nat.lt_of_lt_of_eq (Nat.le_of_ble_eq_true rfl : 30 < 76) hsz.symm) (by kernel_rfl)
      rw [f3] at e30
      clear hA o2
      go_step
      refine (sclone_any w0 LF A c l hok (by omega) W S (fun V SV => hv _ SV.k)).mono ?_
      rintro e w' ⟨v, rfl, S2⟩
      exact hK v w' S2 trivial
    · intro vs gs A' W LF hA S hR hd hu K hK
      replace hK := hK default
      have f1 : vs 1 = .agg (ptA z h) := hd 1 (by kernel_rfl)
      have e28 : A'.tmps[28]?.getD undef = vs 1 := slot_in hA hap (Nat.lt_of_lt_of_eq (Nat.le_of_ble_eq_true rfl : 28 < 76) hsz.symm) (by kernel_rfl)
      rw [f1] at e28
      have e31 : A'.tmps[31]?.getD undef = vs 4 := slot_in hA hap (Nat.lt_of_lt_of_eq (Nat.le_of_ble_eq_true rfl : 31 < 76) hsz.symm) (by kernel_rfl)
      clear hA o2
      obtain ⟨Av, cv, hv4, -, -⟩ := ow_form (show Ow W 81 33 (vs 4) l.length (sgsC l) from S.ok (rowR 81 33 (vs 4) l.length (sgsC l)) (hR 4 (List.mem_singleton.2 rfl) _ (List.mem_singleton.2 rfl)))
      rw [hv4] at e31
      refine op_build 36 _ rfl [(0, .agg (ptA z h)), (1, .slice Av l.length cv)] (by simp [Act.eval, e28, e31]) _ (Tryd.built_note2 z h hh Av l.length cv) ?_
      rw [← hv4]
      exact hK _ _ S rfl
    · intro vs gs A' W LF hA S hR hd hu K hK
      clear hA o2
      go_step
      exact hK W.heap.size _ _ (S.newBlk 36 zeroN) rfl
    · intro vs gs A' W LF hA S hR hd hu K hK
      replace hK := hK default
      have f6 : vs 6 = .pointer (some ⟨gs 6, 0, none⟩) := hd 6 (by kernel_rfl)
      have e6 : A'.tmps[6]?.getD undef = vs 6 := slot_in hA hap (Nat.lt_of_lt_of_eq (Nat.le_of_ble_eq_true rfl : 6 < 76) hsz.symm) (by kernel_rfl)
      rw [f6] at e6
      have f5 : vs 5 = .agg (ntA z h (vs 4)) := hd 5 (by kernel_rfl)
      have e32 : A'.tmps[32]?.getD undef = vs 5 := slot_in hA hap (Nat.lt_of_lt_of_eq (Nat.le_of_ble_eq_true rfl : 32 < 76) hsz.symm) (by kernel_rfl)
      rw [f5] at e32
      clear hA o2
      have S1 : Held w0 W (blkR (gs 6) 36 zeroN :: LF) := S
      obtain ⟨Av, cv, hv4, -, -⟩ := ow_form (show Ow W 81 33 (vs 4) l.length (sgsC l) from S.ok (rowR 81 33 (vs 4) l.length (sgsC l)) (List.mem_cons_of_mem _ (hR 4 (List.mem_singleton.2 rfl) _ (List.mem_singleton.2 rfl))))
      refine op_store_blkS (.tmp 6) (.tmp 32) 36 rfl (gs 6) (by simpa [Act.eval] using e6) (ntA z h (vs 4)) (by simpa [Act.eval] using e32) 36 zeroN S1 (by rw [ntA_size hh]; exact Tryd.infoNote) (by rw [ntA_size hh] <;> rfl) (ntA_one (by rw [hv4]; rfl)) ?_
      intro w' S2
      exact hK _ _ S2 trivial
  · intro vs gs W S hp
    have S : Held w0 W (rowR 81 33 (vs 4) l.length (sgsC l) :: blkR (gs 6) 36 (ntA z h (vs 4)) :: blkR g2 36 (ntA z h (.slice A l.length c)) :: L) := by simpa only [List.flatMap_cons, List.flatMap_nil, List.append_nil, List.nil_append, List.cons_append, List.append_assoc] using S
    rw [show putAll vs (opsOf 3 Tryd.f35) 0 a = putD [(27, vs 0), (28, vs 1), (29, vs 2), (30, vs 3), (31, vs 4), (32, vs 5), (6, vs 6)] a from by kernel_rfl]
    exact hend _ vs gs W (same_putD _ a) (sl_putD _ a 6 _ (by rw [show vs 6 = _ from hp 6 (Nat.le_of_ble_eq_true (by kernel_rfl))]; kernel_rfl)) S
-- END sjn3
-- REG sjn4
set_option maxRecDepth 100000 in
set_option maxHeartbeats 2000000 in
theorem sjn_r4 {Q : Exit → Act → World → Prop} {a : Act} {w : World} (w0 : World) (y : Int) (g : List UInt8) (hg : g.length = 32) (B : Option Addr) (n e g3 : Nat) (hb : Blk w g3 36 (ntA y g (.slice B n e))) (hsz : a.tmps.size = 76) (o3 : Sl a 3 (.pointer (some ⟨g3, 0, none⟩)))
    (hend : ∀ (a' : Act), Same a a' [33, 34, 35, 36] → Sl a' 34 (.slice B n e) → Sl a' 35 (.int .i64 ((n : Nat) : Int)) → Sl a' 36 (.int .i64 ((0 : Nat) : Int)) → Q .normal a' (w)) : (Code.region 4 (opsOf 4 Tryd.f35).toArray false).wp Tryd.prog Q a w := by
  refine wp_region_lit (l := (opsOf 4 Tryd.f35)) ?_
  conv => arg 4; whnf
  unfold Sl at o3
  have c33 : w.cell? ⟨g3, 33, none⟩ = some (.slice B n e) := by rw [hb.cell]; exact ntA_sigs hg
  go_wp2_with fail
  try simp only [Act.put]
  exact hend _ (by repeat (first | (with_reducible refine same_set (by decide) ?_) | (with_reducible exact same_nil))) (by unfold Sl; first | (simp [hsz]; done) | (simp [hsz]; omega)) (by unfold Sl; first | (simp [hsz]; done) | (simp [hsz]; omega)) (by unfold Sl; first | (simp [hsz]; done) | (simp [hsz]; omega))
-- END sjn4
-- REG sjn5
set_option maxRecDepth 100000 in
set_option maxHeartbeats 2000000 in
theorem sjn_r5 {Q : Exit → Act → World → Prop} {a : Act} {w : World} (k n : Nat) (hsz : a.tmps.size = 76) (o35 : Sl a 35 (.int .i64 ((n : Nat) : Int))) (o36 : Sl a 36 (.int .i64 ((k : Nat) : Int)))
    (hend : ∀ (a' : Act), Same a a' [37] → Sl a' 37 (.bool (decide (k < n))) → Q .normal a' (w)) : (Code.region 5 (opsOf 5 Tryd.f35).toArray false).wp Tryd.prog Q a w := by
  refine wp_region_lit (l := (opsOf 5 Tryd.f35)) ?_
  conv => arg 4; whnf
  unfold Sl at o35 o36
  go_wp2_with fail
  try simp only [Act.put]
  exact hend _ (by repeat (first | (with_reducible refine same_set (by decide) ?_) | (with_reducible exact same_nil))) (by unfold Sl; first | (simp [hsz]; done) | (simp [hsz]; omega))
-- END sjn5
-- REG sjn6
set_option maxRecDepth 100000 in
set_option maxHeartbeats 2000000 in
theorem sjn_r6 {Q : Exit → Act → World → Prop} {a : Act} {w : World} (w0 : World) (ad : Addr) (k n c : Nat) (hk : k < n) (s : SigD) (hs : s.2.length = 32) (hc : ∀ j u, (sgL s)[j]? = some u → w.cell? ((ad.add (k * 33)).add j) = some u) (L : List Res) (S : Held w0 w L) (hsz : a.tmps.size = 76) (o34 : Sl a 34 (.slice (some ad) n c)) (o36 : Sl a 36 (.int .i64 ((k : Nat) : Int)))
    (hend : ∀ (a' : Act) (W : World), Same a a' [38, 39, 8] → (∃ g, Sl a' 8 (.pointer (some ⟨g, 0, none⟩)) ∧ Held w0 W (blkR g 81 (sgA s) :: L)) → Q .normal a' W) : (Code.region 6 (opsOf 6 Tryd.f35).toArray false).wp Tryd.prog Q a w := by
  refine wp_region_lit (l := (opsOf 6 Tryd.f35)) ?_
  conv => arg 4; whnf
  unfold Sl at o34 o36
  have S := Lib.hid S
  have h0 : 0 ≤ (k : Int) := by omega
  have h1 : (k : Int) < (n : Int) := by omega
  have hc2 : ∀ j u, (sgA s).toList[j]? = some u → w.cell? ((ad.add (k * 33)).add j) = some u := hc
  have HC := Lib.hid hc2
  clear hc hc2
  have HO := Lib.hid (sgA_one s)
  have hz2 : Hid ((sgA s).size = 33) := Lib.hid (sgA_size hs)
  have S1 := Lib.hid (S.out.newBlk 81 (sgA ([], List.replicate 32 0)))
  generalize sgA s = cs at *
  go_wp2_with (first
    | (refine wpList_load_agg rfl 81 (.tmp 38) rfl (ad.add (k * 33)) (by simp [Act.eval, Act.put, hsz]) cs.toList _ HC.out Tryd.underlying81 rfl (by rw [Array.length_toList, hz2.out]; exact Tryd.infoSig) ?_)
    | (refine wpList_store_blk rfl 81 (.tmp 8) (.tmp 39) rfl w.heap.size (by simp [Act.eval, Act.put, hsz]) cs (by simp [Act.eval, Act.put, hsz]) 81 _ (S1.out.at_ (l1 := [])) (by rw [hz2.out]; exact Tryd.infoSig) (by rw [hz2.out]; rfl) HO.out ?_; intro w7 b7 k7; have S7 := Lib.hid (Held.setBlk (l1 := []) S1.out b7 k7); clear b7 k7))
  try simp only [Act.put]
  exact hend _ _ (by repeat (first | (with_reducible refine same_set (by decide) ?_) | (with_reducible exact same_nil))) (⟨_, (by unfold Sl; simp [hsz]), S7.out⟩)
-- END sjn6
-- REG sjn7
set_option maxRecDepth 100000 in
set_option maxHeartbeats 2000000 in
theorem sjn_r7 {Q : Exit → Act → World → Prop} {a : Act} {w : World} (w0 : World) (gN gG : Nat) (z : Int) (h : List UInt8) (hh : h.length = 32) (A : Option Addr) (n c : Nat) (s : SigD) (hs : s.2.length = 32) (p : Nat) (b : Bool) (L : List Res) (S : Held w0 w (blkR gN 36 (ntA z h (.slice A n c)) :: blkR gG 81 (sgA s) :: L)) (HS0 : ∀ V, Held w0 V (blkR gN 36 (ntA z h (.slice A n c)) :: blkR gG 81 (sgA s) :: L) → Calls Tryd.prog 43 #[.slice A n c, .agg (sgA s), .func (.func 44) #[] #[]] V fun e w' => e = .returned (.tuple #[.int .i64 (p : Int), .bool b]) ∧ Kp [] V w') (hsz : a.tmps.size = 76) (o6 : Sl a 6 (.pointer (some ⟨gN, 0, none⟩))) (o8 : Sl a 8 (.pointer (some ⟨gG, 0, none⟩)))
    (hend : ∀ (a' : Act) (W : World), Same a a' [41, 42, 43, 44, 40, 45, 46, 9, 10] → Sl a' 9 (.int .i64 ((p : Nat))) → Sl a' 10 (.bool b) → (Held w0 W (blkR gN 36 (ntA z h (.slice A n c)) :: blkR gG 81 (sgA s) :: L)) → Q .normal a' W) : (Code.region 7 (opsOf 7 Tryd.f35).toArray false).wp Tryd.prog Q a w := by
  refine wp_region_lit (l := (opsOf 7 Tryd.f35)) ?_
  conv => arg 4; whnf
  unfold Sl at o6 o8
  have S := Lib.hid S
  have HS := Lib.hid (HS0 _ S.out)
  clear HS0
  have c33 : w.cell? ⟨gN, 33, none⟩ = some (.slice A n c) := by rw [(S.out.at_ (l1 := [])).cell]; exact ntA_sigs hh
  have hz2 : Hid ((sgA s).size = 33) := Lib.hid (sgA_size hs)
  generalize ntA z h (.slice A n c) = ca at *
  generalize sgA s = cs at *
  go_wp2_with (refine wpList_load_blk rfl 81 (.tmp 8) rfl gG (by simp [Act.eval, Act.put, hsz, o8]) 81 _ (S.out.at_ (l1 := [_])) _ Tryd.underlying81 rfl (by rw [hz2.out]; exact Tryd.infoSig) ?_)
  refine HS.out.mono ?_
  rintro e w1 ⟨rfl, k1⟩
  have S1 := Lib.hid (S.out.kp k1)
  clear k1 c33
  go_wp2_with fail
  try simp only [Act.put]
  exact hend _ _ (by repeat (first | (with_reducible refine same_set (by decide) ?_) | (with_reducible exact same_nil))) (by unfold Sl; first | (simp [hsz]; done) | (simp [hsz]; omega)) (by unfold Sl; first | (simp [hsz]; done) | (simp [hsz]; omega)) (S1.out)
-- END sjn7
-- REG sjn8
set_option maxRecDepth 100000 in
set_option maxHeartbeats 2000000 in
theorem sjn_r8 {Q : Exit → Act → World → Prop} {a : Act} {w : World} (b : Bool) (hsz : a.tmps.size = 76) (o10 : Sl a 10 (.bool b))
    (hend : ∀ (a' : Act), Same a a' [48, 49, 47] → Sl a' 47 (.bool (!b)) → Q .normal a' (w)) : (Code.region 8 (opsOf 8 Tryd.f35).toArray false).wp Tryd.prog Q a w := by
  refine wp_region_lit (l := (opsOf 8 Tryd.f35)) ?_
  conv => arg 4; whnf
  unfold Sl at o10
  go_wp2_with fail
  try simp only [Act.put]
  exact hend _ (by repeat (first | (with_reducible refine same_set (by decide) ?_) | (with_reducible exact same_nil))) (by unfold Sl; first | (simp [hsz]; done) | (simp [hsz]; omega))
-- END sjn8
-- REG sjn9
set_option maxRecDepth 100000 in
set_option maxHeartbeats 2000000 in
theorem sjn_r9 {Q : Exit → Act → World → Prop} {a : Act} {w : World} (w0 : World) (z : Int) (h : List UInt8) (hh : h.length = 32) (A : Option Addr) (c : Nat) (l : List SigD) (hok : SgOk l) (hll : l.length < 999999) (p : Nat) (hp : p ≤ l.length) (s : SigD) (hs : s.2.length = 32) (g6 g8 : Nat) (L : List Res) (S : Held w0 w (rowR 81 33 (.slice A l.length c) l.length (sgsC l) :: blkR g6 36 (ntA z h (.slice A l.length c)) :: blkR g8 81 (sgA s) :: L)) (hsz : a.tmps.size = 76) (o6 : Sl a 6 (.pointer (some ⟨g6, 0, none⟩))) (o8 : Sl a 8 (.pointer (some ⟨g8, 0, none⟩))) (o9 : Sl a 9 (.int .i64 ((p : Nat) : Int)))
    (hend : ∀ (a' : Act) (W : World), Same a a' [50, 51, 52, 53, 54, 55, 56] → (∃ A2 c2, Held w0 W (rowR 81 33 (.slice A2 (l.length + 1) c2) (l.length + 1) (sgsC (l.take p ++ s :: l.drop p)) :: blkR g6 36 (ntA z h (.slice A2 (l.length + 1) c2)) :: blkR g8 81 (sgA s) :: L)) → Q .normal a' W) : (Code.region 9 (opsOf 9 Tryd.f35).toArray false).wp Tryd.prog Q a w := by
  refine wp_region_lit (l := (opsOf 9 Tryd.f35)) ?_
  conv => arg 4; whnf
  unfold Sl at o6 o8 o9
  have S := Lib.hid S
  have c33 : w.cell? ⟨g6, 33, none⟩ = some (.slice A l.length c) := by rw [(S.out.at_ (l1 := [_])).cell]; exact ntA_sigs hh
  have hz2 : Hid ((sgA s).size = 33) := Lib.hid (sgA_size hs)
  have HS := Lib.hid (fun V (SV : Held w0 V (rowR 81 33 (.slice A l.length c) l.length (sgsC l) :: blkR w.heap.size 81 (sgA s) :: blkR g6 36 (ntA z h (.slice A l.length c)) :: blkR g8 81 (sgA s) :: L)) => sinsert_any w0 _ _ l hok hll p hp w.heap.size s hs V SV)
  have C33 := Lib.hid (fun V (b : Blk V g6 36 (ntA z h (.slice A l.length c))) => show V.cell? ⟨g6, 33, none⟩ = some (.slice A l.length c) from by rw [b.cell]; exact ntA_sigs hh)
  have E33 := Lib.hid (fun u => ntA_setSigs (z := z) (h := h) (v := .slice A l.length c) hh u)
  generalize ntA z h (.slice A l.length c) = ca at *
  generalize sgA s = cs at *
  clear hll
  go_wp2_with (first
    | (refine wpList_load_blk rfl 81 (.tmp 8) rfl g8 (by simp [Act.eval, Act.put, hsz, o8]) 81 _ (S.out.at_ (l1 := [_, _])) _ Tryd.underlying81 rfl (by rw [hz2.out]; exact Tryd.infoSig) ?_)
    | (refine wpList_sigs1 rfl (.tmp 53) rfl cs hz2.out (by simp [Act.eval, Act.put, hsz]) ?_; have S2 := Lib.hid ((S.out.newBlk 81 cs).pull 1 rfl)))
  refine (HS.out _ S2.out).mono ?_
  rintro e w2 ⟨v2, rfl, S3⟩
  obtain ⟨A2, c2, hv2, -, -⟩ := ow_form (show Ow w2 81 33 v2 (l.length + 1) _ from S3.at_ (l1 := []))
  subst hv2
  have c34 := C33.out _ (S3.at_ (l1 := [_, _]))
  have f34 := (show Blk w2 g6 _ _ from S3.at_ (l1 := [_, _])).frozen 33
  have S4 := S3.set (l1 := [_, _]) 33 (.slice A2 (l.length + 1) c2)
  rw [E33.out] at S4
  have S4 := Lib.hid S4
  clear S3 c33
  go_wp2_with fail
  try simp only [Act.put]
  exact hend _ _ (by repeat (first | (with_reducible refine same_set (by decide) ?_) | (with_reducible exact same_nil))) (⟨A2, c2, (S4.out.some_of (List.Sublist.cons_cons _ (List.Sublist.cons _ (List.Sublist.refl _))))⟩)
-- END sjn9
-- REG sjn10
set_option maxRecDepth 100000 in
set_option maxHeartbeats 2000000 in
theorem sjn_r10 {Q : Exit → Act → World → Prop} {a : Act} {w : World} (z : Int) (h : List UInt8) (hh : h.length = 32) (gr n c p : Nat) (hp : p < n) (g6 g8 : Nat) (hb6 : Blk w.drew g6 36 (ntA z h (.slice (some ⟨gr, 0, none⟩) n c))) (s x : SigD) (hs : s.2.length = 32) (hx : x.2.length = 32) (hb8 : Blk w.drew g8 81 (sgA s)) (hc : ∀ V, Kp [] w.drew V → ∀ j u, (hashA x.2).toList[j]? = some u → V.cell? ((⟨gr, p * 33 + 1, none⟩ : Addr).add j) = some u) (hsz : a.tmps.size = 76) (o6 : Sl a 6 (.pointer (some ⟨g6, 0, none⟩))) (o8 : Sl a 8 (.pointer (some ⟨g8, 0, none⟩))) (o9 : Sl a 9 (.int .i64 ((p : Nat) : Int)))
    (hend : ∀ (a' : Act) (W : World), Same a a' [58, 59, 60, 61, 62, 63, 64, 65, 66, 67, 57] → Kp [] w.drew W → Sl a' 57 (.bool (!(x.2 == s.2))) → Q .normal a' W) : (Code.region 10 (opsOf 10 Tryd.f35).toArray true).wp Tryd.prog Q a w := by
  have hap : apartB (opsOf 10 Tryd.f35) = true := by kernel_rfl
  refine wp_region_inv (l := (opsOf 10 Tryd.f35)) (fun i v W => match i with | 0 => v = .pointer (some ⟨g6, 33, none⟩) | 1 => v = .slice (some ⟨gr, 0, none⟩) n c | 2 => v = .int .i64 ((p : Nat) : Int) | 3 => v = .pointer (some ⟨gr, p * 33, none⟩) | 4 => v = .pointer (some ⟨gr, p * 33 + 1, none⟩) | 5 => v = .agg (hashA x.2) | 6 => v = .pointer (some ⟨g8, 1, none⟩) | 7 => v = .agg (hashA s.2) | 8 => v = .bool (x.2 == s.2) | 9 => v = .bool (!(x.2 == s.2)) | 10 => v = .bool (!(x.2 == s.2)) | _ => True) (by kernel_rfl) hap (by kernel_rfl) ?_ ?_ ?_
  · intro i v W W' h _
    iterate 11 (rcases i with _ | i; · exact h)
    exact h
  · refine ⟨?_, ?_, ?_, ?_, ?_, ?_, ?_, ?_, ?_, ?_, ?_, trivial⟩
    · intro vs A' W hA hW hd K hK
      have e6 : A'.tmps[6]?.getD undef = .pointer (some ⟨g6, 0, none⟩) := slot_out hA hap (Nat.lt_of_lt_of_eq (Nat.le_of_ble_eq_true rfl : 6 < 76) hsz.symm) (by kernel_rfl) o6
      clear hA hd o6 o8 o9
      go_step
      exact hK _ _ (Kp.refl _ _) rfl
    · intro vs A' W hA hW hd K hK
      have f0 : vs 0 = .pointer (some ⟨g6, 33, none⟩) := hd 0 (by kernel_rfl)
      have e58 : A'.tmps[58]?.getD undef = vs 0 := slot_in hA hap (Nat.lt_of_lt_of_eq (Nat.le_of_ble_eq_true rfl : 58 < 76) hsz.symm) (by kernel_rfl)
      rw [f0] at e58
      clear hA hd o6 o8 o9
      have c0 : W.cell? ⟨g6, 33, none⟩ = some (.slice (some ⟨gr, 0, none⟩) n c) := by rw [(hb6.kp hW (by simp)).cell]; exact ntA_sigs hh
      go_step
      exact hK _ _ (Kp.refl _ _) rfl
    · intro vs A' W hA hW hd K hK
      have e9 : A'.tmps[9]?.getD undef = .int .i64 ((p : Nat) : Int) := slot_out hA hap (Nat.lt_of_lt_of_eq (Nat.le_of_ble_eq_true rfl : 9 < 76) hsz.symm) (by kernel_rfl) o9
      clear hA hd o6 o8 o9
      go_step
      exact hK _ _ (Kp.refl _ _) rfl
    · intro vs A' W hA hW hd K hK
      have f1 : vs 1 = .slice (some ⟨gr, 0, none⟩) n c := hd 1 (by kernel_rfl)
      have e59 : A'.tmps[59]?.getD undef = vs 1 := slot_in hA hap (Nat.lt_of_lt_of_eq (Nat.le_of_ble_eq_true rfl : 59 < 76) hsz.symm) (by kernel_rfl)
      rw [f1] at e59
      have f2 : vs 2 = .int .i64 ((p : Nat) : Int) := hd 2 (by kernel_rfl)
      have e60 : A'.tmps[60]?.getD undef = vs 2 := slot_in hA hap (Nat.lt_of_lt_of_eq (Nat.le_of_ble_eq_true rfl : 60 < 76) hsz.symm) (by kernel_rfl)
      rw [f2] at e60
      clear hA hd o6 o8 o9
      have h0 : 0 ≤ (p : Int) := by omega
      have h1 : (p : Int) < (n : Int) := by omega
      go_step
      exact hK _ _ (Kp.refl _ _) rfl
    · intro vs A' W hA hW hd K hK
      have f3 : vs 3 = .pointer (some ⟨gr, p * 33, none⟩) := hd 3 (by kernel_rfl)
      have e61 : A'.tmps[61]?.getD undef = vs 3 := slot_in hA hap (Nat.lt_of_lt_of_eq (Nat.le_of_ble_eq_true rfl : 61 < 76) hsz.symm) (by kernel_rfl)
      rw [f3] at e61
      clear hA hd o6 o8 o9
      go_step
      exact hK _ _ (Kp.refl _ _) rfl
    · intro vs A' W hA hW hd K hK
      have f4 : vs 4 = .pointer (some ⟨gr, p * 33 + 1, none⟩) := hd 4 (by kernel_rfl)
      have e62 : A'.tmps[62]?.getD undef = vs 4 := slot_in hA hap (Nat.lt_of_lt_of_eq (Nat.le_of_ble_eq_true rfl : 62 < 76) hsz.symm) (by kernel_rfl)
      rw [f4] at e62
      clear hA hd o6 o8 o9
      refine op_runs (v := .agg (hashA x.2)) (w' := W) (exec_load rfl (by simpa [Act.eval] using e62) (run_loadAt_agg W (⟨gr, p * 33 + 1, none⟩) 25 (hashA x.2).toList _ (hc _ hW) Tryd.underlying25 rfl (by rw [Array.length_toList, hashA_size, hx]; exact Tryd.infoHashP))) ?_
      exact hK _ _ (Kp.refl _ _) rfl
    · intro vs A' W hA hW hd K hK
      have e8 : A'.tmps[8]?.getD undef = .pointer (some ⟨g8, 0, none⟩) := slot_out hA hap (Nat.lt_of_lt_of_eq (Nat.le_of_ble_eq_true rfl : 8 < 76) hsz.symm) (by kernel_rfl) o8
      clear hA hd o6 o8 o9
      go_step
      exact hK _ _ (Kp.refl _ _) rfl
    · intro vs A' W hA hW hd K hK
      have f6 : vs 6 = .pointer (some ⟨g8, 1, none⟩) := hd 6 (by kernel_rfl)
      have e64 : A'.tmps[64]?.getD undef = vs 6 := slot_in hA hap (Nat.lt_of_lt_of_eq (Nat.le_of_ble_eq_true rfl : 64 < 76) hsz.symm) (by kernel_rfl)
      rw [f6] at e64
      clear hA hd o6 o8 o9
      refine op_runs (v := .agg (hashA s.2)) (w' := W) (exec_load rfl (by simpa [Act.eval] using e64) (run_loadAt_agg W (⟨g8, 1, none⟩) 25 (hashA s.2).toList _ (sig_sum (hb8.kp hW (by simp))) Tryd.underlying25 rfl (by rw [Array.length_toList, hashA_size, hs]; exact Tryd.infoHashP))) ?_
      exact hK _ _ (Kp.refl _ _) rfl
    · intro vs A' W hA hW hd K hK
      have f5 : vs 5 = .agg (hashA x.2) := hd 5 (by kernel_rfl)
      have e63 : A'.tmps[63]?.getD undef = vs 5 := slot_in hA hap (Nat.lt_of_lt_of_eq (Nat.le_of_ble_eq_true rfl : 63 < 76) hsz.symm) (by kernel_rfl)
      rw [f5] at e63
      have f7 : vs 7 = .agg (hashA s.2) := hd 7 (by kernel_rfl)
      have e65 : A'.tmps[65]?.getD undef = vs 7 := slot_in hA hap (Nat.lt_of_lt_of_eq (Nat.le_of_ble_eq_true rfl : 65 < 76) hsz.symm) (by kernel_rfl)
      rw [f7] at e65
      clear hA hd o6 o8 o9
      simp only at *
      go_step
      refine (sgeq_any x.2 s.2 hx hs W).mono ?_
      rintro e w' ⟨rfl, k⟩
      exact hK _ _ k rfl
    · intro vs A' W hA hW hd K hK
      have f8 : vs 8 = .bool (x.2 == s.2) := hd 8 (by kernel_rfl)
      have e66 : A'.tmps[66]?.getD undef = vs 8 := slot_in hA hap (Nat.lt_of_lt_of_eq (Nat.le_of_ble_eq_true rfl : 66 < 76) hsz.symm) (by kernel_rfl)
      rw [f8] at e66
      clear hA hd o6 o8 o9
      go_step
      exact hK _ _ (Kp.refl _ _) rfl
    · intro vs A' W hA hW hd K hK
      have f9 : vs 9 = .bool (!(x.2 == s.2)) := hd 9 (by kernel_rfl)
      have e67 : A'.tmps[67]?.getD undef = vs 9 := slot_in hA hap (Nat.lt_of_lt_of_eq (Nat.le_of_ble_eq_true rfl : 67 < 76) hsz.symm) (by kernel_rfl)
      rw [f9] at e67
      clear hA hd o6 o8 o9
      go_step
      exact hK _ _ (Kp.refl _ _) rfl
  · intro vs W hW hp
    rw [show putAll vs (opsOf 10 Tryd.f35) 0 a = putD [(58, vs 0), (59, vs 1), (60, vs 2), (61, vs 3), (62, vs 4), (63, vs 5), (64, vs 6), (65, vs 7), (66, vs 8), (67, vs 9), (57, vs 10)] a from by kernel_rfl]
    exact hend _ W (same_putD _ a) hW (sl_putD _ a 57 _ (by rw [show vs 10 = _ from hp 10 (Nat.le_of_ble_eq_true (by kernel_rfl))]; kernel_rfl))
-- END sjn10
-- REG sjn12
set_option maxRecDepth 100000 in
set_option maxHeartbeats 2000000 in
theorem sjn_r12 {Q : Exit → Act → World → Prop} {a : Act} {w : World} (k : Nat) (hk : k < 9223372036854775807) (hsz : a.tmps.size = 76) (o36 : Sl a 36 (.int .i64 ((k : Nat) : Int)))
    (hend : ∀ (a' : Act), Same a a' [69, 36] → Sl a' 36 (.int .i64 ((k + 1 : Nat) : Int)) → Q .normal a' (w)) : (Code.region 12 (opsOf 12 Tryd.f35).toArray false).wp Tryd.prog Q a w := by
  refine wp_region_lit (l := (opsOf 12 Tryd.f35)) ?_
  conv => arg 4; whnf
  unfold Sl at o36
  have hw : wrap64 ((k : Int) + 1) = (k : Int) + 1 := by unfold wrap64; omega
  go_wp2_with fail
  try simp only [Act.put]
  exact hend _ (by repeat (first | (with_reducible refine same_set (by decide) ?_) | (with_reducible exact same_nil))) (by unfold Sl; first | (simp [hsz]; done) | (simp [hsz]; omega))
-- END sjn12
-- REG sjn13
set_option maxRecDepth 100000 in
set_option maxHeartbeats 2000000 in
theorem sjn_r13 {Q : Exit → Act → World → Prop} {a : Act} {w : World} (z : Int) (h : List UInt8) (hh : h.length = 32) (A : Option Addr) (n c g6 : Nat) (hb : Blk w g6 36 (ntA z h (.slice A n c))) (hsz : a.tmps.size = 76) (o6 : Sl a 6 (.pointer (some ⟨g6, 0, none⟩)))
    (hend : ∀ (a' : Act), Same a a' [70, 71, 72, 73] → Sl a' 73 (.bool (decide ((64 : Int) < (n : Int)))) → Q .normal a' (w)) : (Code.region 13 (opsOf 13 Tryd.f35).toArray false).wp Tryd.prog Q a w := by
  refine wp_region_lit (l := (opsOf 13 Tryd.f35)) ?_
  conv => arg 4; whnf
  unfold Sl at o6
  have c33 : w.cell? ⟨g6, 33, none⟩ = some (.slice A n c) := by rw [hb.cell]; exact ntA_sigs hh
  go_wp2_with fail
  try simp only [Act.put]
  exact hend _ (by repeat (first | (with_reducible refine same_set (by decide) ?_) | (with_reducible exact same_nil))) (by unfold Sl; first | (simp [hsz]; done) | (simp [hsz]; omega))
-- END sjn13
-- REG rjn0
set_option maxRecDepth 100000 in
set_option maxHeartbeats 2000000 in
theorem rjn_r0 {Q : Exit → Act → World → Prop} {a : Act} {w : World} (w0 : World) (ca cb : Array Value) (L : List Res) (S : Held w0 w L) (hsz : a.tmps.size = 82) (o0 : Sl a 0 (.agg ca)) (o1 : Sl a 1 (.agg cb))
    (hend : ∀ (a' : Act) (W : World), Same a a' [2, 3, 4, 5] → Sl a' 5 (.int .i64 (0 : Int)) → (∃ g2 g3 g4, Sl a' 2 (.pointer (some ⟨g2, 0, none⟩)) ∧ Sl a' 3 (.pointer (some ⟨g3, 0, none⟩)) ∧ Sl a' 4 (.pointer (some ⟨g4, 0, none⟩)) ∧ Held w0 W (blkR g4 36 zeroN :: blkR g3 36 cb :: blkR g2 36 ca :: L)) → Q .normal a' W) : (Code.region 0 (opsOf 0 Tryd.f36).toArray false).wp Tryd.prog Q a w := by
  refine wp_region_lit (l := (opsOf 0 Tryd.f36)) ?_
  conv => arg 4; whnf
  unfold Sl at o0 o1
  have S1 := Lib.hid (((S.newBlk 36 ca).newBlkN 36 cb (g := w.heap.size + 1) (by simp)).newBlkN 36 zeroN (g := w.heap.size + 2) (by simp))
  go_wp2_with fail
  try simp only [Act.put]
  exact hend _ _ (by repeat (first | (with_reducible refine same_set (by decide) ?_) | (with_reducible exact same_nil))) (by unfold Sl; first | (simp [hsz]; done) | (simp [hsz]; omega)) (⟨_, _, _, (by unfold Sl; simp [hsz]), (by unfold Sl; simp [hsz]), (by unfold Sl; simp [hsz]), S1.out⟩)
-- END rjn0
-- REG rjn1N
set_option maxRecDepth 100000 in
set_option maxHeartbeats 2000000 in
theorem rjn_r1N {Q : Exit → Act → World → Prop} {a : Act} {w : World} (z : Int) (hz : -9223372036854775808 ≤ z ∧ z ≤ 9223372036854775807) (h : List UInt8) (hh : h.length = 32) (A : Option Addr) (c : Nat) (l : List SigD) (hok : SgOk l) (hll : l.length ≤ 9223372036854775807) (y : Int) (hy : -9223372036854775808 ≤ y ∧ y ≤ 9223372036854775807) (g : List UInt8) (hg : g.length = 32) (B : Option Addr) (e : Nat) (m : List SigD) (hmk : SgOk m) (hml : m.length ≤ 9223372036854775807) (g2 g3 : Nat) (hb2 : Blk w g2 36 (ntA z h (.slice A l.length c))) (hb3 : Blk w g3 36 (ntA y g (.slice B m.length e))) (hv : Rd w 33 (.slice A l.length c) l.length (sgsC l)) (hu : Rd w 33 (.slice B m.length e) m.length (sgsC m)) (hm1 : mayN z l = false) (hsz : a.tmps.size = 82) (o2 : Sl a 2 (.pointer (some ⟨g2, 0, none⟩))) (o3 : Sl a 3 (.pointer (some ⟨g3, 0, none⟩)))
    (hend : ∀ (a' : Act) (W : World), Same a a' [9, 10, 11, 12, 13, 14, 15, 16, 17, 18, 19, 20, 21, 22, 23] → Kp [] w W → Sl a' 23 (.bool true) → Q .normal a' W) : (Code.region 1 (opsOf 1 Tryd.f36).toArray false).wp Tryd.prog Q a w := by
  have hap : apartB (opsOf 1 Tryd.f36) = true := by kernel_rfl
  refine wp_region_invS (l := (opsOf 1 Tryd.f36)) (fun i v W => match i with | 0 => v = .agg (ntA z h (.slice A l.length c)) | 1 => v = .bool (mayN z l) | 2 => v = .bool true | 3 => v = .bool true | 7 => v = .bool true | 8 => v = .bool true | 14 => v = .bool true | _ => True) hap ?_ ?_ ?_
  · intro i v W W' h _
    iterate 15 (rcases i with _ | i; · exact h)
    exact h
  · refine ⟨?_, ?_, ?_, ?_, ?_, ?_, ?_, ?_, ?_, ?_, ?_, ?_, ?_, ?_, ?_, trivial⟩
    · intro vs A' W hA hW hd hu K hK
      refine wpOp_free _ rfl rfl ?_
      conv => arg 2; whnf
      have e2 : A'.tmps[2]?.getD undef = .pointer (some ⟨g2, 0, none⟩) := slot_out hA hap (Nat.lt_of_lt_of_eq (Nat.le_of_ble_eq_true rfl : 2 < 82) hsz.symm) (by kernel_rfl) o2
      clear hA hd hu o2 o3
      refine op_runs (v := .agg (ntA z h (.slice A l.length c))) (w' := W) (exec_load rfl (by simpa [Act.eval] using e2) (run_loadAt_agg W (⟨g2, 0, none⟩) 36 (ntA z h (.slice A l.length c)).toList _ (Blk.agg (hb2.kp hW (by simp))) Tryd.underlying36 rfl (by rw [Array.length_toList, ntA_size hh]; exact Tryd.infoNote))) ?_
      exact hK _ _ (Kp.refl _ _) rfl
    · intro vs A' W hA hW hd hu K hK
      refine wpOp_free _ rfl rfl ?_
      conv => arg 2; whnf
      have f0 : vs 0 = .agg (ntA z h (.slice A l.length c)) := hd 0 (by kernel_rfl)
      have e9 : A'.tmps[9]?.getD undef = vs 0 := slot_in hA hap (Nat.lt_of_lt_of_eq (Nat.le_of_ble_eq_true rfl : 9 < 82) hsz.symm) (by kernel_rfl)
      rw [f0] at e9
      clear hA hd hu o2 o3
      go_step
      refine (rmay_any z hz h hh l hok hll A c W (rd_old hv hW)).mono ?_
      rintro e w' ⟨rfl, k⟩
      exact hK _ _ k rfl
    · intro vs A' W hA hW hd hu K hK
      refine wpOp_free _ rfl rfl ?_
      conv => arg 2; whnf
      have f1 : vs 1 = .bool (mayN z l) := hd 1 (by kernel_rfl)
      have e10 : A'.tmps[10]?.getD undef = vs 1 := slot_in hA hap (Nat.lt_of_lt_of_eq (Nat.le_of_ble_eq_true rfl : 10 < 82) hsz.symm) (by kernel_rfl)
      rw [f1] at e10
      clear hA hd hu o2 o3
      go_step
      exact hK _ _ (Kp.refl _ _) (by first | rfl | exact (show Value.bool (!mayN z l) = Value.bool true from by rw [hm1] <;> rfl))
    · intro vs A' W hA hW hd hu K hK
      refine wpOp_free _ rfl rfl ?_
      conv => arg 2; whnf
      have f2 : vs 2 = .bool true := hd 2 (by kernel_rfl)
      have e11 : A'.tmps[11]?.getD undef = vs 2 := slot_in hA hap (Nat.lt_of_lt_of_eq (Nat.le_of_ble_eq_true rfl : 11 < 82) hsz.symm) (by kernel_rfl)
      rw [f2] at e11
      clear hA hd hu o2 o3
      go_step
      exact hK _ _ (Kp.refl _ _) rfl
    · intro vs A' W hA hW hd hu K hK
      have f3 : vs 3 = .bool true := hd 3 (by kernel_rfl)
      have e12 : A'.tmps[12]?.getD undef = vs 3 := slot_in hA hap (Nat.lt_of_lt_of_eq (Nat.le_of_ble_eq_true rfl : 12 < 82) hsz.symm) (by kernel_rfl)
      rw [f3] at e12
      refine wpOp_skip _ rfl 3 12 false rfl rfl e12 ?_
      exact hK _ _ (Kp.refl _ _) trivial
    · intro vs A' W hA hW hd hu K hK
      have f3 : vs 3 = .bool true := hd 3 (by kernel_rfl)
      have e12 : A'.tmps[12]?.getD undef = vs 3 := slot_in hA hap (Nat.lt_of_lt_of_eq (Nat.le_of_ble_eq_true rfl : 12 < 82) hsz.symm) (by kernel_rfl)
      rw [f3] at e12
      refine wpOp_skip _ rfl 3 12 false rfl rfl e12 ?_
      exact hK _ _ (Kp.refl _ _) trivial
    · intro vs A' W hA hW hd hu K hK
      have f3 : vs 3 = .bool true := hd 3 (by kernel_rfl)
      have e12 : A'.tmps[12]?.getD undef = vs 3 := slot_in hA hap (Nat.lt_of_lt_of_eq (Nat.le_of_ble_eq_true rfl : 12 < 82) hsz.symm) (by kernel_rfl)
      rw [f3] at e12
      refine wpOp_skip _ rfl 3 12 false rfl rfl e12 ?_
      exact hK _ _ (Kp.refl _ _) trivial
    · intro vs A' W hA hW hd hu K hK
      refine wpOp_free _ rfl rfl ?_
      conv => arg 2; whnf
      have f3 : vs 3 = .bool true := hd 3 (by kernel_rfl)
      have e12 : A'.tmps[12]?.getD undef = vs 3 := slot_in hA hap (Nat.lt_of_lt_of_eq (Nat.le_of_ble_eq_true rfl : 12 < 82) hsz.symm) (by kernel_rfl)
      rw [f3] at e12
      have e15 : A'.tmps[15]?.getD undef = vs 6 := slot_in hA hap (Nat.lt_of_lt_of_eq (Nat.le_of_ble_eq_true rfl : 15 < 82) hsz.symm) (by kernel_rfl)
      clear hA hd hu o2 o3
      go_step
      exact hK _ _ (Kp.refl _ _) rfl
    · intro vs A' W hA hW hd hu K hK
      refine wpOp_free _ rfl rfl ?_
      conv => arg 2; whnf
      have f7 : vs 7 = .bool true := hd 7 (by kernel_rfl)
      have e16 : A'.tmps[16]?.getD undef = vs 7 := slot_in hA hap (Nat.lt_of_lt_of_eq (Nat.le_of_ble_eq_true rfl : 16 < 82) hsz.symm) (by kernel_rfl)
      rw [f7] at e16
      clear hA hd hu o2 o3
      go_step
      exact hK _ _ (Kp.refl _ _) rfl
    · intro vs A' W hA hW hd hu K hK
      have f8 : vs 8 = .bool true := hd 8 (by kernel_rfl)
      have e17 : A'.tmps[17]?.getD undef = vs 8 := slot_in hA hap (Nat.lt_of_lt_of_eq (Nat.le_of_ble_eq_true rfl : 17 < 82) hsz.symm) (by kernel_rfl)
      rw [f8] at e17
      refine wpOp_skip _ rfl 8 17 false rfl rfl e17 ?_
      exact hK _ _ (Kp.refl _ _) trivial
    · intro vs A' W hA hW hd hu K hK
      have f8 : vs 8 = .bool true := hd 8 (by kernel_rfl)
      have e17 : A'.tmps[17]?.getD undef = vs 8 := slot_in hA hap (Nat.lt_of_lt_of_eq (Nat.le_of_ble_eq_true rfl : 17 < 82) hsz.symm) (by kernel_rfl)
      rw [f8] at e17
      refine wpOp_skip _ rfl 8 17 false rfl rfl e17 ?_
      exact hK _ _ (Kp.refl _ _) trivial
    · intro vs A' W hA hW hd hu K hK
      have f8 : vs 8 = .bool true := hd 8 (by kernel_rfl)
      have e17 : A'.tmps[17]?.getD undef = vs 8 := slot_in hA hap (Nat.lt_of_lt_of_eq (Nat.le_of_ble_eq_true rfl : 17 < 82) hsz.symm) (by kernel_rfl)
      rw [f8] at e17
      refine wpOp_skip _ rfl 8 17 false rfl rfl e17 ?_
      exact hK _ _ (Kp.refl _ _) trivial
    · intro vs A' W hA hW hd hu K hK
      have f8 : vs 8 = .bool true := hd 8 (by kernel_rfl)
      have e17 : A'.tmps[17]?.getD undef = vs 8 := slot_in hA hap (Nat.lt_of_lt_of_eq (Nat.le_of_ble_eq_true rfl : 17 < 82) hsz.symm) (by kernel_rfl)
      rw [f8] at e17
      refine wpOp_skip _ rfl 8 17 false rfl rfl e17 ?_
      exact hK _ _ (Kp.refl _ _) trivial
    · intro vs A' W hA hW hd hu K hK
      have f8 : vs 8 = .bool true := hd 8 (by kernel_rfl)
      have e17 : A'.tmps[17]?.getD undef = vs 8 := slot_in hA hap (Nat.lt_of_lt_of_eq (Nat.le_of_ble_eq_true rfl : 17 < 82) hsz.symm) (by kernel_rfl)
      rw [f8] at e17
      refine wpOp_skip _ rfl 8 17 false rfl rfl e17 ?_
      exact hK _ _ (Kp.refl _ _) trivial
    · intro vs A' W hA hW hd hu K hK
      refine wpOp_free _ rfl rfl ?_
      conv => arg 2; whnf
      have f8 : vs 8 = .bool true := hd 8 (by kernel_rfl)
      have e17 : A'.tmps[17]?.getD undef = vs 8 := slot_in hA hap (Nat.lt_of_lt_of_eq (Nat.le_of_ble_eq_true rfl : 17 < 82) hsz.symm) (by kernel_rfl)
      rw [f8] at e17
      have e22 : A'.tmps[22]?.getD undef = vs 13 := slot_in hA hap (Nat.lt_of_lt_of_eq (Nat.le_of_ble_eq_true rfl : 22 < 82) hsz.symm) (by kernel_rfl)
      clear hA hd hu o2 o3
      go_step
      exact hK _ _ (Kp.refl _ _) rfl
  · intro vs W hW hp
    rw [show putAll vs (opsOf 1 Tryd.f36) 0 a = putD [(9, vs 0), (10, vs 1), (11, vs 2), (12, vs 3), (13, vs 4), (14, vs 5), (15, vs 6), (16, vs 7), (17, vs 8), (18, vs 9), (19, vs 10), (20, vs 11), (21, vs 12), (22, vs 13), (23, vs 14)] a from by kernel_rfl]
    exact hend _ W (same_putD _ a) hW (sl_putD _ a 23 _ (by rw [show vs 14 = _ from hp 14 (Nat.le_of_ble_eq_true (by kernel_rfl))]; kernel_rfl))
-- END rjn1N
-- REG rjn1M
set_option maxRecDepth 100000 in
set_option maxHeartbeats 2000000 in
theorem rjn_r1M {Q : Exit → Act → World → Prop} {a : Act} {w : World} (z : Int) (hz : -9223372036854775808 ≤ z ∧ z ≤ 9223372036854775807) (h : List UInt8) (hh : h.length = 32) (A : Option Addr) (c : Nat) (l : List SigD) (hok : SgOk l) (hll : l.length ≤ 9223372036854775807) (y : Int) (hy : -9223372036854775808 ≤ y ∧ y ≤ 9223372036854775807) (g : List UInt8) (hg : g.length = 32) (B : Option Addr) (e : Nat) (m : List SigD) (hmk : SgOk m) (hml : m.length ≤ 9223372036854775807) (g2 g3 : Nat) (hb2 : Blk w g2 36 (ntA z h (.slice A l.length c))) (hb3 : Blk w g3 36 (ntA y g (.slice B m.length e))) (hv : Rd w 33 (.slice A l.length c) l.length (sgsC l)) (hu : Rd w 33 (.slice B m.length e) m.length (sgsC m)) (hm1 : mayN z l = true) (hm2 : mayN y m = false) (hsz : a.tmps.size = 82) (o2 : Sl a 2 (.pointer (some ⟨g2, 0, none⟩))) (o3 : Sl a 3 (.pointer (some ⟨g3, 0, none⟩)))
    (hend : ∀ (a' : Act) (W : World), Same a a' [9, 10, 11, 12, 13, 14, 15, 16, 17, 18, 19, 20, 21, 22, 23] → Kp [] w W → Sl a' 23 (.bool true) → Q .normal a' W) : (Code.region 1 (opsOf 1 Tryd.f36).toArray false).wp Tryd.prog Q a w := by
  have hap : apartB (opsOf 1 Tryd.f36) = true := by kernel_rfl
  refine wp_region_invS (l := (opsOf 1 Tryd.f36)) (fun i v W => match i with | 0 => v = .agg (ntA z h (.slice A l.length c)) | 1 => v = .bool (mayN z l) | 2 => v = .bool false | 3 => v = .bool false | 4 => v = .agg (ntA y g (.slice B m.length e)) | 5 => v = .bool (mayN y m) | 6 => v = .bool true | 7 => v = .bool true | 8 => v = .bool true | 14 => v = .bool true | _ => True) hap ?_ ?_ ?_
  · intro i v W W' h _
    iterate 15 (rcases i with _ | i; · exact h)
    exact h
  · refine ⟨?_, ?_, ?_, ?_, ?_, ?_, ?_, ?_, ?_, ?_, ?_, ?_, ?_, ?_, ?_, trivial⟩
    · intro vs A' W hA hW hd hu K hK
      refine wpOp_free _ rfl rfl ?_
      conv => arg 2; whnf
      have e2 : A'.tmps[2]?.getD undef = .pointer (some ⟨g2, 0, none⟩) := slot_out hA hap (Nat.lt_of_lt_of_eq (Nat.le_of_ble_eq_true rfl : 2 < 82) hsz.symm) (by kernel_rfl) o2
      clear hA hd hu o2 o3
      refine op_runs (v := .agg (ntA z h (.slice A l.length c))) (w' := W) (exec_load rfl (by simpa [Act.eval] using e2) (run_loadAt_agg W (⟨g2, 0, none⟩) 36 (ntA z h (.slice A l.length c)).toList _ (Blk.agg (hb2.kp hW (by simp))) Tryd.underlying36 rfl (by rw [Array.length_toList, ntA_size hh]; exact Tryd.infoNote))) ?_
      exact hK _ _ (Kp.refl _ _) rfl
    · intro vs A' W hA hW hd hu K hK
      refine wpOp_free _ rfl rfl ?_
      conv => arg 2; whnf
      have f0 : vs 0 = .agg (ntA z h (.slice A l.length c)) := hd 0 (by kernel_rfl)
      have e9 : A'.tmps[9]?.getD undef = vs 0 := slot_in hA hap (Nat.lt_of_lt_of_eq (Nat.le_of_ble_eq_true rfl : 9 < 82) hsz.symm) (by kernel_rfl)
      rw [f0] at e9
      clear hA hd hu o2 o3
      go_step
      refine (rmay_any z hz h hh l hok hll A c W (rd_old hv hW)).mono ?_
      rintro e w' ⟨rfl, k⟩
      exact hK _ _ k rfl
    · intro vs A' W hA hW hd hu K hK
      refine wpOp_free _ rfl rfl ?_
      conv => arg 2; whnf
      have f1 : vs 1 = .bool (mayN z l) := hd 1 (by kernel_rfl)
      have e10 : A'.tmps[10]?.getD undef = vs 1 := slot_in hA hap (Nat.lt_of_lt_of_eq (Nat.le_of_ble_eq_true rfl : 10 < 82) hsz.symm) (by kernel_rfl)
      rw [f1] at e10
      clear hA hd hu o2 o3
      go_step
      exact hK _ _ (Kp.refl _ _) (by first | rfl | exact (show Value.bool (!mayN z l) = Value.bool false from by rw [hm1] <;> rfl))
    · intro vs A' W hA hW hd hu K hK
      refine wpOp_free _ rfl rfl ?_
      conv => arg 2; whnf
      have f2 : vs 2 = .bool false := hd 2 (by kernel_rfl)
      have e11 : A'.tmps[11]?.getD undef = vs 2 := slot_in hA hap (Nat.lt_of_lt_of_eq (Nat.le_of_ble_eq_true rfl : 11 < 82) hsz.symm) (by kernel_rfl)
      rw [f2] at e11
      clear hA hd hu o2 o3
      go_step
      exact hK _ _ (Kp.refl _ _) rfl
    · intro vs A' W hA hW hd hu K hK
      have f3 : vs 3 = .bool false := hd 3 (by kernel_rfl)
      have e12 : A'.tmps[12]?.getD undef = vs 3 := slot_in hA hap (Nat.lt_of_lt_of_eq (Nat.le_of_ble_eq_true rfl : 12 < 82) hsz.symm) (by kernel_rfl)
      rw [f3] at e12
      refine wpOp_go _ rfl 3 12 false rfl rfl e12 ?_
      conv => arg 2; whnf
      have e3 : A'.tmps[3]?.getD undef = .pointer (some ⟨g3, 0, none⟩) := slot_out hA hap (Nat.lt_of_lt_of_eq (Nat.le_of_ble_eq_true rfl : 3 < 82) hsz.symm) (by kernel_rfl) o3
      clear hA hd hu o2 o3
      refine op_runs (v := .agg (ntA y g (.slice B m.length e))) (w' := W) (exec_load rfl (by simpa [Act.eval] using e3) (run_loadAt_agg W (⟨g3, 0, none⟩) 36 (ntA y g (.slice B m.length e)).toList _ (Blk.agg (hb3.kp hW (by simp))) Tryd.underlying36 rfl (by rw [Array.length_toList, ntA_size hg]; exact Tryd.infoNote))) ?_
      exact hK _ _ (Kp.refl _ _) rfl
    · intro vs A' W hA hW hd hu K hK
      have f3 : vs 3 = .bool false := hd 3 (by kernel_rfl)
      have e12 : A'.tmps[12]?.getD undef = vs 3 := slot_in hA hap (Nat.lt_of_lt_of_eq (Nat.le_of_ble_eq_true rfl : 12 < 82) hsz.symm) (by kernel_rfl)
      rw [f3] at e12
      refine wpOp_go _ rfl 3 12 false rfl rfl e12 ?_
      conv => arg 2; whnf
      have f4 : vs 4 = .agg (ntA y g (.slice B m.length e)) := hd 4 (by kernel_rfl)
      have e13 : A'.tmps[13]?.getD undef = vs 4 := slot_in hA hap (Nat.lt_of_lt_of_eq (Nat.le_of_ble_eq_true rfl : 13 < 82) hsz.symm) (by kernel_rfl)
      rw [f4] at e13
      clear hA hd hu o2 o3
      go_step
      refine (rmay_any y hy g hg m hmk hml B e W (rd_old hu hW)).mono ?_
      rintro e w' ⟨rfl, k⟩
      exact hK _ _ k rfl
    · intro vs A' W hA hW hd hu K hK
      have f3 : vs 3 = .bool false := hd 3 (by kernel_rfl)
      have e12 : A'.tmps[12]?.getD undef = vs 3 := slot_in hA hap (Nat.lt_of_lt_of_eq (Nat.le_of_ble_eq_true rfl : 12 < 82) hsz.symm) (by kernel_rfl)
      rw [f3] at e12
      refine wpOp_go _ rfl 3 12 false rfl rfl e12 ?_
      conv => arg 2; whnf
      have f5 : vs 5 = .bool (mayN y m) := hd 5 (by kernel_rfl)
      have e14 : A'.tmps[14]?.getD undef = vs 5 := slot_in hA hap (Nat.lt_of_lt_of_eq (Nat.le_of_ble_eq_true rfl : 14 < 82) hsz.symm) (by kernel_rfl)
      rw [f5] at e14
      clear hA hd hu o2 o3
      go_step
      exact hK _ _ (Kp.refl _ _) (by first | rfl | exact (show Value.bool (!mayN y m) = Value.bool true from by rw [hm2] <;> rfl))
    · intro vs A' W hA hW hd hu K hK
      refine wpOp_free _ rfl rfl ?_
      conv => arg 2; whnf
      have f3 : vs 3 = .bool false := hd 3 (by kernel_rfl)
      have e12 : A'.tmps[12]?.getD undef = vs 3 := slot_in hA hap (Nat.lt_of_lt_of_eq (Nat.le_of_ble_eq_true rfl : 12 < 82) hsz.symm) (by kernel_rfl)
      rw [f3] at e12
      have f6 : vs 6 = .bool true := hd 6 (by kernel_rfl)
      have e15 : A'.tmps[15]?.getD undef = vs 6 := slot_in hA hap (Nat.lt_of_lt_of_eq (Nat.le_of_ble_eq_true rfl : 15 < 82) hsz.symm) (by kernel_rfl)
      rw [f6] at e15
      clear hA hd hu o2 o3
      go_step
      exact hK _ _ (Kp.refl _ _) rfl
    · intro vs A' W hA hW hd hu K hK
      refine wpOp_free _ rfl rfl ?_
      conv => arg 2; whnf
      have f7 : vs 7 = .bool true := hd 7 (by kernel_rfl)
      have e16 : A'.tmps[16]?.getD undef = vs 7 := slot_in hA hap (Nat.lt_of_lt_of_eq (Nat.le_of_ble_eq_true rfl : 16 < 82) hsz.symm) (by kernel_rfl)
      rw [f7] at e16
      clear hA hd hu o2 o3
      go_step
      exact hK _ _ (Kp.refl _ _) rfl
    · intro vs A' W hA hW hd hu K hK
      have f8 : vs 8 = .bool true := hd 8 (by kernel_rfl)
      have e17 : A'.tmps[17]?.getD undef = vs 8 := slot_in hA hap (Nat.lt_of_lt_of_eq (Nat.le_of_ble_eq_true rfl : 17 < 82) hsz.symm) (by kernel_rfl)
      rw [f8] at e17
      refine wpOp_skip _ rfl 8 17 false rfl rfl e17 ?_
      exact hK _ _ (Kp.refl _ _) trivial
    · intro vs A' W hA hW hd hu K hK
      have f8 : vs 8 = .bool true := hd 8 (by kernel_rfl)
      have e17 : A'.tmps[17]?.getD undef = vs 8 := slot_in hA hap (Nat.lt_of_lt_of_eq (Nat.le_of_ble_eq_true rfl : 17 < 82) hsz.symm) (by kernel_rfl)
      rw [f8] at e17
      refine wpOp_skip _ rfl 8 17 false rfl rfl e17 ?_
      exact hK _ _ (Kp.refl _ _) trivial
    · intro vs A' W hA hW hd hu K hK
      have f8 : vs 8 = .bool true := hd 8 (by kernel_rfl)
      have e17 : A'.tmps[17]?.getD undef = vs 8 := slot_in hA hap (Nat.lt_of_lt_of_eq (Nat.le_of_ble_eq_true rfl : 17 < 82) hsz.symm) (by kernel_rfl)
      rw [f8] at e17
      refine wpOp_skip _ rfl 8 17 false rfl rfl e17 ?_
      exact hK _ _ (Kp.refl _ _) trivial
    · intro vs A' W hA hW hd hu K hK
      have f8 : vs 8 = .bool true := hd 8 (by kernel_rfl)
      have e17 : A'.tmps[17]?.getD undef = vs 8 := slot_in hA hap (Nat.lt_of_lt_of_eq (Nat.le_of_ble_eq_true rfl : 17 < 82) hsz.symm) (by kernel_rfl)
      rw [f8] at e17
      refine wpOp_skip _ rfl 8 17 false rfl rfl e17 ?_
      exact hK _ _ (Kp.refl _ _) trivial
    · intro vs A' W hA hW hd hu K hK
      have f8 : vs 8 = .bool true := hd 8 (by kernel_rfl)
      have e17 : A'.tmps[17]?.getD undef = vs 8 := slot_in hA hap (Nat.lt_of_lt_of_eq (Nat.le_of_ble_eq_true rfl : 17 < 82) hsz.symm) (by kernel_rfl)
      rw [f8] at e17
      refine wpOp_skip _ rfl 8 17 false rfl rfl e17 ?_
      exact hK _ _ (Kp.refl _ _) trivial
    · intro vs A' W hA hW hd hu K hK
      refine wpOp_free _ rfl rfl ?_
      conv => arg 2; whnf
      have f8 : vs 8 = .bool true := hd 8 (by kernel_rfl)
      have e17 : A'.tmps[17]?.getD undef = vs 8 := slot_in hA hap (Nat.lt_of_lt_of_eq (Nat.le_of_ble_eq_true rfl : 17 < 82) hsz.symm) (by kernel_rfl)
      rw [f8] at e17
      have e22 : A'.tmps[22]?.getD undef = vs 13 := slot_in hA hap (Nat.lt_of_lt_of_eq (Nat.le_of_ble_eq_true rfl : 22 < 82) hsz.symm) (by kernel_rfl)
      clear hA hd hu o2 o3
      go_step
      exact hK _ _ (Kp.refl _ _) rfl
  · intro vs W hW hp
    rw [show putAll vs (opsOf 1 Tryd.f36) 0 a = putD [(9, vs 0), (10, vs 1), (11, vs 2), (12, vs 3), (13, vs 4), (14, vs 5), (15, vs 6), (16, vs 7), (17, vs 8), (18, vs 9), (19, vs 10), (20, vs 11), (21, vs 12), (22, vs 13), (23, vs 14)] a from by kernel_rfl]
    exact hend _ W (same_putD _ a) hW (sl_putD _ a 23 _ (by rw [show vs 14 = _ from hp 14 (Nat.le_of_ble_eq_true (by kernel_rfl))]; kernel_rfl))
-- END rjn1M
-- REG rjn1Y
set_option maxRecDepth 100000 in
set_option maxHeartbeats 2000000 in
theorem rjn_r1Y {Q : Exit → Act → World → Prop} {a : Act} {w : World} (z : Int) (hz : -9223372036854775808 ≤ z ∧ z ≤ 9223372036854775807) (h : List UInt8) (hh : h.length = 32) (A : Option Addr) (c : Nat) (l : List SigD) (hok : SgOk l) (hll : l.length ≤ 9223372036854775807) (y : Int) (hy : -9223372036854775808 ≤ y ∧ y ≤ 9223372036854775807) (g : List UInt8) (hg : g.length = 32) (B : Option Addr) (e : Nat) (m : List SigD) (hmk : SgOk m) (hml : m.length ≤ 9223372036854775807) (g2 g3 : Nat) (hb2 : Blk w g2 36 (ntA z h (.slice A l.length c))) (hb3 : Blk w g3 36 (ntA y g (.slice B m.length e))) (hv : Rd w 33 (.slice A l.length c) l.length (sgsC l)) (hu : Rd w 33 (.slice B m.length e) m.length (sgsC m)) (hm1 : mayN z l = true) (hm2 : mayN y m = true) (bq : Bool) (hbq : (!(decide (z = y) && (h == g))) = bq) (hsz : a.tmps.size = 82) (o2 : Sl a 2 (.pointer (some ⟨g2, 0, none⟩))) (o3 : Sl a 3 (.pointer (some ⟨g3, 0, none⟩)))
    (hend : ∀ (a' : Act) (W : World), Same a a' [9, 10, 11, 12, 13, 14, 15, 16, 17, 18, 19, 20, 21, 22, 23] → Kp [] w W → Sl a' 23 (.bool bq) → Q .normal a' W) : (Code.region 1 (opsOf 1 Tryd.f36).toArray false).wp Tryd.prog Q a w := by
  have hap : apartB (opsOf 1 Tryd.f36) = true := by kernel_rfl
  refine wp_region_invS (l := (opsOf 1 Tryd.f36)) (fun i v W => match i with | 0 => v = .agg (ntA z h (.slice A l.length c)) | 1 => v = .bool (mayN z l) | 2 => v = .bool false | 3 => v = .bool false | 4 => v = .agg (ntA y g (.slice B m.length e)) | 5 => v = .bool (mayN y m) | 6 => v = .bool false | 7 => v = .bool false | 8 => v = .bool false | 9 => v = .pointer (some ⟨g2, 0, none⟩) | 10 => v = .agg (ptA z h) | 11 => v = .pointer (some ⟨g3, 0, none⟩) | 12 => v = .agg (ptA y g) | 13 => v = .bool bq | 14 => v = .bool bq | _ => True) hap ?_ ?_ ?_
  · intro i v W W' h _
    iterate 15 (rcases i with _ | i; · exact h)
    exact h
  · refine ⟨?_, ?_, ?_, ?_, ?_, ?_, ?_, ?_, ?_, ?_, ?_, ?_, ?_, ?_, ?_, trivial⟩
    · intro vs A' W hA hW hd hu K hK
      refine wpOp_free _ rfl rfl ?_
      conv => arg 2; whnf
      have e2 : A'.tmps[2]?.getD undef = .pointer (some ⟨g2, 0, none⟩) := slot_out hA hap (Nat.lt_of_lt_of_eq (Nat.le_of_ble_eq_true rfl : 2 < 82) hsz.symm) (by kernel_rfl) o2
      clear hA hd hu o2 o3
      refine op_runs (v := .agg (ntA z h (.slice A l.length c))) (w' := W) (exec_load rfl (by simpa [Act.eval] using e2) (run_loadAt_agg W (⟨g2, 0, none⟩) 36 (ntA z h (.slice A l.length c)).toList _ (Blk.agg (hb2.kp hW (by simp))) Tryd.underlying36 rfl (by rw [Array.length_toList, ntA_size hh]; exact Tryd.infoNote))) ?_
      exact hK _ _ (Kp.refl _ _) rfl
    · intro vs A' W hA hW hd hu K hK
      refine wpOp_free _ rfl rfl ?_
      conv => arg 2; whnf
      have f0 : vs 0 = .agg (ntA z h (.slice A l.length c)) := hd 0 (by kernel_rfl)
      have e9 : A'.tmps[9]?.getD undef = vs 0 := slot_in hA hap (Nat.lt_of_lt_of_eq (Nat.le_of_ble_eq_true rfl : 9 < 82) hsz.symm) (by kernel_rfl)
      rw [f0] at e9
      clear hA hd hu o2 o3
      go_step
      refine (rmay_any z hz h hh l hok hll A c W (rd_old hv hW)).mono ?_
      rintro e w' ⟨rfl, k⟩
      exact hK _ _ k rfl
    · intro vs A' W hA hW hd hu K hK
      refine wpOp_free _ rfl rfl ?_
      conv => arg 2; whnf
      have f1 : vs 1 = .bool (mayN z l) := hd 1 (by kernel_rfl)
      have e10 : A'.tmps[10]?.getD undef = vs 1 := slot_in hA hap (Nat.lt_of_lt_of_eq (Nat.le_of_ble_eq_true rfl : 10 < 82) hsz.symm) (by kernel_rfl)
      rw [f1] at e10
      clear hA hd hu o2 o3
      go_step
      exact hK _ _ (Kp.refl _ _) (by first | rfl | exact (show Value.bool (!mayN z l) = Value.bool false from by rw [hm1] <;> rfl))
    · intro vs A' W hA hW hd hu K hK
      refine wpOp_free _ rfl rfl ?_
      conv => arg 2; whnf
      have f2 : vs 2 = .bool false := hd 2 (by kernel_rfl)
      have e11 : A'.tmps[11]?.getD undef = vs 2 := slot_in hA hap (Nat.lt_of_lt_of_eq (Nat.le_of_ble_eq_true rfl : 11 < 82) hsz.symm) (by kernel_rfl)
      rw [f2] at e11
      clear hA hd hu o2 o3
      go_step
      exact hK _ _ (Kp.refl _ _) rfl
    · intro vs A' W hA hW hd hu K hK
      have f3 : vs 3 = .bool false := hd 3 (by kernel_rfl)
      have e12 : A'.tmps[12]?.getD undef = vs 3 := slot_in hA hap (Nat.lt_of_lt_of_eq (Nat.le_of_ble_eq_true rfl : 12 < 82) hsz.symm) (by kernel_rfl)
      rw [f3] at e12
      refine wpOp_go _ rfl 3 12 false rfl rfl e12 ?_
      conv => arg 2; whnf
      have e3 : A'.tmps[3]?.getD undef = .pointer (some ⟨g3, 0, none⟩) := slot_out hA hap (Nat.lt_of_lt_of_eq (Nat.le_of_ble_eq_true rfl : 3 < 82) hsz.symm) (by kernel_rfl) o3
      clear hA hd hu o2 o3
      refine op_runs (v := .agg (ntA y g (.slice B m.length e))) (w' := W) (exec_load rfl (by simpa [Act.eval] using e3) (run_loadAt_agg W (⟨g3, 0, none⟩) 36 (ntA y g (.slice B m.length e)).toList _ (Blk.agg (hb3.kp hW (by simp))) Tryd.underlying36 rfl (by rw [Array.length_toList, ntA_size hg]; exact Tryd.infoNote))) ?_
      exact hK _ _ (Kp.refl _ _) rfl
    · intro vs A' W hA hW hd hu K hK
      have f3 : vs 3 = .bool false := hd 3 (by kernel_rfl)
      have e12 : A'.tmps[12]?.getD undef = vs 3 := slot_in hA hap (Nat.lt_of_lt_of_eq (Nat.le_of_ble_eq_true rfl : 12 < 82) hsz.symm) (by kernel_rfl)
      rw [f3] at e12
      refine wpOp_go _ rfl 3 12 false rfl rfl e12 ?_
      conv => arg 2; whnf
      have f4 : vs 4 = .agg (ntA y g (.slice B m.length e)) := hd 4 (by kernel_rfl)
      have e13 : A'.tmps[13]?.getD undef = vs 4 := slot_in hA hap (Nat.lt_of_lt_of_eq (Nat.le_of_ble_eq_true rfl : 13 < 82) hsz.symm) (by kernel_rfl)
      rw [f4] at e13
      clear hA hd hu o2 o3
      go_step
      refine (rmay_any y hy g hg m hmk hml B e W (rd_old hu hW)).mono ?_
      rintro e w' ⟨rfl, k⟩
      exact hK _ _ k rfl
    · intro vs A' W hA hW hd hu K hK
      have f3 : vs 3 = .bool false := hd 3 (by kernel_rfl)
      have e12 : A'.tmps[12]?.getD undef = vs 3 := slot_in hA hap (Nat.lt_of_lt_of_eq (Nat.le_of_ble_eq_true rfl : 12 < 82) hsz.symm) (by kernel_rfl)
      rw [f3] at e12
      refine wpOp_go _ rfl 3 12 false rfl rfl e12 ?_
      conv => arg 2; whnf
      have f5 : vs 5 = .bool (mayN y m) := hd 5 (by kernel_rfl)
      have e14 : A'.tmps[14]?.getD undef = vs 5 := slot_in hA hap (Nat.lt_of_lt_of_eq (Nat.le_of_ble_eq_true rfl : 14 < 82) hsz.symm) (by kernel_rfl)
      rw [f5] at e14
      clear hA hd hu o2 o3
      go_step
      exact hK _ _ (Kp.refl _ _) (by first | rfl | exact (show Value.bool (!mayN y m) = Value.bool false from by rw [hm2] <;> rfl))
    · intro vs A' W hA hW hd hu K hK
      refine wpOp_free _ rfl rfl ?_
      conv => arg 2; whnf
      have f3 : vs 3 = .bool false := hd 3 (by kernel_rfl)
      have e12 : A'.tmps[12]?.getD undef = vs 3 := slot_in hA hap (Nat.lt_of_lt_of_eq (Nat.le_of_ble_eq_true rfl : 12 < 82) hsz.symm) (by kernel_rfl)
      rw [f3] at e12
      have f6 : vs 6 = .bool false := hd 6 (by kernel_rfl)
      have e15 : A'.tmps[15]?.getD undef = vs 6 := slot_in hA hap (Nat.lt_of_lt_of_eq (Nat.le_of_ble_eq_true rfl : 15 < 82) hsz.symm) (by kernel_rfl)
      rw [f6] at e15
      clear hA hd hu o2 o3
      go_step
      exact hK _ _ (Kp.refl _ _) rfl
    · intro vs A' W hA hW hd hu K hK
      refine wpOp_free _ rfl rfl ?_
      conv => arg 2; whnf
      have f7 : vs 7 = .bool false := hd 7 (by kernel_rfl)
      have e16 : A'.tmps[16]?.getD undef = vs 7 := slot_in hA hap (Nat.lt_of_lt_of_eq (Nat.le_of_ble_eq_true rfl : 16 < 82) hsz.symm) (by kernel_rfl)
      rw [f7] at e16
      clear hA hd hu o2 o3
      go_step
      exact hK _ _ (Kp.refl _ _) rfl
    · intro vs A' W hA hW hd hu K hK
      have f8 : vs 8 = .bool false := hd 8 (by kernel_rfl)
      have e17 : A'.tmps[17]?.getD undef = vs 8 := slot_in hA hap (Nat.lt_of_lt_of_eq (Nat.le_of_ble_eq_true rfl : 17 < 82) hsz.symm) (by kernel_rfl)
      rw [f8] at e17
      refine wpOp_go _ rfl 8 17 false rfl rfl e17 ?_
      conv => arg 2; whnf
      have e2 : A'.tmps[2]?.getD undef = .pointer (some ⟨g2, 0, none⟩) := slot_out hA hap (Nat.lt_of_lt_of_eq (Nat.le_of_ble_eq_true rfl : 2 < 82) hsz.symm) (by kernel_rfl) o2
      clear hA hd hu o2 o3
      go_step
      exact hK _ _ (Kp.refl _ _) rfl
    · intro vs A' W hA hW hd hu K hK
      have f8 : vs 8 = .bool false := hd 8 (by kernel_rfl)
      have e17 : A'.tmps[17]?.getD undef = vs 8 := slot_in hA hap (Nat.lt_of_lt_of_eq (Nat.le_of_ble_eq_true rfl : 17 < 82) hsz.symm) (by kernel_rfl)
      rw [f8] at e17
      refine wpOp_go _ rfl 8 17 false rfl rfl e17 ?_
      conv => arg 2; whnf
      have f9 : vs 9 = .pointer (some ⟨g2, 0, none⟩) := hd 9 (by kernel_rfl)
      have e18 : A'.tmps[18]?.getD undef = vs 9 := slot_in hA hap (Nat.lt_of_lt_of_eq (Nat.le_of_ble_eq_true rfl : 18 < 82) hsz.symm) (by kernel_rfl)
      rw [f9] at e18
      clear hA hd hu o2 o3
      refine op_runs (v := .agg (ptA z h)) (w' := W) (exec_load rfl (by simpa [Act.eval] using e18) (run_loadAt_agg W (⟨g2, 0, none⟩) 33 (ptA z h).toList _ (nt_pointAt (hb2.kp hW (by simp))) Tryd.underlying33 rfl (by rw [Array.length_toList, ptA_size hh]; exact Tryd.infoPointP))) ?_
      exact hK _ _ (Kp.refl _ _) rfl
    · intro vs A' W hA hW hd hu K hK
      have f8 : vs 8 = .bool false := hd 8 (by kernel_rfl)
      have e17 : A'.tmps[17]?.getD undef = vs 8 := slot_in hA hap (Nat.lt_of_lt_of_eq (Nat.le_of_ble_eq_true rfl : 17 < 82) hsz.symm) (by kernel_rfl)
      rw [f8] at e17
      refine wpOp_go _ rfl 8 17 false rfl rfl e17 ?_
      conv => arg 2; whnf
      have e3 : A'.tmps[3]?.getD undef = .pointer (some ⟨g3, 0, none⟩) := slot_out hA hap (Nat.lt_of_lt_of_eq (Nat.le_of_ble_eq_true rfl : 3 < 82) hsz.symm) (by kernel_rfl) o3
      clear hA hd hu o2 o3
      go_step
      exact hK _ _ (Kp.refl _ _) rfl
    · intro vs A' W hA hW hd hu K hK
      have f8 : vs 8 = .bool false := hd 8 (by kernel_rfl)
      have e17 : A'.tmps[17]?.getD undef = vs 8 := slot_in hA hap (Nat.lt_of_lt_of_eq (Nat.le_of_ble_eq_true rfl : 17 < 82) hsz.symm) (by kernel_rfl)
      rw [f8] at e17
      refine wpOp_go _ rfl 8 17 false rfl rfl e17 ?_
      conv => arg 2; whnf
      have f11 : vs 11 = .pointer (some ⟨g3, 0, none⟩) := hd 11 (by kernel_rfl)
      have e20 : A'.tmps[20]?.getD undef = vs 11 := slot_in hA hap (Nat.lt_of_lt_of_eq (Nat.le_of_ble_eq_true rfl : 20 < 82) hsz.symm) (by kernel_rfl)
      rw [f11] at e20
      clear hA hd hu o2 o3
      refine op_runs (v := .agg (ptA y g)) (w' := W) (exec_load rfl (by simpa [Act.eval] using e20) (run_loadAt_agg W (⟨g3, 0, none⟩) 33 (ptA y g).toList _ (nt_pointAt (hb3.kp hW (by simp))) Tryd.underlying33 rfl (by rw [Array.length_toList, ptA_size hg]; exact Tryd.infoPointP))) ?_
      exact hK _ _ (Kp.refl _ _) rfl
    · intro vs A' W hA hW hd hu K hK
      have f8 : vs 8 = .bool false := hd 8 (by kernel_rfl)
      have e17 : A'.tmps[17]?.getD undef = vs 8 := slot_in hA hap (Nat.lt_of_lt_of_eq (Nat.le_of_ble_eq_true rfl : 17 < 82) hsz.symm) (by kernel_rfl)
      rw [f8] at e17
      refine wpOp_go _ rfl 8 17 false rfl rfl e17 ?_
      conv => arg 2; whnf
      have f10 : vs 10 = .agg (ptA z h) := hd 10 (by kernel_rfl)
      have e19 : A'.tmps[19]?.getD undef = vs 10 := slot_in hA hap (Nat.lt_of_lt_of_eq (Nat.le_of_ble_eq_true rfl : 19 < 82) hsz.symm) (by kernel_rfl)
      rw [f10] at e19
      have f12 : vs 12 = .agg (ptA y g) := hd 12 (by kernel_rfl)
      have e21 : A'.tmps[21]?.getD undef = vs 12 := slot_in hA hap (Nat.lt_of_lt_of_eq (Nat.le_of_ble_eq_true rfl : 21 < 82) hsz.symm) (by kernel_rfl)
      rw [f12] at e21
      clear hA hd hu o2 o3
      refine op_runs (v := .bool bq) (w' := W) (exec_bin_agg rfl (by simpa [Act.eval] using e19) (by simpa [Act.eval] using e21) Tryd.eqGuardType33 ((neq_pt W z y h g hh hg).trans (by rw [hbq]))) ?_
      exact hK _ _ (Kp.refl _ _) rfl
    · intro vs A' W hA hW hd hu K hK
      refine wpOp_free _ rfl rfl ?_
      conv => arg 2; whnf
      have f8 : vs 8 = .bool false := hd 8 (by kernel_rfl)
      have e17 : A'.tmps[17]?.getD undef = vs 8 := slot_in hA hap (Nat.lt_of_lt_of_eq (Nat.le_of_ble_eq_true rfl : 17 < 82) hsz.symm) (by kernel_rfl)
      rw [f8] at e17
      have f13 : vs 13 = .bool bq := hd 13 (by kernel_rfl)
      have e22 : A'.tmps[22]?.getD undef = vs 13 := slot_in hA hap (Nat.lt_of_lt_of_eq (Nat.le_of_ble_eq_true rfl : 22 < 82) hsz.symm) (by kernel_rfl)
      rw [f13] at e22
      clear hA hd hu o2 o3
      go_step
      exact hK _ _ (Kp.refl _ _) rfl
  · intro vs W hW hp
    rw [show putAll vs (opsOf 1 Tryd.f36) 0 a = putD [(9, vs 0), (10, vs 1), (11, vs 2), (12, vs 3), (13, vs 4), (14, vs 5), (15, vs 6), (16, vs 7), (17, vs 8), (18, vs 9), (19, vs 10), (20, vs 11), (21, vs 12), (22, vs 13), (23, vs 14)] a from by kernel_rfl]
    exact hend _ W (same_putD _ a) hW (sl_putD _ a 23 _ (by rw [show vs 14 = _ from hp 14 (Nat.le_of_ble_eq_true (by kernel_rfl))]; kernel_rfl))
-- END rjn1Y
-- REG rjn2
set_option maxRecDepth 100000 in
set_option maxHeartbeats 2000000 in
theorem rjn_r2 {Q : Exit → Act → World → Prop} {a : Act} {w : World} (w0 : World) (g4 : Nat) (L : List Res) (S : Held w0 w (blkR g4 36 zeroN :: L)) (hsz : a.tmps.size = 82) (o4 : Sl a 4 (.pointer (some ⟨g4, 0, none⟩)))
    (hend : ∀ (a' : Act) (W : World), Same a a' [24, 5] → Sl a' 5 (.int .i64 (2 : Int)) → (Held w0 W (blkR g4 36 zeroN :: L)) → Q .normal a' W) : (Code.region 2 (opsOf 2 Tryd.f36).toArray false).wp Tryd.prog Q a w := by
  refine wp_region_lit (l := (opsOf 2 Tryd.f36)) ?_
  conv => arg 4; whnf
  unfold Sl at o4
  have S := Lib.hid S
  have HB0 := Lib.hid Tryd.built_noteZ
  have hzz : Hid (zeroN.size = 34) := Lib.hid rfl
  have hOz : Hid (∀ u, u ∈ zeroN.toList → u.oneCell' = true) := Lib.hid (ntA_one (v := .slice none 0 0) rfl)
  generalize zeroN = cz at *
  go_wp2_with (first | (refine wpList_buildC rfl 36 _ rfl [] (by simp [Act.eval, Act.put]) _ HB0.out ?_) | (refine wpList_store_blk rfl 36 (.tmp 4) (.tmp 24) rfl g4 (by simp [Act.eval, Act.put, hsz, o4]) cz (by simp [Act.eval, Act.put, hsz]) 36 _ (S.out.at_ (l1 := [])) (by rw [hzz.out]; exact Tryd.infoNote) (by rw [hzz.out]) hOz.out ?_; intro w7 b7 k7; have S7 := Lib.hid (Held.setBlk (l1 := []) S.out b7 k7); clear b7 k7))
  try simp only [Act.put]
  exact hend _ _ (by repeat (first | (with_reducible refine same_set (by decide) ?_) | (with_reducible exact same_nil))) (by unfold Sl; first | (simp [hsz]; done) | (simp [hsz]; omega)) (S7.out)
-- END rjn2
-- REG rjn9
set_option maxRecDepth 100000 in
set_option maxHeartbeats 2000000 in
theorem rjn_r9 {Q : Exit → Act → World → Prop} {a : Act} {w : World} (w0 : World) (g4 : Nat) (L : List Res) (S : Held w0 w (blkR g4 36 zeroN :: L)) (hsz : a.tmps.size = 82) (o4 : Sl a 4 (.pointer (some ⟨g4, 0, none⟩)))
    (hend : ∀ (a' : Act) (W : World), Same a a' [64, 5] → Sl a' 5 (.int .i64 (8 : Int)) → (Held w0 W (blkR g4 36 zeroN :: L)) → Q .normal a' W) : (Code.region 9 (opsOf 9 Tryd.f36).toArray false).wp Tryd.prog Q a w := by
  refine wp_region_lit (l := (opsOf 9 Tryd.f36)) ?_
  conv => arg 4; whnf
  unfold Sl at o4
  have S := Lib.hid S
  have HB0 := Lib.hid Tryd.built_noteZ
  have hzz : Hid (zeroN.size = 34) := Lib.hid rfl
  have hOz : Hid (∀ u, u ∈ zeroN.toList → u.oneCell' = true) := Lib.hid (ntA_one (v := .slice none 0 0) rfl)
  generalize zeroN = cz at *
  go_wp2_with (first | (refine wpList_buildC rfl 36 _ rfl [] (by simp [Act.eval, Act.put]) _ HB0.out ?_) | (refine wpList_store_blk rfl 36 (.tmp 4) (.tmp 64) rfl g4 (by simp [Act.eval, Act.put, hsz, o4]) cz (by simp [Act.eval, Act.put, hsz]) 36 _ (S.out.at_ (l1 := [])) (by rw [hzz.out]; exact Tryd.infoNote) (by rw [hzz.out]) hOz.out ?_; intro w7 b7 k7; have S7 := Lib.hid (Held.setBlk (l1 := []) S.out b7 k7); clear b7 k7))
  try simp only [Act.put]
  exact hend _ _ (by repeat (first | (with_reducible refine same_set (by decide) ?_) | (with_reducible exact same_nil))) (by unfold Sl; first | (simp [hsz]; done) | (simp [hsz]; omega)) (S7.out)
-- END rjn9
-- REG rjn13
set_option maxRecDepth 100000 in
set_option maxHeartbeats 2000000 in
theorem rjn_r13 {Q : Exit → Act → World → Prop} {a : Act} {w : World} (w0 : World) (g4 : Nat) (L : List Res) (S : Held w0 w (blkR g4 36 zeroN :: L)) (hsz : a.tmps.size = 82) (o4 : Sl a 4 (.pointer (some ⟨g4, 0, none⟩)))
    (hend : ∀ (a' : Act) (W : World), Same a a' [80, 5] → Sl a' 5 (.int .i64 (380 : Int)) → (Held w0 W (blkR g4 36 zeroN :: L)) → Q .normal a' W) : (Code.region 13 (opsOf 13 Tryd.f36).toArray false).wp Tryd.prog Q a w := by
  refine wp_region_lit (l := (opsOf 13 Tryd.f36)) ?_
  conv => arg 4; whnf
  unfold Sl at o4
  have S := Lib.hid S
  have HB0 := Lib.hid Tryd.built_noteZ
  have hzz : Hid (zeroN.size = 34) := Lib.hid rfl
  have hOz : Hid (∀ u, u ∈ zeroN.toList → u.oneCell' = true) := Lib.hid (ntA_one (v := .slice none 0 0) rfl)
  generalize zeroN = cz at *
  go_wp2_with (first | (refine wpList_buildC rfl 36 _ rfl [] (by simp [Act.eval, Act.put]) _ HB0.out ?_) | (refine wpList_store_blk rfl 36 (.tmp 4) (.tmp 80) rfl g4 (by simp [Act.eval, Act.put, hsz, o4]) cz (by simp [Act.eval, Act.put, hsz]) 36 _ (S.out.at_ (l1 := [])) (by rw [hzz.out]; exact Tryd.infoNote) (by rw [hzz.out]) hOz.out ?_; intro w7 b7 k7; have S7 := Lib.hid (Held.setBlk (l1 := []) S.out b7 k7); clear b7 k7))
  try simp only [Act.put]
  exact hend _ _ (by repeat (first | (with_reducible refine same_set (by decide) ?_) | (with_reducible exact same_nil))) (by unfold Sl; first | (simp [hsz]; done) | (simp [hsz]; omega)) (S7.out)
-- END rjn13
-- REG rjn14
set_option maxRecDepth 100000 in
set_option maxHeartbeats 2000000 in
theorem rjn_r14 {Q : Exit → Act → World → Prop} {a : Act} {w : World} (w0 : World) (g6 g4 : Nat) (cn : Array Value) (hcn : cn.size = 34) (h1 : ∀ u, u ∈ cn.toList → u.oneCell' = true) (L : List Res) (S : Held w0 w (blkR g4 36 zeroN :: blkR g6 36 cn :: L)) (hsz : a.tmps.size = 82) (o4 : Sl a 4 (.pointer (some ⟨g4, 0, none⟩))) (o6 : Sl a 6 (.pointer (some ⟨g6, 0, none⟩)))
    (hend : ∀ (a' : Act) (W : World), Same a a' [81, 5] → Sl a' 5 (.int .i64 (0 : Int)) → (Held w0 W (blkR g4 36 cn :: blkR g6 36 cn :: L)) → Q .normal a' W) : (Code.region 14 (opsOf 14 Tryd.f36).toArray false).wp Tryd.prog Q a w := by
  refine wp_region_lit (l := (opsOf 14 Tryd.f36)) ?_
  conv => arg 4; whnf
  unfold Sl at o4 o6
  have S1 := Lib.hid S
  clear S
  have hz2 := Lib.hid hcn
  have HO := Lib.hid h1
  clear hcn h1
  go_wp2_with (first
    | (refine wpList_load_blk rfl 36 (.tmp 6) rfl g6 (by simp [Act.eval, Act.put, hsz, o6]) 36 _ (S1.out.at_ (l1 := [_])) _ Tryd.underlying36 rfl (by rw [hz2.out]; exact Tryd.infoNote) ?_)
    | (refine wpList_store_blk rfl 36 (.tmp 4) (.tmp 81) rfl g4 (by simp [Act.eval, Act.put, hsz, o4]) cn (by simp [Act.eval, Act.put, hsz]) 36 _ (S1.out.at_ (l1 := [])) (by rw [hz2.out]; exact Tryd.infoNote) (by rw [hz2.out]; rfl) HO.out ?_; intro w7 b7 k7; have S7 := Lib.hid (Held.setBlk (l1 := []) S1.out b7 k7); clear b7 k7))
  try simp only [Act.put]
  exact hend _ _ (by repeat (first | (with_reducible refine same_set (by decide) ?_) | (with_reducible exact same_nil))) (by unfold Sl; first | (simp [hsz]; done) | (simp [hsz]; omega)) (S7.out)
-- END rjn14
-- REG rjn3
set_option maxRecDepth 100000 in
set_option maxHeartbeats 2000000 in
theorem rjn_r3 {Q : Exit → Act → World → Prop} {a : Act} {w : World} (w0 : World) (z : Int) (h : List UInt8) (hh : h.length = 32) (A : Option Addr) (c : Nat) (l : List SigD) (hok : SgOk l) (hll : l.length ≤ 64) (hv : ∀ V, Kp [] w0 V → Rd V 33 (.slice A l.length c) l.length (sgsC l)) (g2 : Nat) (L : List Res) (hsz : a.tmps.size = 82) (o2 : Sl a 2 (.pointer (some ⟨g2, 0, none⟩)))
    (S0 : Held w0 w (blkR g2 36 (ntA z h (.slice A l.length c)) :: L))
    (hend : ∀ (a' : Act) (vs : Nat → Value) (gs : Nat → Nat) (W : World), Same a a' [25, 26, 27, 28, 29, 30, 6] → Sl a' 6 (.pointer (some ⟨gs 6, 0, none⟩)) → Held w0 W (rowR 81 33 (vs 4) l.length (sgsC l) :: blkR (gs 6) 36 (ntA z h (vs 4)) :: blkR g2 36 (ntA z h (.slice A l.length c)) :: L) → Q .normal a' W) : (Code.region 3 (opsOf 3 Tryd.f36).toArray true).wp Tryd.prog Q a w := by
  have hap : apartB (opsOf 3 Tryd.f36) = true := by kernel_rfl
  refine wp_region_sep (Γ := Nat) (l := (opsOf 3 Tryd.f36)) 2 [0, 1, 2, 3, 4, 5, 7, 8, 9]
    (fun i vs gs => match i with | 0 => vs 0 = .pointer (some ⟨g2, 0, none⟩) | 1 => vs 1 = .agg (ptA z h) | 2 => vs 2 = .pointer (some ⟨g2, 33, none⟩) | 3 => vs 3 = .slice A l.length c | 5 => vs 5 = .agg (ntA z h (vs 4)) | 6 => vs 6 = .pointer (some ⟨gs 6, 0, none⟩) | _ => True)
    (fun i vs gs => match i with | 4 => [rowR 81 33 (vs 4) l.length (sgsC l)] | 6 => [blkR (gs 6) 36 zeroN] | 7 => [blkR (gs 6) 36 (ntA z h (vs 4))] | 8 => [blkR g2 36 (ntA z h (.slice A l.length c))] | 9 => L | _ => [])
    (fun i => match i with | 7 => [6] | _ => []) (fun i => match i with | 1 => [8] | 3 => [8] | 5 => [4] | 7 => [4] | _ => []) S0 (by kernel_rfl) hap (by kernel_rfl) (by kernel_rfl) (fun i => match i with | 0 => [0] | 1 => [1] | 2 => [2] | 3 => [3] | 4 => [4] | 5 => [4, 5] | 6 => [6] | 7 => [4, 6] | _ => []) (by kernel_rfl) ?_ (by kernel_rfl) ?_ ?_ ?_
  · intro s vs vs' gs gs' h
    iterate 10 (rcases s with _ | s; · (first | exact ⟨rfl, id⟩ | (simp only [List.mem_cons, List.not_mem_nil, or_false, forall_eq_or_imp, forall_eq] at h; simp [h])))
    exact ⟨rfl, id⟩
  · simp only [List.range, List.range.loop, List.flatMap_cons, List.flatMap_nil, List.append_nil]
    exact List.Perm.refl _
  · clear S0 hend
    refine ⟨?_, ?_, ?_, ?_, ?_, ?_, ?_, ?_, trivial⟩
    · intro vs gs A' W LF hA S hR hd hu K hK
      replace hK := hK default
      have e2 : A'.tmps[2]?.getD undef = .pointer (some ⟨g2, 0, none⟩) := slot_out hA hap (Nat.lt_of_lt_of_eq (Nat.le_of_ble_eq_true rfl : 2 < 82) hsz.symm) (by kernel_rfl) o2
      clear hA o2
      go_step
      exact hK _ _ S rfl
    · intro vs gs A' W LF hA S hR hd hu K hK
      replace hK := hK default
      have f0 : vs 0 = .pointer (some ⟨g2, 0, none⟩) := hd 0 (by kernel_rfl)
      have e25 : A'.tmps[25]?.getD undef = vs 0 := slot_in hA hap (Nat.lt_of_lt_of_eq (Nat.le_of_ble_eq_true rfl : 25 < 82) hsz.symm) (by kernel_rfl)
      rw [f0] at e25
      clear hA o2
      refine op_runs (v := .agg (ptA z h)) (w' := W) (exec_load rfl (by simpa [Act.eval] using e25) (run_loadAt_agg W (⟨g2, 0, none⟩) 33 (ptA z h).toList _ (nt_pointAt (show Blk W g2 36 (ntA z h (.slice A l.length c)) from S.ok (blkR g2 36 (ntA z h (.slice A l.length c))) (hR 8 (List.mem_singleton.2 rfl) _ (List.mem_singleton.2 rfl)))) Tryd.underlying33 rfl (by rw [Array.length_toList, ptA_size hh]; exact Tryd.infoPointP))) ?_
      exact hK _ _ S rfl
    · intro vs gs A' W LF hA S hR hd hu K hK
      replace hK := hK default
      have e2 : A'.tmps[2]?.getD undef = .pointer (some ⟨g2, 0, none⟩) := slot_out hA hap (Nat.lt_of_lt_of_eq (Nat.le_of_ble_eq_true rfl : 2 < 82) hsz.symm) (by kernel_rfl) o2
      clear hA o2
      go_step
      exact hK _ _ S rfl
    · intro vs gs A' W LF hA S hR hd hu K hK
      replace hK := hK default
      have f2 : vs 2 = .pointer (some ⟨g2, 33, none⟩) := hd 2 (by kernel_rfl)
      have e27 : A'.tmps[27]?.getD undef = vs 2 := slot_in hA hap (Nat.lt_of_lt_of_eq (Nat.le_of_ble_eq_true rfl : 27 < 82) hsz.symm) (by kernel_rfl)
      rw [f2] at e27
      clear hA o2
      have c33 : W.cell? ⟨g2, 33, none⟩ = some (.slice A l.length c) := by rw [(show Blk W g2 36 (ntA z h (.slice A l.length c)) from S.ok (blkR g2 36 (ntA z h (.slice A l.length c))) (hR 8 (List.mem_singleton.2 rfl) _ (List.mem_singleton.2 rfl))).cell]; exact ntA_sigs hh
      go_step
      exact hK _ _ S rfl
    · intro vs gs A' W LF hA S hR hd hu K hK
      replace hK := hK default
      have f3 : vs 3 = .slice A l.length c := hd 3 (by kernel_rfl)
      have e28 : A'.tmps[28]?.getD undef = vs 3 := slot_in hA hap (Nat.lt_of_lt_of_eq (Nat.le_of_ble_eq_true rfl : 28 < 82) hsz.symm) (by kernel_rfl)
      rw [f3] at e28
      clear hA o2
      exact op_app_nil (.const (.slice none 0 0)) (.tmp 28) 34 81 rfl Tryd.infoSigZ Tryd.underlying34 rfl (by decide) rfl S (.slice A l.length c) l.length (sgsC l) (by simpa [Act.eval] using e28) (hv _ S.k) (sgsC_one _) (by unfold maxLen; omega) (by omega) (fun v' w' S' => hK v' w' S' trivial)
    · intro vs gs A' W LF hA S hR hd hu K hK
      replace hK := hK default
      have f1 : vs 1 = .agg (ptA z h) := hd 1 (by kernel_rfl)
      have e26 : A'.tmps[26]?.getD undef = vs 1 := slot_in hA hap (Nat.lt_of_lt_of_eq (Nat.le_of_ble_eq_true rfl : 26 < 82) hsz.symm) (by kernel_rfl)
      rw [f1] at e26
      have e29 : A'.tmps[29]?.getD undef = vs 4 := slot_in hA hap (Nat.lt_of_lt_of_eq (Nat.le_of_ble_eq_true rfl : 29 < 82) hsz.symm) (by kernel_rfl)
      clear hA o2
      obtain ⟨Av, cv, hv4, -, -⟩ := ow_form (show Ow W 81 33 (vs 4) l.length (sgsC l) from S.ok (rowR 81 33 (vs 4) l.length (sgsC l)) (hR 4 (List.mem_singleton.2 rfl) _ (List.mem_singleton.2 rfl)))
      rw [hv4] at e29
      refine op_build 36 _ rfl [(0, .agg (ptA z h)), (1, .slice Av l.length cv)] (by simp [Act.eval, e26, e29]) _ (Tryd.built_note2 z h hh Av l.length cv) ?_
      rw [← hv4]
      exact hK _ _ S rfl
    · intro vs gs A' W LF hA S hR hd hu K hK
      clear hA o2
      go_step
      exact hK W.heap.size _ _ (S.newBlk 36 zeroN) rfl
    · intro vs gs A' W LF hA S hR hd hu K hK
      replace hK := hK default
      have f6 : vs 6 = .pointer (some ⟨gs 6, 0, none⟩) := hd 6 (by kernel_rfl)
      have e6 : A'.tmps[6]?.getD undef = vs 6 := slot_in hA hap (Nat.lt_of_lt_of_eq (Nat.le_of_ble_eq_true rfl : 6 < 82) hsz.symm) (by kernel_rfl)
      rw [f6] at e6
      have f5 : vs 5 = .agg (ntA z h (vs 4)) := hd 5 (by kernel_rfl)
      have e30 : A'.tmps[30]?.getD undef = vs 5 := slot_in hA hap (Nat.lt_of_lt_of_eq (Nat.le_of_ble_eq_true rfl : 30 < 82) hsz.symm) (by kernel_rfl)
      rw [f5] at e30
      clear hA o2
      have S1 : Held w0 W (blkR (gs 6) 36 zeroN :: LF) := S
      obtain ⟨Av, cv, hv4, -, -⟩ := ow_form (show Ow W 81 33 (vs 4) l.length (sgsC l) from S.ok (rowR 81 33 (vs 4) l.length (sgsC l)) (List.mem_cons_of_mem _ (hR 4 (List.mem_singleton.2 rfl) _ (List.mem_singleton.2 rfl))))
      refine op_store_blkS (.tmp 6) (.tmp 30) 36 rfl (gs 6) (by simpa [Act.eval] using e6) (ntA z h (vs 4)) (by simpa [Act.eval] using e30) 36 zeroN S1 (by rw [ntA_size hh]; exact Tryd.infoNote) (by rw [ntA_size hh] <;> rfl) (ntA_one (by rw [hv4]; rfl)) ?_
      intro w' S2
      exact hK _ _ S2 trivial
  · intro vs gs W S hp
    have S : Held w0 W (rowR 81 33 (vs 4) l.length (sgsC l) :: blkR (gs 6) 36 (ntA z h (vs 4)) :: blkR g2 36 (ntA z h (.slice A l.length c)) :: L) := by simpa only [List.flatMap_cons, List.flatMap_nil, List.append_nil, List.nil_append, List.cons_append, List.append_assoc] using S
    rw [show putAll vs (opsOf 3 Tryd.f36) 0 a = putD [(25, vs 0), (26, vs 1), (27, vs 2), (28, vs 3), (29, vs 4), (30, vs 5), (6, vs 6)] a from by kernel_rfl]
    exact hend _ vs gs W (same_putD _ a) (sl_putD _ a 6 _ (by rw [show vs 6 = _ from hp 6 (Nat.le_of_ble_eq_true (by kernel_rfl))]; kernel_rfl)) S
-- END rjn3
-- REG rjn4
set_option maxRecDepth 100000 in
set_option maxHeartbeats 2000000 in
theorem rjn_r4 {Q : Exit → Act → World → Prop} {a : Act} {w : World}  (hsz : a.tmps.size = 82) 
    (hend : ∀ (a' : Act), Same a a' [7] → Sl a' 7 (.int .i64 ((0 : Nat) : Int)) → Q .normal a' (w)) : (Code.region 4 (opsOf 4 Tryd.f36).toArray false).wp Tryd.prog Q a w := by
  refine wp_region_lit (l := (opsOf 4 Tryd.f36)) ?_
  conv => arg 4; whnf
  go_wp2_with fail
  try simp only [Act.put]
  exact hend _ (by repeat (first | (with_reducible refine same_set (by decide) ?_) | (with_reducible exact same_nil))) (by unfold Sl; first | (simp [hsz]; done) | (simp [hsz]; omega))
-- END rjn4
-- REG rjn5
set_option maxRecDepth 100000 in
set_option maxHeartbeats 2000000 in
theorem rjn_r5 {Q : Exit → Act → World → Prop} {a : Act} {w : World} (y : Int) (g : List UInt8) (hg : g.length = 32) (B : Option Addr) (n e g3 k : Nat) (hb : Blk w g3 36 (ntA y g (.slice B n e))) (hsz : a.tmps.size = 82) (o3 : Sl a 3 (.pointer (some ⟨g3, 0, none⟩))) (o7 : Sl a 7 (.int .i64 ((k : Nat) : Int)))
    (hend : ∀ (a' : Act), Same a a' [31, 32, 33, 34, 35] → Sl a' 35 (.bool (decide (k < n))) → Q .normal a' (w)) : (Code.region 5 (opsOf 5 Tryd.f36).toArray false).wp Tryd.prog Q a w := by
  refine wp_region_lit (l := (opsOf 5 Tryd.f36)) ?_
  conv => arg 4; whnf
  unfold Sl at o3 o7
  have c33 : w.cell? ⟨g3, 33, none⟩ = some (.slice B n e) := by rw [hb.cell]; exact ntA_sigs hg
  go_wp2_with fail
  try simp only [Act.put]
  exact hend _ (by repeat (first | (with_reducible refine same_set (by decide) ?_) | (with_reducible exact same_nil))) (by unfold Sl; first | (simp [hsz]; done) | (simp [hsz]; omega))
-- END rjn5
-- REG rjn7
set_option maxRecDepth 100000 in
set_option maxHeartbeats 2000000 in
theorem rjn_r7 {Q : Exit → Act → World → Prop} {a : Act} {w : World} (z : Int) (h : List UInt8) (hh : h.length = 32) (A : Option Addr) (c : Nat) (l : List SigD) (hok : SgOk l) (hll : l.length ≤ 64) (y : Int) (g : List UInt8) (hg : g.length = 32) (ad : Addr) (n e k : Nat) (hk : k < n) (g2 g3 : Nat) (hb2 : Blk w.drew g2 36 (ntA z h (.slice A l.length c))) (hb3 : Blk w.drew g3 36 (ntA y g (.slice (some ad) n e))) (ns : ByteArray) (hc : ∀ V, Kp [] w.drew V → V.cell? (ad.add (k * 33)) = some (.string ns)) (hv : ∀ V, Kp [] w.drew V → Rd V 33 (.slice A l.length c) l.length (sgsC l)) (hsz : a.tmps.size = 82) (o2 : Sl a 2 (.pointer (some ⟨g2, 0, none⟩))) (o3 : Sl a 3 (.pointer (some ⟨g3, 0, none⟩))) (o7 : Sl a 7 (.int .i64 ((k : Nat) : Int)))
    (hend : ∀ (a' : Act) (W : World), Same a a' [38, 39, 40, 41, 42, 43, 44, 45, 46, 8] → Kp [] w.drew W → Sl a' 8 (.int .i64 (findN ns.toList l)) → Q .normal a' W) : (Code.region 7 (opsOf 7 Tryd.f36).toArray true).wp Tryd.prog Q a w := by
  have hap : apartB (opsOf 7 Tryd.f36) = true := by kernel_rfl
  refine wp_region_inv (l := (opsOf 7 Tryd.f36)) (fun i v W => match i with | 0 => v = .pointer (some ⟨g2, 33, none⟩) | 1 => v = .slice A l.length c | 2 => v = .pointer (some ⟨g3, 33, none⟩) | 3 => v = .slice (some ad) n e | 4 => v = .int .i64 ((k : Nat) : Int) | 5 => v = .pointer (some (ad.add (k * 33))) | 6 => v = .pointer (some (ad.add (k * 33))) | 7 => v = .string ns | 8 => v = .int .i64 (findN ns.toList l) | 9 => v = .int .i64 (findN ns.toList l) | _ => True) (by kernel_rfl) hap (by kernel_rfl) ?_ ?_ ?_
  · intro i v W W' h _
    iterate 10 (rcases i with _ | i; · exact h)
    exact h
  · refine ⟨?_, ?_, ?_, ?_, ?_, ?_, ?_, ?_, ?_, ?_, trivial⟩
    · intro vs A' W hA hW hd K hK
      have e2 : A'.tmps[2]?.getD undef = .pointer (some ⟨g2, 0, none⟩) := slot_out hA hap (Nat.lt_of_lt_of_eq (Nat.le_of_ble_eq_true rfl : 2 < 82) hsz.symm) (by kernel_rfl) o2
      clear hA hd o2 o3 o7
      go_step
      exact hK _ _ (Kp.refl _ _) rfl
    · intro vs A' W hA hW hd K hK
      have f0 : vs 0 = .pointer (some ⟨g2, 33, none⟩) := hd 0 (by kernel_rfl)
      have e38 : A'.tmps[38]?.getD undef = vs 0 := slot_in hA hap (Nat.lt_of_lt_of_eq (Nat.le_of_ble_eq_true rfl : 38 < 82) hsz.symm) (by kernel_rfl)
      rw [f0] at e38
      clear hA hd o2 o3 o7
      have c0 : W.cell? ⟨g2, 33, none⟩ = some (.slice A l.length c) := by rw [(hb2.kp hW (by simp)).cell]; exact ntA_sigs hh
      go_step
      exact hK _ _ (Kp.refl _ _) rfl
    · intro vs A' W hA hW hd K hK
      have e3 : A'.tmps[3]?.getD undef = .pointer (some ⟨g3, 0, none⟩) := slot_out hA hap (Nat.lt_of_lt_of_eq (Nat.le_of_ble_eq_true rfl : 3 < 82) hsz.symm) (by kernel_rfl) o3
      clear hA hd o2 o3 o7
      go_step
      exact hK _ _ (Kp.refl _ _) rfl
    · intro vs A' W hA hW hd K hK
      have f2 : vs 2 = .pointer (some ⟨g3, 33, none⟩) := hd 2 (by kernel_rfl)
      have e40 : A'.tmps[40]?.getD undef = vs 2 := slot_in hA hap (Nat.lt_of_lt_of_eq (Nat.le_of_ble_eq_true rfl : 40 < 82) hsz.symm) (by kernel_rfl)
      rw [f2] at e40
      clear hA hd o2 o3 o7
      have c0 : W.cell? ⟨g3, 33, none⟩ = some (.slice (some ad) n e) := by rw [(hb3.kp hW (by simp)).cell]; exact ntA_sigs hg
      go_step
      exact hK _ _ (Kp.refl _ _) rfl
    · intro vs A' W hA hW hd K hK
      have e7 : A'.tmps[7]?.getD undef = .int .i64 ((k : Nat) : Int) := slot_out hA hap (Nat.lt_of_lt_of_eq (Nat.le_of_ble_eq_true rfl : 7 < 82) hsz.symm) (by kernel_rfl) o7
      clear hA hd o2 o3 o7
      go_step
      exact hK _ _ (Kp.refl _ _) rfl
    · intro vs A' W hA hW hd K hK
      have f3 : vs 3 = .slice (some ad) n e := hd 3 (by kernel_rfl)
      have e41 : A'.tmps[41]?.getD undef = vs 3 := slot_in hA hap (Nat.lt_of_lt_of_eq (Nat.le_of_ble_eq_true rfl : 41 < 82) hsz.symm) (by kernel_rfl)
      rw [f3] at e41
      have f4 : vs 4 = .int .i64 ((k : Nat) : Int) := hd 4 (by kernel_rfl)
      have e42 : A'.tmps[42]?.getD undef = vs 4 := slot_in hA hap (Nat.lt_of_lt_of_eq (Nat.le_of_ble_eq_true rfl : 42 < 82) hsz.symm) (by kernel_rfl)
      rw [f4] at e42
      clear hA hd o2 o3 o7
      have h0 : 0 ≤ (k : Int) := by omega
      have h1 : (k : Int) < (n : Int) := by omega
      go_step
      exact hK _ _ (Kp.refl _ _) rfl
    · intro vs A' W hA hW hd K hK
      have f5 : vs 5 = .pointer (some (ad.add (k * 33))) := hd 5 (by kernel_rfl)
      have e43 : A'.tmps[43]?.getD undef = vs 5 := slot_in hA hap (Nat.lt_of_lt_of_eq (Nat.le_of_ble_eq_true rfl : 43 < 82) hsz.symm) (by kernel_rfl)
      rw [f5] at e43
      clear hA hd o2 o3 o7
      go_step
      exact hK _ _ (Kp.refl _ _) rfl
    · intro vs A' W hA hW hd K hK
      have f6 : vs 6 = .pointer (some (ad.add (k * 33))) := hd 6 (by kernel_rfl)
      have e44 : A'.tmps[44]?.getD undef = vs 6 := slot_in hA hap (Nat.lt_of_lt_of_eq (Nat.le_of_ble_eq_true rfl : 44 < 82) hsz.symm) (by kernel_rfl)
      rw [f6] at e44
      clear hA hd o2 o3 o7
      have c0 := hc _ hW
      go_step
      exact hK _ _ (Kp.refl _ _) rfl
    · intro vs A' W hA hW hd K hK
      have f1 : vs 1 = .slice A l.length c := hd 1 (by kernel_rfl)
      have e39 : A'.tmps[39]?.getD undef = vs 1 := slot_in hA hap (Nat.lt_of_lt_of_eq (Nat.le_of_ble_eq_true rfl : 39 < 82) hsz.symm) (by kernel_rfl)
      rw [f1] at e39
      have f7 : vs 7 = .string ns := hd 7 (by kernel_rfl)
      have e45 : A'.tmps[45]?.getD undef = vs 7 := slot_in hA hap (Nat.lt_of_lt_of_eq (Nat.le_of_ble_eq_true rfl : 45 < 82) hsz.symm) (by kernel_rfl)
      rw [f7] at e45
      clear hA hd o2 o3 o7
      go_step
      refine (sfind_any A c l hok (by omega) ns W (hv _ hW)).mono ?_
      rintro e w' ⟨rfl, rfl⟩
      exact hK _ _ (Kp.refl _ _) rfl
    · intro vs A' W hA hW hd K hK
      have f8 : vs 8 = .int .i64 (findN ns.toList l) := hd 8 (by kernel_rfl)
      have e46 : A'.tmps[46]?.getD undef = vs 8 := slot_in hA hap (Nat.lt_of_lt_of_eq (Nat.le_of_ble_eq_true rfl : 46 < 82) hsz.symm) (by kernel_rfl)
      rw [f8] at e46
      clear hA hd o2 o3 o7
      go_step
      exact hK _ _ (Kp.refl _ _) rfl
  · intro vs W hW hp
    rw [show putAll vs (opsOf 7 Tryd.f36) 0 a = putD [(38, vs 0), (39, vs 1), (40, vs 2), (41, vs 3), (42, vs 4), (43, vs 5), (44, vs 6), (45, vs 7), (46, vs 8), (8, vs 9)] a from by kernel_rfl]
    exact hend _ W (same_putD _ a) hW (sl_putD _ a 8 _ (by rw [show vs 9 = _ from hp 9 (Nat.le_of_ble_eq_true (by kernel_rfl))]; kernel_rfl))
-- END rjn7
-- REG rjn8N
set_option maxRecDepth 100000 in
set_option maxHeartbeats 2000000 in
theorem rjn_r8N {Q : Exit → Act → World → Prop} {a : Act} {w : World}  (hsz : a.tmps.size = 82) (o8 : Sl a 8 (.int .i64 (-1 : Int)))
    (hend : ∀ (a' : Act) (W : World), Same a a' [47, 48, 49, 50, 51, 52, 53, 54, 55, 56, 57, 58, 59, 60, 61, 62, 63] → Kp [] w.drew W → Sl a' 63 (.bool false) → Q .normal a' W) : (Code.region 8 (opsOf 8 Tryd.f36).toArray true).wp Tryd.prog Q a w := by
  have hap : apartB (opsOf 8 Tryd.f36) = true := by kernel_rfl
  refine wp_region_invG (l := (opsOf 8 Tryd.f36)) (fun i v W => match i with | 0 => v = .int .i64 (-1 : Int) | 1 => v = .bool false | 2 => v = .bool false | 16 => v = .bool false | _ => True) (by kernel_rfl) hap (by kernel_rfl) ?_ ?_ ?_
  · intro i v W W' h _
    iterate 17 (rcases i with _ | i; · exact h)
    exact h
  · refine ⟨?_, ?_, ?_, ?_, ?_, ?_, ?_, ?_, ?_, ?_, ?_, ?_, ?_, ?_, ?_, ?_, ?_, trivial⟩
    · intro vs A' W hA hW hd K hK
      refine wpOp_free _ rfl rfl ?_
      conv => arg 2; whnf
      have e8 : A'.tmps[8]?.getD undef = .int .i64 (-1 : Int) := slot_out hA hap (Nat.lt_of_lt_of_eq (Nat.le_of_ble_eq_true rfl : 8 < 82) hsz.symm) (by kernel_rfl) o8
      clear hA hd o8
      go_step
      exact hK _ _ (Kp.refl _ _) rfl
    · intro vs A' W hA hW hd K hK
      refine wpOp_free _ rfl rfl ?_
      conv => arg 2; whnf
      have f0 : vs 0 = .int .i64 (-1 : Int) := hd 0 (by kernel_rfl)
      have e47 : A'.tmps[47]?.getD undef = vs 0 := slot_in hA hap (Nat.lt_of_lt_of_eq (Nat.le_of_ble_eq_true rfl : 47 < 82) hsz.symm) (by kernel_rfl)
      rw [f0] at e47
      clear hA hd o8
      go_step
      exact hK _ _ (Kp.refl _ _) rfl
    · intro vs A' W hA hW hd K hK
      refine wpOp_free _ rfl rfl ?_
      conv => arg 2; whnf
      have f1 : vs 1 = .bool false := hd 1 (by kernel_rfl)
      have e48 : A'.tmps[48]?.getD undef = vs 1 := slot_in hA hap (Nat.lt_of_lt_of_eq (Nat.le_of_ble_eq_true rfl : 48 < 82) hsz.symm) (by kernel_rfl)
      rw [f1] at e48
      clear hA hd o8
      go_step
      exact hK _ _ (Kp.refl _ _) rfl
    · intro vs A' W hA hW hd K hK
      have f2 : vs 2 = .bool false := hd 2 (by kernel_rfl)
      have e49 : A'.tmps[49]?.getD undef = vs 2 := slot_in hA hap (Nat.lt_of_lt_of_eq (Nat.le_of_ble_eq_true rfl : 49 < 82) hsz.symm) (by kernel_rfl)
      rw [f2] at e49
      refine wpOp_skip _ rfl 2 49 true rfl rfl e49 ?_
      exact hK _ _ (Kp.refl _ _) trivial
    · intro vs A' W hA hW hd K hK
      have f2 : vs 2 = .bool false := hd 2 (by kernel_rfl)
      have e49 : A'.tmps[49]?.getD undef = vs 2 := slot_in hA hap (Nat.lt_of_lt_of_eq (Nat.le_of_ble_eq_true rfl : 49 < 82) hsz.symm) (by kernel_rfl)
      rw [f2] at e49
      refine wpOp_skip _ rfl 2 49 true rfl rfl e49 ?_
      exact hK _ _ (Kp.refl _ _) trivial
    · intro vs A' W hA hW hd K hK
      have f2 : vs 2 = .bool false := hd 2 (by kernel_rfl)
      have e49 : A'.tmps[49]?.getD undef = vs 2 := slot_in hA hap (Nat.lt_of_lt_of_eq (Nat.le_of_ble_eq_true rfl : 49 < 82) hsz.symm) (by kernel_rfl)
      rw [f2] at e49
      refine wpOp_skip _ rfl 2 49 true rfl rfl e49 ?_
      exact hK _ _ (Kp.refl _ _) trivial
    · intro vs A' W hA hW hd K hK
      have f2 : vs 2 = .bool false := hd 2 (by kernel_rfl)
      have e49 : A'.tmps[49]?.getD undef = vs 2 := slot_in hA hap (Nat.lt_of_lt_of_eq (Nat.le_of_ble_eq_true rfl : 49 < 82) hsz.symm) (by kernel_rfl)
      rw [f2] at e49
      refine wpOp_skip _ rfl 2 49 true rfl rfl e49 ?_
      exact hK _ _ (Kp.refl _ _) trivial
    · intro vs A' W hA hW hd K hK
      have f2 : vs 2 = .bool false := hd 2 (by kernel_rfl)
      have e49 : A'.tmps[49]?.getD undef = vs 2 := slot_in hA hap (Nat.lt_of_lt_of_eq (Nat.le_of_ble_eq_true rfl : 49 < 82) hsz.symm) (by kernel_rfl)
      rw [f2] at e49
      refine wpOp_skip _ rfl 2 49 true rfl rfl e49 ?_
      exact hK _ _ (Kp.refl _ _) trivial
    · intro vs A' W hA hW hd K hK
      have f2 : vs 2 = .bool false := hd 2 (by kernel_rfl)
      have e49 : A'.tmps[49]?.getD undef = vs 2 := slot_in hA hap (Nat.lt_of_lt_of_eq (Nat.le_of_ble_eq_true rfl : 49 < 82) hsz.symm) (by kernel_rfl)
      rw [f2] at e49
      refine wpOp_skip _ rfl 2 49 true rfl rfl e49 ?_
      exact hK _ _ (Kp.refl _ _) trivial
    · intro vs A' W hA hW hd K hK
      have f2 : vs 2 = .bool false := hd 2 (by kernel_rfl)
      have e49 : A'.tmps[49]?.getD undef = vs 2 := slot_in hA hap (Nat.lt_of_lt_of_eq (Nat.le_of_ble_eq_true rfl : 49 < 82) hsz.symm) (by kernel_rfl)
      rw [f2] at e49
      refine wpOp_skip _ rfl 2 49 true rfl rfl e49 ?_
      exact hK _ _ (Kp.refl _ _) trivial
    · intro vs A' W hA hW hd K hK
      have f2 : vs 2 = .bool false := hd 2 (by kernel_rfl)
      have e49 : A'.tmps[49]?.getD undef = vs 2 := slot_in hA hap (Nat.lt_of_lt_of_eq (Nat.le_of_ble_eq_true rfl : 49 < 82) hsz.symm) (by kernel_rfl)
      rw [f2] at e49
      refine wpOp_skip _ rfl 2 49 true rfl rfl e49 ?_
      exact hK _ _ (Kp.refl _ _) trivial
    · intro vs A' W hA hW hd K hK
      have f2 : vs 2 = .bool false := hd 2 (by kernel_rfl)
      have e49 : A'.tmps[49]?.getD undef = vs 2 := slot_in hA hap (Nat.lt_of_lt_of_eq (Nat.le_of_ble_eq_true rfl : 49 < 82) hsz.symm) (by kernel_rfl)
      rw [f2] at e49
      refine wpOp_skip _ rfl 2 49 true rfl rfl e49 ?_
      exact hK _ _ (Kp.refl _ _) trivial
    · intro vs A' W hA hW hd K hK
      have f2 : vs 2 = .bool false := hd 2 (by kernel_rfl)
      have e49 : A'.tmps[49]?.getD undef = vs 2 := slot_in hA hap (Nat.lt_of_lt_of_eq (Nat.le_of_ble_eq_true rfl : 49 < 82) hsz.symm) (by kernel_rfl)
      rw [f2] at e49
      refine wpOp_skip _ rfl 2 49 true rfl rfl e49 ?_
      exact hK _ _ (Kp.refl _ _) trivial
    · intro vs A' W hA hW hd K hK
      have f2 : vs 2 = .bool false := hd 2 (by kernel_rfl)
      have e49 : A'.tmps[49]?.getD undef = vs 2 := slot_in hA hap (Nat.lt_of_lt_of_eq (Nat.le_of_ble_eq_true rfl : 49 < 82) hsz.symm) (by kernel_rfl)
      rw [f2] at e49
      refine wpOp_skip _ rfl 2 49 true rfl rfl e49 ?_
      exact hK _ _ (Kp.refl _ _) trivial
    · intro vs A' W hA hW hd K hK
      have f2 : vs 2 = .bool false := hd 2 (by kernel_rfl)
      have e49 : A'.tmps[49]?.getD undef = vs 2 := slot_in hA hap (Nat.lt_of_lt_of_eq (Nat.le_of_ble_eq_true rfl : 49 < 82) hsz.symm) (by kernel_rfl)
      rw [f2] at e49
      refine wpOp_skip _ rfl 2 49 true rfl rfl e49 ?_
      exact hK _ _ (Kp.refl _ _) trivial
    · intro vs A' W hA hW hd K hK
      have f2 : vs 2 = .bool false := hd 2 (by kernel_rfl)
      have e49 : A'.tmps[49]?.getD undef = vs 2 := slot_in hA hap (Nat.lt_of_lt_of_eq (Nat.le_of_ble_eq_true rfl : 49 < 82) hsz.symm) (by kernel_rfl)
      rw [f2] at e49
      refine wpOp_skip _ rfl 2 49 true rfl rfl e49 ?_
      exact hK _ _ (Kp.refl _ _) trivial
    · intro vs A' W hA hW hd K hK
      refine wpOp_free _ rfl rfl ?_
      conv => arg 2; whnf
      have f2 : vs 2 = .bool false := hd 2 (by kernel_rfl)
      have e49 : A'.tmps[49]?.getD undef = vs 2 := slot_in hA hap (Nat.lt_of_lt_of_eq (Nat.le_of_ble_eq_true rfl : 49 < 82) hsz.symm) (by kernel_rfl)
      rw [f2] at e49
      have e62 : A'.tmps[62]?.getD undef = vs 15 := slot_in hA hap (Nat.lt_of_lt_of_eq (Nat.le_of_ble_eq_true rfl : 62 < 82) hsz.symm) (by kernel_rfl)
      clear hA hd o8
      go_step
      exact hK _ _ (Kp.refl _ _) rfl
  · intro vs W hW hp
    rw [show putAll vs (opsOf 8 Tryd.f36) 0 a = putD [(47, vs 0), (48, vs 1), (49, vs 2), (50, vs 3), (51, vs 4), (52, vs 5), (53, vs 6), (54, vs 7), (55, vs 8), (56, vs 9), (57, vs 10), (58, vs 11), (59, vs 12), (60, vs 13), (61, vs 14), (62, vs 15), (63, vs 16)] a from by kernel_rfl]
    exact hend _ W (same_putD _ a) hW (sl_putD _ a 63 _ (by rw [show vs 16 = _ from hp 16 (Nat.le_of_ble_eq_true (by kernel_rfl))]; kernel_rfl))
-- END rjn8N
-- REG rjn8Y
set_option maxRecDepth 100000 in
set_option maxHeartbeats 2000000 in
theorem rjn_r8Y {Q : Exit → Act → World → Prop} {a : Act} {w : World} (z : Int) (h : List UInt8) (hh : h.length = 32) (a2 : Addr) (c : Nat) (l : List SigD) (hok : SgOk l) (hll : l.length ≤ 64) (y : Int) (g : List UInt8) (hg : g.length = 32) (ad : Addr) (n e k : Nat) (hk : k < n) (g2 g3 : Nat) (hb2 : Blk w.drew g2 36 (ntA z h (.slice (some a2) l.length c))) (hb3 : Blk w.drew g3 36 (ntA y g (.slice (some ad) n e))) (p : Nat) (hp : p < l.length) (x s : SigD) (hx : x.2.length = 32) (hs : s.2.length = 32) (hcx : ∀ V, Kp [] w.drew V → ∀ j u, (hashA x.2).toList[j]? = some u → V.cell? (((a2.add (p * 33)).add 1).add j) = some u) (hcs : ∀ V, Kp [] w.drew V → ∀ j u, (hashA s.2).toList[j]? = some u → V.cell? (((ad.add (k * 33)).add 1).add j) = some u) (hsz : a.tmps.size = 82) (o2 : Sl a 2 (.pointer (some ⟨g2, 0, none⟩))) (o3 : Sl a 3 (.pointer (some ⟨g3, 0, none⟩))) (o7 : Sl a 7 (.int .i64 ((k : Nat) : Int))) (o8 : Sl a 8 (.int .i64 ((p : Nat) : Int)))
    (hend : ∀ (a' : Act) (W : World), Same a a' [47, 48, 49, 50, 51, 52, 53, 54, 55, 56, 57, 58, 59, 60, 61, 62, 63] → Kp [] w.drew W → Sl a' 63 (.bool (!(x.2 == s.2))) → Q .normal a' W) : (Code.region 8 (opsOf 8 Tryd.f36).toArray true).wp Tryd.prog Q a w := by
  have hap : apartB (opsOf 8 Tryd.f36) = true := by kernel_rfl
  refine wp_region_invG (l := (opsOf 8 Tryd.f36)) (fun i v W => match i with | 0 => v = .int .i64 ((p : Nat) : Int) | 1 => v = .bool true | 2 => v = .bool true | 3 => v = .pointer (some ⟨g2, 33, none⟩) | 4 => v = .slice (some a2) l.length c | 5 => v = .int .i64 ((p : Nat) : Int) | 6 => v = .pointer (some (a2.add (p * 33))) | 7 => v = .pointer (some ((a2.add (p * 33)).add 1)) | 8 => v = .agg (hashA x.2) | 9 => v = .pointer (some ⟨g3, 33, none⟩) | 10 => v = .slice (some ad) n e | 11 => v = .int .i64 ((k : Nat) : Int) | 12 => v = .pointer (some (ad.add (k * 33))) | 13 => v = .pointer (some ((ad.add (k * 33)).add 1)) | 14 => v = .agg (hashA s.2) | 15 => v = .bool (!(x.2 == s.2)) | 16 => v = .bool (!(x.2 == s.2)) | _ => True) (by kernel_rfl) hap (by kernel_rfl) ?_ ?_ ?_
  · intro i v W W' h _
    iterate 17 (rcases i with _ | i; · exact h)
    exact h
  · refine ⟨?_, ?_, ?_, ?_, ?_, ?_, ?_, ?_, ?_, ?_, ?_, ?_, ?_, ?_, ?_, ?_, ?_, trivial⟩
    · intro vs A' W hA hW hd K hK
      refine wpOp_free _ rfl rfl ?_
      conv => arg 2; whnf
      have e8 : A'.tmps[8]?.getD undef = .int .i64 ((p : Nat) : Int) := slot_out hA hap (Nat.lt_of_lt_of_eq (Nat.le_of_ble_eq_true rfl : 8 < 82) hsz.symm) (by kernel_rfl) o8
      clear hA hd o2 o3 o7 o8
      go_step
      exact hK _ _ (Kp.refl _ _) rfl
    · intro vs A' W hA hW hd K hK
      refine wpOp_free _ rfl rfl ?_
      conv => arg 2; whnf
      have f0 : vs 0 = .int .i64 ((p : Nat) : Int) := hd 0 (by kernel_rfl)
      have e47 : A'.tmps[47]?.getD undef = vs 0 := slot_in hA hap (Nat.lt_of_lt_of_eq (Nat.le_of_ble_eq_true rfl : 47 < 82) hsz.symm) (by kernel_rfl)
      rw [f0] at e47
      clear hA hd o2 o3 o7 o8
      have hp0 : 0 ≤ (p : Int) := by omega
      go_step
      exact hK _ _ (Kp.refl _ _) (by first | rfl | (congr 1; exact decide_eq_true (by omega)))
    · intro vs A' W hA hW hd K hK
      refine wpOp_free _ rfl rfl ?_
      conv => arg 2; whnf
      have f1 : vs 1 = .bool true := hd 1 (by kernel_rfl)
      have e48 : A'.tmps[48]?.getD undef = vs 1 := slot_in hA hap (Nat.lt_of_lt_of_eq (Nat.le_of_ble_eq_true rfl : 48 < 82) hsz.symm) (by kernel_rfl)
      rw [f1] at e48
      clear hA hd o2 o3 o7 o8
      go_step
      exact hK _ _ (Kp.refl _ _) rfl
    · intro vs A' W hA hW hd K hK
      have f2 : vs 2 = .bool true := hd 2 (by kernel_rfl)
      have e49 : A'.tmps[49]?.getD undef = vs 2 := slot_in hA hap (Nat.lt_of_lt_of_eq (Nat.le_of_ble_eq_true rfl : 49 < 82) hsz.symm) (by kernel_rfl)
      rw [f2] at e49
      refine wpOp_go _ rfl 2 49 true rfl rfl e49 ?_
      conv => arg 2; whnf
      have e2 : A'.tmps[2]?.getD undef = .pointer (some ⟨g2, 0, none⟩) := slot_out hA hap (Nat.lt_of_lt_of_eq (Nat.le_of_ble_eq_true rfl : 2 < 82) hsz.symm) (by kernel_rfl) o2
      clear hA hd o2 o3 o7 o8
      go_step
      exact hK _ _ (Kp.refl _ _) rfl
    · intro vs A' W hA hW hd K hK
      have f2 : vs 2 = .bool true := hd 2 (by kernel_rfl)
      have e49 : A'.tmps[49]?.getD undef = vs 2 := slot_in hA hap (Nat.lt_of_lt_of_eq (Nat.le_of_ble_eq_true rfl : 49 < 82) hsz.symm) (by kernel_rfl)
      rw [f2] at e49
      refine wpOp_go _ rfl 2 49 true rfl rfl e49 ?_
      conv => arg 2; whnf
      have f3 : vs 3 = .pointer (some ⟨g2, 33, none⟩) := hd 3 (by kernel_rfl)
      have e50 : A'.tmps[50]?.getD undef = vs 3 := slot_in hA hap (Nat.lt_of_lt_of_eq (Nat.le_of_ble_eq_true rfl : 50 < 82) hsz.symm) (by kernel_rfl)
      rw [f3] at e50
      clear hA hd o2 o3 o7 o8
      have c0 : W.cell? ⟨g2, 33, none⟩ = some (.slice (some a2) l.length c) := by rw [(hb2.kp hW (by simp)).cell]; exact ntA_sigs hh
      go_step
      exact hK _ _ (Kp.refl _ _) rfl
    · intro vs A' W hA hW hd K hK
      have f2 : vs 2 = .bool true := hd 2 (by kernel_rfl)
      have e49 : A'.tmps[49]?.getD undef = vs 2 := slot_in hA hap (Nat.lt_of_lt_of_eq (Nat.le_of_ble_eq_true rfl : 49 < 82) hsz.symm) (by kernel_rfl)
      rw [f2] at e49
      refine wpOp_go _ rfl 2 49 true rfl rfl e49 ?_
      conv => arg 2; whnf
      have e8 : A'.tmps[8]?.getD undef = .int .i64 ((p : Nat) : Int) := slot_out hA hap (Nat.lt_of_lt_of_eq (Nat.le_of_ble_eq_true rfl : 8 < 82) hsz.symm) (by kernel_rfl) o8
      clear hA hd o2 o3 o7 o8
      go_step
      exact hK _ _ (Kp.refl _ _) rfl
    · intro vs A' W hA hW hd K hK
      have f2 : vs 2 = .bool true := hd 2 (by kernel_rfl)
      have e49 : A'.tmps[49]?.getD undef = vs 2 := slot_in hA hap (Nat.lt_of_lt_of_eq (Nat.le_of_ble_eq_true rfl : 49 < 82) hsz.symm) (by kernel_rfl)
      rw [f2] at e49
      refine wpOp_go _ rfl 2 49 true rfl rfl e49 ?_
      conv => arg 2; whnf
      have f4 : vs 4 = .slice (some a2) l.length c := hd 4 (by kernel_rfl)
      have e51 : A'.tmps[51]?.getD undef = vs 4 := slot_in hA hap (Nat.lt_of_lt_of_eq (Nat.le_of_ble_eq_true rfl : 51 < 82) hsz.symm) (by kernel_rfl)
      rw [f4] at e51
      have f5 : vs 5 = .int .i64 ((p : Nat) : Int) := hd 5 (by kernel_rfl)
      have e52 : A'.tmps[52]?.getD undef = vs 5 := slot_in hA hap (Nat.lt_of_lt_of_eq (Nat.le_of_ble_eq_true rfl : 52 < 82) hsz.symm) (by kernel_rfl)
      rw [f5] at e52
      clear hA hd o2 o3 o7 o8
      have h0 : 0 ≤ (p : Int) := by omega
      have h1 : (p : Int) < (l.length : Int) := by omega
      go_step
      exact hK _ _ (Kp.refl _ _) rfl
    · intro vs A' W hA hW hd K hK
      have f2 : vs 2 = .bool true := hd 2 (by kernel_rfl)
      have e49 : A'.tmps[49]?.getD undef = vs 2 := slot_in hA hap (Nat.lt_of_lt_of_eq (Nat.le_of_ble_eq_true rfl : 49 < 82) hsz.symm) (by kernel_rfl)
      rw [f2] at e49
      refine wpOp_go _ rfl 2 49 true rfl rfl e49 ?_
      conv => arg 2; whnf
      have f6 : vs 6 = .pointer (some (a2.add (p * 33))) := hd 6 (by kernel_rfl)
      have e53 : A'.tmps[53]?.getD undef = vs 6 := slot_in hA hap (Nat.lt_of_lt_of_eq (Nat.le_of_ble_eq_true rfl : 53 < 82) hsz.symm) (by kernel_rfl)
      rw [f6] at e53
      clear hA hd o2 o3 o7 o8
      go_step
      exact hK _ _ (Kp.refl _ _) rfl
    · intro vs A' W hA hW hd K hK
      have f2 : vs 2 = .bool true := hd 2 (by kernel_rfl)
      have e49 : A'.tmps[49]?.getD undef = vs 2 := slot_in hA hap (Nat.lt_of_lt_of_eq (Nat.le_of_ble_eq_true rfl : 49 < 82) hsz.symm) (by kernel_rfl)
      rw [f2] at e49
      refine wpOp_go _ rfl 2 49 true rfl rfl e49 ?_
      conv => arg 2; whnf
      have f7 : vs 7 = .pointer (some ((a2.add (p * 33)).add 1)) := hd 7 (by kernel_rfl)
      have e54 : A'.tmps[54]?.getD undef = vs 7 := slot_in hA hap (Nat.lt_of_lt_of_eq (Nat.le_of_ble_eq_true rfl : 54 < 82) hsz.symm) (by kernel_rfl)
      rw [f7] at e54
      clear hA hd o2 o3 o7 o8
      refine op_runs (v := .agg (hashA x.2)) (w' := W) (exec_load rfl (by simpa [Act.eval] using e54) (run_loadAt_agg W ((a2.add (p * 33)).add 1) 25 (hashA x.2).toList _ (hcx _ hW) Tryd.underlying25 rfl (by rw [Array.length_toList, hashA_size, hx]; exact Tryd.infoHashP))) ?_
      exact hK _ _ (Kp.refl _ _) rfl
    · intro vs A' W hA hW hd K hK
      have f2 : vs 2 = .bool true := hd 2 (by kernel_rfl)
      have e49 : A'.tmps[49]?.getD undef = vs 2 := slot_in hA hap (Nat.lt_of_lt_of_eq (Nat.le_of_ble_eq_true rfl : 49 < 82) hsz.symm) (by kernel_rfl)
      rw [f2] at e49
      refine wpOp_go _ rfl 2 49 true rfl rfl e49 ?_
      conv => arg 2; whnf
      have e3 : A'.tmps[3]?.getD undef = .pointer (some ⟨g3, 0, none⟩) := slot_out hA hap (Nat.lt_of_lt_of_eq (Nat.le_of_ble_eq_true rfl : 3 < 82) hsz.symm) (by kernel_rfl) o3
      clear hA hd o2 o3 o7 o8
      go_step
      exact hK _ _ (Kp.refl _ _) rfl
    · intro vs A' W hA hW hd K hK
      have f2 : vs 2 = .bool true := hd 2 (by kernel_rfl)
      have e49 : A'.tmps[49]?.getD undef = vs 2 := slot_in hA hap (Nat.lt_of_lt_of_eq (Nat.le_of_ble_eq_true rfl : 49 < 82) hsz.symm) (by kernel_rfl)
      rw [f2] at e49
      refine wpOp_go _ rfl 2 49 true rfl rfl e49 ?_
      conv => arg 2; whnf
      have f9 : vs 9 = .pointer (some ⟨g3, 33, none⟩) := hd 9 (by kernel_rfl)
      have e56 : A'.tmps[56]?.getD undef = vs 9 := slot_in hA hap (Nat.lt_of_lt_of_eq (Nat.le_of_ble_eq_true rfl : 56 < 82) hsz.symm) (by kernel_rfl)
      rw [f9] at e56
      clear hA hd o2 o3 o7 o8
      have c0 : W.cell? ⟨g3, 33, none⟩ = some (.slice (some ad) n e) := by rw [(hb3.kp hW (by simp)).cell]; exact ntA_sigs hg
      go_step
      exact hK _ _ (Kp.refl _ _) rfl
    · intro vs A' W hA hW hd K hK
      have f2 : vs 2 = .bool true := hd 2 (by kernel_rfl)
      have e49 : A'.tmps[49]?.getD undef = vs 2 := slot_in hA hap (Nat.lt_of_lt_of_eq (Nat.le_of_ble_eq_true rfl : 49 < 82) hsz.symm) (by kernel_rfl)
      rw [f2] at e49
      refine wpOp_go _ rfl 2 49 true rfl rfl e49 ?_
      conv => arg 2; whnf
      have e7 : A'.tmps[7]?.getD undef = .int .i64 ((k : Nat) : Int) := slot_out hA hap (Nat.lt_of_lt_of_eq (Nat.le_of_ble_eq_true rfl : 7 < 82) hsz.symm) (by kernel_rfl) o7
      clear hA hd o2 o3 o7 o8
      go_step
      exact hK _ _ (Kp.refl _ _) rfl
    · intro vs A' W hA hW hd K hK
      have f2 : vs 2 = .bool true := hd 2 (by kernel_rfl)
      have e49 : A'.tmps[49]?.getD undef = vs 2 := slot_in hA hap (Nat.lt_of_lt_of_eq (Nat.le_of_ble_eq_true rfl : 49 < 82) hsz.symm) (by kernel_rfl)
      rw [f2] at e49
      refine wpOp_go _ rfl 2 49 true rfl rfl e49 ?_
      conv => arg 2; whnf
      have f10 : vs 10 = .slice (some ad) n e := hd 10 (by kernel_rfl)
      have e57 : A'.tmps[57]?.getD undef = vs 10 := slot_in hA hap (Nat.lt_of_lt_of_eq (Nat.le_of_ble_eq_true rfl : 57 < 82) hsz.symm) (by kernel_rfl)
      rw [f10] at e57
      have f11 : vs 11 = .int .i64 ((k : Nat) : Int) := hd 11 (by kernel_rfl)
      have e58 : A'.tmps[58]?.getD undef = vs 11 := slot_in hA hap (Nat.lt_of_lt_of_eq (Nat.le_of_ble_eq_true rfl : 58 < 82) hsz.symm) (by kernel_rfl)
      rw [f11] at e58
      clear hA hd o2 o3 o7 o8
      have h0 : 0 ≤ (k : Int) := by omega
      have h1 : (k : Int) < (n : Int) := by omega
      go_step
      exact hK _ _ (Kp.refl _ _) rfl
    · intro vs A' W hA hW hd K hK
      have f2 : vs 2 = .bool true := hd 2 (by kernel_rfl)
      have e49 : A'.tmps[49]?.getD undef = vs 2 := slot_in hA hap (Nat.lt_of_lt_of_eq (Nat.le_of_ble_eq_true rfl : 49 < 82) hsz.symm) (by kernel_rfl)
      rw [f2] at e49
      refine wpOp_go _ rfl 2 49 true rfl rfl e49 ?_
      conv => arg 2; whnf
      have f12 : vs 12 = .pointer (some (ad.add (k * 33))) := hd 12 (by kernel_rfl)
      have e59 : A'.tmps[59]?.getD undef = vs 12 := slot_in hA hap (Nat.lt_of_lt_of_eq (Nat.le_of_ble_eq_true rfl : 59 < 82) hsz.symm) (by kernel_rfl)
      rw [f12] at e59
      clear hA hd o2 o3 o7 o8
      go_step
      exact hK _ _ (Kp.refl _ _) rfl
    · intro vs A' W hA hW hd K hK
      have f2 : vs 2 = .bool true := hd 2 (by kernel_rfl)
      have e49 : A'.tmps[49]?.getD undef = vs 2 := slot_in hA hap (Nat.lt_of_lt_of_eq (Nat.le_of_ble_eq_true rfl : 49 < 82) hsz.symm) (by kernel_rfl)
      rw [f2] at e49
      refine wpOp_go _ rfl 2 49 true rfl rfl e49 ?_
      conv => arg 2; whnf
      have f13 : vs 13 = .pointer (some ((ad.add (k * 33)).add 1)) := hd 13 (by kernel_rfl)
      have e60 : A'.tmps[60]?.getD undef = vs 13 := slot_in hA hap (Nat.lt_of_lt_of_eq (Nat.le_of_ble_eq_true rfl : 60 < 82) hsz.symm) (by kernel_rfl)
      rw [f13] at e60
      clear hA hd o2 o3 o7 o8
      refine op_runs (v := .agg (hashA s.2)) (w' := W) (exec_load rfl (by simpa [Act.eval] using e60) (run_loadAt_agg W ((ad.add (k * 33)).add 1) 25 (hashA s.2).toList _ (hcs _ hW) Tryd.underlying25 rfl (by rw [Array.length_toList, hashA_size, hs]; exact Tryd.infoHashP))) ?_
      exact hK _ _ (Kp.refl _ _) rfl
    · intro vs A' W hA hW hd K hK
      have f2 : vs 2 = .bool true := hd 2 (by kernel_rfl)
      have e49 : A'.tmps[49]?.getD undef = vs 2 := slot_in hA hap (Nat.lt_of_lt_of_eq (Nat.le_of_ble_eq_true rfl : 49 < 82) hsz.symm) (by kernel_rfl)
      rw [f2] at e49
      refine wpOp_go _ rfl 2 49 true rfl rfl e49 ?_
      conv => arg 2; whnf
      have f8 : vs 8 = .agg (hashA x.2) := hd 8 (by kernel_rfl)
      have e55 : A'.tmps[55]?.getD undef = vs 8 := slot_in hA hap (Nat.lt_of_lt_of_eq (Nat.le_of_ble_eq_true rfl : 55 < 82) hsz.symm) (by kernel_rfl)
      rw [f8] at e55
      have f14 : vs 14 = .agg (hashA s.2) := hd 14 (by kernel_rfl)
      have e61 : A'.tmps[61]?.getD undef = vs 14 := slot_in hA hap (Nat.lt_of_lt_of_eq (Nat.le_of_ble_eq_true rfl : 61 < 82) hsz.symm) (by kernel_rfl)
      rw [f14] at e61
      clear hA hd o2 o3 o7 o8
      refine op_runs (v := .bool (!(x.2 == s.2))) (w' := W) (exec_bin_agg rfl (by simpa [Act.eval] using e55) (by simpa [Act.eval] using e61) Tryd.eqGuardType25 (neq_hash W x.2 s.2 hx hs)) ?_
      exact hK _ _ (Kp.refl _ _) rfl
    · intro vs A' W hA hW hd K hK
      refine wpOp_free _ rfl rfl ?_
      conv => arg 2; whnf
      have f2 : vs 2 = .bool true := hd 2 (by kernel_rfl)
      have e49 : A'.tmps[49]?.getD undef = vs 2 := slot_in hA hap (Nat.lt_of_lt_of_eq (Nat.le_of_ble_eq_true rfl : 49 < 82) hsz.symm) (by kernel_rfl)
      rw [f2] at e49
      have f15 : vs 15 = .bool (!(x.2 == s.2)) := hd 15 (by kernel_rfl)
      have e62 : A'.tmps[62]?.getD undef = vs 15 := slot_in hA hap (Nat.lt_of_lt_of_eq (Nat.le_of_ble_eq_true rfl : 62 < 82) hsz.symm) (by kernel_rfl)
      rw [f15] at e62
      clear hA hd o2 o3 o7 o8
      go_step
      exact hK _ _ (Kp.refl _ _) rfl
  · intro vs W hW hp
    rw [show putAll vs (opsOf 8 Tryd.f36) 0 a = putD [(47, vs 0), (48, vs 1), (49, vs 2), (50, vs 3), (51, vs 4), (52, vs 5), (53, vs 6), (54, vs 7), (55, vs 8), (56, vs 9), (57, vs 10), (58, vs 11), (59, vs 12), (60, vs 13), (61, vs 14), (62, vs 15), (63, vs 16)] a from by kernel_rfl]
    exact hend _ W (same_putD _ a) hW (sl_putD _ a 63 _ (by rw [show vs 16 = _ from hp 16 (Nat.le_of_ble_eq_true (by kernel_rfl))]; kernel_rfl))
-- END rjn8Y
-- REG rjn10
set_option maxRecDepth 100000 in
set_option maxHeartbeats 2000000 in
theorem rjn_r10 {Q : Exit → Act → World → Prop} {a : Act} {w : World} (x : Int) (hsz : a.tmps.size = 82) (o8 : Sl a 8 (.int .i64 x))
    (hend : ∀ (a' : Act), Same a a' [65, 66] → Sl a' 66 (.bool (decide (x < 0))) → Q .normal a' (w)) : (Code.region 10 (opsOf 10 Tryd.f36).toArray false).wp Tryd.prog Q a w := by
  refine wp_region_lit (l := (opsOf 10 Tryd.f36)) ?_
  conv => arg 4; whnf
  unfold Sl at o8
  go_wp2_with fail
  try simp only [Act.put]
  exact hend _ (by repeat (first | (with_reducible refine same_set (by decide) ?_) | (with_reducible exact same_nil))) (by unfold Sl; first | (simp [hsz]; done) | (simp [hsz]; omega))
-- END rjn10
-- REG rjn11
set_option maxRecDepth 100000 in
set_option maxHeartbeats 2000000 in
theorem rjn_r11 {Q : Exit → Act → World → Prop} {a : Act} {w : World} (w0 : World) (z : Int) (h : List UInt8) (hh : h.length = 32) (A : Option Addr) (c : Nat) (l : List SigD) (hok : SgOk l) (hll : l.length ≤ 500) (y : Int) (g : List UInt8) (hg : g.length = 32) (ad : Addr) (n e k : Nat) (hk : k < n) (g6 g3 : Nat) (s : SigD) (hs : s.2.length = 32) (hc : ∀ V, Kp [] w0 V → ∀ j u, (sgA s).toList[j]? = some u → V.cell? ((ad.add (k * 33)).add j) = some u) (L : List Res) (hsz : a.tmps.size = 82) (o3 : Sl a 3 (.pointer (some ⟨g3, 0, none⟩))) (o6 : Sl a 6 (.pointer (some ⟨g6, 0, none⟩))) (o7 : Sl a 7 (.int .i64 ((k : Nat) : Int)))
    (S0 : Held w0 w (blkR g6 36 (ntA z h (.slice A l.length c)) :: blkR g3 36 (ntA y g (.slice (some ad) n e)) :: rowR 81 33 (.slice A l.length c) l.length (sgsC l) :: L))
    (hend : ∀ (a' : Act) (vs : Nat → Value) (gs : Nat → Unit) (W : World), Same a a' [67, 68, 69, 70, 71, 72, 73, 74, 75] → Held w0 W (rowR 81 33 (vs 7) (l.length + 1) (sgsC (insN l s)) :: blkR g6 36 (ntA z h (vs 7)) :: blkR g3 36 (ntA y g (.slice (some ad) n e)) :: rowR 81 33 (.slice A l.length c) l.length (sgsC l) :: L) → Q .normal a' W) : (Code.region 11 (opsOf 11 Tryd.f36).toArray true).wp Tryd.prog Q a w := by
  have hap : apartB (opsOf 11 Tryd.f36) = true := by kernel_rfl
  refine wp_region_sep (Γ := Unit) (l := (opsOf 11 Tryd.f36)) 4 [0, 1, 2, 3, 4, 5, 6, 7, 8, 9, 11, 12, 13]
    (fun i vs gs => match i with | 0 => vs 0 = .pointer (some ⟨g6, 33, none⟩) | 1 => vs 1 = .slice A l.length c | 2 => vs 2 = .pointer (some ⟨g3, 33, none⟩) | 3 => vs 3 = .slice (some ad) n e | 4 => vs 4 = .int .i64 ((k : Nat) : Int) | 5 => vs 5 = .pointer (some (ad.add (k * 33))) | 6 => vs 6 = .agg (sgA s) | 8 => vs 8 = .pointer (some ⟨g6, 33, none⟩) | _ => True)
    (fun i vs gs => match i with | 7 => [rowR 81 33 (vs 7) (l.length + 1) (sgsC (insN l s))] | 9 => [blkR g6 36 (ntA z h (vs 7))] | 10 => [blkR g6 36 (ntA z h (.slice A l.length c))] | 11 => [blkR g3 36 (ntA y g (.slice (some ad) n e))] | 12 => [rowR 81 33 (.slice A l.length c) l.length (sgsC l)] | 13 => L | _ => [])
    (fun i => match i with | 9 => [10] | _ => []) (fun i => match i with | 1 => [10] | 3 => [11] | 7 => [12] | 9 => [7] | _ => []) S0 (by kernel_rfl) hap (by kernel_rfl) (by kernel_rfl) (fun i => match i with | 0 => [0] | 1 => [1] | 2 => [2] | 3 => [3] | 4 => [4] | 5 => [5] | 6 => [6] | 7 => [7] | 8 => [8] | 9 => [7] | _ => []) (by kernel_rfl) ?_ (by kernel_rfl) ?_ ?_ ?_
  · intro s vs vs' gs gs' h
    iterate 14 (rcases s with _ | s; · (first | exact ⟨rfl, id⟩ | (simp only [List.mem_cons, List.not_mem_nil, or_false, forall_eq] at h; simp [h])))
    exact ⟨rfl, id⟩
  · simp only [List.range, List.range.loop, List.flatMap_cons, List.flatMap_nil, List.append_nil]
    exact List.Perm.refl _
  · clear S0 hend
    refine ⟨?_, ?_, ?_, ?_, ?_, ?_, ?_, ?_, ?_, ?_, trivial⟩
    · intro vs gs A' W LF hA S hR hd hu K hK
      replace hK := hK default
      have e6 : A'.tmps[6]?.getD undef = .pointer (some ⟨g6, 0, none⟩) := slot_out hA hap (Nat.lt_of_lt_of_eq (Nat.le_of_ble_eq_true rfl : 6 < 82) hsz.symm) (by kernel_rfl) o6
      clear hA o3 o6 o7
      go_step
      exact hK _ _ S rfl
    · intro vs gs A' W LF hA S hR hd hu K hK
      replace hK := hK default
      have f0 : vs 0 = .pointer (some ⟨g6, 33, none⟩) := hd 0 (by kernel_rfl)
      have e67 : A'.tmps[67]?.getD undef = vs 0 := slot_in hA hap (Nat.lt_of_lt_of_eq (Nat.le_of_ble_eq_true rfl : 67 < 82) hsz.symm) (by kernel_rfl)
      rw [f0] at e67
      clear hA o3 o6 o7
      have c33 : W.cell? ⟨g6, 33, none⟩ = some (.slice A l.length c) := by rw [(show Blk W g6 36 (ntA z h (.slice A l.length c)) from (S.ok (blkR g6 36 (ntA z h (.slice A l.length c))) (hR 10 (List.mem_singleton.2 rfl) _ (List.mem_singleton.2 rfl)))).cell]; exact ntA_sigs hh
      go_step
      exact hK _ _ S rfl
    · intro vs gs A' W LF hA S hR hd hu K hK
      replace hK := hK default
      have e3 : A'.tmps[3]?.getD undef = .pointer (some ⟨g3, 0, none⟩) := slot_out hA hap (Nat.lt_of_lt_of_eq (Nat.le_of_ble_eq_true rfl : 3 < 82) hsz.symm) (by kernel_rfl) o3
      clear hA o3 o6 o7
      go_step
      exact hK _ _ S rfl
    · intro vs gs A' W LF hA S hR hd hu K hK
      replace hK := hK default
      have f2 : vs 2 = .pointer (some ⟨g3, 33, none⟩) := hd 2 (by kernel_rfl)
      have e69 : A'.tmps[69]?.getD undef = vs 2 := slot_in hA hap (Nat.lt_of_lt_of_eq (Nat.le_of_ble_eq_true rfl : 69 < 82) hsz.symm) (by kernel_rfl)
      rw [f2] at e69
      clear hA o3 o6 o7
      have c33 : W.cell? ⟨g3, 33, none⟩ = some (.slice (some ad) n e) := by rw [(show Blk W g3 36 (ntA y g (.slice (some ad) n e)) from (S.ok (blkR g3 36 (ntA y g (.slice (some ad) n e))) (hR 11 (List.mem_singleton.2 rfl) _ (List.mem_singleton.2 rfl)))).cell]; exact ntA_sigs hg
      go_step
      exact hK _ _ S rfl
    · intro vs gs A' W LF hA S hR hd hu K hK
      replace hK := hK default
      have e7 : A'.tmps[7]?.getD undef = .int .i64 ((k : Nat) : Int) := slot_out hA hap (Nat.lt_of_lt_of_eq (Nat.le_of_ble_eq_true rfl : 7 < 82) hsz.symm) (by kernel_rfl) o7
      clear hA o3 o6 o7
      go_step
      exact hK _ _ S rfl
    · intro vs gs A' W LF hA S hR hd hu K hK
      replace hK := hK default
      have f3 : vs 3 = .slice (some ad) n e := hd 3 (by kernel_rfl)
      have e70 : A'.tmps[70]?.getD undef = vs 3 := slot_in hA hap (Nat.lt_of_lt_of_eq (Nat.le_of_ble_eq_true rfl : 70 < 82) hsz.symm) (by kernel_rfl)
      rw [f3] at e70
      have f4 : vs 4 = .int .i64 ((k : Nat) : Int) := hd 4 (by kernel_rfl)
      have e71 : A'.tmps[71]?.getD undef = vs 4 := slot_in hA hap (Nat.lt_of_lt_of_eq (Nat.le_of_ble_eq_true rfl : 71 < 82) hsz.symm) (by kernel_rfl)
      rw [f4] at e71
      clear hA o3 o6 o7
      have h0 : 0 ≤ (k : Int) := by omega
      have h1 : (k : Int) < (n : Int) := by omega
      go_step
      exact hK _ _ S rfl
    · intro vs gs A' W LF hA S hR hd hu K hK
      replace hK := hK default
      have f5 : vs 5 = .pointer (some (ad.add (k * 33))) := hd 5 (by kernel_rfl)
      have e72 : A'.tmps[72]?.getD undef = vs 5 := slot_in hA hap (Nat.lt_of_lt_of_eq (Nat.le_of_ble_eq_true rfl : 72 < 82) hsz.symm) (by kernel_rfl)
      rw [f5] at e72
      clear hA o3 o6 o7
      refine op_runs (v := .agg (sgA s)) (w' := W) (exec_load rfl (by simpa [Act.eval] using e72) (run_loadAt_agg W (ad.add (k * 33)) 81 (sgA s).toList _ (hc _ S.k) Tryd.underlying81 rfl (by rw [Array.length_toList, sgA_size hs]; exact Tryd.infoSig))) ?_
      exact hK _ _ S rfl
    · intro vs gs A' W LF hA S hR hd hu K hK
      replace hK := hK default
      have f1 : vs 1 = .slice A l.length c := hd 1 (by kernel_rfl)
      have e68 : A'.tmps[68]?.getD undef = vs 1 := slot_in hA hap (Nat.lt_of_lt_of_eq (Nat.le_of_ble_eq_true rfl : 68 < 82) hsz.symm) (by kernel_rfl)
      rw [f1] at e68
      have f6 : vs 6 = .agg (sgA s) := hd 6 (by kernel_rfl)
      have e73 : A'.tmps[73]?.getD undef = vs 6 := slot_in hA hap (Nat.lt_of_lt_of_eq (Nat.le_of_ble_eq_true rfl : 73 < 82) hsz.symm) (by kernel_rfl)
      rw [f6] at e73
      clear hA o3 o6 o7
      go_step
      refine (slay_any A c l hok (by omega) s hs W (Rd.of_own (show Ow W 81 33 (.slice A l.length c) l.length (sgsC l) from (S.ok (rowR 81 33 (.slice A l.length c) l.length (sgsC l)) (hR 12 (List.mem_singleton.2 rfl) _ (List.mem_singleton.2 rfl)))))).mono ?_
      rintro e w' ⟨v, rfl, H⟩
      exact hK v w' ((S.join H).perm (List.perm_append_singleton _ _)) trivial
    · intro vs gs A' W LF hA S hR hd hu K hK
      replace hK := hK default
      have e6 : A'.tmps[6]?.getD undef = .pointer (some ⟨g6, 0, none⟩) := slot_out hA hap (Nat.lt_of_lt_of_eq (Nat.le_of_ble_eq_true rfl : 6 < 82) hsz.symm) (by kernel_rfl) o6
      clear hA o3 o6 o7
      go_step
      exact hK _ _ S rfl
    · intro vs gs A' W LF hA S hR hd hu K hK
      replace hK := hK default
      have f8 : vs 8 = .pointer (some ⟨g6, 33, none⟩) := hd 8 (by kernel_rfl)
      have e75 : A'.tmps[75]?.getD undef = vs 8 := slot_in hA hap (Nat.lt_of_lt_of_eq (Nat.le_of_ble_eq_true rfl : 75 < 82) hsz.symm) (by kernel_rfl)
      rw [f8] at e75
      have e74 : A'.tmps[74]?.getD undef = vs 7 := slot_in hA hap (Nat.lt_of_lt_of_eq (Nat.le_of_ble_eq_true rfl : 74 < 82) hsz.symm) (by kernel_rfl)
      clear hA o3 o6 o7
      have S1 : Held w0 W (blkR g6 36 (ntA z h (.slice A l.length c)) :: LF) := S
      obtain ⟨A6, c6, e6', -, -⟩ := ow_form (show Ow W 81 33 (vs 7) (l.length + 1) (sgsC (insN l s)) from S1.ok (rowR 81 33 (vs 7) (l.length + 1) (sgsC (insN l s))) (List.mem_cons_of_mem _ (hR 7 (List.mem_singleton.2 rfl) _ (List.mem_singleton.2 rfl))))
      have S2 := S1.set (l1 := []) 33 (.slice A6 (l.length + 1) c6)
      rw [ntA_setSigs hh, show ntA z h (.slice A6 (l.length + 1) c6) = ntA z h (vs 7) from by rw [e6']] at S2
      have c33 : W.cell? ⟨g6, 33, none⟩ = some (.slice A l.length c) := by rw [(S1.at_ (l1 := [])).cell]; exact ntA_sigs hh
      have f33 := (show Blk W g6 _ _ from S1.at_ (l1 := [])).frozen 33
      rw [e6'] at e74
      go_step
      exact hK undef _ S2 trivial
  · intro vs gs W S hp
    have S : Held w0 W (rowR 81 33 (vs 7) (l.length + 1) (sgsC (insN l s)) :: blkR g6 36 (ntA z h (vs 7)) :: blkR g3 36 (ntA y g (.slice (some ad) n e)) :: rowR 81 33 (.slice A l.length c) l.length (sgsC l) :: L) := by simpa only [List.flatMap_cons, List.flatMap_nil, List.append_nil, List.nil_append, List.cons_append, List.append_assoc] using S
    rw [show putAll vs (opsOf 11 Tryd.f36) 0 a = putD [(67, vs 0), (68, vs 1), (69, vs 2), (70, vs 3), (71, vs 4), (72, vs 5), (73, vs 6), (74, vs 7), (75, vs 8)] a from by kernel_rfl]
    exact hend _ vs gs W (same_putD _ a)  S
-- END rjn11
-- REG rjn6
set_option maxRecDepth 100000 in
set_option maxHeartbeats 2000000 in
theorem rjn_r6 {Q : Exit → Act → World → Prop} {a : Act} {w : World} (k : Nat) (hk : k < 9223372036854775807) (hsz : a.tmps.size = 82) (o7 : Sl a 7 (.int .i64 ((k : Nat) : Int)))
    (hend : ∀ (a' : Act), Same a a' [36, 37, 7] → Sl a' 7 (.int .i64 ((k + 1 : Nat) : Int)) → Q .normal a' (w)) : (Code.region 6 (opsOf 6 Tryd.f36).toArray false).wp Tryd.prog Q a w := by
  refine wp_region_lit (l := (opsOf 6 Tryd.f36)) ?_
  conv => arg 4; whnf
  unfold Sl at o7
  have hw : wrap64 ((k : Int) + 1) = (k : Int) + 1 := by unfold wrap64; omega
  go_wp2_with fail
  try simp only [Act.put]
  exact hend _ (by repeat (first | (with_reducible refine same_set (by decide) ?_) | (with_reducible exact same_nil))) (by unfold Sl; first | (simp [hsz]; done) | (simp [hsz]; omega))
-- END rjn6
-- REG rjn12
set_option maxRecDepth 100000 in
set_option maxHeartbeats 2000000 in
theorem rjn_r12 {Q : Exit → Act → World → Prop} {a : Act} {w : World} (z : Int) (h : List UInt8) (hh : h.length = 32) (A : Option Addr) (n c g6 : Nat) (hb : Blk w g6 36 (ntA z h (.slice A n c))) (hsz : a.tmps.size = 82) (o6 : Sl a 6 (.pointer (some ⟨g6, 0, none⟩)))
    (hend : ∀ (a' : Act), Same a a' [76, 77, 78, 79] → Sl a' 79 (.bool (decide ((64 : Int) < (n : Int)))) → Q .normal a' (w)) : (Code.region 12 (opsOf 12 Tryd.f36).toArray false).wp Tryd.prog Q a w := by
  refine wp_region_lit (l := (opsOf 12 Tryd.f36)) ?_
  conv => arg 4; whnf
  unfold Sl at o6
  have c33 : w.cell? ⟨g6, 33, none⟩ = some (.slice A n c) := by rw [hb.cell]; exact ntA_sigs hh
  go_wp2_with fail
  try simp only [Act.put]
  exact hend _ (by repeat (first | (with_reducible refine same_set (by decide) ?_) | (with_reducible exact same_nil))) (by unfold Sl; first | (simp [hsz]; done) | (simp [hsz]; omega))
-- END rjn12
end Go.Proofs.YtapboamjpilckaaDoor
