/- Several texts in one: CpG. -/
import Derived.Test.YtgldgkdnnimglaaP4
set_option linter.unusedVariables false
set_option linter.unusedSimpArgs false
set_option maxRecDepth 100000
set_option maxHeartbeats 8000000
namespace Go.Proofs.Ytgldgkdnnimglaa
/- CrcParts: its regions. -/
section
open Go.RowKit Go.Shelf
theorem txs_none (w : World) : TxsIn w (.slice none 0 0) [] [] := ⟨[], Rd.nil w 1, fun i hi => absurd hi (by simp), fun g hg => by cases hg⟩
theorem Held.newSums {w0 w w' : World} {L : List Res} {p : Nat} {v : Value} {bs : List UInt8} (S : Held w0 w L) (k : Kp [] w w') (sm : Sm w' p v bs) (hp : w.heap.size ≤ p) (hv : ∀ g, v.ownBlock = some g → w.heap.size ≤ g) : Held w0 w' (sumsR p v bs :: L) :=
  S.new (sumsR p v bs) k sm (fun b hb => by
    rcases List.mem_cons.1 hb with rfl | hb
    · exact hp
    · exact hv b (by simpa using hb))
theorem Held.zeroSums {w0 w : World} {L : List Res} (S : Held w0 w L) : Held w0 (w.alloc (.cells #[.int .i64 0, .slice none 0 0] 66)) (sumsR w.heap.size (.slice none 0 0) [] :: L) :=
  S.newSums ((Kp.refl [] w).alloc _) ⟨Blk.new _ _ _, World.ownsRow_nil _ _ _ _⟩ (Nat.le_refl _) (fun g hg => by cases hg)
theorem Held.sep2 {w0 w : World} {L : List Res} {p gx gy nx cx ny cy mx my : Nat} {v : Value} {bs bx by_ : List UInt8} {xs ys : List Value} {vx vy : Value} (S : Held w0 w (sumsR p v bs :: rowR 5 1 vx mx xs :: rowR 5 1 vy my ys :: L)) (hx : vx.ownBlock = (Value.slice (some ⟨gx, 0, none⟩) nx cx).ownBlock) (hy : vy.ownBlock = (Value.slice (some ⟨gy, 0, none⟩) ny cy).ownBlock) :
    ∀ g, g ∈ w.heap.size :: (fpB (.slice (some ⟨gx, 0, none⟩) nx cx) bx ++ fpB (.slice (some ⟨gy, 0, none⟩) ny cy) by_) → g ∉ p :: v.ownBlock.toList := by
  intro g hg hm
  have h1 := (List.pairwise_cons.1 S.apart).1
  rcases List.mem_cons.1 hg with rfl | hg
  · have := (sumsR p v bs).lt w (S.ok (sumsR p v bs) (by simp)) _ hm
    omega
  · rcases List.mem_append.1 hg with hg | hg
    · refine h1 (rowR 5 1 vx mx xs) (by simp) g hm ?_
      unfold fpB at hg
      split at hg
      · cases hg
      · show g ∈ vx.ownBlock.toList
        rw [hx]; exact hg
    · refine h1 (rowR 5 1 vy my ys) (by simp) g hm ?_
      unfold fpB at hg
      split at hg
      · cases hg
      · show g ∈ vy.ownBlock.toList
        rw [hy]; exact hg
theorem Try.built_own (p q : Nat) : Try.prog.built 49 [(0, .pointer (some ⟨p, 0, none⟩)), (1, .pointer (some ⟨q, 0, none⟩))] = some #[.pointer (some ⟨p, 0, none⟩), .pointer (some ⟨q, 0, none⟩)] := by kernel_rfl
theorem Try.built_sums0 : Try.prog.built 66 [] = some #[.int .i64 0, .slice none 0 0] := by kernel_rfl
theorem Try.infoOp : (Try.prog.info? 52).map (·.size) = some 6 := by kernel_rfl
-- REG pmn0
set_option maxRecDepth 100000 in
set_option maxHeartbeats 2000000 in
theorem pmn_r0 {Q : Exit → Act → World → Prop} {a : Act} {w : World}  (hsz : a.tmps.size = 269) 
    (hend : ∀ (a' : Act), Same a a' [2] → Sl a' 2 (.bool false) → Q .normal a' (w)) : (Code.region 0 (opsOf 0 Try.f10).toArray false).wp Try.prog Q a w := by
  refine wp_region_lit (l := (opsOf 0 Try.f10)) ?_
  conv => arg 4; whnf
  go_wp2_with fail
  try simp only [Act.put]
  exact hend _ (by repeat (first | (with_reducible refine same_set (by decide) ?_) | (with_reducible exact same_nil))) (by unfold Sl; first | (simp [hsz]; done) | (simp [hsz]; omega))
-- END pmn0
-- REG pmn1
set_option maxRecDepth 100000 in
set_option maxHeartbeats 2000000 in
theorem pmn_r1 {Q : Exit → Act → World → Prop} {a : Act} {w : World} (w0 : World) (L : List Res) (S : Held w0 w L) (hsz : a.tmps.size = 269) 
    (hend : ∀ (a' : Act) (W : World), Same a a' [21, 22, 23, 3] → (∃ gO p0 v0 p1 v1, Sl a' 3 (.pointer (some ⟨gO, 0, none⟩)) ∧ Held w0 W (blkR gO 49 #[.pointer (some ⟨p0, 0, none⟩), .pointer (some ⟨p1, 0, none⟩)] :: sumsR p1 v1 [] :: sumsR p0 v0 [] :: L)) → Q .normal a' W) : (Code.region 1 (opsOf 1 Try.f10).toArray false).wp Try.prog Q a w := by
  refine wp_region_lit (l := (opsOf 1 Try.f10)) ?_
  conv => arg 4; whnf
  have S := Lib.hid S
  go_wp2_with fail
  refine (new_any (.slice none 0 0) [] [] _ (txs_none _) (by simp) (by simp) (by simp)).mono ?_
  rintro e w1 ⟨p0, v0, rfl, sm0, k1, hp0, hv0⟩
  have S1 := Lib.hid (S.out.newSums k1 sm0 hp0 hv0)
  clear sm0 k1 hp0 hv0
  go_wp2_with fail
  refine (new_any (.slice none 0 0) [] [] _ (txs_none _) (by simp) (by simp) (by simp)).mono ?_
  rintro e w2 ⟨p1, v1, rfl, sm1, k2, hp1, hv1⟩
  have S2 := Lib.hid ((S1.out.newSums k2 sm1 hp1 hv1).newBlk 49 #[.pointer (some ⟨p0, 0, none⟩), .pointer (some ⟨p1, 0, none⟩)])
  clear sm1 k2 hp1 hv1
  have HB := Lib.hid (Try.built_own p0 p1)
  have S7 := S2
  go_wp2_with (refine wpList_buildC rfl 49 _ rfl [(0, .pointer (some ⟨p0, 0, none⟩)), (1, .pointer (some ⟨p1, 0, none⟩))] (by simp [Act.eval, Act.put, hsz]) _ HB.out ?_)
  try simp only [Act.put]
  exact hend _ _ (by repeat (first | (with_reducible refine same_set (by decide) ?_) | (with_reducible exact same_nil))) (⟨_, p0, v0, p1, v1, (by unfold Sl; simp [hsz]), S7.out⟩)
-- END pmn1
-- REG pmn2
set_option maxRecDepth 100000 in
set_option maxHeartbeats 2000000 in
theorem pmn_r2 {Q : Exit → Act → World → Prop} {a : Act} {w : World} (w0 : World) (L : List Res) (S : Held w0 w L) (hsz : a.tmps.size = 269) 
    (hend : ∀ (a' : Act) (W : World), Same a a' [4] → (∃ gT, Sl a' 4 (.pointer (some ⟨gT, 0, none⟩)) ∧ Held w0 W (blkR gT 50 #[.slice none 0 0, .slice none 0 0] :: L)) → Q .normal a' W) : (Code.region 2 (opsOf 2 Try.f10).toArray false).wp Try.prog Q a w := by
  refine wp_region_lit (l := (opsOf 2 Try.f10)) ?_
  conv => arg 4; whnf
  have S1 := Lib.hid (S.newBlk 50 #[.slice none 0 0, .slice none 0 0])
  go_wp2_with fail
  try simp only [Act.put]
  exact hend _ _ (by repeat (first | (with_reducible refine same_set (by decide) ?_) | (with_reducible exact same_nil))) (⟨_, (by unfold Sl; simp [hsz]), S1.out⟩)
-- END pmn2
-- REG pmn3
set_option maxRecDepth 100000 in
set_option maxHeartbeats 2000000 in
theorem pmn_r3 {Q : Exit → Act → World → Prop} {a : Act} {w : World}  (hsz : a.tmps.size = 269) 
    (hend : ∀ (a' : Act), Same a a' [5] → Sl a' 5 (.int .i64 ((0 : Nat) : Int)) → Q .normal a' (w)) : (Code.region 3 (opsOf 3 Try.f10).toArray false).wp Try.prog Q a w := by
  refine wp_region_lit (l := (opsOf 3 Try.f10)) ?_
  conv => arg 4; whnf
  go_wp2_with fail
  try simp only [Act.put]
  exact hend _ (by repeat (first | (with_reducible refine same_set (by decide) ?_) | (with_reducible exact same_nil))) (by unfold Sl; first | (simp [hsz]; done) | (simp [hsz]; omega))
-- END pmn3
-- REG pmn4
set_option maxRecDepth 100000 in
set_option maxHeartbeats 2000000 in
theorem pmn_r4 {Q : Exit → Act → World → Prop} {a : Act} {w : World}  (hsz : a.tmps.size = 269) 
    (hend : ∀ (a' : Act), Same a a' [6] → Sl a' 6 (.int .i64 ((0 : Nat) : Int)) → Q .normal a' (w)) : (Code.region 4 (opsOf 4 Try.f10).toArray false).wp Try.prog Q a w := by
  refine wp_region_lit (l := (opsOf 4 Try.f10)) ?_
  conv => arg 4; whnf
  go_wp2_with fail
  try simp only [Act.put]
  exact hend _ (by repeat (first | (with_reducible refine same_set (by decide) ?_) | (with_reducible exact same_nil))) (by unfold Sl; first | (simp [hsz]; done) | (simp [hsz]; omega))
-- END pmn4
-- REG pmn43
set_option maxRecDepth 100000 in
set_option maxHeartbeats 2000000 in
theorem pmn_r43 {Q : Exit → Act → World → Prop} {a : Act} {w : World}  (hsz : a.tmps.size = 269) 
    (hend : ∀ (a' : Act), Same a a' [17] → Sl a' 17 (.int .i64 ((0 : Nat) : Int)) → Q .normal a' (w)) : (Code.region 43 (opsOf 43 Try.f10).toArray false).wp Try.prog Q a w := by
  refine wp_region_lit (l := (opsOf 43 Try.f10)) ?_
  conv => arg 4; whnf
  go_wp2_with fail
  try simp only [Act.put]
  exact hend _ (by repeat (first | (with_reducible refine same_set (by decide) ?_) | (with_reducible exact same_nil))) (by unfold Sl; first | (simp [hsz]; done) | (simp [hsz]; omega))
-- END pmn43
-- REG pmn47
set_option maxRecDepth 100000 in
set_option maxHeartbeats 2000000 in
theorem pmn_r47 {Q : Exit → Act → World → Prop} {a : Act} {w : World}  (hsz : a.tmps.size = 269) 
    (hend : ∀ (a' : Act), Same a a' [18] → Sl a' 18 (.int .i64 ((0 : Nat) : Int)) → Q .normal a' (w)) : (Code.region 47 (opsOf 47 Try.f10).toArray false).wp Try.prog Q a w := by
  refine wp_region_lit (l := (opsOf 47 Try.f10)) ?_
  conv => arg 4; whnf
  go_wp2_with fail
  try simp only [Act.put]
  exact hend _ (by repeat (first | (with_reducible refine same_set (by decide) ?_) | (with_reducible exact same_nil))) (by unfold Sl; first | (simp [hsz]; done) | (simp [hsz]; omega))
-- END pmn47
-- REG pmn5
set_option maxRecDepth 100000 in
set_option maxHeartbeats 2000000 in
theorem pmn_r5 {Q : Exit → Act → World → Prop} {a : Act} {w : World} (A : Option Addr) (n c k : Nat) (hsz : a.tmps.size = 269) (o0 : Sl a 0 (.slice A n c)) (o6 : Sl a 6 (.int .i64 ((k : Nat) : Int)))
    (hend : ∀ (a' : Act), Same a a' [24, 25, 26, 27] → Sl a' 27 (.bool (decide (k < n))) → Q .normal a' (w)) : (Code.region 5 (opsOf 5 Try.f10).toArray false).wp Try.prog Q a w := by
  refine wp_region_lit (l := (opsOf 5 Try.f10)) ?_
  conv => arg 4; whnf
  unfold Sl at o0 o6
  go_wp2_with fail
  try simp only [Act.put]
  exact hend _ (by repeat (first | (with_reducible refine same_set (by decide) ?_) | (with_reducible exact same_nil))) (by unfold Sl; first | (simp [hsz]; done) | (simp [hsz]; omega))
-- END pmn5
-- REG pmn7
set_option maxRecDepth 100000 in
set_option maxHeartbeats 2000000 in
theorem pmn_r7 {Q : Exit → Act → World → Prop} {a : Act} {w : World} (w0 : World) (ad : Addr) (k n c : Nat) (hk : k < n) (kd on fr tq : Int) (AB AC : Option Addr) (nB cB nC cC : Nat) (hc : ∀ j u, (#[.int .i64 kd, .int .i64 on, .int .i64 fr, .int .i64 tq, .slice AB nB cB, .slice AC nC cC] : Array Value).toList[j]? = some u → w.cell? ((ad.add (k * 6)).add j) = some u) (L : List Res) (S : Held w0 w L) (hsz : a.tmps.size = 269) (o0 : Sl a 0 (.slice (some ad) n c)) (o6 : Sl a 6 (.int .i64 ((k : Nat) : Int)))
    (hend : ∀ (a' : Act) (W : World), Same a a' [30, 31, 32, 33, 7] → (∃ g7, Sl a' 7 (.pointer (some ⟨g7, 0, none⟩)) ∧ Held w0 W (blkR g7 52 #[.int .i64 kd, .int .i64 on, .int .i64 fr, .int .i64 tq, .slice AB nB cB, .slice AC nC cC] :: L)) → Q .normal a' W) : (Code.region 7 (opsOf 7 Try.f10).toArray false).wp Try.prog Q a w := by
  refine wp_region_lit (l := (opsOf 7 Try.f10)) ?_
  conv => arg 4; whnf
  unfold Sl at o0 o6
  have S := Lib.hid S
  have h0 : 0 ≤ (k : Int) := by omega
  have h1 : (k : Int) < (n : Int) := by omega
  have HC := Lib.hid hc
  clear hc
  have S7 := Lib.hid (S.out.newBlk 52 #[.int .i64 kd, .int .i64 on, .int .i64 fr, .int .i64 tq, .slice AB nB cB, .slice AC nC cC])
  go_wp2_with (refine wpList_load_agg rfl 52 (.tmp 32) rfl (ad.add (k * 6)) (by simp [Act.eval, Act.put, hsz]) (#[.int .i64 kd, .int .i64 on, .int .i64 fr, .int .i64 tq, .slice AB nB cB, .slice AC nC cC] : Array Value).toList _ HC.out Try.underlying52 rfl (by rw [Array.length_toList]; exact Try.infoOp) ?_)
  try simp only [Act.put]
  exact hend _ _ (by repeat (first | (with_reducible refine same_set (by decide) ?_) | (with_reducible exact same_nil))) (⟨_, (by unfold Sl; simp [hsz]), S7.out⟩)
-- END pmn7
-- REG pmn8
set_option maxRecDepth 100000 in
set_option maxHeartbeats 2000000 in
theorem pmn_r8 {Q : Exit → Act → World → Prop} {a : Act} {w : World} (kd on fr tq : Int) (AB AC : Option Addr) (nB cB nC cC : Nat) (g7 m : Nat) (hb7 : Blk w g7 52 #[.int .i64 kd, .int .i64 on, .int .i64 fr, .int .i64 tq, .slice AB nB cB, .slice AC nC cC]) (hm : m ≤ 100000) (hB : nB ≤ 281474976710656) (hC : nC ≤ 281474976710656) (hsz : a.tmps.size = 269) (o5 : Sl a 5 (.int .i64 ((m : Nat) : Int))) (o7 : Sl a 7 (.pointer (some ⟨g7, 0, none⟩)))
    (hend : ∀ (a' : Act), Same a a' [34, 35, 36, 37, 38, 39, 40, 41, 42, 5] → Sl a' 5 (.int .i64 ((m + nB + nC : Nat) : Int)) → Q .normal a' (w)) : (Code.region 8 (opsOf 8 Try.f10).toArray false).wp Try.prog Q a w := by
  refine wp_region_lit (l := (opsOf 8 Try.f10)) ?_
  conv => arg 4; whnf
  unfold Sl at o5 o7
  have c_4 : w.cell? ⟨g7, 4, none⟩ = some (.slice AB nB cB) := hb7.cell 4
  have c_5 : w.cell? ⟨g7, 5, none⟩ = some (.slice AC nC cC) := hb7.cell 5
  have hw1 : wrap64 ((m : Int) + (nB : Int)) = (m : Int) + (nB : Int) := by unfold wrap64; omega
  have hw2 : wrap64 ((m : Int) + (nB : Int) + (nC : Int)) = (m : Int) + (nB : Int) + (nC : Int) := by unfold wrap64; omega
  go_wp2_with fail
  try simp only [Act.put]
  exact hend _ (by repeat (first | (with_reducible refine same_set (by decide) ?_) | (with_reducible exact same_nil))) (by unfold Sl; first | (simp [hsz]; done) | (simp [hsz]; omega))
-- END pmn8
-- REG pmn9
set_option maxRecDepth 100000 in
set_option maxHeartbeats 2000000 in
theorem pmn_r9 {Q : Exit → Act → World → Prop} {a : Act} {w : World} (m : Nat) (hsz : a.tmps.size = 269) (o5 : Sl a 5 (.int .i64 ((m : Nat) : Int)))
    (hend : ∀ (a' : Act), Same a a' [43, 44] → Sl a' 44 (.bool (decide ((100000 : Int) < (m : Int)))) → Q .normal a' (w)) : (Code.region 9 (opsOf 9 Try.f10).toArray false).wp Try.prog Q a w := by
  refine wp_region_lit (l := (opsOf 9 Try.f10)) ?_
  conv => arg 4; whnf
  unfold Sl at o5
  go_wp2_with fail
  try simp only [Act.put]
  exact hend _ (by repeat (first | (with_reducible refine same_set (by decide) ?_) | (with_reducible exact same_nil))) (by unfold Sl; first | (simp [hsz]; done) | (simp [hsz]; omega))
-- END pmn9
-- REG pmn10
set_option maxRecDepth 100000 in
set_option maxHeartbeats 2000000 in
theorem pmn_r10 {Q : Exit → Act → World → Prop} {a : Act} {w : World}  (hsz : a.tmps.size = 269) 
    (hend : ∀ (a' : Act) (W : World), Same a a' [45, 2] → Sl a' 2 (.bool true) → (Kp [] w W) → Q .normal a' W) : (Code.region 10 (opsOf 10 Try.f10).toArray false).wp Try.prog Q a w := by
  refine wp_region_lit (l := (opsOf 10 Try.f10)) ?_
  conv => arg 4; whnf
  go_wp2_with fail
  refine (works_true w).mono ?_
  rintro e w1 ⟨rfl, k1⟩
  have k1 := Lib.hid k1
  go_wp2_with fail
  try simp only [Act.put]
  exact hend _ _ (by repeat (first | (with_reducible refine same_set (by decide) ?_) | (with_reducible exact same_nil))) (by unfold Sl; first | (simp [hsz]; done) | (simp [hsz]; omega)) (k1.out)
-- END pmn10
-- REG pmn11
set_option maxRecDepth 100000 in
set_option maxHeartbeats 2000000 in
theorem pmn_r11 {Q : Exit → Act → World → Prop} {a : Act} {w : World} (kd on fr tq : Int) (AB AC : Option Addr) (nB cB nC cC : Nat) (g7 ko : Nat) (hb7 : Blk w g7 52 #[.int .i64 kd, .int .i64 on, .int .i64 fr, .int .i64 tq, .slice AB nB cB, .slice AC nC cC]) (hon : -9223372036854775808 ≤ on ∧ on ≤ 9223372036854775807) (hko : Int.tmod (wrap64 (Int.tmod on 2 + 2)) 2 = (ko : Int)) (hsz : a.tmps.size = 269) (o7 : Sl a 7 (.pointer (some ⟨g7, 0, none⟩)))
    (hend : ∀ (a' : Act), Same a a' [46, 47, 48, 49, 50, 8] → Sl a' 8 (.int .i64 ((ko : Nat) : Int)) → Q .normal a' (w)) : (Code.region 11 (opsOf 11 Try.f10).toArray false).wp Try.prog Q a w := by
  refine wp_region_lit (l := (opsOf 11 Try.f10)) ?_
  conv => arg 4; whnf
  unfold Sl at o7
  have c_1 : w.cell? ⟨g7, 1, none⟩ = some (.int .i64 on) := hb7.cell 1
  go_wp2_with fail
  try simp only [Act.put]
  exact hend _ (by repeat (first | (with_reducible refine same_set (by decide) ?_) | (with_reducible exact same_nil))) (by unfold Sl; first | (simp [hsz]; done) | (simp [hsz]; omega))
-- END pmn11
-- REG pmn12
set_option maxRecDepth 100000 in
set_option maxHeartbeats 2000000 in
theorem pmn_r12 {Q : Exit → Act → World → Prop} {a : Act} {w : World} (cs : Array Value) (gO p ko : Nat) (hko : ko < 2) (hck : cs[ko]? = some (.pointer (some ⟨p, 0, none⟩))) (hbO : Blk w gO 49 cs) (hsz : a.tmps.size = 269) (o3 : Sl a 3 (.pointer (some ⟨gO, 0, none⟩))) (o8 : Sl a 8 (.int .i64 ((ko : Nat) : Int)))
    (hend : ∀ (a' : Act), Same a a' [51, 52, 53, 54] → Sl a' 54 (.bool false) → Q .normal a' (w)) : (Code.region 12 (opsOf 12 Try.f10).toArray false).wp Try.prog Q a w := by
  refine wp_region_lit (l := (opsOf 12 Try.f10)) ?_
  conv => arg 4; whnf
  unfold Sl at o3 o8
  have h0 : 0 ≤ (ko : Int) := by omega
  have h1 : (ko : Int) < 2 := by omega
  have c0 : w.cell? ⟨gO, ko, none⟩ = some (.pointer (some ⟨p, 0, none⟩)) := by rw [hbO.cell]; exact hck
  go_wp2_with fail
  try simp only [Act.put]
  exact hend _ (by repeat (first | (with_reducible refine same_set (by decide) ?_) | (with_reducible exact same_nil))) (by unfold Sl; first | (simp [hsz]; done) | (simp [hsz]; omega))
-- END pmn12
-- REG pmn14
set_option maxRecDepth 100000 in
set_option maxHeartbeats 2000000 in
theorem pmn_r14 {Q : Exit → Act → World → Prop} {a : Act} {w : World} (w0 : World) (kd on fr tq : Int) (AB AC : Option Addr) (nB cB nC cC : Nat) (g7 : Nat) (bB bC : List UInt8) (hnB : nB ≤ 100000) (hnC : nC ≤ 100000) (hvB : ∀ V, Kp [] w0 V → Rd V 1 (.slice AB nB cB) nB (bv bB)) (hvC : ∀ V, Kp [] w0 V → Rd V 1 (.slice AC nC cC) nC (bv bC)) (L : List Res) (hsz : a.tmps.size = 269) (o7 : Sl a 7 (.pointer (some ⟨g7, 0, none⟩)))
    (S0 : Held w0 w (blkR g7 52 #[.int .i64 kd, .int .i64 on, .int .i64 fr, .int .i64 tq, .slice AB nB cB, .slice AC nC cC] :: L))
    (hend : ∀ (a' : Act) (vs : Nat → Value) (gs : Nat → Nat × Nat) (W : World), Same a a' [55, 56, 57, 58, 59, 60, 9, 10] → Sl a' 9 (.slice (some ⟨(gs 2).1, 0, none⟩) nB (gs 2).2) → Sl a' 10 (.slice (some ⟨(gs 5).1, 0, none⟩) nC (gs 5).2) → Held w0 W (rowR 5 1 (.slice (some ⟨(gs 2).1, 0, none⟩) (nB + 2) ((gs 2).2)) (nB + 2) (bv (bB ++ [165, 90])) :: rowR 5 1 (.slice (some ⟨(gs 5).1, 0, none⟩) (nC + 2) ((gs 5).2)) (nC + 2) (bv (bC ++ [165, 90])) :: blkR g7 52 #[.int .i64 kd, .int .i64 on, .int .i64 fr, .int .i64 tq, .slice AB nB cB, .slice AC nC cC] :: L) → Q .normal a' W) : (Code.region 14 (opsOf 14 Try.f10).toArray true).wp Try.prog Q a w := by
  have hap : apartB (opsOf 14 Try.f10) = true := by kernel_rfl
  refine wp_region_sep (Γ := Nat × Nat) (l := (opsOf 14 Try.f10)) 2 [0, 1, 2, 3, 4, 5, 6, 7, 8, 9]
    (fun i vs gs => match i with | 0 => vs 0 = .pointer (some ⟨g7, 4, none⟩) | 1 => vs 1 = .slice AB nB cB | 2 => vs 2 = .slice (some ⟨(gs 2).1, 0, none⟩) nB (gs 2).2 | 3 => vs 3 = .pointer (some ⟨g7, 5, none⟩) | 4 => vs 4 = .slice AC nC cC | 5 => vs 5 = .slice (some ⟨(gs 5).1, 0, none⟩) nC (gs 5).2 | 6 => vs 6 = .slice (some ⟨(gs 2).1, 0, none⟩) nB (gs 2).2 | 7 => vs 7 = .slice (some ⟨(gs 5).1, 0, none⟩) nC (gs 5).2 | _ => True)
    (fun i vs gs => match i with | 2 => [rowR 5 1 (.slice (some ⟨(gs 2).1, 0, none⟩) (nB + 2) ((gs 2).2)) (nB + 2) (bv (bB ++ [165, 90]))] | 5 => [rowR 5 1 (.slice (some ⟨(gs 5).1, 0, none⟩) (nC + 2) ((gs 5).2)) (nC + 2) (bv (bC ++ [165, 90]))] | 8 => [blkR g7 52 #[.int .i64 kd, .int .i64 on, .int .i64 fr, .int .i64 tq, .slice AB nB cB, .slice AC nC cC]] | 9 => L | _ => [])
    (fun i => match i with  | _ => []) (fun i => match i with | 1 => [8] | 4 => [8] | _ => []) S0 (by kernel_rfl) hap (by kernel_rfl) (by kernel_rfl) (fun i => match i with | 0 => [0] | 1 => [1] | 2 => [2] | 3 => [3] | 4 => [4] | 5 => [5] | 6 => [2, 6] | 7 => [5, 7] | _ => []) (by kernel_rfl) ?_ (by kernel_rfl) ?_ ?_ ?_
  · intro s vs vs' gs gs' h
    iterate 10 (rcases s with _ | s; · (first | exact ⟨rfl, id⟩ | (simp only [List.mem_cons, List.not_mem_nil, or_false, forall_eq_or_imp, forall_eq] at h; simp [h])))
    exact ⟨rfl, id⟩
  · simp only [List.range, List.range.loop, List.flatMap_cons, List.flatMap_nil, List.append_nil, List.cons_append, List.nil_append]
    exact List.Perm.refl _
  · clear S0 hend
    refine ⟨?_, ?_, ?_, ?_, ?_, ?_, ?_, ?_, trivial⟩
    · intro vs gs A' W LF hA S hR hd hu K hK
      replace hK := hK default
      have e7 : A'.tmps[7]?.getD undef = .pointer (some ⟨g7, 0, none⟩) := slot_out hA hap (Nat.lt_of_lt_of_eq (Nat.le_of_ble_eq_true rfl : 7 < 269) hsz.symm) (by kernel_rfl) o7
      clear hA o7
      go_step
      exact hK _ _ S rfl
    · intro vs gs A' W LF hA S hR hd hu K hK
      replace hK := hK default
      have f0 : vs 0 = .pointer (some ⟨g7, 4, none⟩) := hd 0 (by kernel_rfl)
      have e55 : A'.tmps[55]?.getD undef = vs 0 := slot_in hA hap (Nat.lt_of_lt_of_eq (Nat.le_of_ble_eq_true rfl : 55 < 269) hsz.symm) (by kernel_rfl)
      rw [f0] at e55
      clear hA o7
      have hb7 : Blk W g7 52 #[.int .i64 kd, .int .i64 on, .int .i64 fr, .int .i64 tq, .slice AB nB cB, .slice AC nC cC] := (S.ok (blkR g7 52 #[.int .i64 kd, .int .i64 on, .int .i64 fr, .int .i64 tq, .slice AB nB cB, .slice AC nC cC]) (hR 8 (List.mem_singleton.2 rfl) _ (List.mem_singleton.2 rfl)))
      have c0 : W.cell? ⟨g7, 4, none⟩ = some (.slice AB nB cB) := hb7.cell 4
      go_step
      exact hK _ _ S rfl
    · intro vs gs A' W LF hA S hR hd hu K hK
      have f1 : vs 1 = .slice AB nB cB := hd 1 (by kernel_rfl)
      have e56 : A'.tmps[56]?.getD undef = vs 1 := slot_in hA hap (Nat.lt_of_lt_of_eq (Nat.le_of_ble_eq_true rfl : 56 < 269) hsz.symm) (by kernel_rfl)
      rw [f1] at e56
      clear hA o7
      go_step
      refine (clent_any _ bB nB W (hvB _ S.k) (by omega)).mono ?_
      rintro e w' ⟨g, cg, rfl, ho, k, hg⟩
      exact hK (g, cg) _ w' (S.rownew ho k (fun g' hg' => by cases hg'; exact hg)) rfl
    · intro vs gs A' W LF hA S hR hd hu K hK
      replace hK := hK default
      have e7 : A'.tmps[7]?.getD undef = .pointer (some ⟨g7, 0, none⟩) := slot_out hA hap (Nat.lt_of_lt_of_eq (Nat.le_of_ble_eq_true rfl : 7 < 269) hsz.symm) (by kernel_rfl) o7
      clear hA o7
      go_step
      exact hK _ _ S rfl
    · intro vs gs A' W LF hA S hR hd hu K hK
      replace hK := hK default
      have f3 : vs 3 = .pointer (some ⟨g7, 5, none⟩) := hd 3 (by kernel_rfl)
      have e58 : A'.tmps[58]?.getD undef = vs 3 := slot_in hA hap (Nat.lt_of_lt_of_eq (Nat.le_of_ble_eq_true rfl : 58 < 269) hsz.symm) (by kernel_rfl)
      rw [f3] at e58
      clear hA o7
      have hb7 : Blk W g7 52 #[.int .i64 kd, .int .i64 on, .int .i64 fr, .int .i64 tq, .slice AB nB cB, .slice AC nC cC] := (S.ok (blkR g7 52 #[.int .i64 kd, .int .i64 on, .int .i64 fr, .int .i64 tq, .slice AB nB cB, .slice AC nC cC]) (hR 8 (List.mem_singleton.2 rfl) _ (List.mem_singleton.2 rfl)))
      have c0 : W.cell? ⟨g7, 5, none⟩ = some (.slice AC nC cC) := hb7.cell 5
      go_step
      exact hK _ _ S rfl
    · intro vs gs A' W LF hA S hR hd hu K hK
      have f4 : vs 4 = .slice AC nC cC := hd 4 (by kernel_rfl)
      have e59 : A'.tmps[59]?.getD undef = vs 4 := slot_in hA hap (Nat.lt_of_lt_of_eq (Nat.le_of_ble_eq_true rfl : 59 < 269) hsz.symm) (by kernel_rfl)
      rw [f4] at e59
      clear hA o7
      go_step
      refine (clent_any _ bC nC W (hvC _ S.k) (by omega)).mono ?_
      rintro e w' ⟨g, cg, rfl, ho, k, hg⟩
      exact hK (g, cg) _ w' (S.rownew ho k (fun g' hg' => by cases hg'; exact hg)) rfl
    · intro vs gs A' W LF hA S hR hd hu K hK
      replace hK := hK default
      have f2 : vs 2 = .slice (some ⟨(gs 2).1, 0, none⟩) nB (gs 2).2 := hd 2 (by kernel_rfl)
      have e57 : A'.tmps[57]?.getD undef = vs 2 := slot_in hA hap (Nat.lt_of_lt_of_eq (Nat.le_of_ble_eq_true rfl : 57 < 269) hsz.symm) (by kernel_rfl)
      rw [f2] at e57
      clear hA o7
      go_step
      exact hK _ _ S rfl
    · intro vs gs A' W LF hA S hR hd hu K hK
      replace hK := hK default
      have f5 : vs 5 = .slice (some ⟨(gs 5).1, 0, none⟩) nC (gs 5).2 := hd 5 (by kernel_rfl)
      have e60 : A'.tmps[60]?.getD undef = vs 5 := slot_in hA hap (Nat.lt_of_lt_of_eq (Nat.le_of_ble_eq_true rfl : 60 < 269) hsz.symm) (by kernel_rfl)
      rw [f5] at e60
      clear hA o7
      go_step
      exact hK _ _ S rfl
  · intro vs gs W S hp
    have S : Held w0 W (rowR 5 1 (.slice (some ⟨(gs 2).1, 0, none⟩) (nB + 2) ((gs 2).2)) (nB + 2) (bv (bB ++ [165, 90])) :: rowR 5 1 (.slice (some ⟨(gs 5).1, 0, none⟩) (nC + 2) ((gs 5).2)) (nC + 2) (bv (bC ++ [165, 90])) :: blkR g7 52 #[.int .i64 kd, .int .i64 on, .int .i64 fr, .int .i64 tq, .slice AB nB cB, .slice AC nC cC] :: L) := by simpa only [List.flatMap_cons, List.flatMap_nil, List.append_nil, List.nil_append, List.cons_append, List.append_assoc] using S
    rw [show putAll vs (opsOf 14 Try.f10) 0 a = putD [(55, vs 0), (56, vs 1), (57, vs 2), (58, vs 3), (59, vs 4), (60, vs 5), (9, vs 6), (10, vs 7)] a from by kernel_rfl]
    exact hend _ vs gs W (same_putD _ a) (sl_putD _ a 9 _ (by rw [show vs 6 = _ from hp 6 (Nat.le_of_ble_eq_true (by kernel_rfl))]; kernel_rfl)) (sl_putD _ a 10 _ (by rw [show vs 7 = _ from hp 7 (Nat.le_of_ble_eq_true (by kernel_rfl))]; kernel_rfl)) S
-- END pmn14
-- REG pmn15
set_option maxRecDepth 100000 in
set_option maxHeartbeats 2000000 in
theorem pmn_r15 {Q : Exit → Act → World → Prop} {a : Act} {w : World} (w0 : World) (cs : Array Value) (gO p ko : Nat) (hko : ko < 2) (hck : cs[ko]? = some (.pointer (some ⟨p, 0, none⟩))) (kd on fr tq : Int) (AB AC : Option Addr) (nB cB nC cC : Nat) (g7 : Nat) (L : List Res) (hsz : a.tmps.size = 269) (o3 : Sl a 3 (.pointer (some ⟨gO, 0, none⟩))) (o7 : Sl a 7 (.pointer (some ⟨g7, 0, none⟩))) (o8 : Sl a 8 (.int .i64 ((ko : Nat) : Int)))
    (S0 : Held w0 w (blkR gO 49 cs :: blkR g7 52 #[.int .i64 kd, .int .i64 on, .int .i64 fr, .int .i64 tq, .slice AB nB cB, .slice AC nC cC] :: L))
    (hend : ∀ (a' : Act) (vs : Nat → Value) (gs : Nat → Nat × Nat) (W : World), Same a a' [61, 62, 63, 64, 65, 66, 67, 11] → Sl a' 11 (.func (.func 48) #[] #[.pointer (some ⟨(gs 6).1, 0, none⟩), .pointer (some ⟨(gs 6).2, 0, none⟩)]) → Held w0 W ([blkR (gs 6).1 47 #[.pointer (some ⟨p, 0, none⟩)], blkR (gs 6).2 3 #[.int .i64 (if fr < 1 then 1 else fr)]] ++ (blkR gO 49 cs :: blkR g7 52 #[.int .i64 kd, .int .i64 on, .int .i64 fr, .int .i64 tq, .slice AB nB cB, .slice AC nC cC] :: L)) → Q .normal a' W) : (Code.region 15 (opsOf 15 Try.f10).toArray true).wp Try.prog Q a w := by
  have hap : apartB (opsOf 15 Try.f10) = true := by kernel_rfl
  refine wp_region_sep (Γ := Nat × Nat) (l := (opsOf 15 Try.f10)) 3 [0, 1, 2, 3, 4, 5, 6, 7, 8, 9, 10]
    (fun i vs gs => match i with | 0 => vs 0 = .int .i64 ((ko : Nat) : Int) | 1 => vs 1 = .pointer (some ⟨gO, ko, none⟩) | 2 => vs 2 = .pointer (some ⟨p, 0, none⟩) | 3 => vs 3 = .pointer (some ⟨g7, 2, none⟩) | 4 => vs 4 = .int .i64 fr | 5 => vs 5 = .int .i64 (if fr < 1 then 1 else fr) | 6 => vs 6 = .func (.func 48) #[] #[.pointer (some ⟨(gs 6).1, 0, none⟩), .pointer (some ⟨(gs 6).2, 0, none⟩)] | 7 => vs 7 = .func (.func 48) #[] #[.pointer (some ⟨(gs 6).1, 0, none⟩), .pointer (some ⟨(gs 6).2, 0, none⟩)] | _ => True)
    (fun i vs gs => match i with | 6 => [blkR (gs 6).1 47 #[.pointer (some ⟨p, 0, none⟩)], blkR (gs 6).2 3 #[.int .i64 (if fr < 1 then 1 else fr)]] | 8 => [blkR gO 49 cs] | 9 => [blkR g7 52 #[.int .i64 kd, .int .i64 on, .int .i64 fr, .int .i64 tq, .slice AB nB cB, .slice AC nC cC]] | 10 => L | _ => [])
    (fun i => match i with  | _ => []) (fun i => match i with | 2 => [8] | 4 => [9] | _ => []) S0 (by kernel_rfl) hap (by kernel_rfl) (by kernel_rfl) (fun i => match i with | 0 => [0] | 1 => [1] | 2 => [2] | 3 => [3] | 4 => [4] | 5 => [5] | 6 => [6] | 7 => [6, 7] | _ => []) (by kernel_rfl) ?_ (by kernel_rfl) ?_ ?_ ?_
  · intro s vs vs' gs gs' h
    iterate 11 (rcases s with _ | s; · (first | exact ⟨rfl, id⟩ | (simp only [List.mem_cons, List.not_mem_nil, or_false, forall_eq_or_imp, forall_eq] at h; simp [h])))
    exact ⟨rfl, id⟩
  · simp only [List.range, List.range.loop, List.flatMap_cons, List.flatMap_nil, List.append_nil, List.cons_append, List.nil_append]
    exact List.Perm.refl _
  · clear S0 hend
    refine ⟨?_, ?_, ?_, ?_, ?_, ?_, ?_, ?_, trivial⟩
    · intro vs gs A' W LF hA S hR hd hu K hK
      replace hK := hK default
      have e8 : A'.tmps[8]?.getD undef = .int .i64 ((ko : Nat) : Int) := slot_out hA hap (Nat.lt_of_lt_of_eq (Nat.le_of_ble_eq_true rfl : 8 < 269) hsz.symm) (by kernel_rfl) o8
      clear hA o3 o7 o8
      go_step
      exact hK _ _ S rfl
    · intro vs gs A' W LF hA S hR hd hu K hK
      replace hK := hK default
      have e3 : A'.tmps[3]?.getD undef = .pointer (some ⟨gO, 0, none⟩) := slot_out hA hap (Nat.lt_of_lt_of_eq (Nat.le_of_ble_eq_true rfl : 3 < 269) hsz.symm) (by kernel_rfl) o3
      have f0 : vs 0 = .int .i64 ((ko : Nat) : Int) := hd 0 (by kernel_rfl)
      have e61 : A'.tmps[61]?.getD undef = vs 0 := slot_in hA hap (Nat.lt_of_lt_of_eq (Nat.le_of_ble_eq_true rfl : 61 < 269) hsz.symm) (by kernel_rfl)
      rw [f0] at e61
      clear hA o3 o7 o8
      have h0 : 0 ≤ (ko : Int) := by omega
      have h1 : (ko : Int) < 2 := by omega
      go_step
      exact hK _ _ S rfl
    · intro vs gs A' W LF hA S hR hd hu K hK
      replace hK := hK default
      have f1 : vs 1 = .pointer (some ⟨gO, ko, none⟩) := hd 1 (by kernel_rfl)
      have e62 : A'.tmps[62]?.getD undef = vs 1 := slot_in hA hap (Nat.lt_of_lt_of_eq (Nat.le_of_ble_eq_true rfl : 62 < 269) hsz.symm) (by kernel_rfl)
      rw [f1] at e62
      clear hA o3 o7 o8
      have c0 : W.cell? ⟨gO, ko, none⟩ = some (.pointer (some ⟨p, 0, none⟩)) := by rw [(show Blk W gO 49 cs from (S.ok (blkR gO 49 cs) (hR 8 (List.mem_singleton.2 rfl) _ (List.mem_singleton.2 rfl)))).cell]; exact hck
      go_step
      exact hK _ _ S rfl
    · intro vs gs A' W LF hA S hR hd hu K hK
      replace hK := hK default
      have e7 : A'.tmps[7]?.getD undef = .pointer (some ⟨g7, 0, none⟩) := slot_out hA hap (Nat.lt_of_lt_of_eq (Nat.le_of_ble_eq_true rfl : 7 < 269) hsz.symm) (by kernel_rfl) o7
      clear hA o3 o7 o8
      go_step
      exact hK _ _ S rfl
    · intro vs gs A' W LF hA S hR hd hu K hK
      replace hK := hK default
      have f3 : vs 3 = .pointer (some ⟨g7, 2, none⟩) := hd 3 (by kernel_rfl)
      have e64 : A'.tmps[64]?.getD undef = vs 3 := slot_in hA hap (Nat.lt_of_lt_of_eq (Nat.le_of_ble_eq_true rfl : 64 < 269) hsz.symm) (by kernel_rfl)
      rw [f3] at e64
      clear hA o3 o7 o8
      have hb7 : Blk W g7 52 #[.int .i64 kd, .int .i64 on, .int .i64 fr, .int .i64 tq, .slice AB nB cB, .slice AC nC cC] := (S.ok (blkR g7 52 #[.int .i64 kd, .int .i64 on, .int .i64 fr, .int .i64 tq, .slice AB nB cB, .slice AC nC cC]) (hR 9 (List.mem_singleton.2 rfl) _ (List.mem_singleton.2 rfl)))
      have c0 : W.cell? ⟨g7, 2, none⟩ = some (.int .i64 fr) := hb7.cell 2
      go_step
      exact hK _ _ S rfl
    · intro vs gs A' W LF hA S hR hd hu K hK
      replace hK := hK default
      have f4 : vs 4 = .int .i64 fr := hd 4 (by kernel_rfl)
      have e65 : A'.tmps[65]?.getD undef = vs 4 := slot_in hA hap (Nat.lt_of_lt_of_eq (Nat.le_of_ble_eq_true rfl : 65 < 269) hsz.symm) (by kernel_rfl)
      rw [f4] at e65
      clear hA o3 o7 o8
      go_step
      exact hK _ _ S rfl
    · intro vs gs A' W LF hA S hR hd hu K hK
      have f2 : vs 2 = .pointer (some ⟨p, 0, none⟩) := hd 2 (by kernel_rfl)
      have e63 : A'.tmps[63]?.getD undef = vs 2 := slot_in hA hap (Nat.lt_of_lt_of_eq (Nat.le_of_ble_eq_true rfl : 63 < 269) hsz.symm) (by kernel_rfl)
      rw [f2] at e63
      have f5 : vs 5 = .int .i64 (if fr < 1 then 1 else fr) := hd 5 (by kernel_rfl)
      have e66 : A'.tmps[66]?.getD undef = vs 5 := slot_in hA hap (Nat.lt_of_lt_of_eq (Nat.le_of_ble_eq_true rfl : 66 < 269) hsz.symm) (by kernel_rfl)
      rw [f5] at e66
      clear hA o3 o7 o8
      go_step
      refine (all_any (some ⟨p, 0, none⟩) (if fr < 1 then 1 else fr) W).mono ?_
      rintro e w' ⟨rfl, rfl⟩
      exact hK (W.heap.size, W.heap.size + 1) _ _ (((S.newBlk 47 #[.pointer (some ⟨p, 0, none⟩)]).newBlkN 3 #[.int .i64 (if fr < 1 then 1 else fr)] (g := W.heap.size + 1) (by simp)).pull 1 rfl) rfl
    · intro vs gs A' W LF hA S hR hd hu K hK
      replace hK := hK default
      have f6 : vs 6 = .func (.func 48) #[] #[.pointer (some ⟨(gs 6).1, 0, none⟩), .pointer (some ⟨(gs 6).2, 0, none⟩)] := hd 6 (by kernel_rfl)
      have e67 : A'.tmps[67]?.getD undef = vs 6 := slot_in hA hap (Nat.lt_of_lt_of_eq (Nat.le_of_ble_eq_true rfl : 67 < 269) hsz.symm) (by kernel_rfl)
      rw [f6] at e67
      clear hA o3 o7 o8
      go_step
      exact hK _ _ S rfl
  · intro vs gs W S hp
    have S : Held w0 W ([blkR (gs 6).1 47 #[.pointer (some ⟨p, 0, none⟩)], blkR (gs 6).2 3 #[.int .i64 (if fr < 1 then 1 else fr)]] ++ (blkR gO 49 cs :: blkR g7 52 #[.int .i64 kd, .int .i64 on, .int .i64 fr, .int .i64 tq, .slice AB nB cB, .slice AC nC cC] :: L)) := by simpa only [List.flatMap_cons, List.flatMap_nil, List.append_nil, List.nil_append, List.cons_append, List.append_assoc] using S
    rw [show putAll vs (opsOf 15 Try.f10) 0 a = putD [(61, vs 0), (62, vs 1), (63, vs 2), (64, vs 3), (65, vs 4), (66, vs 5), (67, vs 6), (11, vs 7)] a from by kernel_rfl]
    exact hend _ vs gs W (same_putD _ a) (sl_putD _ a 11 _ (by rw [show vs 7 = _ from hp 7 (Nat.le_of_ble_eq_true (by kernel_rfl))]; kernel_rfl)) S
-- END pmn15
-- REG pmn29
set_option maxRecDepth 100000 in
set_option maxHeartbeats 2000000 in
theorem pmn_r29 {Q : Exit → Act → World → Prop} {a : Act} {w : World} (w0 : World) (cs : Array Value) (gO p ko : Nat) (hko : ko < 2) (hck : cs[ko]? = some (.pointer (some ⟨p, 0, none⟩))) (kd on fr tq : Int) (AB AC : Option Addr) (nB cB nC cC : Nat) (g7 : Nat) (L : List Res) (hsz : a.tmps.size = 269) (o3 : Sl a 3 (.pointer (some ⟨gO, 0, none⟩))) (o7 : Sl a 7 (.pointer (some ⟨g7, 0, none⟩))) (o8 : Sl a 8 (.int .i64 ((ko : Nat) : Int)))
    (S0 : Held w0 w (blkR gO 49 cs :: blkR g7 52 #[.int .i64 kd, .int .i64 on, .int .i64 fr, .int .i64 tq, .slice AB nB cB, .slice AC nC cC] :: L))
    (hend : ∀ (a' : Act) (vs : Nat → Value) (gs : Nat → Nat × Nat) (W : World), Same a a' [137, 138, 139, 140, 141, 142, 16] → Sl a' 16 (.func (.func 48) #[] #[.pointer (some ⟨(gs 5).1, 0, none⟩), .pointer (some ⟨(gs 5).2, 0, none⟩)]) → Held w0 W ([blkR (gs 5).1 47 #[.pointer (some ⟨p, 0, none⟩)], blkR (gs 5).2 3 #[.int .i64 fr]] ++ (blkR gO 49 cs :: blkR g7 52 #[.int .i64 kd, .int .i64 on, .int .i64 fr, .int .i64 tq, .slice AB nB cB, .slice AC nC cC] :: L)) → Q .normal a' W) : (Code.region 29 (opsOf 29 Try.f10).toArray true).wp Try.prog Q a w := by
  have hap : apartB (opsOf 29 Try.f10) = true := by kernel_rfl
  refine wp_region_sep (Γ := Nat × Nat) (l := (opsOf 29 Try.f10)) 3 [0, 1, 2, 3, 4, 5, 6, 7, 8, 9]
    (fun i vs gs => match i with | 0 => vs 0 = .int .i64 ((ko : Nat) : Int) | 1 => vs 1 = .pointer (some ⟨gO, ko, none⟩) | 2 => vs 2 = .pointer (some ⟨p, 0, none⟩) | 3 => vs 3 = .pointer (some ⟨g7, 2, none⟩) | 4 => vs 4 = .int .i64 fr | 5 => vs 5 = .func (.func 48) #[] #[.pointer (some ⟨(gs 5).1, 0, none⟩), .pointer (some ⟨(gs 5).2, 0, none⟩)] | 6 => vs 6 = .func (.func 48) #[] #[.pointer (some ⟨(gs 5).1, 0, none⟩), .pointer (some ⟨(gs 5).2, 0, none⟩)] | _ => True)
    (fun i vs gs => match i with | 5 => [blkR (gs 5).1 47 #[.pointer (some ⟨p, 0, none⟩)], blkR (gs 5).2 3 #[.int .i64 fr]] | 7 => [blkR gO 49 cs] | 8 => [blkR g7 52 #[.int .i64 kd, .int .i64 on, .int .i64 fr, .int .i64 tq, .slice AB nB cB, .slice AC nC cC]] | 9 => L | _ => [])
    (fun i => match i with  | _ => []) (fun i => match i with | 2 => [7] | 4 => [8] | _ => []) S0 (by kernel_rfl) hap (by kernel_rfl) (by kernel_rfl) (fun i => match i with | 0 => [0] | 1 => [1] | 2 => [2] | 3 => [3] | 4 => [4] | 5 => [5] | 6 => [5, 6] | _ => []) (by kernel_rfl) ?_ (by kernel_rfl) ?_ ?_ ?_
  · intro s vs vs' gs gs' h
    iterate 10 (rcases s with _ | s; · (first | exact ⟨rfl, id⟩ | (simp only [List.mem_cons, List.not_mem_nil, or_false, forall_eq_or_imp, forall_eq] at h; simp [h])))
    exact ⟨rfl, id⟩
  · simp only [List.range, List.range.loop, List.flatMap_cons, List.flatMap_nil, List.append_nil, List.cons_append, List.nil_append]
    exact List.Perm.refl _
  · clear S0 hend
    refine ⟨?_, ?_, ?_, ?_, ?_, ?_, ?_, trivial⟩
    · intro vs gs A' W LF hA S hR hd hu K hK
      replace hK := hK default
      have e8 : A'.tmps[8]?.getD undef = .int .i64 ((ko : Nat) : Int) := slot_out hA hap (Nat.lt_of_lt_of_eq (Nat.le_of_ble_eq_true rfl : 8 < 269) hsz.symm) (by kernel_rfl) o8
      clear hA o3 o7 o8
      go_step
      exact hK _ _ S rfl
    · intro vs gs A' W LF hA S hR hd hu K hK
      replace hK := hK default
      have e3 : A'.tmps[3]?.getD undef = .pointer (some ⟨gO, 0, none⟩) := slot_out hA hap (Nat.lt_of_lt_of_eq (Nat.le_of_ble_eq_true rfl : 3 < 269) hsz.symm) (by kernel_rfl) o3
      have f0 : vs 0 = .int .i64 ((ko : Nat) : Int) := hd 0 (by kernel_rfl)
      have e137 : A'.tmps[137]?.getD undef = vs 0 := slot_in hA hap (Nat.lt_of_lt_of_eq (Nat.le_of_ble_eq_true rfl : 137 < 269) hsz.symm) (by kernel_rfl)
      rw [f0] at e137
      clear hA o3 o7 o8
      have h0 : 0 ≤ (ko : Int) := by omega
      have h1 : (ko : Int) < 2 := by omega
      go_step
      exact hK _ _ S rfl
    · intro vs gs A' W LF hA S hR hd hu K hK
      replace hK := hK default
      have f1 : vs 1 = .pointer (some ⟨gO, ko, none⟩) := hd 1 (by kernel_rfl)
      have e138 : A'.tmps[138]?.getD undef = vs 1 := slot_in hA hap (Nat.lt_of_lt_of_eq (Nat.le_of_ble_eq_true rfl : 138 < 269) hsz.symm) (by kernel_rfl)
      rw [f1] at e138
      clear hA o3 o7 o8
      have c0 : W.cell? ⟨gO, ko, none⟩ = some (.pointer (some ⟨p, 0, none⟩)) := by rw [(show Blk W gO 49 cs from (S.ok (blkR gO 49 cs) (hR 7 (List.mem_singleton.2 rfl) _ (List.mem_singleton.2 rfl)))).cell]; exact hck
      go_step
      exact hK _ _ S rfl
    · intro vs gs A' W LF hA S hR hd hu K hK
      replace hK := hK default
      have e7 : A'.tmps[7]?.getD undef = .pointer (some ⟨g7, 0, none⟩) := slot_out hA hap (Nat.lt_of_lt_of_eq (Nat.le_of_ble_eq_true rfl : 7 < 269) hsz.symm) (by kernel_rfl) o7
      clear hA o3 o7 o8
      go_step
      exact hK _ _ S rfl
    · intro vs gs A' W LF hA S hR hd hu K hK
      replace hK := hK default
      have f3 : vs 3 = .pointer (some ⟨g7, 2, none⟩) := hd 3 (by kernel_rfl)
      have e140 : A'.tmps[140]?.getD undef = vs 3 := slot_in hA hap (Nat.lt_of_lt_of_eq (Nat.le_of_ble_eq_true rfl : 140 < 269) hsz.symm) (by kernel_rfl)
      rw [f3] at e140
      clear hA o3 o7 o8
      have hb7 : Blk W g7 52 #[.int .i64 kd, .int .i64 on, .int .i64 fr, .int .i64 tq, .slice AB nB cB, .slice AC nC cC] := (S.ok (blkR g7 52 #[.int .i64 kd, .int .i64 on, .int .i64 fr, .int .i64 tq, .slice AB nB cB, .slice AC nC cC]) (hR 8 (List.mem_singleton.2 rfl) _ (List.mem_singleton.2 rfl)))
      have c0 : W.cell? ⟨g7, 2, none⟩ = some (.int .i64 fr) := hb7.cell 2
      go_step
      exact hK _ _ S rfl
    · intro vs gs A' W LF hA S hR hd hu K hK
      have f2 : vs 2 = .pointer (some ⟨p, 0, none⟩) := hd 2 (by kernel_rfl)
      have e139 : A'.tmps[139]?.getD undef = vs 2 := slot_in hA hap (Nat.lt_of_lt_of_eq (Nat.le_of_ble_eq_true rfl : 139 < 269) hsz.symm) (by kernel_rfl)
      rw [f2] at e139
      have f4 : vs 4 = .int .i64 fr := hd 4 (by kernel_rfl)
      have e141 : A'.tmps[141]?.getD undef = vs 4 := slot_in hA hap (Nat.lt_of_lt_of_eq (Nat.le_of_ble_eq_true rfl : 141 < 269) hsz.symm) (by kernel_rfl)
      rw [f4] at e141
      clear hA o3 o7 o8
      go_step
      refine (all_any (some ⟨p, 0, none⟩) fr W).mono ?_
      rintro e w' ⟨rfl, rfl⟩
      exact hK (W.heap.size, W.heap.size + 1) _ _ (((S.newBlk 47 #[.pointer (some ⟨p, 0, none⟩)]).newBlkN 3 #[.int .i64 fr] (g := W.heap.size + 1) (by simp)).pull 1 rfl) rfl
    · intro vs gs A' W LF hA S hR hd hu K hK
      replace hK := hK default
      have f5 : vs 5 = .func (.func 48) #[] #[.pointer (some ⟨(gs 5).1, 0, none⟩), .pointer (some ⟨(gs 5).2, 0, none⟩)] := hd 5 (by kernel_rfl)
      have e142 : A'.tmps[142]?.getD undef = vs 5 := slot_in hA hap (Nat.lt_of_lt_of_eq (Nat.le_of_ble_eq_true rfl : 142 < 269) hsz.symm) (by kernel_rfl)
      rw [f5] at e142
      clear hA o3 o7 o8
      go_step
      exact hK _ _ S rfl
  · intro vs gs W S hp
    have S : Held w0 W ([blkR (gs 5).1 47 #[.pointer (some ⟨p, 0, none⟩)], blkR (gs 5).2 3 #[.int .i64 fr]] ++ (blkR gO 49 cs :: blkR g7 52 #[.int .i64 kd, .int .i64 on, .int .i64 fr, .int .i64 tq, .slice AB nB cB, .slice AC nC cC] :: L)) := by simpa only [List.flatMap_cons, List.flatMap_nil, List.append_nil, List.nil_append, List.cons_append, List.append_assoc] using S
    rw [show putAll vs (opsOf 29 Try.f10) 0 a = putD [(137, vs 0), (138, vs 1), (139, vs 2), (140, vs 3), (141, vs 4), (142, vs 5), (16, vs 6)] a from by kernel_rfl]
    exact hend _ vs gs W (same_putD _ a) (sl_putD _ a 16 _ (by rw [show vs 6 = _ from hp 6 (Nat.le_of_ble_eq_true (by kernel_rfl))]; kernel_rfl)) S
-- END pmn29
-- REG pmn16
set_option maxRecDepth 100000 in
set_option maxHeartbeats 2000000 in
theorem pmn_r16 {Q : Exit → Act → World → Prop} {a : Act} {w : World} (kd on fr tq : Int) (AB AC : Option Addr) (nB cB nC cC : Nat) (g7 : Nat) (hb7 : Blk w g7 52 #[.int .i64 kd, .int .i64 on, .int .i64 fr, .int .i64 tq, .slice AB nB cB, .slice AC nC cC]) (hsz : a.tmps.size = 269) (o7 : Sl a 7 (.pointer (some ⟨g7, 0, none⟩)))
    (hend : ∀ (a' : Act), Same a a' [68, 69] → Sl a' 69 (.int .i64 kd) → Q .normal a' (w)) : (Code.region 16 (opsOf 16 Try.f10).toArray false).wp Try.prog Q a w := by
  refine wp_region_lit (l := (opsOf 16 Try.f10)) ?_
  conv => arg 4; whnf
  unfold Sl at o7
  have c_0 : w.cell? ⟨g7, 0, none⟩ = some (.int .i64 kd) := hb7.cell 0
  go_wp2_with fail
  try simp only [Act.put]
  exact hend _ (by repeat (first | (with_reducible refine same_set (by decide) ?_) | (with_reducible exact same_nil))) (by unfold Sl; first | (simp [hsz]; done) | (simp [hsz]; omega))
-- END pmn16
-- REG pmn17
set_option maxRecDepth 100000 in
set_option maxHeartbeats 2000000 in
theorem pmn_r17 {Q : Exit → Act → World → Prop} {a : Act} {w : World} (kd : Int) (hsz : a.tmps.size = 269) (o69 : Sl a 69 (.int .i64 kd))
    (hend : ∀ (a' : Act), Same a a' [71, 70] → Sl a' 70 (.bool (kd == 0)) → Q .normal a' (w)) : (Code.region 17 (opsOf 17 Try.f10).toArray false).wp Try.prog Q a w := by
  refine wp_region_lit (l := (opsOf 17 Try.f10)) ?_
  conv => arg 4; whnf
  unfold Sl at o69
  go_wp2_with fail
  try simp only [Act.put]
  exact hend _ (by repeat (first | (with_reducible refine same_set (by decide) ?_) | (with_reducible exact same_nil))) (by unfold Sl; first | (simp [hsz]; done) | (simp [hsz]; omega))
-- END pmn17
-- REG pmn23
set_option maxRecDepth 100000 in
set_option maxHeartbeats 2000000 in
theorem pmn_r23 {Q : Exit → Act → World → Prop} {a : Act} {w : World} (kd : Int) (hsz : a.tmps.size = 269) (o69 : Sl a 69 (.int .i64 kd))
    (hend : ∀ (a' : Act), Same a a' [104, 103] → Sl a' 103 (.bool (kd == 1)) → Q .normal a' (w)) : (Code.region 23 (opsOf 23 Try.f10).toArray false).wp Try.prog Q a w := by
  refine wp_region_lit (l := (opsOf 23 Try.f10)) ?_
  conv => arg 4; whnf
  unfold Sl at o69
  go_wp2_with fail
  try simp only [Act.put]
  exact hend _ (by repeat (first | (with_reducible refine same_set (by decide) ?_) | (with_reducible exact same_nil))) (by unfold Sl; first | (simp [hsz]; done) | (simp [hsz]; omega))
-- END pmn23
-- REG pmn28
set_option maxRecDepth 100000 in
set_option maxHeartbeats 2000000 in
theorem pmn_r28 {Q : Exit → Act → World → Prop} {a : Act} {w : World} (kd : Int) (hsz : a.tmps.size = 269) (o69 : Sl a 69 (.int .i64 kd))
    (hend : ∀ (a' : Act), Same a a' [136, 135] → Sl a' 135 (.bool (kd == 2)) → Q .normal a' (w)) : (Code.region 28 (opsOf 28 Try.f10).toArray false).wp Try.prog Q a w := by
  refine wp_region_lit (l := (opsOf 28 Try.f10)) ?_
  conv => arg 4; whnf
  unfold Sl at o69
  go_wp2_with fail
  try simp only [Act.put]
  exact hend _ (by repeat (first | (with_reducible refine same_set (by decide) ?_) | (with_reducible exact same_nil))) (by unfold Sl; first | (simp [hsz]; done) | (simp [hsz]; omega))
-- END pmn28
-- REG pmn32
set_option maxRecDepth 100000 in
set_option maxHeartbeats 2000000 in
theorem pmn_r32 {Q : Exit → Act → World → Prop} {a : Act} {w : World} (kd : Int) (hsz : a.tmps.size = 269) (o69 : Sl a 69 (.int .i64 kd))
    (hend : ∀ (a' : Act), Same a a' [164, 163] → Sl a' 163 (.bool (kd == 3)) → Q .normal a' (w)) : (Code.region 32 (opsOf 32 Try.f10).toArray false).wp Try.prog Q a w := by
  refine wp_region_lit (l := (opsOf 32 Try.f10)) ?_
  conv => arg 4; whnf
  unfold Sl at o69
  go_wp2_with fail
  try simp only [Act.put]
  exact hend _ (by repeat (first | (with_reducible refine same_set (by decide) ?_) | (with_reducible exact same_nil))) (by unfold Sl; first | (simp [hsz]; done) | (simp [hsz]; omega))
-- END pmn32
-- REG pmn35
set_option maxRecDepth 100000 in
set_option maxHeartbeats 2000000 in
theorem pmn_r35 {Q : Exit → Act → World → Prop} {a : Act} {w : World} (kd : Int) (hsz : a.tmps.size = 269) (o69 : Sl a 69 (.int .i64 kd))
    (hend : ∀ (a' : Act), Same a a' [179, 178] → Sl a' 178 (.bool (kd == 4)) → Q .normal a' (w)) : (Code.region 35 (opsOf 35 Try.f10).toArray false).wp Try.prog Q a w := by
  refine wp_region_lit (l := (opsOf 35 Try.f10)) ?_
  conv => arg 4; whnf
  unfold Sl at o69
  go_wp2_with fail
  try simp only [Act.put]
  exact hend _ (by repeat (first | (with_reducible refine same_set (by decide) ?_) | (with_reducible exact same_nil))) (by unfold Sl; first | (simp [hsz]; done) | (simp [hsz]; omega))
-- END pmn35
-- REG pmn38
set_option maxRecDepth 100000 in
set_option maxHeartbeats 2000000 in
theorem pmn_r38 {Q : Exit → Act → World → Prop} {a : Act} {w : World} (kd : Int) (hsz : a.tmps.size = 269) (o69 : Sl a 69 (.int .i64 kd))
    (hend : ∀ (a' : Act), Same a a' [196, 195] → Sl a' 195 (.bool (kd == 5)) → Q .normal a' (w)) : (Code.region 38 (opsOf 38 Try.f10).toArray false).wp Try.prog Q a w := by
  refine wp_region_lit (l := (opsOf 38 Try.f10)) ?_
  conv => arg 4; whnf
  unfold Sl at o69
  go_wp2_with fail
  try simp only [Act.put]
  exact hend _ (by repeat (first | (with_reducible refine same_set (by decide) ?_) | (with_reducible exact same_nil))) (by unfold Sl; first | (simp [hsz]; done) | (simp [hsz]; omega))
-- END pmn38
-- REG pmn18
set_option maxRecDepth 100000 in
set_option maxHeartbeats 2000000 in
theorem pmn_r18 {Q : Exit → Act → World → Prop} {a : Act} {w : World} (w0 : World) (cs : Array Value) (gO p ko : Nat) (hko : ko < 2) (hck : cs[ko]? = some (.pointer (some ⟨p, 0, none⟩))) (gx nx cx gy ny cy : Nat) (bx by_ : List UInt8) (hlx : bx.length = nx) (hly : by_.length = ny) (v0 : Value) (bs : List UInt8) (hbl : bs.length + nx + ny ≤ 200000) (L : List Res) (S : Held w0 w (sumsR p v0 bs :: rowR 5 1 (.slice (some ⟨gx, 0, none⟩) (nx + 2) (cx)) (nx + 2) (bv (bx ++ [165, 90])) :: rowR 5 1 (.slice (some ⟨gy, 0, none⟩) (ny + 2) (cy)) (ny + 2) (bv (by_ ++ [165, 90])) :: blkR gO 49 cs :: L)) (hsz : a.tmps.size = 269) (o3 : Sl a 3 (.pointer (some ⟨gO, 0, none⟩))) (o8 : Sl a 8 (.int .i64 ((ko : Nat) : Int))) (o9 : Sl a 9 (.slice (some ⟨gx, 0, none⟩) nx cx)) (o10 : Sl a 10 (.slice (some ⟨gy, 0, none⟩) ny cy))
    (hend : ∀ (a' : Act) (W : World), Same a a' [72, 73, 74, 75, 76, 77, 78, 79, 80] → Sl a' 80 (.bool false) → (∃ v2 : Value, Held w0 W (sumsR p v2 (bs ++ (bx ++ by_)) :: rowR 5 1 (.slice (some ⟨gx, 0, none⟩) (nx + 2) (cx)) (nx + 2) (bv (bx ++ [165, 90])) :: rowR 5 1 (.slice (some ⟨gy, 0, none⟩) (ny + 2) (cy)) (ny + 2) (bv (by_ ++ [165, 90])) :: blkR gO 49 cs :: L)) → Q .normal a' W) : (Code.region 18 (opsOf 18 Try.f10).toArray false).wp Try.prog Q a w := by
  refine wp_region_lit (l := (opsOf 18 Try.f10)) ?_
  conv => arg 4; whnf
  unfold Sl at o3 o8 o9 o10
  have h0 : 0 ≤ (ko : Int) := by omega
  have h1 : (ko : Int) < 2 := by omega
  have c0 : w.cell? ⟨gO, ko, none⟩ = some (.pointer (some ⟨p, 0, none⟩)) := by rw [(show Blk w gO 49 cs from S.at_ (l1 := [_, _, _])).cell]; exact hck
  have hx1 := Lib.hid (rd_ow_take (S.at_ (l1 := [_])) hlx (Nat.le_add_right nx 2))
  have hy1 := Lib.hid (rd_ow_take (S.at_ (l1 := [_, _])) hly (Nat.le_add_right ny 2))
  have TX := Lib.hid (txsIn2 22 hx1.out hy1.out)
  have hsep : Hid (∀ g, g ∈ w.heap.size :: (fpB (.slice (some ⟨gx, 0, none⟩) nx cx) bx ++ fpB (.slice (some ⟨gy, 0, none⟩) ny cy) by_) → g ∉ p :: v0.ownBlock.toList) := Lib.hid (S.sep2 rfl rfl)
  have S1 := Lib.hid (S.newBlk 22 #[.slice (some ⟨gx, 0, none⟩) nx cx, .slice (some ⟨gy, 0, none⟩) ny cy])
  have HS1 := Lib.hid (show Sm (w.alloc (.cells #[.slice (some ⟨gx, 0, none⟩) nx cx, .slice (some ⟨gy, 0, none⟩) ny cy] 22)) p v0 bs from S1.out.at_ (l1 := [_]))
  clear hx1 hy1
  go_wp2_with fail
  refine (append_any p v0 bs _ [bx, by_] _ _ HS1.out TX.out hsep.out (by simp [hlx, hly]; omega) (by simp)).mono ?_
  rintro e w2 ⟨rfl, v2, hSg⟩
  have S2 := Lib.hid (((S1.out.pull 1 rfl).sums hSg))
  clear hSg
  go_wp2_with fail
  refine (num02_any 0 _).mono ?_
  rintro e w3 ⟨rfl, rfl⟩
  go_wp2_with fail
  try simp only [Act.put]
  exact hend _ _ (by repeat (first | (with_reducible refine same_set (by decide) ?_) | (with_reducible exact same_nil))) (by unfold Sl; first | (simp [hsz]; done) | (simp [hsz]; omega)) (⟨v2, (S2.out.some_of (by simp))⟩)
-- END pmn18
-- REG pmn20
set_option maxRecDepth 100000 in
set_option maxHeartbeats 2000000 in
theorem pmn_r20 {Q : Exit → Act → World → Prop} {a : Act} {w : World} (w0 : World) (ts : Array Value) (gT ko : Nat) (hko : ko < 2) (At : Option Addr) (nt ct : Nat) (htk : ts[ko]? = some (.slice At nt ct)) (kd on fr tq : Int) (AB AC : Option Addr) (nB cB nC cC : Nat) (g7 : Nat) (bt : List UInt8) (bB bC : List UInt8) (hsum : nt + nB + nC ≤ 1000000) (hvB : ∀ V, Kp [] w0 V → Rd V 1 (.slice AB nB cB) nB (bv bB)) (hvC : ∀ V, Kp [] w0 V → Rd V 1 (.slice AC nC cC) nC (bv bC)) (L : List Res) (hsz : a.tmps.size = 269) (o4 : Sl a 4 (.pointer (some ⟨gT, 0, none⟩))) (o7 : Sl a 7 (.pointer (some ⟨g7, 0, none⟩))) (o8 : Sl a 8 (.int .i64 ((ko : Nat) : Int)))
    (S0 : Held w0 w (blkR gT 50 ts :: blkR g7 52 #[.int .i64 kd, .int .i64 on, .int .i64 fr, .int .i64 tq, .slice AB nB cB, .slice AC nC cC] :: rowR 5 1 (.slice At nt ct) nt (bv bt) :: L))
    (hend : ∀ (a' : Act) (vs : Nat → Value) (gs : Nat → Nat) (W : World), Same a a' [81, 82, 83, 84, 85, 86, 87, 88, 89, 90, 91, 92, 93] → Held w0 W (rowR 5 1 (vs 11) (nt + nB + nC) (bv bt ++ bv bB ++ bv bC) :: blkR gT 50 (ts.setIfInBounds ko (vs 11)) :: blkR g7 52 #[.int .i64 kd, .int .i64 on, .int .i64 fr, .int .i64 tq, .slice AB nB cB, .slice AC nC cC] :: rowR 5 1 (.slice At nt ct) nt (bv bt) :: L) → Q .normal a' W) : (Code.region 20 (opsOf 20 Try.f10).toArray true).wp Try.prog Q a w := by
  have hap : apartB (opsOf 20 Try.f10) = true := by kernel_rfl
  refine wp_region_sep (Γ := Nat) (l := (opsOf 20 Try.f10)) 4 [0, 2, 3, 4, 6, 7, 9, 10, 11, 12, 13, 15, 16, 17]
    (fun i vs gs => match i with | 0 => vs 0 = .int .i64 ((ko : Nat) : Int) | 1 => vs 1 = .slice (some ⟨gs 1, 0, none⟩) 0 0 | 2 => vs 2 = .int .i64 ((ko : Nat) : Int) | 3 => vs 3 = .pointer (some ⟨gT, ko, none⟩) | 4 => vs 4 = .slice At nt ct | 6 => vs 6 = .pointer (some ⟨g7, 4, none⟩) | 7 => vs 7 = .slice AB nB cB | 9 => vs 9 = .pointer (some ⟨g7, 5, none⟩) | 10 => vs 10 = .slice AC nC cC | 12 => vs 12 = .pointer (some ⟨gT, ko, none⟩) | _ => True)
    (fun i vs gs => match i with | 1 => [rowR 5 1 (vs 1) 0 []] | 5 => [rowR 5 1 (vs 5) nt (bv bt)] | 8 => [rowR 5 1 (vs 8) (nt + nB) (bv bt ++ bv bB)] | 11 => [rowR 5 1 (vs 11) (nt + nB + nC) (bv bt ++ bv bB ++ bv bC)] | 13 => [blkR gT 50 (ts.setIfInBounds ko (vs 11))] | 14 => [blkR gT 50 ts] | 15 => [blkR g7 52 #[.int .i64 kd, .int .i64 on, .int .i64 fr, .int .i64 tq, .slice AB nB cB, .slice AC nC cC]] | 16 => [rowR 5 1 (.slice At nt ct) nt (bv bt)] | 17 => L | _ => [])
    (fun i => match i with | 5 => [1] | 8 => [5] | 11 => [8] | 13 => [14] | _ => []) (fun i => match i with | 4 => [14] | 5 => [16] | 7 => [15] | 10 => [15] | 13 => [11] | _ => []) S0 (by kernel_rfl) hap (by kernel_rfl) (by kernel_rfl) (fun i => match i with | 0 => [0] | 1 => [1] | 2 => [2] | 3 => [3] | 4 => [4] | 5 => [5] | 6 => [6] | 7 => [7] | 8 => [8] | 9 => [9] | 10 => [10] | 11 => [11] | 12 => [12] | 13 => [11] | _ => []) (by kernel_rfl) ?_ (by kernel_rfl) ?_ ?_ ?_
  · intro s vs vs' gs gs' h
    iterate 18 (rcases s with _ | s; · (first | exact ⟨rfl, id⟩ | (simp only [List.mem_cons, List.not_mem_nil, or_false, forall_eq_or_imp, forall_eq] at h; simp [h])))
    exact ⟨rfl, id⟩
  · simp only [List.range, List.range.loop, List.flatMap_cons, List.flatMap_nil, List.append_nil, List.cons_append, List.nil_append]
    exact List.Perm.refl _
  · clear S0 hend
    refine ⟨?_, ?_, ?_, ?_, ?_, ?_, ?_, ?_, ?_, ?_, ?_, ?_, ?_, ?_, trivial⟩
    · intro vs gs A' W LF hA S hR hd hu K hK
      replace hK := hK default
      have e8 : A'.tmps[8]?.getD undef = .int .i64 ((ko : Nat) : Int) := slot_out hA hap (Nat.lt_of_lt_of_eq (Nat.le_of_ble_eq_true rfl : 8 < 269) hsz.symm) (by kernel_rfl) o8
      clear hA o4 o7 o8
      go_step
      exact hK _ _ S rfl
    · intro vs gs A' W LF hA S hR hd hu K hK
      clear hA o4 o7 o8
      go_step
      exact hK W.heap.size _ _ (S.rownew (ow_none 5 1 rfl) ((Kp.refl [] W).alloc _) (fun g hg => by cases hg; exact Nat.le_refl _)) rfl
    · intro vs gs A' W LF hA S hR hd hu K hK
      replace hK := hK default
      have e8 : A'.tmps[8]?.getD undef = .int .i64 ((ko : Nat) : Int) := slot_out hA hap (Nat.lt_of_lt_of_eq (Nat.le_of_ble_eq_true rfl : 8 < 269) hsz.symm) (by kernel_rfl) o8
      clear hA o4 o7 o8
      go_step
      exact hK _ _ S rfl
    · intro vs gs A' W LF hA S hR hd hu K hK
      replace hK := hK default
      have e4 : A'.tmps[4]?.getD undef = .pointer (some ⟨gT, 0, none⟩) := slot_out hA hap (Nat.lt_of_lt_of_eq (Nat.le_of_ble_eq_true rfl : 4 < 269) hsz.symm) (by kernel_rfl) o4
      have f2 : vs 2 = .int .i64 ((ko : Nat) : Int) := hd 2 (by kernel_rfl)
      have e83 : A'.tmps[83]?.getD undef = vs 2 := slot_in hA hap (Nat.lt_of_lt_of_eq (Nat.le_of_ble_eq_true rfl : 83 < 269) hsz.symm) (by kernel_rfl)
      rw [f2] at e83
      clear hA o4 o7 o8
      have h0 : 0 ≤ (ko : Int) := by omega
      have h1 : (ko : Int) < 2 := by omega
      go_step
      exact hK _ _ S rfl
    · intro vs gs A' W LF hA S hR hd hu K hK
      replace hK := hK default
      have f3 : vs 3 = .pointer (some ⟨gT, ko, none⟩) := hd 3 (by kernel_rfl)
      have e84 : A'.tmps[84]?.getD undef = vs 3 := slot_in hA hap (Nat.lt_of_lt_of_eq (Nat.le_of_ble_eq_true rfl : 84 < 269) hsz.symm) (by kernel_rfl)
      rw [f3] at e84
      clear hA o4 o7 o8
      have c0 : W.cell? ⟨gT, ko, none⟩ = some (.slice At nt ct) := by rw [(show Blk W gT 50 ts from (S.ok (blkR gT 50 ts) (hR 14 (List.mem_singleton.2 rfl) _ (List.mem_singleton.2 rfl)))).cell]; exact htk
      go_step
      exact hK _ _ S rfl
    · intro vs gs A' W LF hA S hR hd hu K hK
      replace hK := hK default
      have f1 : vs 1 = .slice (some ⟨gs 1, 0, none⟩) 0 0 := hd 1 (by kernel_rfl)
      have e82 : A'.tmps[82]?.getD undef = vs 1 := slot_in hA hap (Nat.lt_of_lt_of_eq (Nat.le_of_ble_eq_true rfl : 82 < 269) hsz.symm) (by kernel_rfl)
      rw [f1] at e82
      have f4 : vs 4 = .slice At nt ct := hd 4 (by kernel_rfl)
      have e85 : A'.tmps[85]?.getD undef = vs 4 := slot_in hA hap (Nat.lt_of_lt_of_eq (Nat.le_of_ble_eq_true rfl : 85 < 269) hsz.symm) (by kernel_rfl)
      rw [f4] at e85
      clear hA o4 o7 o8
      have S1 : Held w0 W (rowR 5 1 (vs 1) (0) ([]) :: LF) := S
      rw [f1] at S1
      refine op_app (.tmp 82) (.tmp 85) 22 5 rfl Try.infoU8 Try.underlying22 rfl (by decide) (.slice (some ⟨gs 1, 0, none⟩) 0 0) (0) ([]) (by simpa [Act.eval] using e82) S1 (.slice At nt ct) (nt) (bv bt) (by simpa [Act.eval] using e85) (Rd.of_own (show Ow W 5 1 (.slice At nt ct) nt (bv bt) from (S.ok (rowR 5 1 (.slice At nt ct) nt (bv bt)) (List.mem_cons_of_mem _ (hR 16 (List.mem_singleton.2 rfl) _ (List.mem_singleton.2 rfl)))))) (bv_one _) (by unfold maxLen; omega) (by omega) (fun v' w' S' => hK v' w' (show Held w0 w' (rowR 5 1 v' (nt) (bv bt) :: LF) from by simpa using S') trivial)
    · intro vs gs A' W LF hA S hR hd hu K hK
      replace hK := hK default
      have e7 : A'.tmps[7]?.getD undef = .pointer (some ⟨g7, 0, none⟩) := slot_out hA hap (Nat.lt_of_lt_of_eq (Nat.le_of_ble_eq_true rfl : 7 < 269) hsz.symm) (by kernel_rfl) o7
      clear hA o4 o7 o8
      go_step
      exact hK _ _ S rfl
    · intro vs gs A' W LF hA S hR hd hu K hK
      replace hK := hK default
      have f6 : vs 6 = .pointer (some ⟨g7, 4, none⟩) := hd 6 (by kernel_rfl)
      have e87 : A'.tmps[87]?.getD undef = vs 6 := slot_in hA hap (Nat.lt_of_lt_of_eq (Nat.le_of_ble_eq_true rfl : 87 < 269) hsz.symm) (by kernel_rfl)
      rw [f6] at e87
      clear hA o4 o7 o8
      have hb7 : Blk W g7 52 #[.int .i64 kd, .int .i64 on, .int .i64 fr, .int .i64 tq, .slice AB nB cB, .slice AC nC cC] := (S.ok (blkR g7 52 #[.int .i64 kd, .int .i64 on, .int .i64 fr, .int .i64 tq, .slice AB nB cB, .slice AC nC cC]) (hR 15 (List.mem_singleton.2 rfl) _ (List.mem_singleton.2 rfl)))
      have c0 : W.cell? ⟨g7, 4, none⟩ = some (.slice AB nB cB) := hb7.cell 4
      go_step
      exact hK _ _ S rfl
    · intro vs gs A' W LF hA S hR hd hu K hK
      replace hK := hK default
      have e86 : A'.tmps[86]?.getD undef = vs 5 := slot_in hA hap (Nat.lt_of_lt_of_eq (Nat.le_of_ble_eq_true rfl : 86 < 269) hsz.symm) (by kernel_rfl)
      have f7 : vs 7 = .slice AB nB cB := hd 7 (by kernel_rfl)
      have e88 : A'.tmps[88]?.getD undef = vs 7 := slot_in hA hap (Nat.lt_of_lt_of_eq (Nat.le_of_ble_eq_true rfl : 88 < 269) hsz.symm) (by kernel_rfl)
      rw [f7] at e88
      clear hA o4 o7 o8
      have S1 : Held w0 W (rowR 5 1 (vs 5) (nt) (bv bt) :: LF) := S
      refine op_app (.tmp 86) (.tmp 88) 22 5 rfl Try.infoU8 Try.underlying22 rfl (by decide) (vs 5) (nt) (bv bt) (by simpa [Act.eval] using e86) S1 (.slice AB nB cB) (nB) (bv bB) (by simpa [Act.eval] using e88) (hvB _ S.k) (bv_one _) (by unfold maxLen; omega) (by omega) (fun v' w' S' => hK v' w' (show Held w0 w' (rowR 5 1 v' (nt + nB) (bv bt ++ bv bB) :: LF) from S') trivial)
    · intro vs gs A' W LF hA S hR hd hu K hK
      replace hK := hK default
      have e7 : A'.tmps[7]?.getD undef = .pointer (some ⟨g7, 0, none⟩) := slot_out hA hap (Nat.lt_of_lt_of_eq (Nat.le_of_ble_eq_true rfl : 7 < 269) hsz.symm) (by kernel_rfl) o7
      clear hA o4 o7 o8
      go_step
      exact hK _ _ S rfl
    · intro vs gs A' W LF hA S hR hd hu K hK
      replace hK := hK default
      have f9 : vs 9 = .pointer (some ⟨g7, 5, none⟩) := hd 9 (by kernel_rfl)
      have e90 : A'.tmps[90]?.getD undef = vs 9 := slot_in hA hap (Nat.lt_of_lt_of_eq (Nat.le_of_ble_eq_true rfl : 90 < 269) hsz.symm) (by kernel_rfl)
      rw [f9] at e90
      clear hA o4 o7 o8
      have hb7 : Blk W g7 52 #[.int .i64 kd, .int .i64 on, .int .i64 fr, .int .i64 tq, .slice AB nB cB, .slice AC nC cC] := (S.ok (blkR g7 52 #[.int .i64 kd, .int .i64 on, .int .i64 fr, .int .i64 tq, .slice AB nB cB, .slice AC nC cC]) (hR 15 (List.mem_singleton.2 rfl) _ (List.mem_singleton.2 rfl)))
      have c0 : W.cell? ⟨g7, 5, none⟩ = some (.slice AC nC cC) := hb7.cell 5
      go_step
      exact hK _ _ S rfl
    · intro vs gs A' W LF hA S hR hd hu K hK
      replace hK := hK default
      have e89 : A'.tmps[89]?.getD undef = vs 8 := slot_in hA hap (Nat.lt_of_lt_of_eq (Nat.le_of_ble_eq_true rfl : 89 < 269) hsz.symm) (by kernel_rfl)
      have f10 : vs 10 = .slice AC nC cC := hd 10 (by kernel_rfl)
      have e91 : A'.tmps[91]?.getD undef = vs 10 := slot_in hA hap (Nat.lt_of_lt_of_eq (Nat.le_of_ble_eq_true rfl : 91 < 269) hsz.symm) (by kernel_rfl)
      rw [f10] at e91
      clear hA o4 o7 o8
      have S1 : Held w0 W (rowR 5 1 (vs 8) (nt + nB) (bv bt ++ bv bB) :: LF) := S
      refine op_app (.tmp 89) (.tmp 91) 22 5 rfl Try.infoU8 Try.underlying22 rfl (by decide) (vs 8) (nt + nB) (bv bt ++ bv bB) (by simpa [Act.eval] using e89) S1 (.slice AC nC cC) (nC) (bv bC) (by simpa [Act.eval] using e91) (hvC _ S.k) (bv_one _) (by unfold maxLen; omega) (by omega) (fun v' w' S' => hK v' w' (show Held w0 w' (rowR 5 1 v' (nt + nB + nC) (bv bt ++ bv bB ++ bv bC) :: LF) from S') trivial)
    · intro vs gs A' W LF hA S hR hd hu K hK
      replace hK := hK default
      have e4 : A'.tmps[4]?.getD undef = .pointer (some ⟨gT, 0, none⟩) := slot_out hA hap (Nat.lt_of_lt_of_eq (Nat.le_of_ble_eq_true rfl : 4 < 269) hsz.symm) (by kernel_rfl) o4
      have f0 : vs 0 = .int .i64 ((ko : Nat) : Int) := hd 0 (by kernel_rfl)
      have e81 : A'.tmps[81]?.getD undef = vs 0 := slot_in hA hap (Nat.lt_of_lt_of_eq (Nat.le_of_ble_eq_true rfl : 81 < 269) hsz.symm) (by kernel_rfl)
      rw [f0] at e81
      clear hA o4 o7 o8
      have h0 : 0 ≤ (ko : Int) := by omega
      have h1 : (ko : Int) < 2 := by omega
      go_step
      exact hK _ _ S rfl
    · intro vs gs A' W LF hA S hR hd hu K hK
      replace hK := hK default
      have f12 : vs 12 = .pointer (some ⟨gT, ko, none⟩) := hd 12 (by kernel_rfl)
      have e93 : A'.tmps[93]?.getD undef = vs 12 := slot_in hA hap (Nat.lt_of_lt_of_eq (Nat.le_of_ble_eq_true rfl : 93 < 269) hsz.symm) (by kernel_rfl)
      rw [f12] at e93
      have e92 : A'.tmps[92]?.getD undef = vs 11 := slot_in hA hap (Nat.lt_of_lt_of_eq (Nat.le_of_ble_eq_true rfl : 92 < 269) hsz.symm) (by kernel_rfl)
      clear hA o4 o7 o8
      have S1 : Held w0 W (blkR gT 50 ts :: LF) := S
      obtain ⟨A6, c6, e6', -, -⟩ := ow_form (show Ow W 5 1 (vs 11) (nt + nB + nC) (bv bt ++ bv bB ++ bv bC) from S1.ok (rowR 5 1 (vs 11) (nt + nB + nC) (bv bt ++ bv bB ++ bv bC)) (List.mem_cons_of_mem _ (hR 11 (List.mem_singleton.2 rfl) _ (List.mem_singleton.2 rfl))))
      have S2 := S1.set (l1 := []) ko (.slice A6 (nt + nB + nC) c6)
      have c33 : W.cell? ⟨gT, ko, none⟩ = some (.slice At nt ct) := by rw [(S1.at_ (l1 := [])).cell]; exact htk
      have f33 := (show Blk W gT _ _ from S1.at_ (l1 := [])).frozen ko
      rw [e6'] at e92
      go_step
      exact hK undef _ (show Held w0 _ (blkR gT 50 (ts.setIfInBounds ko (vs 11)) :: LF) from by rw [e6']; exact S2) trivial
  · intro vs gs W S hp
    have S : Held w0 W (rowR 5 1 (vs 11) (nt + nB + nC) (bv bt ++ bv bB ++ bv bC) :: blkR gT 50 (ts.setIfInBounds ko (vs 11)) :: blkR g7 52 #[.int .i64 kd, .int .i64 on, .int .i64 fr, .int .i64 tq, .slice AB nB cB, .slice AC nC cC] :: rowR 5 1 (.slice At nt ct) nt (bv bt) :: L) := by simpa only [List.flatMap_cons, List.flatMap_nil, List.append_nil, List.nil_append, List.cons_append, List.append_assoc] using S
    rw [show putAll vs (opsOf 20 Try.f10) 0 a = putD [(81, vs 0), (82, vs 1), (83, vs 2), (84, vs 3), (85, vs 4), (86, vs 5), (87, vs 6), (88, vs 7), (89, vs 8), (90, vs 9), (91, vs 10), (92, vs 11), (93, vs 12)] a from by kernel_rfl]
    exact hend _ vs gs W (same_putD _ a)  S
-- END pmn20
-- REG pmn37
set_option maxRecDepth 100000 in
set_option maxHeartbeats 2000000 in
theorem pmn_r37 {Q : Exit → Act → World → Prop} {a : Act} {w : World} (w0 : World) (ts : Array Value) (gT ko : Nat) (hko : ko < 2) (At : Option Addr) (nt ct : Nat) (htk : ts[ko]? = some (.slice At nt ct)) (kd on fr tq : Int) (AB AC : Option Addr) (nB cB nC cC : Nat) (g7 : Nat) (bB bC : List UInt8) (hsum : nt + nB + nC ≤ 1000000) (hvB : ∀ V, Kp [] w0 V → Rd V 1 (.slice AB nB cB) nB (bv bB)) (hvC : ∀ V, Kp [] w0 V → Rd V 1 (.slice AC nC cC) nC (bv bC)) (L : List Res) (hsz : a.tmps.size = 269) (o4 : Sl a 4 (.pointer (some ⟨gT, 0, none⟩))) (o7 : Sl a 7 (.pointer (some ⟨g7, 0, none⟩))) (o8 : Sl a 8 (.int .i64 ((ko : Nat) : Int)))
    (S0 : Held w0 w (blkR gT 50 ts :: blkR g7 52 #[.int .i64 kd, .int .i64 on, .int .i64 fr, .int .i64 tq, .slice AB nB cB, .slice AC nC cC] :: L))
    (hend : ∀ (a' : Act) (vs : Nat → Value) (gs : Nat → Nat) (W : World), Same a a' [186, 187, 188, 189, 190, 191, 192, 193, 194] → Held w0 W (rowR 5 1 (vs 7) (nB + nC) (bv bB ++ bv bC) :: blkR gT 50 (ts.setIfInBounds ko (vs 7)) :: blkR g7 52 #[.int .i64 kd, .int .i64 on, .int .i64 fr, .int .i64 tq, .slice AB nB cB, .slice AC nC cC] :: L) → Q .normal a' W) : (Code.region 37 (opsOf 37 Try.f10).toArray true).wp Try.prog Q a w := by
  have hap : apartB (opsOf 37 Try.f10) = true := by kernel_rfl
  refine wp_region_sep (Γ := Nat) (l := (opsOf 37 Try.f10)) 3 [0, 2, 3, 5, 6, 7, 8, 9, 11, 12]
    (fun i vs gs => match i with | 0 => vs 0 = .int .i64 ((ko : Nat) : Int) | 1 => vs 1 = .slice (some ⟨gs 1, 0, none⟩) 0 0 | 2 => vs 2 = .pointer (some ⟨g7, 4, none⟩) | 3 => vs 3 = .slice AB nB cB | 5 => vs 5 = .pointer (some ⟨g7, 5, none⟩) | 6 => vs 6 = .slice AC nC cC | 8 => vs 8 = .pointer (some ⟨gT, ko, none⟩) | _ => True)
    (fun i vs gs => match i with | 1 => [rowR 5 1 (vs 1) 0 []] | 4 => [rowR 5 1 (vs 4) nB (bv bB)] | 7 => [rowR 5 1 (vs 7) (nB + nC) (bv bB ++ bv bC)] | 9 => [blkR gT 50 (ts.setIfInBounds ko (vs 7))] | 10 => [blkR gT 50 ts] | 11 => [blkR g7 52 #[.int .i64 kd, .int .i64 on, .int .i64 fr, .int .i64 tq, .slice AB nB cB, .slice AC nC cC]] | 12 => L | _ => [])
    (fun i => match i with | 4 => [1] | 7 => [4] | 9 => [10] | _ => []) (fun i => match i with | 3 => [11] | 6 => [11] | 9 => [7] | _ => []) S0 (by kernel_rfl) hap (by kernel_rfl) (by kernel_rfl) (fun i => match i with | 0 => [0] | 1 => [1] | 2 => [2] | 3 => [3] | 4 => [4] | 5 => [5] | 6 => [6] | 7 => [7] | 8 => [8] | 9 => [7] | _ => []) (by kernel_rfl) ?_ (by kernel_rfl) ?_ ?_ ?_
  · intro s vs vs' gs gs' h
    iterate 13 (rcases s with _ | s; · (first | exact ⟨rfl, id⟩ | (simp only [List.mem_cons, List.not_mem_nil, or_false, forall_eq_or_imp, forall_eq] at h; simp [h])))
    exact ⟨rfl, id⟩
  · simp only [List.range, List.range.loop, List.flatMap_cons, List.flatMap_nil, List.append_nil, List.cons_append, List.nil_append]
    exact List.Perm.refl _
  · clear S0 hend
    refine ⟨?_, ?_, ?_, ?_, ?_, ?_, ?_, ?_, ?_, ?_, trivial⟩
    · intro vs gs A' W LF hA S hR hd hu K hK
      replace hK := hK default
      have e8 : A'.tmps[8]?.getD undef = .int .i64 ((ko : Nat) : Int) := slot_out hA hap (Nat.lt_of_lt_of_eq (Nat.le_of_ble_eq_true rfl : 8 < 269) hsz.symm) (by kernel_rfl) o8
      clear hA o4 o7 o8
      go_step
      exact hK _ _ S rfl
    · intro vs gs A' W LF hA S hR hd hu K hK
      clear hA o4 o7 o8
      go_step
      exact hK W.heap.size _ _ (S.rownew (ow_none 5 1 rfl) ((Kp.refl [] W).alloc _) (fun g hg => by cases hg; exact Nat.le_refl _)) rfl
    · intro vs gs A' W LF hA S hR hd hu K hK
      replace hK := hK default
      have e7 : A'.tmps[7]?.getD undef = .pointer (some ⟨g7, 0, none⟩) := slot_out hA hap (Nat.lt_of_lt_of_eq (Nat.le_of_ble_eq_true rfl : 7 < 269) hsz.symm) (by kernel_rfl) o7
      clear hA o4 o7 o8
      go_step
      exact hK _ _ S rfl
    · intro vs gs A' W LF hA S hR hd hu K hK
      replace hK := hK default
      have f2 : vs 2 = .pointer (some ⟨g7, 4, none⟩) := hd 2 (by kernel_rfl)
      have e188 : A'.tmps[188]?.getD undef = vs 2 := slot_in hA hap (Nat.lt_of_lt_of_eq (Nat.le_of_ble_eq_true rfl : 188 < 269) hsz.symm) (by kernel_rfl)
      rw [f2] at e188
      clear hA o4 o7 o8
      have hb7 : Blk W g7 52 #[.int .i64 kd, .int .i64 on, .int .i64 fr, .int .i64 tq, .slice AB nB cB, .slice AC nC cC] := (S.ok (blkR g7 52 #[.int .i64 kd, .int .i64 on, .int .i64 fr, .int .i64 tq, .slice AB nB cB, .slice AC nC cC]) (hR 11 (List.mem_singleton.2 rfl) _ (List.mem_singleton.2 rfl)))
      have c0 : W.cell? ⟨g7, 4, none⟩ = some (.slice AB nB cB) := hb7.cell 4
      go_step
      exact hK _ _ S rfl
    · intro vs gs A' W LF hA S hR hd hu K hK
      replace hK := hK default
      have f1 : vs 1 = .slice (some ⟨gs 1, 0, none⟩) 0 0 := hd 1 (by kernel_rfl)
      have e187 : A'.tmps[187]?.getD undef = vs 1 := slot_in hA hap (Nat.lt_of_lt_of_eq (Nat.le_of_ble_eq_true rfl : 187 < 269) hsz.symm) (by kernel_rfl)
      rw [f1] at e187
      have f3 : vs 3 = .slice AB nB cB := hd 3 (by kernel_rfl)
      have e189 : A'.tmps[189]?.getD undef = vs 3 := slot_in hA hap (Nat.lt_of_lt_of_eq (Nat.le_of_ble_eq_true rfl : 189 < 269) hsz.symm) (by kernel_rfl)
      rw [f3] at e189
      clear hA o4 o7 o8
      have S1 : Held w0 W (rowR 5 1 (vs 1) (0) ([]) :: LF) := S
      rw [f1] at S1
      refine op_app (.tmp 187) (.tmp 189) 22 5 rfl Try.infoU8 Try.underlying22 rfl (by decide) (.slice (some ⟨gs 1, 0, none⟩) 0 0) (0) ([]) (by simpa [Act.eval] using e187) S1 (.slice AB nB cB) (nB) (bv bB) (by simpa [Act.eval] using e189) (hvB _ S.k) (bv_one _) (by unfold maxLen; omega) (by omega) (fun v' w' S' => hK v' w' (show Held w0 w' (rowR 5 1 v' (nB) (bv bB) :: LF) from by simpa using S') trivial)
    · intro vs gs A' W LF hA S hR hd hu K hK
      replace hK := hK default
      have e7 : A'.tmps[7]?.getD undef = .pointer (some ⟨g7, 0, none⟩) := slot_out hA hap (Nat.lt_of_lt_of_eq (Nat.le_of_ble_eq_true rfl : 7 < 269) hsz.symm) (by kernel_rfl) o7
      clear hA o4 o7 o8
      go_step
      exact hK _ _ S rfl
    · intro vs gs A' W LF hA S hR hd hu K hK
      replace hK := hK default
      have f5 : vs 5 = .pointer (some ⟨g7, 5, none⟩) := hd 5 (by kernel_rfl)
      have e191 : A'.tmps[191]?.getD undef = vs 5 := slot_in hA hap (Nat.lt_of_lt_of_eq (Nat.le_of_ble_eq_true rfl : 191 < 269) hsz.symm) (by kernel_rfl)
      rw [f5] at e191
      clear hA o4 o7 o8
      have hb7 : Blk W g7 52 #[.int .i64 kd, .int .i64 on, .int .i64 fr, .int .i64 tq, .slice AB nB cB, .slice AC nC cC] := (S.ok (blkR g7 52 #[.int .i64 kd, .int .i64 on, .int .i64 fr, .int .i64 tq, .slice AB nB cB, .slice AC nC cC]) (hR 11 (List.mem_singleton.2 rfl) _ (List.mem_singleton.2 rfl)))
      have c0 : W.cell? ⟨g7, 5, none⟩ = some (.slice AC nC cC) := hb7.cell 5
      go_step
      exact hK _ _ S rfl
    · intro vs gs A' W LF hA S hR hd hu K hK
      replace hK := hK default
      have e190 : A'.tmps[190]?.getD undef = vs 4 := slot_in hA hap (Nat.lt_of_lt_of_eq (Nat.le_of_ble_eq_true rfl : 190 < 269) hsz.symm) (by kernel_rfl)
      have f6 : vs 6 = .slice AC nC cC := hd 6 (by kernel_rfl)
      have e192 : A'.tmps[192]?.getD undef = vs 6 := slot_in hA hap (Nat.lt_of_lt_of_eq (Nat.le_of_ble_eq_true rfl : 192 < 269) hsz.symm) (by kernel_rfl)
      rw [f6] at e192
      clear hA o4 o7 o8
      have S1 : Held w0 W (rowR 5 1 (vs 4) (nB) (bv bB) :: LF) := S
      refine op_app (.tmp 190) (.tmp 192) 22 5 rfl Try.infoU8 Try.underlying22 rfl (by decide) (vs 4) (nB) (bv bB) (by simpa [Act.eval] using e190) S1 (.slice AC nC cC) (nC) (bv bC) (by simpa [Act.eval] using e192) (hvC _ S.k) (bv_one _) (by unfold maxLen; omega) (by omega) (fun v' w' S' => hK v' w' (show Held w0 w' (rowR 5 1 v' (nB + nC) (bv bB ++ bv bC) :: LF) from S') trivial)
    · intro vs gs A' W LF hA S hR hd hu K hK
      replace hK := hK default
      have e4 : A'.tmps[4]?.getD undef = .pointer (some ⟨gT, 0, none⟩) := slot_out hA hap (Nat.lt_of_lt_of_eq (Nat.le_of_ble_eq_true rfl : 4 < 269) hsz.symm) (by kernel_rfl) o4
      have f0 : vs 0 = .int .i64 ((ko : Nat) : Int) := hd 0 (by kernel_rfl)
      have e186 : A'.tmps[186]?.getD undef = vs 0 := slot_in hA hap (Nat.lt_of_lt_of_eq (Nat.le_of_ble_eq_true rfl : 186 < 269) hsz.symm) (by kernel_rfl)
      rw [f0] at e186
      clear hA o4 o7 o8
      have h0 : 0 ≤ (ko : Int) := by omega
      have h1 : (ko : Int) < 2 := by omega
      go_step
      exact hK _ _ S rfl
    · intro vs gs A' W LF hA S hR hd hu K hK
      replace hK := hK default
      have f8 : vs 8 = .pointer (some ⟨gT, ko, none⟩) := hd 8 (by kernel_rfl)
      have e194 : A'.tmps[194]?.getD undef = vs 8 := slot_in hA hap (Nat.lt_of_lt_of_eq (Nat.le_of_ble_eq_true rfl : 194 < 269) hsz.symm) (by kernel_rfl)
      rw [f8] at e194
      have e193 : A'.tmps[193]?.getD undef = vs 7 := slot_in hA hap (Nat.lt_of_lt_of_eq (Nat.le_of_ble_eq_true rfl : 193 < 269) hsz.symm) (by kernel_rfl)
      clear hA o4 o7 o8
      have S1 : Held w0 W (blkR gT 50 ts :: LF) := S
      obtain ⟨A6, c6, e6', -, -⟩ := ow_form (show Ow W 5 1 (vs 7) (nB + nC) (bv bB ++ bv bC) from S1.ok (rowR 5 1 (vs 7) (nB + nC) (bv bB ++ bv bC)) (List.mem_cons_of_mem _ (hR 7 (List.mem_singleton.2 rfl) _ (List.mem_singleton.2 rfl))))
      have S2 := S1.set (l1 := []) ko (.slice A6 (nB + nC) c6)
      have c33 : W.cell? ⟨gT, ko, none⟩ = some (.slice At nt ct) := by rw [(S1.at_ (l1 := [])).cell]; exact htk
      have f33 := (show Blk W gT _ _ from S1.at_ (l1 := [])).frozen ko
      rw [e6'] at e193
      go_step
      exact hK undef _ (show Held w0 _ (blkR gT 50 (ts.setIfInBounds ko (vs 7)) :: LF) from by rw [e6']; exact S2) trivial
  · intro vs gs W S hp
    have S : Held w0 W (rowR 5 1 (vs 7) (nB + nC) (bv bB ++ bv bC) :: blkR gT 50 (ts.setIfInBounds ko (vs 7)) :: blkR g7 52 #[.int .i64 kd, .int .i64 on, .int .i64 fr, .int .i64 tq, .slice AB nB cB, .slice AC nC cC] :: L) := by simpa only [List.flatMap_cons, List.flatMap_nil, List.append_nil, List.nil_append, List.cons_append, List.append_assoc] using S
    rw [show putAll vs (opsOf 37 Try.f10) 0 a = putD [(186, vs 0), (187, vs 1), (188, vs 2), (189, vs 3), (190, vs 4), (191, vs 5), (192, vs 6), (193, vs 7), (194, vs 8)] a from by kernel_rfl]
    exact hend _ vs gs W (same_putD _ a)  S
-- END pmn37
-- REG pmn21
set_option maxRecDepth 100000 in
set_option maxHeartbeats 2000000 in
theorem pmn_r21 {Q : Exit → Act → World → Prop} {a : Act} {w : World} (gS gN : Nat) (ts : Array Value) (gT ko : Nat) (hko : ko < 2) (At : Option Addr) (nt ct : Nat) (htk : ts[ko]? = some (.slice At nt ct)) (kd on fr tq : Int) (AB AC : Option Addr) (nB cB nC cC : Nat) (g7 : Nat) (hbT : Blk w.drew gT 50 ts) (hb7 : Blk w.drew g7 52 #[.int .i64 kd, .int .i64 on, .int .i64 fr, .int .i64 tq, .slice AB nB cB, .slice AC nC cC]) (HC : ∀ V, Kp [] w.drew V → Calls Try.prog 35 #[.func (.func 48) #[] #[.pointer (some ⟨gS, 0, none⟩), .pointer (some ⟨gN, 0, none⟩)], .slice At nt ct, .int .i64 (if fr < 1 then 1 else fr), .int .i64 0] V fun e w' => e = .returned (.bool true) ∧ Kp [] V w') (hsz : a.tmps.size = 269) (o4 : Sl a 4 (.pointer (some ⟨gT, 0, none⟩))) (o7 : Sl a 7 (.pointer (some ⟨g7, 0, none⟩))) (o8 : Sl a 8 (.int .i64 ((ko : Nat) : Int))) (o11 : Sl a 11 (.func (.func 48) #[] #[.pointer (some ⟨gS, 0, none⟩), .pointer (some ⟨gN, 0, none⟩)]))
    (hend : ∀ (a' : Act) (W : World), Same a a' [94, 95, 96, 97, 98, 99, 100, 101, 102] → Kp [] w.drew W → Sl a' 102 (.bool false) → Q .normal a' W) : (Code.region 21 (opsOf 21 Try.f10).toArray true).wp Try.prog Q a w := by
  have hap : apartB (opsOf 21 Try.f10) = true := by kernel_rfl
  refine wp_region_inv (l := (opsOf 21 Try.f10)) (fun i v W => match i with | 0 => v = .func (.func 48) #[] #[.pointer (some ⟨gS, 0, none⟩), .pointer (some ⟨gN, 0, none⟩)] | 1 => v = .int .i64 ((ko : Nat) : Int) | 2 => v = .pointer (some ⟨gT, ko, none⟩) | 3 => v = .slice At nt ct | 4 => v = .pointer (some ⟨g7, 2, none⟩) | 5 => v = .int .i64 fr | 6 => v = .int .i64 (if fr < 1 then 1 else fr) | 7 => v = .bool true | 8 => v = .bool false | _ => True) (by kernel_rfl) hap (by kernel_rfl) ?_ ?_ ?_
  · intro i v W W' h _
    iterate 9 (rcases i with _ | i; · exact h)
    exact h
  · refine ⟨?_, ?_, ?_, ?_, ?_, ?_, ?_, ?_, ?_, trivial⟩
    · intro vs A' W hA hW hd K hK
      have e11 : A'.tmps[11]?.getD undef = .func (.func 48) #[] #[.pointer (some ⟨gS, 0, none⟩), .pointer (some ⟨gN, 0, none⟩)] := slot_out hA hap (Nat.lt_of_lt_of_eq (Nat.le_of_ble_eq_true rfl : 11 < 269) hsz.symm) (by kernel_rfl) o11
      clear hA hd o4 o7 o8 o11
      go_step
      exact hK _ _ (Kp.refl _ _) rfl
    · intro vs A' W hA hW hd K hK
      have e8 : A'.tmps[8]?.getD undef = .int .i64 ((ko : Nat) : Int) := slot_out hA hap (Nat.lt_of_lt_of_eq (Nat.le_of_ble_eq_true rfl : 8 < 269) hsz.symm) (by kernel_rfl) o8
      clear hA hd o4 o7 o8 o11
      go_step
      exact hK _ _ (Kp.refl _ _) rfl
    · intro vs A' W hA hW hd K hK
      have e4 : A'.tmps[4]?.getD undef = .pointer (some ⟨gT, 0, none⟩) := slot_out hA hap (Nat.lt_of_lt_of_eq (Nat.le_of_ble_eq_true rfl : 4 < 269) hsz.symm) (by kernel_rfl) o4
      have f1 : vs 1 = .int .i64 ((ko : Nat) : Int) := hd 1 (by kernel_rfl)
      have e95 : A'.tmps[95]?.getD undef = vs 1 := slot_in hA hap (Nat.lt_of_lt_of_eq (Nat.le_of_ble_eq_true rfl : 95 < 269) hsz.symm) (by kernel_rfl)
      rw [f1] at e95
      clear hA hd o4 o7 o8 o11
      have h0 : 0 ≤ (ko : Int) := by omega
      have h1 : (ko : Int) < 2 := by omega
      go_step
      exact hK _ _ (Kp.refl _ _) rfl
    · intro vs A' W hA hW hd K hK
      have f2 : vs 2 = .pointer (some ⟨gT, ko, none⟩) := hd 2 (by kernel_rfl)
      have e96 : A'.tmps[96]?.getD undef = vs 2 := slot_in hA hap (Nat.lt_of_lt_of_eq (Nat.le_of_ble_eq_true rfl : 96 < 269) hsz.symm) (by kernel_rfl)
      rw [f2] at e96
      clear hA hd o4 o7 o8 o11
      have c0 : W.cell? ⟨gT, ko, none⟩ = some (.slice At nt ct) := by rw [(hbT.kp hW (by simp)).cell]; exact htk
      go_step
      exact hK _ _ (Kp.refl _ _) rfl
    · intro vs A' W hA hW hd K hK
      have e7 : A'.tmps[7]?.getD undef = .pointer (some ⟨g7, 0, none⟩) := slot_out hA hap (Nat.lt_of_lt_of_eq (Nat.le_of_ble_eq_true rfl : 7 < 269) hsz.symm) (by kernel_rfl) o7
      clear hA hd o4 o7 o8 o11
      go_step
      exact hK _ _ (Kp.refl _ _) rfl
    · intro vs A' W hA hW hd K hK
      have f4 : vs 4 = .pointer (some ⟨g7, 2, none⟩) := hd 4 (by kernel_rfl)
      have e98 : A'.tmps[98]?.getD undef = vs 4 := slot_in hA hap (Nat.lt_of_lt_of_eq (Nat.le_of_ble_eq_true rfl : 98 < 269) hsz.symm) (by kernel_rfl)
      rw [f4] at e98
      clear hA hd o4 o7 o8 o11
      have c0 : W.cell? ⟨g7, 2, none⟩ = some (.int .i64 fr) := (hb7.kp hW (by simp)).cell 2
      go_step
      exact hK _ _ (Kp.refl _ _) rfl
    · intro vs A' W hA hW hd K hK
      have f5 : vs 5 = .int .i64 fr := hd 5 (by kernel_rfl)
      have e99 : A'.tmps[99]?.getD undef = vs 5 := slot_in hA hap (Nat.lt_of_lt_of_eq (Nat.le_of_ble_eq_true rfl : 99 < 269) hsz.symm) (by kernel_rfl)
      rw [f5] at e99
      clear hA hd o4 o7 o8 o11
      go_step
      exact hK _ _ (Kp.refl _ _) rfl
    · intro vs A' W hA hW hd K hK
      have f0 : vs 0 = .func (.func 48) #[] #[.pointer (some ⟨gS, 0, none⟩), .pointer (some ⟨gN, 0, none⟩)] := hd 0 (by kernel_rfl)
      have e94 : A'.tmps[94]?.getD undef = vs 0 := slot_in hA hap (Nat.lt_of_lt_of_eq (Nat.le_of_ble_eq_true rfl : 94 < 269) hsz.symm) (by kernel_rfl)
      rw [f0] at e94
      have f3 : vs 3 = .slice At nt ct := hd 3 (by kernel_rfl)
      have e97 : A'.tmps[97]?.getD undef = vs 3 := slot_in hA hap (Nat.lt_of_lt_of_eq (Nat.le_of_ble_eq_true rfl : 97 < 269) hsz.symm) (by kernel_rfl)
      rw [f3] at e97
      have f6 : vs 6 = .int .i64 (if fr < 1 then 1 else fr) := hd 6 (by kernel_rfl)
      have e100 : A'.tmps[100]?.getD undef = vs 6 := slot_in hA hap (Nat.lt_of_lt_of_eq (Nat.le_of_ble_eq_true rfl : 100 < 269) hsz.symm) (by kernel_rfl)
      rw [f6] at e100
      clear hA hd o4 o7 o8 o11
      go_step
      refine (HC W hW).mono ?_
      rintro e w' ⟨rfl, k⟩
      exact hK _ _ k rfl
    · intro vs A' W hA hW hd K hK
      have f7 : vs 7 = .bool true := hd 7 (by kernel_rfl)
      have e101 : A'.tmps[101]?.getD undef = vs 7 := slot_in hA hap (Nat.lt_of_lt_of_eq (Nat.le_of_ble_eq_true rfl : 101 < 269) hsz.symm) (by kernel_rfl)
      rw [f7] at e101
      clear hA hd o4 o7 o8 o11
      go_step
      exact hK _ _ (Kp.refl _ _) rfl
  · intro vs W hW hp
    rw [show putAll vs (opsOf 21 Try.f10) 0 a = putD [(94, vs 0), (95, vs 1), (96, vs 2), (97, vs 3), (98, vs 4), (99, vs 5), (100, vs 6), (101, vs 7), (102, vs 8)] a from by kernel_rfl]
    exact hend _ W (same_putD _ a) hW (sl_putD _ a 102 _ (by rw [show vs 8 = _ from hp 8 (Nat.le_of_ble_eq_true (by kernel_rfl))]; kernel_rfl))
-- END pmn21
-- REG pmn24
set_option maxRecDepth 100000 in
set_option maxHeartbeats 2000000 in
theorem pmn_r24 {Q : Exit → Act → World → Prop} {a : Act} {w : World} (cs : Array Value) (gO p ko : Nat) (hko : ko < 2) (hck : cs[ko]? = some (.pointer (some ⟨p, 0, none⟩))) (hbO : Blk w.drew gO 49 cs) (kd on fr tq : Int) (AB AC : Option Addr) (nB cB nC cC : Nat) (g7 : Nat) (hb7 : Blk w.drew g7 52 #[.int .i64 kd, .int .i64 on, .int .i64 fr, .int .i64 tq, .slice AB nB cB, .slice AC nC cC]) (x : Nat) (bq : Bool) (HC : ∀ V, Kp [] w.drew V → Calls Try.prog 36 #[.pointer (some ⟨p, 0, none⟩), .int .i64 fr, .int .i64 tq] V fun e w' => e = .returned (.tuple #[.int .u32 ((x : Nat) : Int), .bool bq]) ∧ Kp [] V w') (hsz : a.tmps.size = 269) (o3 : Sl a 3 (.pointer (some ⟨gO, 0, none⟩))) (o7 : Sl a 7 (.pointer (some ⟨g7, 0, none⟩))) (o8 : Sl a 8 (.int .i64 ((ko : Nat) : Int)))
    (hend : ∀ (a' : Act) (W : World), Same a a' [106, 107, 108, 109, 110, 111, 112, 113, 105, 114, 115, 12, 13] → Kp [] w.drew W → Sl a' 12 (.int .u32 ((x : Nat) : Int)) → Sl a' 13 (.bool bq) → Q .normal a' W) : (Code.region 24 (opsOf 24 Try.f10).toArray true).wp Try.prog Q a w := by
  have hap : apartB (opsOf 24 Try.f10) = true := by kernel_rfl
  refine wp_region_inv (l := (opsOf 24 Try.f10)) (fun i v W => match i with | 0 => v = .int .i64 ((ko : Nat) : Int) | 1 => v = .pointer (some ⟨gO, ko, none⟩) | 2 => v = .pointer (some ⟨p, 0, none⟩) | 3 => v = .pointer (some ⟨g7, 2, none⟩) | 4 => v = .int .i64 fr | 5 => v = .pointer (some ⟨g7, 3, none⟩) | 6 => v = .int .i64 tq | 7 => v = .tuple #[.int .u32 ((x : Nat) : Int), .bool bq] | 8 => v = .tuple #[.int .u32 ((x : Nat) : Int), .bool bq] | 9 => v = .int .u32 ((x : Nat) : Int) | 10 => v = .bool bq | 11 => v = .int .u32 ((x : Nat) : Int) | 12 => v = .bool bq | _ => True) (by kernel_rfl) hap (by kernel_rfl) ?_ ?_ ?_
  · intro i v W W' h _
    iterate 13 (rcases i with _ | i; · exact h)
    exact h
  · refine ⟨?_, ?_, ?_, ?_, ?_, ?_, ?_, ?_, ?_, ?_, ?_, ?_, ?_, trivial⟩
    · intro vs A' W hA hW hd K hK
      have e8 : A'.tmps[8]?.getD undef = .int .i64 ((ko : Nat) : Int) := slot_out hA hap (Nat.lt_of_lt_of_eq (Nat.le_of_ble_eq_true rfl : 8 < 269) hsz.symm) (by kernel_rfl) o8
      clear hA hd o3 o7 o8
      go_step
      exact hK _ _ (Kp.refl _ _) rfl
    · intro vs A' W hA hW hd K hK
      have e3 : A'.tmps[3]?.getD undef = .pointer (some ⟨gO, 0, none⟩) := slot_out hA hap (Nat.lt_of_lt_of_eq (Nat.le_of_ble_eq_true rfl : 3 < 269) hsz.symm) (by kernel_rfl) o3
      have f0 : vs 0 = .int .i64 ((ko : Nat) : Int) := hd 0 (by kernel_rfl)
      have e106 : A'.tmps[106]?.getD undef = vs 0 := slot_in hA hap (Nat.lt_of_lt_of_eq (Nat.le_of_ble_eq_true rfl : 106 < 269) hsz.symm) (by kernel_rfl)
      rw [f0] at e106
      clear hA hd o3 o7 o8
      have h0 : 0 ≤ (ko : Int) := by omega
      have h1 : (ko : Int) < 2 := by omega
      go_step
      exact hK _ _ (Kp.refl _ _) rfl
    · intro vs A' W hA hW hd K hK
      have f1 : vs 1 = .pointer (some ⟨gO, ko, none⟩) := hd 1 (by kernel_rfl)
      have e107 : A'.tmps[107]?.getD undef = vs 1 := slot_in hA hap (Nat.lt_of_lt_of_eq (Nat.le_of_ble_eq_true rfl : 107 < 269) hsz.symm) (by kernel_rfl)
      rw [f1] at e107
      clear hA hd o3 o7 o8
      have c0 : W.cell? ⟨gO, ko, none⟩ = some (.pointer (some ⟨p, 0, none⟩)) := by rw [(hbO.kp hW (by simp)).cell]; exact hck
      go_step
      exact hK _ _ (Kp.refl _ _) rfl
    · intro vs A' W hA hW hd K hK
      have e7 : A'.tmps[7]?.getD undef = .pointer (some ⟨g7, 0, none⟩) := slot_out hA hap (Nat.lt_of_lt_of_eq (Nat.le_of_ble_eq_true rfl : 7 < 269) hsz.symm) (by kernel_rfl) o7
      clear hA hd o3 o7 o8
      go_step
      exact hK _ _ (Kp.refl _ _) rfl
    · intro vs A' W hA hW hd K hK
      have f3 : vs 3 = .pointer (some ⟨g7, 2, none⟩) := hd 3 (by kernel_rfl)
      have e109 : A'.tmps[109]?.getD undef = vs 3 := slot_in hA hap (Nat.lt_of_lt_of_eq (Nat.le_of_ble_eq_true rfl : 109 < 269) hsz.symm) (by kernel_rfl)
      rw [f3] at e109
      clear hA hd o3 o7 o8
      have c0 : W.cell? ⟨g7, 2, none⟩ = some (.int .i64 fr) := (hb7.kp hW (by simp)).cell 2
      go_step
      exact hK _ _ (Kp.refl _ _) rfl
    · intro vs A' W hA hW hd K hK
      have e7 : A'.tmps[7]?.getD undef = .pointer (some ⟨g7, 0, none⟩) := slot_out hA hap (Nat.lt_of_lt_of_eq (Nat.le_of_ble_eq_true rfl : 7 < 269) hsz.symm) (by kernel_rfl) o7
      clear hA hd o3 o7 o8
      go_step
      exact hK _ _ (Kp.refl _ _) rfl
    · intro vs A' W hA hW hd K hK
      have f5 : vs 5 = .pointer (some ⟨g7, 3, none⟩) := hd 5 (by kernel_rfl)
      have e111 : A'.tmps[111]?.getD undef = vs 5 := slot_in hA hap (Nat.lt_of_lt_of_eq (Nat.le_of_ble_eq_true rfl : 111 < 269) hsz.symm) (by kernel_rfl)
      rw [f5] at e111
      clear hA hd o3 o7 o8
      have c0 : W.cell? ⟨g7, 3, none⟩ = some (.int .i64 tq) := (hb7.kp hW (by simp)).cell 3
      go_step
      exact hK _ _ (Kp.refl _ _) rfl
    · intro vs A' W hA hW hd K hK
      have f2 : vs 2 = .pointer (some ⟨p, 0, none⟩) := hd 2 (by kernel_rfl)
      have e108 : A'.tmps[108]?.getD undef = vs 2 := slot_in hA hap (Nat.lt_of_lt_of_eq (Nat.le_of_ble_eq_true rfl : 108 < 269) hsz.symm) (by kernel_rfl)
      rw [f2] at e108
      have f4 : vs 4 = .int .i64 fr := hd 4 (by kernel_rfl)
      have e110 : A'.tmps[110]?.getD undef = vs 4 := slot_in hA hap (Nat.lt_of_lt_of_eq (Nat.le_of_ble_eq_true rfl : 110 < 269) hsz.symm) (by kernel_rfl)
      rw [f4] at e110
      have f6 : vs 6 = .int .i64 tq := hd 6 (by kernel_rfl)
      have e112 : A'.tmps[112]?.getD undef = vs 6 := slot_in hA hap (Nat.lt_of_lt_of_eq (Nat.le_of_ble_eq_true rfl : 112 < 269) hsz.symm) (by kernel_rfl)
      rw [f6] at e112
      clear hA hd o3 o7 o8
      go_step
      refine (HC W hW).mono ?_
      rintro e w' ⟨rfl, k⟩
      exact hK _ _ k rfl
    · intro vs A' W hA hW hd K hK
      have f7 : vs 7 = .tuple #[.int .u32 ((x : Nat) : Int), .bool bq] := hd 7 (by kernel_rfl)
      have e113 : A'.tmps[113]?.getD undef = vs 7 := slot_in hA hap (Nat.lt_of_lt_of_eq (Nat.le_of_ble_eq_true rfl : 113 < 269) hsz.symm) (by kernel_rfl)
      rw [f7] at e113
      clear hA hd o3 o7 o8
      go_step
      exact hK _ _ (Kp.refl _ _) rfl
    · intro vs A' W hA hW hd K hK
      have f8 : vs 8 = .tuple #[.int .u32 ((x : Nat) : Int), .bool bq] := hd 8 (by kernel_rfl)
      have e105 : A'.tmps[105]?.getD undef = vs 8 := slot_in hA hap (Nat.lt_of_lt_of_eq (Nat.le_of_ble_eq_true rfl : 105 < 269) hsz.symm) (by kernel_rfl)
      rw [f8] at e105
      clear hA hd o3 o7 o8
      go_step
      exact hK _ _ (Kp.refl _ _) rfl
    · intro vs A' W hA hW hd K hK
      have f8 : vs 8 = .tuple #[.int .u32 ((x : Nat) : Int), .bool bq] := hd 8 (by kernel_rfl)
      have e105 : A'.tmps[105]?.getD undef = vs 8 := slot_in hA hap (Nat.lt_of_lt_of_eq (Nat.le_of_ble_eq_true rfl : 105 < 269) hsz.symm) (by kernel_rfl)
      rw [f8] at e105
      clear hA hd o3 o7 o8
      go_step
      exact hK _ _ (Kp.refl _ _) rfl
    · intro vs A' W hA hW hd K hK
      have f9 : vs 9 = .int .u32 ((x : Nat) : Int) := hd 9 (by kernel_rfl)
      have e114 : A'.tmps[114]?.getD undef = vs 9 := slot_in hA hap (Nat.lt_of_lt_of_eq (Nat.le_of_ble_eq_true rfl : 114 < 269) hsz.symm) (by kernel_rfl)
      rw [f9] at e114
      clear hA hd o3 o7 o8
      go_step
      exact hK _ _ (Kp.refl _ _) rfl
    · intro vs A' W hA hW hd K hK
      have f10 : vs 10 = .bool bq := hd 10 (by kernel_rfl)
      have e115 : A'.tmps[115]?.getD undef = vs 10 := slot_in hA hap (Nat.lt_of_lt_of_eq (Nat.le_of_ble_eq_true rfl : 115 < 269) hsz.symm) (by kernel_rfl)
      rw [f10] at e115
      clear hA hd o3 o7 o8
      go_step
      exact hK _ _ (Kp.refl _ _) rfl
  · intro vs W hW hp
    rw [show putAll vs (opsOf 24 Try.f10) 0 a = putD [(106, vs 0), (107, vs 1), (108, vs 2), (109, vs 3), (110, vs 4), (111, vs 5), (112, vs 6), (113, vs 7), (105, vs 8), (114, vs 9), (115, vs 10), (12, vs 11), (13, vs 12)] a from by kernel_rfl]
    exact hend _ W (same_putD _ a) hW (sl_putD _ a 12 _ (by rw [show vs 11 = _ from hp 11 (Nat.le_of_ble_eq_true (by kernel_rfl))]; kernel_rfl)) (sl_putD _ a 13 _ (by rw [show vs 12 = _ from hp 12 (Nat.le_of_ble_eq_true (by kernel_rfl))]; kernel_rfl))
-- END pmn24
-- REG pmn25
set_option maxRecDepth 100000 in
set_option maxHeartbeats 2000000 in
theorem pmn_r25 {Q : Exit → Act → World → Prop} {a : Act} {w : World} (ts : Array Value) (gT ko : Nat) (hko : ko < 2) (At : Option Addr) (nt ct : Nat) (htk : ts[ko]? = some (.slice At nt ct)) (hbT : Blk w.drew gT 50 ts) (kd on fr tq : Int) (AB AC : Option Addr) (nB cB nC cC : Nat) (g7 : Nat) (hb7 : Blk w.drew g7 52 #[.int .i64 kd, .int .i64 on, .int .i64 fr, .int .i64 tq, .slice AB nB cB, .slice AC nC cC]) (x : Nat) (bq : Bool) (HC : ∀ V, Kp [] w.drew V → Calls Try.prog 37 #[.slice At nt ct, .int .i64 fr, .int .i64 tq] V fun e w' => e = .returned (.tuple #[.int .u32 ((x : Nat) : Int), .bool bq]) ∧ Kp [] V w') (hsz : a.tmps.size = 269) (o4 : Sl a 4 (.pointer (some ⟨gT, 0, none⟩))) (o7 : Sl a 7 (.pointer (some ⟨g7, 0, none⟩))) (o8 : Sl a 8 (.int .i64 ((ko : Nat) : Int)))
    (hend : ∀ (a' : Act) (W : World), Same a a' [117, 118, 119, 120, 121, 122, 123, 124, 116, 125, 126, 14, 15] → Kp [] w.drew W → Sl a' 14 (.int .u32 ((x : Nat) : Int)) → Sl a' 15 (.bool bq) → Q .normal a' W) : (Code.region 25 (opsOf 25 Try.f10).toArray true).wp Try.prog Q a w := by
  have hap : apartB (opsOf 25 Try.f10) = true := by kernel_rfl
  refine wp_region_inv (l := (opsOf 25 Try.f10)) (fun i v W => match i with | 0 => v = .int .i64 ((ko : Nat) : Int) | 1 => v = .pointer (some ⟨gT, ko, none⟩) | 2 => v = .slice At nt ct | 3 => v = .pointer (some ⟨g7, 2, none⟩) | 4 => v = .int .i64 fr | 5 => v = .pointer (some ⟨g7, 3, none⟩) | 6 => v = .int .i64 tq | 7 => v = .tuple #[.int .u32 ((x : Nat) : Int), .bool bq] | 8 => v = .tuple #[.int .u32 ((x : Nat) : Int), .bool bq] | 9 => v = .int .u32 ((x : Nat) : Int) | 10 => v = .bool bq | 11 => v = .int .u32 ((x : Nat) : Int) | 12 => v = .bool bq | _ => True) (by kernel_rfl) hap (by kernel_rfl) ?_ ?_ ?_
  · intro i v W W' h _
    iterate 13 (rcases i with _ | i; · exact h)
    exact h
  · refine ⟨?_, ?_, ?_, ?_, ?_, ?_, ?_, ?_, ?_, ?_, ?_, ?_, ?_, trivial⟩
    · intro vs A' W hA hW hd K hK
      have e8 : A'.tmps[8]?.getD undef = .int .i64 ((ko : Nat) : Int) := slot_out hA hap (Nat.lt_of_lt_of_eq (Nat.le_of_ble_eq_true rfl : 8 < 269) hsz.symm) (by kernel_rfl) o8
      clear hA hd o4 o7 o8
      go_step
      exact hK _ _ (Kp.refl _ _) rfl
    · intro vs A' W hA hW hd K hK
      have e4 : A'.tmps[4]?.getD undef = .pointer (some ⟨gT, 0, none⟩) := slot_out hA hap (Nat.lt_of_lt_of_eq (Nat.le_of_ble_eq_true rfl : 4 < 269) hsz.symm) (by kernel_rfl) o4
      have f0 : vs 0 = .int .i64 ((ko : Nat) : Int) := hd 0 (by kernel_rfl)
      have e117 : A'.tmps[117]?.getD undef = vs 0 := slot_in hA hap (Nat.lt_of_lt_of_eq (Nat.le_of_ble_eq_true rfl : 117 < 269) hsz.symm) (by kernel_rfl)
      rw [f0] at e117
      clear hA hd o4 o7 o8
      have h0 : 0 ≤ (ko : Int) := by omega
      have h1 : (ko : Int) < 2 := by omega
      go_step
      exact hK _ _ (Kp.refl _ _) rfl
    · intro vs A' W hA hW hd K hK
      have f1 : vs 1 = .pointer (some ⟨gT, ko, none⟩) := hd 1 (by kernel_rfl)
      have e118 : A'.tmps[118]?.getD undef = vs 1 := slot_in hA hap (Nat.lt_of_lt_of_eq (Nat.le_of_ble_eq_true rfl : 118 < 269) hsz.symm) (by kernel_rfl)
      rw [f1] at e118
      clear hA hd o4 o7 o8
      have c0 : W.cell? ⟨gT, ko, none⟩ = some (.slice At nt ct) := by rw [(hbT.kp hW (by simp)).cell]; exact htk
      go_step
      exact hK _ _ (Kp.refl _ _) rfl
    · intro vs A' W hA hW hd K hK
      have e7 : A'.tmps[7]?.getD undef = .pointer (some ⟨g7, 0, none⟩) := slot_out hA hap (Nat.lt_of_lt_of_eq (Nat.le_of_ble_eq_true rfl : 7 < 269) hsz.symm) (by kernel_rfl) o7
      clear hA hd o4 o7 o8
      go_step
      exact hK _ _ (Kp.refl _ _) rfl
    · intro vs A' W hA hW hd K hK
      have f3 : vs 3 = .pointer (some ⟨g7, 2, none⟩) := hd 3 (by kernel_rfl)
      have e120 : A'.tmps[120]?.getD undef = vs 3 := slot_in hA hap (Nat.lt_of_lt_of_eq (Nat.le_of_ble_eq_true rfl : 120 < 269) hsz.symm) (by kernel_rfl)
      rw [f3] at e120
      clear hA hd o4 o7 o8
      have c0 : W.cell? ⟨g7, 2, none⟩ = some (.int .i64 fr) := (hb7.kp hW (by simp)).cell 2
      go_step
      exact hK _ _ (Kp.refl _ _) rfl
    · intro vs A' W hA hW hd K hK
      have e7 : A'.tmps[7]?.getD undef = .pointer (some ⟨g7, 0, none⟩) := slot_out hA hap (Nat.lt_of_lt_of_eq (Nat.le_of_ble_eq_true rfl : 7 < 269) hsz.symm) (by kernel_rfl) o7
      clear hA hd o4 o7 o8
      go_step
      exact hK _ _ (Kp.refl _ _) rfl
    · intro vs A' W hA hW hd K hK
      have f5 : vs 5 = .pointer (some ⟨g7, 3, none⟩) := hd 5 (by kernel_rfl)
      have e122 : A'.tmps[122]?.getD undef = vs 5 := slot_in hA hap (Nat.lt_of_lt_of_eq (Nat.le_of_ble_eq_true rfl : 122 < 269) hsz.symm) (by kernel_rfl)
      rw [f5] at e122
      clear hA hd o4 o7 o8
      have c0 : W.cell? ⟨g7, 3, none⟩ = some (.int .i64 tq) := (hb7.kp hW (by simp)).cell 3
      go_step
      exact hK _ _ (Kp.refl _ _) rfl
    · intro vs A' W hA hW hd K hK
      have f2 : vs 2 = .slice At nt ct := hd 2 (by kernel_rfl)
      have e119 : A'.tmps[119]?.getD undef = vs 2 := slot_in hA hap (Nat.lt_of_lt_of_eq (Nat.le_of_ble_eq_true rfl : 119 < 269) hsz.symm) (by kernel_rfl)
      rw [f2] at e119
      have f4 : vs 4 = .int .i64 fr := hd 4 (by kernel_rfl)
      have e121 : A'.tmps[121]?.getD undef = vs 4 := slot_in hA hap (Nat.lt_of_lt_of_eq (Nat.le_of_ble_eq_true rfl : 121 < 269) hsz.symm) (by kernel_rfl)
      rw [f4] at e121
      have f6 : vs 6 = .int .i64 tq := hd 6 (by kernel_rfl)
      have e123 : A'.tmps[123]?.getD undef = vs 6 := slot_in hA hap (Nat.lt_of_lt_of_eq (Nat.le_of_ble_eq_true rfl : 123 < 269) hsz.symm) (by kernel_rfl)
      rw [f6] at e123
      clear hA hd o4 o7 o8
      go_step
      refine (HC W hW).mono ?_
      rintro e w' ⟨rfl, k⟩
      exact hK _ _ k rfl
    · intro vs A' W hA hW hd K hK
      have f7 : vs 7 = .tuple #[.int .u32 ((x : Nat) : Int), .bool bq] := hd 7 (by kernel_rfl)
      have e124 : A'.tmps[124]?.getD undef = vs 7 := slot_in hA hap (Nat.lt_of_lt_of_eq (Nat.le_of_ble_eq_true rfl : 124 < 269) hsz.symm) (by kernel_rfl)
      rw [f7] at e124
      clear hA hd o4 o7 o8
      go_step
      exact hK _ _ (Kp.refl _ _) rfl
    · intro vs A' W hA hW hd K hK
      have f8 : vs 8 = .tuple #[.int .u32 ((x : Nat) : Int), .bool bq] := hd 8 (by kernel_rfl)
      have e116 : A'.tmps[116]?.getD undef = vs 8 := slot_in hA hap (Nat.lt_of_lt_of_eq (Nat.le_of_ble_eq_true rfl : 116 < 269) hsz.symm) (by kernel_rfl)
      rw [f8] at e116
      clear hA hd o4 o7 o8
      go_step
      exact hK _ _ (Kp.refl _ _) rfl
    · intro vs A' W hA hW hd K hK
      have f8 : vs 8 = .tuple #[.int .u32 ((x : Nat) : Int), .bool bq] := hd 8 (by kernel_rfl)
      have e116 : A'.tmps[116]?.getD undef = vs 8 := slot_in hA hap (Nat.lt_of_lt_of_eq (Nat.le_of_ble_eq_true rfl : 116 < 269) hsz.symm) (by kernel_rfl)
      rw [f8] at e116
      clear hA hd o4 o7 o8
      go_step
      exact hK _ _ (Kp.refl _ _) rfl
    · intro vs A' W hA hW hd K hK
      have f9 : vs 9 = .int .u32 ((x : Nat) : Int) := hd 9 (by kernel_rfl)
      have e125 : A'.tmps[125]?.getD undef = vs 9 := slot_in hA hap (Nat.lt_of_lt_of_eq (Nat.le_of_ble_eq_true rfl : 125 < 269) hsz.symm) (by kernel_rfl)
      rw [f9] at e125
      clear hA hd o4 o7 o8
      go_step
      exact hK _ _ (Kp.refl _ _) rfl
    · intro vs A' W hA hW hd K hK
      have f10 : vs 10 = .bool bq := hd 10 (by kernel_rfl)
      have e126 : A'.tmps[126]?.getD undef = vs 10 := slot_in hA hap (Nat.lt_of_lt_of_eq (Nat.le_of_ble_eq_true rfl : 126 < 269) hsz.symm) (by kernel_rfl)
      rw [f10] at e126
      clear hA hd o4 o7 o8
      go_step
      exact hK _ _ (Kp.refl _ _) rfl
  · intro vs W hW hp
    rw [show putAll vs (opsOf 25 Try.f10) 0 a = putD [(117, vs 0), (118, vs 1), (119, vs 2), (120, vs 3), (121, vs 4), (122, vs 5), (123, vs 6), (124, vs 7), (116, vs 8), (125, vs 9), (126, vs 10), (14, vs 11), (15, vs 12)] a from by kernel_rfl]
    exact hend _ W (same_putD _ a) hW (sl_putD _ a 14 _ (by rw [show vs 11 = _ from hp 11 (Nat.le_of_ble_eq_true (by kernel_rfl))]; kernel_rfl)) (sl_putD _ a 15 _ (by rw [show vs 12 = _ from hp 12 (Nat.le_of_ble_eq_true (by kernel_rfl))]; kernel_rfl))
-- END pmn25
-- REG pmn26
set_option maxRecDepth 100000 in
set_option maxHeartbeats 2000000 in
theorem pmn_r26 {Q : Exit → Act → World → Prop} {a : Act} {w : World} (x : Nat) (bq : Bool) (hsz : a.tmps.size = 269) (o12 : Sl a 12 (.int .u32 ((x : Nat) : Int))) (o13 : Sl a 13 (.bool bq)) (o14 : Sl a 14 (.int .u32 ((x : Nat) : Int))) (o15 : Sl a 15 (.bool bq))
    (hend : ∀ (a' : Act) (W : World), Same a a' [127, 128, 129, 130, 131, 132, 133, 134] → Kp [] w W → Sl a' 134 (.bool false) → Q .normal a' W) : (Code.region 26 (opsOf 26 Try.f10).toArray false).wp Try.prog Q a w := by
  have hap : apartB (opsOf 26 Try.f10) = true := by kernel_rfl
  refine wp_region_invS (l := (opsOf 26 Try.f10)) (fun i v W => match i with | 0 => v = .int .u32 ((x : Nat) : Int) | 1 => v = .int .u32 ((x : Nat) : Int) | 2 => v = .bool false | 3 => v = .bool false | 4 => v = .bool bq | 5 => v = .bool bq | 6 => v = .bool false | 7 => v = .bool false | _ => True) hap ?_ ?_ ?_
  · intro i v W W' h _
    iterate 8 (rcases i with _ | i; · exact h)
    exact h
  · refine ⟨?_, ?_, ?_, ?_, ?_, ?_, ?_, ?_, trivial⟩
    · intro vs A' W hA hW hd hu K hK
      refine wpOp_free _ rfl rfl ?_
      conv => arg 2; whnf
      have e12 : A'.tmps[12]?.getD undef = .int .u32 ((x : Nat) : Int) := slot_out hA hap (Nat.lt_of_lt_of_eq (Nat.le_of_ble_eq_true rfl : 12 < 269) hsz.symm) (by kernel_rfl) o12
      clear hA hd hu o12 o13 o14 o15
      go_step
      exact hK _ _ (Kp.refl _ _) rfl
    · intro vs A' W hA hW hd hu K hK
      refine wpOp_free _ rfl rfl ?_
      conv => arg 2; whnf
      have e14 : A'.tmps[14]?.getD undef = .int .u32 ((x : Nat) : Int) := slot_out hA hap (Nat.lt_of_lt_of_eq (Nat.le_of_ble_eq_true rfl : 14 < 269) hsz.symm) (by kernel_rfl) o14
      clear hA hd hu o12 o13 o14 o15
      go_step
      exact hK _ _ (Kp.refl _ _) rfl
    · intro vs A' W hA hW hd hu K hK
      refine wpOp_free _ rfl rfl ?_
      conv => arg 2; whnf
      have f0 : vs 0 = .int .u32 ((x : Nat) : Int) := hd 0 (by kernel_rfl)
      have e127 : A'.tmps[127]?.getD undef = vs 0 := slot_in hA hap (Nat.lt_of_lt_of_eq (Nat.le_of_ble_eq_true rfl : 127 < 269) hsz.symm) (by kernel_rfl)
      rw [f0] at e127
      have f1 : vs 1 = .int .u32 ((x : Nat) : Int) := hd 1 (by kernel_rfl)
      have e128 : A'.tmps[128]?.getD undef = vs 1 := slot_in hA hap (Nat.lt_of_lt_of_eq (Nat.le_of_ble_eq_true rfl : 128 < 269) hsz.symm) (by kernel_rfl)
      rw [f1] at e128
      clear hA hd hu o12 o13 o14 o15
      go_step
      exact hK _ _ (Kp.refl _ _) (by first | rfl | exact (show Value.bool ((x : Int) != (x : Int)) = Value.bool false from by rw [bne_self_eq_false]))
    · intro vs A' W hA hW hd hu K hK
      refine wpOp_free _ rfl rfl ?_
      conv => arg 2; whnf
      have f2 : vs 2 = .bool false := hd 2 (by kernel_rfl)
      have e129 : A'.tmps[129]?.getD undef = vs 2 := slot_in hA hap (Nat.lt_of_lt_of_eq (Nat.le_of_ble_eq_true rfl : 129 < 269) hsz.symm) (by kernel_rfl)
      rw [f2] at e129
      clear hA hd hu o12 o13 o14 o15
      go_step
      exact hK _ _ (Kp.refl _ _) rfl
    · intro vs A' W hA hW hd hu K hK
      have f3 : vs 3 = .bool false := hd 3 (by kernel_rfl)
      have e130 : A'.tmps[130]?.getD undef = vs 3 := slot_in hA hap (Nat.lt_of_lt_of_eq (Nat.le_of_ble_eq_true rfl : 130 < 269) hsz.symm) (by kernel_rfl)
      rw [f3] at e130
      refine wpOp_go _ rfl 3 130 false rfl rfl e130 ?_
      conv => arg 2; whnf
      have e13 : A'.tmps[13]?.getD undef = .bool bq := slot_out hA hap (Nat.lt_of_lt_of_eq (Nat.le_of_ble_eq_true rfl : 13 < 269) hsz.symm) (by kernel_rfl) o13
      clear hA hd hu o12 o13 o14 o15
      go_step
      exact hK _ _ (Kp.refl _ _) rfl
    · intro vs A' W hA hW hd hu K hK
      have f3 : vs 3 = .bool false := hd 3 (by kernel_rfl)
      have e130 : A'.tmps[130]?.getD undef = vs 3 := slot_in hA hap (Nat.lt_of_lt_of_eq (Nat.le_of_ble_eq_true rfl : 130 < 269) hsz.symm) (by kernel_rfl)
      rw [f3] at e130
      refine wpOp_go _ rfl 3 130 false rfl rfl e130 ?_
      conv => arg 2; whnf
      have e15 : A'.tmps[15]?.getD undef = .bool bq := slot_out hA hap (Nat.lt_of_lt_of_eq (Nat.le_of_ble_eq_true rfl : 15 < 269) hsz.symm) (by kernel_rfl) o15
      clear hA hd hu o12 o13 o14 o15
      go_step
      exact hK _ _ (Kp.refl _ _) rfl
    · intro vs A' W hA hW hd hu K hK
      have f3 : vs 3 = .bool false := hd 3 (by kernel_rfl)
      have e130 : A'.tmps[130]?.getD undef = vs 3 := slot_in hA hap (Nat.lt_of_lt_of_eq (Nat.le_of_ble_eq_true rfl : 130 < 269) hsz.symm) (by kernel_rfl)
      rw [f3] at e130
      refine wpOp_go _ rfl 3 130 false rfl rfl e130 ?_
      conv => arg 2; whnf
      have f4 : vs 4 = .bool bq := hd 4 (by kernel_rfl)
      have e131 : A'.tmps[131]?.getD undef = vs 4 := slot_in hA hap (Nat.lt_of_lt_of_eq (Nat.le_of_ble_eq_true rfl : 131 < 269) hsz.symm) (by kernel_rfl)
      rw [f4] at e131
      have f5 : vs 5 = .bool bq := hd 5 (by kernel_rfl)
      have e132 : A'.tmps[132]?.getD undef = vs 5 := slot_in hA hap (Nat.lt_of_lt_of_eq (Nat.le_of_ble_eq_true rfl : 132 < 269) hsz.symm) (by kernel_rfl)
      rw [f5] at e132
      clear hA hd hu o12 o13 o14 o15
      go_step
      exact hK _ _ (Kp.refl _ _) (by first | rfl | exact (show Value.bool (bq != bq) = Value.bool false from by rw [bne_self_eq_false]))
    · intro vs A' W hA hW hd hu K hK
      refine wpOp_free _ rfl rfl ?_
      conv => arg 2; whnf
      have f3 : vs 3 = .bool false := hd 3 (by kernel_rfl)
      have e130 : A'.tmps[130]?.getD undef = vs 3 := slot_in hA hap (Nat.lt_of_lt_of_eq (Nat.le_of_ble_eq_true rfl : 130 < 269) hsz.symm) (by kernel_rfl)
      rw [f3] at e130
      have f6 : vs 6 = .bool false := hd 6 (by kernel_rfl)
      have e133 : A'.tmps[133]?.getD undef = vs 6 := slot_in hA hap (Nat.lt_of_lt_of_eq (Nat.le_of_ble_eq_true rfl : 133 < 269) hsz.symm) (by kernel_rfl)
      rw [f6] at e133
      clear hA hd hu o12 o13 o14 o15
      go_step
      exact hK _ _ (Kp.refl _ _) rfl
  · intro vs W hW hp
    rw [show putAll vs (opsOf 26 Try.f10) 0 a = putD [(127, vs 0), (128, vs 1), (129, vs 2), (130, vs 3), (131, vs 4), (132, vs 5), (133, vs 6), (134, vs 7)] a from by kernel_rfl]
    exact hend _ W (same_putD _ a) hW (sl_putD _ a 134 _ (by rw [show vs 7 = _ from hp 7 (Nat.le_of_ble_eq_true (by kernel_rfl))]; kernel_rfl))
-- END pmn26
-- REG pmn30
set_option maxRecDepth 100000 in
set_option maxHeartbeats 2000000 in
theorem pmn_r30 {Q : Exit → Act → World → Prop} {a : Act} {w : World} (gS gN : Nat) (ts : Array Value) (gT ko : Nat) (hko : ko < 2) (At : Option Addr) (nt ct : Nat) (htk : ts[ko]? = some (.slice At nt ct)) (kd on fr tq : Int) (AB AC : Option Addr) (nB cB nC cC : Nat) (g7 : Nat) (hbT : Blk w.drew gT 50 ts) (hb7 : Blk w.drew g7 52 #[.int .i64 kd, .int .i64 on, .int .i64 fr, .int .i64 tq, .slice AB nB cB, .slice AC nC cC]) (HC : ∀ V, Kp [] w.drew V → Calls Try.prog 35 #[.func (.func 48) #[] #[.pointer (some ⟨gS, 0, none⟩), .pointer (some ⟨gN, 0, none⟩)], .slice At nt ct, .int .i64 fr, .int .i64 tq] V fun e w' => e = .returned (.bool true) ∧ Kp [] V w') (HC2 : ∀ V, Kp [] w.drew V → Calls Try.prog 35 #[.func (.func 48) #[] #[.pointer (some ⟨gS, 0, none⟩), .pointer (some ⟨gN, 0, none⟩)], .slice At nt ct, .int .i64 fr, .int .i64 0] V fun e w' => e = .returned (.bool true) ∧ Kp [] V w') (hsz : a.tmps.size = 269) (o4 : Sl a 4 (.pointer (some ⟨gT, 0, none⟩))) (o7 : Sl a 7 (.pointer (some ⟨g7, 0, none⟩))) (o8 : Sl a 8 (.int .i64 ((ko : Nat) : Int))) (o16 : Sl a 16 (.func (.func 48) #[] #[.pointer (some ⟨gS, 0, none⟩), .pointer (some ⟨gN, 0, none⟩)]))
    (hend : ∀ (a' : Act) (W : World), Same a a' [143, 144, 145, 146, 147, 148, 149, 150, 151, 152, 153, 154, 155, 156, 157, 158, 159, 160, 161, 162] → Kp [] w.drew W → Sl a' 162 (.bool false) → Q .normal a' W) : (Code.region 30 (opsOf 30 Try.f10).toArray true).wp Try.prog Q a w := by
  have hap : apartB (opsOf 30 Try.f10) = true := by kernel_rfl
  refine wp_region_invG (l := (opsOf 30 Try.f10)) (fun i v W => match i with | 0 => v = .func (.func 48) #[] #[.pointer (some ⟨gS, 0, none⟩), .pointer (some ⟨gN, 0, none⟩)] | 1 => v = .int .i64 ((ko : Nat) : Int) | 2 => v = .pointer (some ⟨gT, ko, none⟩) | 3 => v = .slice At nt ct | 4 => v = .pointer (some ⟨g7, 2, none⟩) | 5 => v = .int .i64 fr | 6 => v = .pointer (some ⟨g7, 3, none⟩) | 7 => v = .int .i64 tq | 8 => v = .bool true | 9 => v = .bool false | 10 => v = .bool false | 11 => v = .func (.func 48) #[] #[.pointer (some ⟨gS, 0, none⟩), .pointer (some ⟨gN, 0, none⟩)] | 12 => v = .int .i64 ((ko : Nat) : Int) | 13 => v = .pointer (some ⟨gT, ko, none⟩) | 14 => v = .slice At nt ct | 15 => v = .pointer (some ⟨g7, 2, none⟩) | 16 => v = .int .i64 fr | 17 => v = .bool true | 18 => v = .bool false | 19 => v = .bool false | _ => True) (by kernel_rfl) hap (by kernel_rfl) ?_ ?_ ?_
  · intro i v W W' h _
    iterate 20 (rcases i with _ | i; · exact h)
    exact h
  · refine ⟨?_, ?_, ?_, ?_, ?_, ?_, ?_, ?_, ?_, ?_, ?_, ?_, ?_, ?_, ?_, ?_, ?_, ?_, ?_, ?_, trivial⟩
    · intro vs A' W hA hW hd K hK
      refine wpOp_free _ rfl rfl ?_
      conv => arg 2; whnf
      have e16 : A'.tmps[16]?.getD undef = .func (.func 48) #[] #[.pointer (some ⟨gS, 0, none⟩), .pointer (some ⟨gN, 0, none⟩)] := slot_out hA hap (Nat.lt_of_lt_of_eq (Nat.le_of_ble_eq_true rfl : 16 < 269) hsz.symm) (by kernel_rfl) o16
      clear hA hd o4 o7 o8 o16
      go_step
      exact hK _ _ (Kp.refl _ _) rfl
    · intro vs A' W hA hW hd K hK
      refine wpOp_free _ rfl rfl ?_
      conv => arg 2; whnf
      have e8 : A'.tmps[8]?.getD undef = .int .i64 ((ko : Nat) : Int) := slot_out hA hap (Nat.lt_of_lt_of_eq (Nat.le_of_ble_eq_true rfl : 8 < 269) hsz.symm) (by kernel_rfl) o8
      clear hA hd o4 o7 o8 o16
      go_step
      exact hK _ _ (Kp.refl _ _) rfl
    · intro vs A' W hA hW hd K hK
      refine wpOp_free _ rfl rfl ?_
      conv => arg 2; whnf
      have e4 : A'.tmps[4]?.getD undef = .pointer (some ⟨gT, 0, none⟩) := slot_out hA hap (Nat.lt_of_lt_of_eq (Nat.le_of_ble_eq_true rfl : 4 < 269) hsz.symm) (by kernel_rfl) o4
      have f1 : vs 1 = .int .i64 ((ko : Nat) : Int) := hd 1 (by kernel_rfl)
      have e144 : A'.tmps[144]?.getD undef = vs 1 := slot_in hA hap (Nat.lt_of_lt_of_eq (Nat.le_of_ble_eq_true rfl : 144 < 269) hsz.symm) (by kernel_rfl)
      rw [f1] at e144
      clear hA hd o4 o7 o8 o16
      have h0 : 0 ≤ (ko : Int) := by omega
      have h1 : (ko : Int) < 2 := by omega
      go_step
      exact hK _ _ (Kp.refl _ _) rfl
    · intro vs A' W hA hW hd K hK
      refine wpOp_free _ rfl rfl ?_
      conv => arg 2; whnf
      have f2 : vs 2 = .pointer (some ⟨gT, ko, none⟩) := hd 2 (by kernel_rfl)
      have e145 : A'.tmps[145]?.getD undef = vs 2 := slot_in hA hap (Nat.lt_of_lt_of_eq (Nat.le_of_ble_eq_true rfl : 145 < 269) hsz.symm) (by kernel_rfl)
      rw [f2] at e145
      clear hA hd o4 o7 o8 o16
      have c0 : W.cell? ⟨gT, ko, none⟩ = some (.slice At nt ct) := by rw [(hbT.kp hW (by simp)).cell]; exact htk
      go_step
      exact hK _ _ (Kp.refl _ _) rfl
    · intro vs A' W hA hW hd K hK
      refine wpOp_free _ rfl rfl ?_
      conv => arg 2; whnf
      have e7 : A'.tmps[7]?.getD undef = .pointer (some ⟨g7, 0, none⟩) := slot_out hA hap (Nat.lt_of_lt_of_eq (Nat.le_of_ble_eq_true rfl : 7 < 269) hsz.symm) (by kernel_rfl) o7
      clear hA hd o4 o7 o8 o16
      go_step
      exact hK _ _ (Kp.refl _ _) rfl
    · intro vs A' W hA hW hd K hK
      refine wpOp_free _ rfl rfl ?_
      conv => arg 2; whnf
      have f4 : vs 4 = .pointer (some ⟨g7, 2, none⟩) := hd 4 (by kernel_rfl)
      have e147 : A'.tmps[147]?.getD undef = vs 4 := slot_in hA hap (Nat.lt_of_lt_of_eq (Nat.le_of_ble_eq_true rfl : 147 < 269) hsz.symm) (by kernel_rfl)
      rw [f4] at e147
      clear hA hd o4 o7 o8 o16
      have c0 : W.cell? ⟨g7, 2, none⟩ = some (.int .i64 fr) := (hb7.kp hW (by simp)).cell 2
      go_step
      exact hK _ _ (Kp.refl _ _) rfl
    · intro vs A' W hA hW hd K hK
      refine wpOp_free _ rfl rfl ?_
      conv => arg 2; whnf
      have e7 : A'.tmps[7]?.getD undef = .pointer (some ⟨g7, 0, none⟩) := slot_out hA hap (Nat.lt_of_lt_of_eq (Nat.le_of_ble_eq_true rfl : 7 < 269) hsz.symm) (by kernel_rfl) o7
      clear hA hd o4 o7 o8 o16
      go_step
      exact hK _ _ (Kp.refl _ _) rfl
    · intro vs A' W hA hW hd K hK
      refine wpOp_free _ rfl rfl ?_
      conv => arg 2; whnf
      have f6 : vs 6 = .pointer (some ⟨g7, 3, none⟩) := hd 6 (by kernel_rfl)
      have e149 : A'.tmps[149]?.getD undef = vs 6 := slot_in hA hap (Nat.lt_of_lt_of_eq (Nat.le_of_ble_eq_true rfl : 149 < 269) hsz.symm) (by kernel_rfl)
      rw [f6] at e149
      clear hA hd o4 o7 o8 o16
      have c0 : W.cell? ⟨g7, 3, none⟩ = some (.int .i64 tq) := (hb7.kp hW (by simp)).cell 3
      go_step
      exact hK _ _ (Kp.refl _ _) rfl
    · intro vs A' W hA hW hd K hK
      refine wpOp_free _ rfl rfl ?_
      conv => arg 2; whnf
      have f0 : vs 0 = .func (.func 48) #[] #[.pointer (some ⟨gS, 0, none⟩), .pointer (some ⟨gN, 0, none⟩)] := hd 0 (by kernel_rfl)
      have e143 : A'.tmps[143]?.getD undef = vs 0 := slot_in hA hap (Nat.lt_of_lt_of_eq (Nat.le_of_ble_eq_true rfl : 143 < 269) hsz.symm) (by kernel_rfl)
      rw [f0] at e143
      have f3 : vs 3 = .slice At nt ct := hd 3 (by kernel_rfl)
      have e146 : A'.tmps[146]?.getD undef = vs 3 := slot_in hA hap (Nat.lt_of_lt_of_eq (Nat.le_of_ble_eq_true rfl : 146 < 269) hsz.symm) (by kernel_rfl)
      rw [f3] at e146
      have f5 : vs 5 = .int .i64 fr := hd 5 (by kernel_rfl)
      have e148 : A'.tmps[148]?.getD undef = vs 5 := slot_in hA hap (Nat.lt_of_lt_of_eq (Nat.le_of_ble_eq_true rfl : 148 < 269) hsz.symm) (by kernel_rfl)
      rw [f5] at e148
      have f7 : vs 7 = .int .i64 tq := hd 7 (by kernel_rfl)
      have e150 : A'.tmps[150]?.getD undef = vs 7 := slot_in hA hap (Nat.lt_of_lt_of_eq (Nat.le_of_ble_eq_true rfl : 150 < 269) hsz.symm) (by kernel_rfl)
      rw [f7] at e150
      clear hA hd o4 o7 o8 o16
      go_step
      refine (HC W hW).mono ?_
      rintro e w' ⟨rfl, k⟩
      exact hK _ _ k rfl
    · intro vs A' W hA hW hd K hK
      refine wpOp_free _ rfl rfl ?_
      conv => arg 2; whnf
      have f8 : vs 8 = .bool true := hd 8 (by kernel_rfl)
      have e151 : A'.tmps[151]?.getD undef = vs 8 := slot_in hA hap (Nat.lt_of_lt_of_eq (Nat.le_of_ble_eq_true rfl : 151 < 269) hsz.symm) (by kernel_rfl)
      rw [f8] at e151
      clear hA hd o4 o7 o8 o16
      go_step
      exact hK _ _ (Kp.refl _ _) rfl
    · intro vs A' W hA hW hd K hK
      refine wpOp_free _ rfl rfl ?_
      conv => arg 2; whnf
      have f9 : vs 9 = .bool false := hd 9 (by kernel_rfl)
      have e152 : A'.tmps[152]?.getD undef = vs 9 := slot_in hA hap (Nat.lt_of_lt_of_eq (Nat.le_of_ble_eq_true rfl : 152 < 269) hsz.symm) (by kernel_rfl)
      rw [f9] at e152
      clear hA hd o4 o7 o8 o16
      go_step
      exact hK _ _ (Kp.refl _ _) rfl
    · intro vs A' W hA hW hd K hK
      have f10 : vs 10 = .bool false := hd 10 (by kernel_rfl)
      have e153 : A'.tmps[153]?.getD undef = vs 10 := slot_in hA hap (Nat.lt_of_lt_of_eq (Nat.le_of_ble_eq_true rfl : 153 < 269) hsz.symm) (by kernel_rfl)
      rw [f10] at e153
      refine wpOp_go _ rfl 10 153 false rfl rfl e153 ?_
      conv => arg 2; whnf
      have e16 : A'.tmps[16]?.getD undef = .func (.func 48) #[] #[.pointer (some ⟨gS, 0, none⟩), .pointer (some ⟨gN, 0, none⟩)] := slot_out hA hap (Nat.lt_of_lt_of_eq (Nat.le_of_ble_eq_true rfl : 16 < 269) hsz.symm) (by kernel_rfl) o16
      clear hA hd o4 o7 o8 o16
      go_step
      exact hK _ _ (Kp.refl _ _) rfl
    · intro vs A' W hA hW hd K hK
      have f10 : vs 10 = .bool false := hd 10 (by kernel_rfl)
      have e153 : A'.tmps[153]?.getD undef = vs 10 := slot_in hA hap (Nat.lt_of_lt_of_eq (Nat.le_of_ble_eq_true rfl : 153 < 269) hsz.symm) (by kernel_rfl)
      rw [f10] at e153
      refine wpOp_go _ rfl 10 153 false rfl rfl e153 ?_
      conv => arg 2; whnf
      have e8 : A'.tmps[8]?.getD undef = .int .i64 ((ko : Nat) : Int) := slot_out hA hap (Nat.lt_of_lt_of_eq (Nat.le_of_ble_eq_true rfl : 8 < 269) hsz.symm) (by kernel_rfl) o8
      clear hA hd o4 o7 o8 o16
      go_step
      exact hK _ _ (Kp.refl _ _) rfl
    · intro vs A' W hA hW hd K hK
      have f10 : vs 10 = .bool false := hd 10 (by kernel_rfl)
      have e153 : A'.tmps[153]?.getD undef = vs 10 := slot_in hA hap (Nat.lt_of_lt_of_eq (Nat.le_of_ble_eq_true rfl : 153 < 269) hsz.symm) (by kernel_rfl)
      rw [f10] at e153
      refine wpOp_go _ rfl 10 153 false rfl rfl e153 ?_
      conv => arg 2; whnf
      have e4 : A'.tmps[4]?.getD undef = .pointer (some ⟨gT, 0, none⟩) := slot_out hA hap (Nat.lt_of_lt_of_eq (Nat.le_of_ble_eq_true rfl : 4 < 269) hsz.symm) (by kernel_rfl) o4
      have f12 : vs 12 = .int .i64 ((ko : Nat) : Int) := hd 12 (by kernel_rfl)
      have e155 : A'.tmps[155]?.getD undef = vs 12 := slot_in hA hap (Nat.lt_of_lt_of_eq (Nat.le_of_ble_eq_true rfl : 155 < 269) hsz.symm) (by kernel_rfl)
      rw [f12] at e155
      clear hA hd o4 o7 o8 o16
      have h0 : 0 ≤ (ko : Int) := by omega
      have h1 : (ko : Int) < 2 := by omega
      go_step
      exact hK _ _ (Kp.refl _ _) rfl
    · intro vs A' W hA hW hd K hK
      have f10 : vs 10 = .bool false := hd 10 (by kernel_rfl)
      have e153 : A'.tmps[153]?.getD undef = vs 10 := slot_in hA hap (Nat.lt_of_lt_of_eq (Nat.le_of_ble_eq_true rfl : 153 < 269) hsz.symm) (by kernel_rfl)
      rw [f10] at e153
      refine wpOp_go _ rfl 10 153 false rfl rfl e153 ?_
      conv => arg 2; whnf
      have f13 : vs 13 = .pointer (some ⟨gT, ko, none⟩) := hd 13 (by kernel_rfl)
      have e156 : A'.tmps[156]?.getD undef = vs 13 := slot_in hA hap (Nat.lt_of_lt_of_eq (Nat.le_of_ble_eq_true rfl : 156 < 269) hsz.symm) (by kernel_rfl)
      rw [f13] at e156
      clear hA hd o4 o7 o8 o16
      have c0 : W.cell? ⟨gT, ko, none⟩ = some (.slice At nt ct) := by rw [(hbT.kp hW (by simp)).cell]; exact htk
      go_step
      exact hK _ _ (Kp.refl _ _) rfl
    · intro vs A' W hA hW hd K hK
      have f10 : vs 10 = .bool false := hd 10 (by kernel_rfl)
      have e153 : A'.tmps[153]?.getD undef = vs 10 := slot_in hA hap (Nat.lt_of_lt_of_eq (Nat.le_of_ble_eq_true rfl : 153 < 269) hsz.symm) (by kernel_rfl)
      rw [f10] at e153
      refine wpOp_go _ rfl 10 153 false rfl rfl e153 ?_
      conv => arg 2; whnf
      have e7 : A'.tmps[7]?.getD undef = .pointer (some ⟨g7, 0, none⟩) := slot_out hA hap (Nat.lt_of_lt_of_eq (Nat.le_of_ble_eq_true rfl : 7 < 269) hsz.symm) (by kernel_rfl) o7
      clear hA hd o4 o7 o8 o16
      go_step
      exact hK _ _ (Kp.refl _ _) rfl
    · intro vs A' W hA hW hd K hK
      have f10 : vs 10 = .bool false := hd 10 (by kernel_rfl)
      have e153 : A'.tmps[153]?.getD undef = vs 10 := slot_in hA hap (Nat.lt_of_lt_of_eq (Nat.le_of_ble_eq_true rfl : 153 < 269) hsz.symm) (by kernel_rfl)
      rw [f10] at e153
      refine wpOp_go _ rfl 10 153 false rfl rfl e153 ?_
      conv => arg 2; whnf
      have f15 : vs 15 = .pointer (some ⟨g7, 2, none⟩) := hd 15 (by kernel_rfl)
      have e158 : A'.tmps[158]?.getD undef = vs 15 := slot_in hA hap (Nat.lt_of_lt_of_eq (Nat.le_of_ble_eq_true rfl : 158 < 269) hsz.symm) (by kernel_rfl)
      rw [f15] at e158
      clear hA hd o4 o7 o8 o16
      have c0 : W.cell? ⟨g7, 2, none⟩ = some (.int .i64 fr) := (hb7.kp hW (by simp)).cell 2
      go_step
      exact hK _ _ (Kp.refl _ _) rfl
    · intro vs A' W hA hW hd K hK
      have f10 : vs 10 = .bool false := hd 10 (by kernel_rfl)
      have e153 : A'.tmps[153]?.getD undef = vs 10 := slot_in hA hap (Nat.lt_of_lt_of_eq (Nat.le_of_ble_eq_true rfl : 153 < 269) hsz.symm) (by kernel_rfl)
      rw [f10] at e153
      refine wpOp_go _ rfl 10 153 false rfl rfl e153 ?_
      conv => arg 2; whnf
      have f11 : vs 11 = .func (.func 48) #[] #[.pointer (some ⟨gS, 0, none⟩), .pointer (some ⟨gN, 0, none⟩)] := hd 11 (by kernel_rfl)
      have e154 : A'.tmps[154]?.getD undef = vs 11 := slot_in hA hap (Nat.lt_of_lt_of_eq (Nat.le_of_ble_eq_true rfl : 154 < 269) hsz.symm) (by kernel_rfl)
      rw [f11] at e154
      have f14 : vs 14 = .slice At nt ct := hd 14 (by kernel_rfl)
      have e157 : A'.tmps[157]?.getD undef = vs 14 := slot_in hA hap (Nat.lt_of_lt_of_eq (Nat.le_of_ble_eq_true rfl : 157 < 269) hsz.symm) (by kernel_rfl)
      rw [f14] at e157
      have f16 : vs 16 = .int .i64 fr := hd 16 (by kernel_rfl)
      have e159 : A'.tmps[159]?.getD undef = vs 16 := slot_in hA hap (Nat.lt_of_lt_of_eq (Nat.le_of_ble_eq_true rfl : 159 < 269) hsz.symm) (by kernel_rfl)
      rw [f16] at e159
      clear hA hd o4 o7 o8 o16
      go_step
      refine (HC2 W hW).mono ?_
      rintro e w' ⟨rfl, k⟩
      exact hK _ _ k rfl
    · intro vs A' W hA hW hd K hK
      have f10 : vs 10 = .bool false := hd 10 (by kernel_rfl)
      have e153 : A'.tmps[153]?.getD undef = vs 10 := slot_in hA hap (Nat.lt_of_lt_of_eq (Nat.le_of_ble_eq_true rfl : 153 < 269) hsz.symm) (by kernel_rfl)
      rw [f10] at e153
      refine wpOp_go _ rfl 10 153 false rfl rfl e153 ?_
      conv => arg 2; whnf
      have f17 : vs 17 = .bool true := hd 17 (by kernel_rfl)
      have e160 : A'.tmps[160]?.getD undef = vs 17 := slot_in hA hap (Nat.lt_of_lt_of_eq (Nat.le_of_ble_eq_true rfl : 160 < 269) hsz.symm) (by kernel_rfl)
      rw [f17] at e160
      clear hA hd o4 o7 o8 o16
      go_step
      exact hK _ _ (Kp.refl _ _) rfl
    · intro vs A' W hA hW hd K hK
      refine wpOp_free _ rfl rfl ?_
      conv => arg 2; whnf
      have f10 : vs 10 = .bool false := hd 10 (by kernel_rfl)
      have e153 : A'.tmps[153]?.getD undef = vs 10 := slot_in hA hap (Nat.lt_of_lt_of_eq (Nat.le_of_ble_eq_true rfl : 153 < 269) hsz.symm) (by kernel_rfl)
      rw [f10] at e153
      have f18 : vs 18 = .bool false := hd 18 (by kernel_rfl)
      have e161 : A'.tmps[161]?.getD undef = vs 18 := slot_in hA hap (Nat.lt_of_lt_of_eq (Nat.le_of_ble_eq_true rfl : 161 < 269) hsz.symm) (by kernel_rfl)
      rw [f18] at e161
      clear hA hd o4 o7 o8 o16
      go_step
      exact hK _ _ (Kp.refl _ _) rfl
  · intro vs W hW hp
    rw [show putAll vs (opsOf 30 Try.f10) 0 a = putD [(143, vs 0), (144, vs 1), (145, vs 2), (146, vs 3), (147, vs 4), (148, vs 5), (149, vs 6), (150, vs 7), (151, vs 8), (152, vs 9), (153, vs 10), (154, vs 11), (155, vs 12), (156, vs 13), (157, vs 14), (158, vs 15), (159, vs 16), (160, vs 17), (161, vs 18), (162, vs 19)] a from by kernel_rfl]
    exact hend _ W (same_putD _ a) hW (sl_putD _ a 162 _ (by rw [show vs 19 = _ from hp 19 (Nat.le_of_ble_eq_true (by kernel_rfl))]; kernel_rfl))
-- END pmn30
-- REG pmn33
set_option maxRecDepth 100000 in
set_option maxHeartbeats 2000000 in
theorem pmn_r33 {Q : Exit → Act → World → Prop} {a : Act} {w : World} (w0 : World) (cs : Array Value) (gO p ko : Nat) (hko : ko < 2) (hck : cs[ko]? = some (.pointer (some ⟨p, 0, none⟩)))  (uj : Value) (hcj : cs[1 - ko]? = some uj) (A : Option Addr) (c : Nat) (bs : List UInt8) (hb : bs.length ≤ 1000000) (L : List Res) (S : Held w0 w (blkR gO 49 cs :: sumsR p (.slice A bs.length c) bs :: L)) (hsz : a.tmps.size = 269) (o3 : Sl a 3 (.pointer (some ⟨gO, 0, none⟩))) (o8 : Sl a 8 (.int .i64 ((ko : Nat) : Int)))
    (hend : ∀ (a' : Act) (W : World), Same a a' [165, 166, 167, 168, 169, 170, 171] → (∃ q u, Held w0 W (sumsR q u bs :: sumsR p (.slice A bs.length c) bs :: blkR gO 49 (cs.setIfInBounds (1 - ko) (.pointer (some ⟨q, 0, none⟩))) :: L)) → Q .normal a' W) : (Code.region 33 (opsOf 33 Try.f10).toArray false).wp Try.prog Q a w := by
  refine wp_region_lit (l := (opsOf 33 Try.f10)) ?_
  conv => arg 4; whnf
  unfold Sl at o3 o8
  have h0 : 0 ≤ (ko : Int) := by omega
  have h1 : (ko : Int) < 2 := by omega
  have hwj : wrap64 (1 - (ko : Int)) = 1 - (ko : Int) := by unfold wrap64; omega
  have h2 : 0 ≤ 1 - (ko : Int) := by omega
  have h3 : 1 - (ko : Int) < 2 := by omega
  have c0 : w.cell? ⟨gO, ko, none⟩ = some (.pointer (some ⟨p, 0, none⟩)) := by rw [(S.at_ (l1 := [])).cell]; exact hck
  have S := Lib.hid (S.pull 1 rfl)
  go_wp2_with fail
  refine (copy_any w0 p A c bs hb _ w S.out).mono ?_
  rintro e w1 ⟨q, u, rfl, S1⟩
  have c33 : w1.cell? ⟨gO, 1 - ko, none⟩ = some uj := by rw [(show Blk w1 gO 49 cs from S1.at_ (l1 := [_, _])).cell]; exact hcj
  have f33 := (show Blk w1 gO _ _ from S1.at_ (l1 := [_, _])).frozen (1 - ko)
  have S2 := Lib.hid (S1.set (l1 := [_, _]) (1 - ko) (.pointer (some ⟨q, 0, none⟩)))
  clear S1
  go_wp2_with fail
  try simp only [Act.put]
  exact hend _ _ (by repeat (first | (with_reducible refine same_set (by decide) ?_) | (with_reducible exact same_nil))) (⟨q, u, S2.out⟩)
-- END pmn33
-- REG pmn34
set_option maxRecDepth 100000 in
set_option maxHeartbeats 2000000 in
theorem pmn_r34 {Q : Exit → Act → World → Prop} {a : Act} {w : World} (w0 : World) (ts : Array Value) (gT ko : Nat) (hko : ko < 2) (At : Option Addr) (nt ct : Nat) (htk : ts[ko]? = some (.slice At nt ct))  (uj : Value) (htj : ts[1 - ko]? = some uj) (L : List Res) (S : Held w0 w (blkR gT 50 ts :: L)) (hsz : a.tmps.size = 269) (o4 : Sl a 4 (.pointer (some ⟨gT, 0, none⟩))) (o8 : Sl a 8 (.int .i64 ((ko : Nat) : Int)))
    (hend : ∀ (a' : Act) (W : World), Same a a' [172, 173, 174, 175, 176, 177] → (Held w0 W (blkR gT 50 (ts.setIfInBounds (1 - ko) (.slice At nt ct)) :: L)) → Q .normal a' W) : (Code.region 34 (opsOf 34 Try.f10).toArray false).wp Try.prog Q a w := by
  refine wp_region_lit (l := (opsOf 34 Try.f10)) ?_
  conv => arg 4; whnf
  unfold Sl at o4 o8
  have h0 : 0 ≤ (ko : Int) := by omega
  have h1 : (ko : Int) < 2 := by omega
  have hwj : wrap64 (1 - (ko : Int)) = 1 - (ko : Int) := by unfold wrap64; omega
  have h2 : 0 ≤ 1 - (ko : Int) := by omega
  have h3 : 1 - (ko : Int) < 2 := by omega
  have S := Lib.hid S
  have c0 : w.cell? ⟨gT, ko, none⟩ = some (.slice At nt ct) := by rw [(S.out.at_ (l1 := [])).cell]; exact htk
  have c33 : w.cell? ⟨gT, 1 - ko, none⟩ = some uj := by rw [(S.out.at_ (l1 := [])).cell]; exact htj
  have f33 := (show Blk w gT _ _ from S.out.at_ (l1 := [])).frozen (1 - ko)
  have S2 := Lib.hid (S.out.set (l1 := []) (1 - ko) (.slice At nt ct))
  go_wp2_with fail
  try simp only [Act.put]
  exact hend _ _ (by repeat (first | (with_reducible refine same_set (by decide) ?_) | (with_reducible exact same_nil))) (S2.out)
-- END pmn34
-- REG pmn36
set_option maxRecDepth 100000 in
set_option maxHeartbeats 2000000 in
theorem pmn_r36 {Q : Exit → Act → World → Prop} {a : Act} {w : World} (w0 : World) (cs : Array Value) (gO ko : Nat) (hko : ko < 2) (uk : Value) (hck : cs[ko]? = some uk) (gx nx cx gy ny cy : Nat) (bx by_ : List UInt8) (hlx : bx.length = nx) (hly : by_.length = ny) (hbl : nx + ny ≤ 200000) (L : List Res) (S : Held w0 w (blkR gO 49 cs :: rowR 5 1 (.slice (some ⟨gx, 0, none⟩) (nx + 2) (cx)) (nx + 2) (bv (bx ++ [165, 90])) :: rowR 5 1 (.slice (some ⟨gy, 0, none⟩) (ny + 2) (cy)) (ny + 2) (bv (by_ ++ [165, 90])) :: L)) (hsz : a.tmps.size = 269) (o3 : Sl a 3 (.pointer (some ⟨gO, 0, none⟩))) (o8 : Sl a 8 (.int .i64 ((ko : Nat) : Int))) (o9 : Sl a 9 (.slice (some ⟨gx, 0, none⟩) nx cx)) (o10 : Sl a 10 (.slice (some ⟨gy, 0, none⟩) ny cy))
    (hend : ∀ (a' : Act) (W : World), Same a a' [180, 181, 182, 183, 184, 185] → (∃ q u, Held w0 W (sumsR q u (bx ++ by_) :: blkR gO 49 (cs.setIfInBounds ko (.pointer (some ⟨q, 0, none⟩))) :: rowR 5 1 (.slice (some ⟨gx, 0, none⟩) (nx + 2) (cx)) (nx + 2) (bv (bx ++ [165, 90])) :: rowR 5 1 (.slice (some ⟨gy, 0, none⟩) (ny + 2) (cy)) (ny + 2) (bv (by_ ++ [165, 90])) :: L)) → Q .normal a' W) : (Code.region 36 (opsOf 36 Try.f10).toArray false).wp Try.prog Q a w := by
  refine wp_region_lit (l := (opsOf 36 Try.f10)) ?_
  conv => arg 4; whnf
  unfold Sl at o3 o8 o9 o10
  have h0 : 0 ≤ (ko : Int) := by omega
  have h1 : (ko : Int) < 2 := by omega
  have hx1 := Lib.hid (rd_ow_take (S.at_ (l1 := [_])) hlx (Nat.le_add_right nx 2))
  have hy1 := Lib.hid (rd_ow_take (S.at_ (l1 := [_, _])) hly (Nat.le_add_right ny 2))
  have TX := Lib.hid (txsIn2 22 hx1.out hy1.out)
  have hlt : Hid (∀ g, g ∈ w.heap.size :: (fpB (.slice (some ⟨gx, 0, none⟩) nx cx) bx ++ fpB (.slice (some ⟨gy, 0, none⟩) ny cy) by_) → g < (w.alloc (.cells #[.slice (some ⟨gx, 0, none⟩) nx cx, .slice (some ⟨gy, 0, none⟩) ny cy] 22)).heap.size) := Lib.hid (fun g hg => by
    rw [World.size_alloc]
    rcases List.mem_cons.1 hg with rfl | hg
    · omega
    · rcases List.mem_append.1 hg with hg | hg
      · have := fpB_lt hx1.out hg; omega
      · have := fpB_lt hy1.out hg; omega)
  have S1 := Lib.hid (S.newBlk 22 #[.slice (some ⟨gx, 0, none⟩) nx cx, .slice (some ⟨gy, 0, none⟩) ny cy])
  clear hx1 hy1
  go_wp2_with fail
  refine (new_any _ [bx, by_] _ _ TX.out hlt.out (by simp [hlx, hly]; omega) (by simp)).mono ?_
  rintro e w2 ⟨q, u, rfl, sm, k2, hq, hu⟩
  have S3 := S1.out.newSums k2 sm hq hu
  clear sm k2 hq hu
  have c33 : w2.cell? ⟨gO, ko, none⟩ = some uk := by rw [(show Blk w2 gO 49 cs from S3.at_ (l1 := [_, _])).cell]; exact hck
  have f33 := (show Blk w2 gO _ _ from S3.at_ (l1 := [_, _])).frozen ko
  have S2 := Lib.hid (S3.set (l1 := [_, _]) ko (.pointer (some ⟨q, 0, none⟩)))
  clear S3
  go_wp2_with fail
  try simp only [Act.put]
  exact hend _ _ (by repeat (first | (with_reducible refine same_set (by decide) ?_) | (with_reducible exact same_nil))) (⟨q, u, (by have h := S2.out; simp only [List.flatten_cons, List.flatten_nil, List.append_nil] at h; exact h.some_of (by simp))⟩)
-- END pmn36
-- REG pmn39
set_option maxRecDepth 100000 in
set_option maxHeartbeats 2000000 in
theorem pmn_r39 {Q : Exit → Act → World → Prop} {a : Act} {w : World} (w0 : World) (cs : Array Value) (gO ko : Nat) (hko : ko < 2) (uk : Value) (hck : cs[ko]? = some uk) (L : List Res) (S : Held w0 w (blkR gO 49 cs :: L)) (hsz : a.tmps.size = 269) (o3 : Sl a 3 (.pointer (some ⟨gO, 0, none⟩))) (o8 : Sl a 8 (.int .i64 ((ko : Nat) : Int)))
    (hend : ∀ (a' : Act) (W : World), Same a a' [197, 198, 199, 200] → (∃ q u, Held w0 W (sumsR q u [] :: blkR gO 49 (cs.setIfInBounds ko (.pointer (some ⟨q, 0, none⟩))) :: L)) → Q .normal a' W) : (Code.region 39 (opsOf 39 Try.f10).toArray false).wp Try.prog Q a w := by
  refine wp_region_lit (l := (opsOf 39 Try.f10)) ?_
  conv => arg 4; whnf
  unfold Sl at o3 o8
  have h0 : 0 ≤ (ko : Int) := by omega
  have h1 : (ko : Int) < 2 := by omega
  have S3 := S.zeroSums
  have c33 : (w.alloc (.cells #[.int .i64 0, .slice none 0 0] 66)).cell? ⟨gO, ko, none⟩ = some uk := by rw [(show Blk (w.alloc (.cells #[.int .i64 0, .slice none 0 0] 66)) gO 49 cs from S3.at_ (l1 := [_])).cell]; exact hck
  have f33 := (show Blk (w.alloc (.cells #[.int .i64 0, .slice none 0 0] 66)) gO _ _ from S3.at_ (l1 := [_])).frozen ko
  have S2 := Lib.hid (S3.set (l1 := [_]) ko (.pointer (some ⟨w.heap.size, 0, none⟩)))
  have HB := Lib.hid Try.built_sums0
  clear S3
  go_wp2_with (refine wpList_buildC rfl 66 _ rfl [] (by simp [Act.eval, Act.put]) _ HB.out ?_)
  try simp only [Act.put]
  exact hend _ _ (by repeat (first | (with_reducible refine same_set (by decide) ?_) | (with_reducible exact same_nil))) (⟨_, _, S2.out⟩)
-- END pmn39
-- REG pmn40
set_option maxRecDepth 100000 in
set_option maxHeartbeats 2000000 in
theorem pmn_r40 {Q : Exit → Act → World → Prop} {a : Act} {w : World} (w0 : World) (ts : Array Value) (gT ko : Nat) (hko : ko < 2) (At : Option Addr) (nt ct : Nat) (htk : ts[ko]? = some (.slice At nt ct))  (L : List Res) (S : Held w0 w (blkR gT 50 ts :: L)) (hsz : a.tmps.size = 269) (o4 : Sl a 4 (.pointer (some ⟨gT, 0, none⟩))) (o8 : Sl a 8 (.int .i64 ((ko : Nat) : Int)))
    (hend : ∀ (a' : Act) (W : World), Same a a' [201, 202] → (Held w0 W (blkR gT 50 (ts.setIfInBounds ko (.slice none 0 0)) :: L)) → Q .normal a' W) : (Code.region 40 (opsOf 40 Try.f10).toArray false).wp Try.prog Q a w := by
  refine wp_region_lit (l := (opsOf 40 Try.f10)) ?_
  conv => arg 4; whnf
  unfold Sl at o4 o8
  have h0 : 0 ≤ (ko : Int) := by omega
  have h1 : (ko : Int) < 2 := by omega
  have S := Lib.hid S
  have c33 : w.cell? ⟨gT, ko, none⟩ = some (.slice At nt ct) := by rw [(S.out.at_ (l1 := [])).cell]; exact htk
  have f33 := (show Blk w gT _ _ from S.out.at_ (l1 := [])).frozen ko
  have S2 := Lib.hid (S.out.set (l1 := []) ko (.slice none 0 0))
  go_wp2_with fail
  try simp only [Act.put]
  exact hend _ _ (by repeat (first | (with_reducible refine same_set (by decide) ?_) | (with_reducible exact same_nil))) (S2.out)
-- END pmn40
-- REG pmn41
set_option maxRecDepth 100000 in
set_option maxHeartbeats 2000000 in
theorem pmn_r41 {Q : Exit → Act → World → Prop} {a : Act} {w : World} (kd on fr tq : Int) (AB AC : Option Addr) (nB cB nC cC : Nat) (g7 gx nx cx gy ny cy : Nat) (hb7 : Blk w g7 52 #[.int .i64 kd, .int .i64 on, .int .i64 fr, .int .i64 tq, .slice AB nB cB, .slice AC nC cC]) (HC : ∀ V, Kp [] w V → Calls Try.prog 18 #[.slice (some ⟨gx, 0, none⟩) nx cx, .slice AB nB cB] V fun e w' => e = .returned (.bool true) ∧ Kp [] V w') (HC2 : ∀ V, Kp [] w V → Calls Try.prog 18 #[.slice (some ⟨gy, 0, none⟩) ny cy, .slice AC nC cC] V fun e w' => e = .returned (.bool true) ∧ Kp [] V w') (hsz : a.tmps.size = 269) (o7 : Sl a 7 (.pointer (some ⟨g7, 0, none⟩))) (o9 : Sl a 9 (.slice (some ⟨gx, 0, none⟩) nx cx)) (o10 : Sl a 10 (.slice (some ⟨gy, 0, none⟩) ny cy))
    (hend : ∀ (a' : Act) (W : World), Same a a' [203, 204, 205, 206, 207, 208, 209, 210, 211, 212, 213, 214] → Kp [] w W → Sl a' 214 (.bool false) → Q .normal a' W) : (Code.region 41 (opsOf 41 Try.f10).toArray false).wp Try.prog Q a w := by
  have hap : apartB (opsOf 41 Try.f10) = true := by kernel_rfl
  refine wp_region_invS (l := (opsOf 41 Try.f10)) (fun i v W => match i with | 0 => v = .slice (some ⟨gx, 0, none⟩) nx cx | 1 => v = .pointer (some ⟨g7, 4, none⟩) | 2 => v = .slice AB nB cB | 3 => v = .bool true | 4 => v = .bool false | 5 => v = .bool false | 6 => v = .slice (some ⟨gy, 0, none⟩) ny cy | 7 => v = .pointer (some ⟨g7, 5, none⟩) | 8 => v = .slice AC nC cC | 9 => v = .bool true | 10 => v = .bool false | 11 => v = .bool false | _ => True) hap ?_ ?_ ?_
  · intro i v W W' h _
    iterate 12 (rcases i with _ | i; · exact h)
    exact h
  · refine ⟨?_, ?_, ?_, ?_, ?_, ?_, ?_, ?_, ?_, ?_, ?_, ?_, trivial⟩
    · intro vs A' W hA hW hd hu K hK
      refine wpOp_free _ rfl rfl ?_
      conv => arg 2; whnf
      have e9 : A'.tmps[9]?.getD undef = .slice (some ⟨gx, 0, none⟩) nx cx := slot_out hA hap (Nat.lt_of_lt_of_eq (Nat.le_of_ble_eq_true rfl : 9 < 269) hsz.symm) (by kernel_rfl) o9
      clear hA hd hu o7 o9 o10
      go_step
      exact hK _ _ (Kp.refl _ _) rfl
    · intro vs A' W hA hW hd hu K hK
      refine wpOp_free _ rfl rfl ?_
      conv => arg 2; whnf
      have e7 : A'.tmps[7]?.getD undef = .pointer (some ⟨g7, 0, none⟩) := slot_out hA hap (Nat.lt_of_lt_of_eq (Nat.le_of_ble_eq_true rfl : 7 < 269) hsz.symm) (by kernel_rfl) o7
      clear hA hd hu o7 o9 o10
      go_step
      exact hK _ _ (Kp.refl _ _) rfl
    · intro vs A' W hA hW hd hu K hK
      refine wpOp_free _ rfl rfl ?_
      conv => arg 2; whnf
      have f1 : vs 1 = .pointer (some ⟨g7, 4, none⟩) := hd 1 (by kernel_rfl)
      have e204 : A'.tmps[204]?.getD undef = vs 1 := slot_in hA hap (Nat.lt_of_lt_of_eq (Nat.le_of_ble_eq_true rfl : 204 < 269) hsz.symm) (by kernel_rfl)
      rw [f1] at e204
      clear hA hd hu o7 o9 o10
      have c0 : W.cell? ⟨g7, 4, none⟩ = some (.slice AB nB cB) := (hb7.kp hW (by simp)).cell 4
      go_step
      exact hK _ _ (Kp.refl _ _) rfl
    · intro vs A' W hA hW hd hu K hK
      refine wpOp_free _ rfl rfl ?_
      conv => arg 2; whnf
      have f0 : vs 0 = .slice (some ⟨gx, 0, none⟩) nx cx := hd 0 (by kernel_rfl)
      have e203 : A'.tmps[203]?.getD undef = vs 0 := slot_in hA hap (Nat.lt_of_lt_of_eq (Nat.le_of_ble_eq_true rfl : 203 < 269) hsz.symm) (by kernel_rfl)
      rw [f0] at e203
      have f2 : vs 2 = .slice AB nB cB := hd 2 (by kernel_rfl)
      have e205 : A'.tmps[205]?.getD undef = vs 2 := slot_in hA hap (Nat.lt_of_lt_of_eq (Nat.le_of_ble_eq_true rfl : 205 < 269) hsz.symm) (by kernel_rfl)
      rw [f2] at e205
      clear hA hd hu o7 o9 o10
      go_step
      refine (HC W hW).mono ?_
      rintro e w' ⟨rfl, k⟩
      exact hK _ _ k rfl
    · intro vs A' W hA hW hd hu K hK
      refine wpOp_free _ rfl rfl ?_
      conv => arg 2; whnf
      have f3 : vs 3 = .bool true := hd 3 (by kernel_rfl)
      have e206 : A'.tmps[206]?.getD undef = vs 3 := slot_in hA hap (Nat.lt_of_lt_of_eq (Nat.le_of_ble_eq_true rfl : 206 < 269) hsz.symm) (by kernel_rfl)
      rw [f3] at e206
      clear hA hd hu o7 o9 o10
      go_step
      exact hK _ _ (Kp.refl _ _) rfl
    · intro vs A' W hA hW hd hu K hK
      refine wpOp_free _ rfl rfl ?_
      conv => arg 2; whnf
      have f4 : vs 4 = .bool false := hd 4 (by kernel_rfl)
      have e207 : A'.tmps[207]?.getD undef = vs 4 := slot_in hA hap (Nat.lt_of_lt_of_eq (Nat.le_of_ble_eq_true rfl : 207 < 269) hsz.symm) (by kernel_rfl)
      rw [f4] at e207
      clear hA hd hu o7 o9 o10
      go_step
      exact hK _ _ (Kp.refl _ _) rfl
    · intro vs A' W hA hW hd hu K hK
      have f5 : vs 5 = .bool false := hd 5 (by kernel_rfl)
      have e208 : A'.tmps[208]?.getD undef = vs 5 := slot_in hA hap (Nat.lt_of_lt_of_eq (Nat.le_of_ble_eq_true rfl : 208 < 269) hsz.symm) (by kernel_rfl)
      rw [f5] at e208
      refine wpOp_go _ rfl 5 208 false rfl rfl e208 ?_
      conv => arg 2; whnf
      have e10 : A'.tmps[10]?.getD undef = .slice (some ⟨gy, 0, none⟩) ny cy := slot_out hA hap (Nat.lt_of_lt_of_eq (Nat.le_of_ble_eq_true rfl : 10 < 269) hsz.symm) (by kernel_rfl) o10
      clear hA hd hu o7 o9 o10
      go_step
      exact hK _ _ (Kp.refl _ _) rfl
    · intro vs A' W hA hW hd hu K hK
      have f5 : vs 5 = .bool false := hd 5 (by kernel_rfl)
      have e208 : A'.tmps[208]?.getD undef = vs 5 := slot_in hA hap (Nat.lt_of_lt_of_eq (Nat.le_of_ble_eq_true rfl : 208 < 269) hsz.symm) (by kernel_rfl)
      rw [f5] at e208
      refine wpOp_go _ rfl 5 208 false rfl rfl e208 ?_
      conv => arg 2; whnf
      have e7 : A'.tmps[7]?.getD undef = .pointer (some ⟨g7, 0, none⟩) := slot_out hA hap (Nat.lt_of_lt_of_eq (Nat.le_of_ble_eq_true rfl : 7 < 269) hsz.symm) (by kernel_rfl) o7
      clear hA hd hu o7 o9 o10
      go_step
      exact hK _ _ (Kp.refl _ _) rfl
    · intro vs A' W hA hW hd hu K hK
      have f5 : vs 5 = .bool false := hd 5 (by kernel_rfl)
      have e208 : A'.tmps[208]?.getD undef = vs 5 := slot_in hA hap (Nat.lt_of_lt_of_eq (Nat.le_of_ble_eq_true rfl : 208 < 269) hsz.symm) (by kernel_rfl)
      rw [f5] at e208
      refine wpOp_go _ rfl 5 208 false rfl rfl e208 ?_
      conv => arg 2; whnf
      have f7 : vs 7 = .pointer (some ⟨g7, 5, none⟩) := hd 7 (by kernel_rfl)
      have e210 : A'.tmps[210]?.getD undef = vs 7 := slot_in hA hap (Nat.lt_of_lt_of_eq (Nat.le_of_ble_eq_true rfl : 210 < 269) hsz.symm) (by kernel_rfl)
      rw [f7] at e210
      clear hA hd hu o7 o9 o10
      have c0 : W.cell? ⟨g7, 5, none⟩ = some (.slice AC nC cC) := (hb7.kp hW (by simp)).cell 5
      go_step
      exact hK _ _ (Kp.refl _ _) rfl
    · intro vs A' W hA hW hd hu K hK
      have f5 : vs 5 = .bool false := hd 5 (by kernel_rfl)
      have e208 : A'.tmps[208]?.getD undef = vs 5 := slot_in hA hap (Nat.lt_of_lt_of_eq (Nat.le_of_ble_eq_true rfl : 208 < 269) hsz.symm) (by kernel_rfl)
      rw [f5] at e208
      refine wpOp_go _ rfl 5 208 false rfl rfl e208 ?_
      conv => arg 2; whnf
      have f6 : vs 6 = .slice (some ⟨gy, 0, none⟩) ny cy := hd 6 (by kernel_rfl)
      have e209 : A'.tmps[209]?.getD undef = vs 6 := slot_in hA hap (Nat.lt_of_lt_of_eq (Nat.le_of_ble_eq_true rfl : 209 < 269) hsz.symm) (by kernel_rfl)
      rw [f6] at e209
      have f8 : vs 8 = .slice AC nC cC := hd 8 (by kernel_rfl)
      have e211 : A'.tmps[211]?.getD undef = vs 8 := slot_in hA hap (Nat.lt_of_lt_of_eq (Nat.le_of_ble_eq_true rfl : 211 < 269) hsz.symm) (by kernel_rfl)
      rw [f8] at e211
      clear hA hd hu o7 o9 o10
      go_step
      refine (HC2 W hW).mono ?_
      rintro e w' ⟨rfl, k⟩
      exact hK _ _ k rfl
    · intro vs A' W hA hW hd hu K hK
      have f5 : vs 5 = .bool false := hd 5 (by kernel_rfl)
      have e208 : A'.tmps[208]?.getD undef = vs 5 := slot_in hA hap (Nat.lt_of_lt_of_eq (Nat.le_of_ble_eq_true rfl : 208 < 269) hsz.symm) (by kernel_rfl)
      rw [f5] at e208
      refine wpOp_go _ rfl 5 208 false rfl rfl e208 ?_
      conv => arg 2; whnf
      have f9 : vs 9 = .bool true := hd 9 (by kernel_rfl)
      have e212 : A'.tmps[212]?.getD undef = vs 9 := slot_in hA hap (Nat.lt_of_lt_of_eq (Nat.le_of_ble_eq_true rfl : 212 < 269) hsz.symm) (by kernel_rfl)
      rw [f9] at e212
      clear hA hd hu o7 o9 o10
      go_step
      exact hK _ _ (Kp.refl _ _) rfl
    · intro vs A' W hA hW hd hu K hK
      refine wpOp_free _ rfl rfl ?_
      conv => arg 2; whnf
      have f5 : vs 5 = .bool false := hd 5 (by kernel_rfl)
      have e208 : A'.tmps[208]?.getD undef = vs 5 := slot_in hA hap (Nat.lt_of_lt_of_eq (Nat.le_of_ble_eq_true rfl : 208 < 269) hsz.symm) (by kernel_rfl)
      rw [f5] at e208
      have f10 : vs 10 = .bool false := hd 10 (by kernel_rfl)
      have e213 : A'.tmps[213]?.getD undef = vs 10 := slot_in hA hap (Nat.lt_of_lt_of_eq (Nat.le_of_ble_eq_true rfl : 213 < 269) hsz.symm) (by kernel_rfl)
      rw [f10] at e213
      clear hA hd hu o7 o9 o10
      go_step
      exact hK _ _ (Kp.refl _ _) rfl
  · intro vs W hW hp
    rw [show putAll vs (opsOf 41 Try.f10) 0 a = putD [(203, vs 0), (204, vs 1), (205, vs 2), (206, vs 3), (207, vs 4), (208, vs 5), (209, vs 6), (210, vs 7), (211, vs 8), (212, vs 9), (213, vs 10), (214, vs 11)] a from by kernel_rfl]
    exact hend _ W (same_putD _ a) hW (sl_putD _ a 214 _ (by rw [show vs 11 = _ from hp 11 (Nat.le_of_ble_eq_true (by kernel_rfl))]; kernel_rfl))
-- END pmn41
-- REG pmn44
set_option maxRecDepth 100000 in
set_option maxHeartbeats 2000000 in
theorem pmn_r44 {Q : Exit → Act → World → Prop} {a : Act} {w : World} (gx nx cx k : Nat) (hsz : a.tmps.size = 269) (o9 : Sl a 9 (.slice (some ⟨gx, 0, none⟩) nx cx)) (o17 : Sl a 17 (.int .i64 ((k : Nat) : Int)))
    (hend : ∀ (a' : Act), Same a a' [215, 216, 217, 218] → Sl a' 218 (.bool (decide (k < nx))) → Q .normal a' (w)) : (Code.region 44 (opsOf 44 Try.f10).toArray false).wp Try.prog Q a w := by
  refine wp_region_lit (l := (opsOf 44 Try.f10)) ?_
  conv => arg 4; whnf
  unfold Sl at o9 o17
  go_wp2_with fail
  try simp only [Act.put]
  exact hend _ (by repeat (first | (with_reducible refine same_set (by decide) ?_) | (with_reducible exact same_nil))) (by unfold Sl; first | (simp [hsz]; done) | (simp [hsz]; omega))
-- END pmn44
-- REG pmn45
set_option maxRecDepth 100000 in
set_option maxHeartbeats 2000000 in
theorem pmn_r45 {Q : Exit → Act → World → Prop} {a : Act} {w : World} (k : Nat) (hk : k < 9223372036854775807) (hsz : a.tmps.size = 269) (o17 : Sl a 17 (.int .i64 ((k : Nat) : Int)))
    (hend : ∀ (a' : Act), Same a a' [219, 220, 17] → Sl a' 17 (.int .i64 ((k + 1 : Nat) : Int)) → Q .normal a' (w)) : (Code.region 45 (opsOf 45 Try.f10).toArray false).wp Try.prog Q a w := by
  refine wp_region_lit (l := (opsOf 45 Try.f10)) ?_
  conv => arg 4; whnf
  unfold Sl at o17
  have hw : wrap64 ((k : Int) + 1) = (k : Int) + 1 := by unfold wrap64; omega
  go_wp2_with fail
  try simp only [Act.put]
  exact hend _ (by repeat (first | (with_reducible refine same_set (by decide) ?_) | (with_reducible exact same_nil))) (by unfold Sl; first | (simp [hsz]; done) | (simp [hsz]; omega))
-- END pmn45
-- REG pmn49
set_option maxRecDepth 100000 in
set_option maxHeartbeats 2000000 in
theorem pmn_r49 {Q : Exit → Act → World → Prop} {a : Act} {w : World} (k : Nat) (hk : k < 9223372036854775807) (hsz : a.tmps.size = 269) (o18 : Sl a 18 (.int .i64 ((k : Nat) : Int)))
    (hend : ∀ (a' : Act), Same a a' [231, 232, 18] → Sl a' 18 (.int .i64 ((k + 1 : Nat) : Int)) → Q .normal a' (w)) : (Code.region 49 (opsOf 49 Try.f10).toArray false).wp Try.prog Q a w := by
  refine wp_region_lit (l := (opsOf 49 Try.f10)) ?_
  conv => arg 4; whnf
  unfold Sl at o18
  have hw : wrap64 ((k : Int) + 1) = (k : Int) + 1 := by unfold wrap64; omega
  go_wp2_with fail
  try simp only [Act.put]
  exact hend _ (by repeat (first | (with_reducible refine same_set (by decide) ?_) | (with_reducible exact same_nil))) (by unfold Sl; first | (simp [hsz]; done) | (simp [hsz]; omega))
-- END pmn49
-- REG pmn6
set_option maxRecDepth 100000 in
set_option maxHeartbeats 2000000 in
theorem pmn_r6 {Q : Exit → Act → World → Prop} {a : Act} {w : World} (k : Nat) (hk : k < 9223372036854775807) (hsz : a.tmps.size = 269) (o6 : Sl a 6 (.int .i64 ((k : Nat) : Int)))
    (hend : ∀ (a' : Act), Same a a' [28, 29, 6] → Sl a' 6 (.int .i64 ((k + 1 : Nat) : Int)) → Q .normal a' (w)) : (Code.region 6 (opsOf 6 Try.f10).toArray false).wp Try.prog Q a w := by
  refine wp_region_lit (l := (opsOf 6 Try.f10)) ?_
  conv => arg 4; whnf
  unfold Sl at o6
  have hw : wrap64 ((k : Int) + 1) = (k : Int) + 1 := by unfold wrap64; omega
  go_wp2_with fail
  try simp only [Act.put]
  exact hend _ (by repeat (first | (with_reducible refine same_set (by decide) ?_) | (with_reducible exact same_nil))) (by unfold Sl; first | (simp [hsz]; done) | (simp [hsz]; omega))
-- END pmn6
-- REG pmn46
set_option maxRecDepth 100000 in
set_option maxHeartbeats 2000000 in
theorem pmn_r46 {Q : Exit → Act → World → Prop} {a : Act} {w : World} (w0 : World) (gx nx cx m : Nat) (hm : m < nx) (zs : List UInt8) (hzl : zs.length = nx + 2) (L : List Res) (S : Held w0 w (rowR 5 1 (.slice (some ⟨gx, 0, none⟩) (nx + 2) cx) (nx + 2) (bv zs) :: L)) (hsz : a.tmps.size = 269) (o9 : Sl a 9 (.slice (some ⟨gx, 0, none⟩) nx cx)) (o17 : Sl a 17 (.int .i64 ((m : Nat) : Int)))
    (hend : ∀ (a' : Act) (W : World), Same a a' [221, 222, 223, 224, 225, 226, 227, 228] → Sl a' 222 (.int .i64 ((m : Nat) : Int)) → (∃ ys : List UInt8, ys.length = nx + 2 ∧ Held w0 W (rowR 5 1 (.slice (some ⟨gx, 0, none⟩) (nx + 2) cx) (nx + 2) (bv ys) :: L)) → Q .normal a' W) : (Code.region 46 (opsOf 46 Try.f10).toArray false).wp Try.prog Q a w := by
  refine wp_region_lit (l := (opsOf 46 Try.f10)) ?_
  conv => arg 4; whnf
  unfold Sl at o9 o17
  have h0 : 0 ≤ (m : Int) := by omega
  have h1 : (m : Int) < (nx : Int) := by omega
  have S := Lib.hid S
  obtain ⟨b, hb⟩ : ∃ b, zs[m]? = some b := ⟨_, List.getElem?_eq_getElem (by omega)⟩
  have hcell := (show Ow w 5 1 (.slice (some ⟨gx, 0, none⟩) (nx + 2) cx) (nx + 2) (bv zs) from S.out.at_ (l1 := [])).cellAt m (by omega)
  rw [bv_get, hb, Option.map_some] at hcell
  have hfz := (show Ow w 5 1 (.slice (some ⟨gx, 0, none⟩) (nx + 2) cx) (nx + 2) (bv zs) from S.out.at_ (l1 := [])).frozenAt m
  have hst := (show Ow w 5 1 (.slice (some ⟨gx, 0, none⟩) (nx + 2) cx) (nx + 2) (bv zs) from S.out.at_ (l1 := [])).stored (g := gx) m (.int .u8 ((b ^^^ 255).toNat : Int))
  rw [bv_set, show (b ^^^ 255).toNat = b.toNat ^^^ 255 from by rw [UInt8.toNat_xor]; rfl] at hst
  have S2 := Lib.hid (S.out.rowset (l1 := []) hst.1 ((Kp.refl [gx] w).setCell (.inl (by simp)) _))
  have hx : bits .xor .u8 (b.toNat : Int) 255 = ((b.toNat ^^^ 255 : Nat) : Int) := (u8_x b 255).trans (by rw [UInt8.toNat_xor]; rfl)
  clear hst
  go_wp2_with fail
  try simp only [Act.put]
  exact hend _ _ (by repeat (first | (with_reducible refine same_set (by decide) ?_) | (with_reducible exact same_nil))) (by unfold Sl; first | (simp [hsz]; done) | (simp [hsz]; omega)) (⟨_, (by rw [List.length_set]; exact hzl), S2.out⟩)
-- END pmn46
-- REG pmn48
set_option maxRecDepth 100000 in
set_option maxHeartbeats 2000000 in
theorem pmn_r48 {Q : Exit → Act → World → Prop} {a : Act} {w : World} (k : Nat) (hsz : a.tmps.size = 269) (o18 : Sl a 18 (.int .i64 ((k : Nat) : Int)))
    (hend : ∀ (a' : Act), Same a a' [229, 230] → Sl a' 230 (.bool (decide ((k : Int) < 2))) → Q .normal a' (w)) : (Code.region 48 (opsOf 48 Try.f10).toArray false).wp Try.prog Q a w := by
  refine wp_region_lit (l := (opsOf 48 Try.f10)) ?_
  conv => arg 4; whnf
  unfold Sl at o18
  go_wp2_with fail
  try simp only [Act.put]
  exact hend _ (by repeat (first | (with_reducible refine same_set (by decide) ?_) | (with_reducible exact same_nil))) (by unfold Sl; first | (simp [hsz]; done) | (simp [hsz]; omega))
-- END pmn48
-- REG pmn50
set_option maxRecDepth 100000 in
set_option maxHeartbeats 2000000 in
theorem pmn_r50 {Q : Exit → Act → World → Prop} {a : Act} {w : World} (ts cs : Array Value) (gT gO p ko : Nat) (hko : ko < 2) (hck : cs[ko]? = some (.pointer (some ⟨p, 0, none⟩))) (At : Option Addr) (nt ct : Nat) (htk : ts[ko]? = some (.slice At nt ct)) (hbO : Blk w.drew gO 49 cs) (hbT : Blk w.drew gT 50 ts) (x : Nat) (HC : ∀ V, Kp [] w.drew V → Calls Try.prog 36 #[.pointer (some ⟨p, 0, none⟩), .int .i64 (0 : Int), .int .i64 ((nt : Nat) : Int)] V fun e w' => e = .returned (.tuple #[.int .u32 ((x : Nat) : Int), .bool true]) ∧ Kp [] V w') (hsz : a.tmps.size = 269) (o3 : Sl a 3 (.pointer (some ⟨gO, 0, none⟩))) (o4 : Sl a 4 (.pointer (some ⟨gT, 0, none⟩))) (o18 : Sl a 18 (.int .i64 ((ko : Nat) : Int)))
    (hend : ∀ (a' : Act) (W : World), Same a a' [234, 235, 236, 237, 238, 239, 240, 241, 233, 242, 243, 19, 20] → Kp [] w.drew W → Sl a' 19 (.int .u32 ((x : Nat) : Int)) → Sl a' 20 (.bool true) → Q .normal a' W) : (Code.region 50 (opsOf 50 Try.f10).toArray true).wp Try.prog Q a w := by
  have hap : apartB (opsOf 50 Try.f10) = true := by kernel_rfl
  refine wp_region_inv (l := (opsOf 50 Try.f10)) (fun i v W => match i with | 0 => v = .int .i64 ((ko : Nat) : Int) | 1 => v = .pointer (some ⟨gO, ko, none⟩) | 2 => v = .pointer (some ⟨p, 0, none⟩) | 3 => v = .int .i64 ((ko : Nat) : Int) | 4 => v = .pointer (some ⟨gT, ko, none⟩) | 5 => v = .slice At nt ct | 6 => v = .int .i64 ((nt : Nat) : Int) | 7 => v = .tuple #[.int .u32 ((x : Nat) : Int), .bool true] | 8 => v = .tuple #[.int .u32 ((x : Nat) : Int), .bool true] | 9 => v = .int .u32 ((x : Nat) : Int) | 10 => v = .bool true | 11 => v = .int .u32 ((x : Nat) : Int) | 12 => v = .bool true | _ => True) (by kernel_rfl) hap (by kernel_rfl) ?_ ?_ ?_
  · intro i v W W' h _
    iterate 13 (rcases i with _ | i; · exact h)
    exact h
  · refine ⟨?_, ?_, ?_, ?_, ?_, ?_, ?_, ?_, ?_, ?_, ?_, ?_, ?_, trivial⟩
    · intro vs A' W hA hW hd K hK
      have e18 : A'.tmps[18]?.getD undef = .int .i64 ((ko : Nat) : Int) := slot_out hA hap (Nat.lt_of_lt_of_eq (Nat.le_of_ble_eq_true rfl : 18 < 269) hsz.symm) (by kernel_rfl) o18
      clear hA hd o3 o4 o18
      go_step
      exact hK _ _ (Kp.refl _ _) rfl
    · intro vs A' W hA hW hd K hK
      have e3 : A'.tmps[3]?.getD undef = .pointer (some ⟨gO, 0, none⟩) := slot_out hA hap (Nat.lt_of_lt_of_eq (Nat.le_of_ble_eq_true rfl : 3 < 269) hsz.symm) (by kernel_rfl) o3
      have f0 : vs 0 = .int .i64 ((ko : Nat) : Int) := hd 0 (by kernel_rfl)
      have e234 : A'.tmps[234]?.getD undef = vs 0 := slot_in hA hap (Nat.lt_of_lt_of_eq (Nat.le_of_ble_eq_true rfl : 234 < 269) hsz.symm) (by kernel_rfl)
      rw [f0] at e234
      clear hA hd o3 o4 o18
      have h0 : 0 ≤ (ko : Int) := by omega
      have h1 : (ko : Int) < 2 := by omega
      go_step
      exact hK _ _ (Kp.refl _ _) rfl
    · intro vs A' W hA hW hd K hK
      have f1 : vs 1 = .pointer (some ⟨gO, ko, none⟩) := hd 1 (by kernel_rfl)
      have e235 : A'.tmps[235]?.getD undef = vs 1 := slot_in hA hap (Nat.lt_of_lt_of_eq (Nat.le_of_ble_eq_true rfl : 235 < 269) hsz.symm) (by kernel_rfl)
      rw [f1] at e235
      clear hA hd o3 o4 o18
      have c0 : W.cell? ⟨gO, ko, none⟩ = some (.pointer (some ⟨p, 0, none⟩)) := by rw [(hbO.kp hW (by simp)).cell]; exact hck
      go_step
      exact hK _ _ (Kp.refl _ _) rfl
    · intro vs A' W hA hW hd K hK
      have e18 : A'.tmps[18]?.getD undef = .int .i64 ((ko : Nat) : Int) := slot_out hA hap (Nat.lt_of_lt_of_eq (Nat.le_of_ble_eq_true rfl : 18 < 269) hsz.symm) (by kernel_rfl) o18
      clear hA hd o3 o4 o18
      go_step
      exact hK _ _ (Kp.refl _ _) rfl
    · intro vs A' W hA hW hd K hK
      have e4 : A'.tmps[4]?.getD undef = .pointer (some ⟨gT, 0, none⟩) := slot_out hA hap (Nat.lt_of_lt_of_eq (Nat.le_of_ble_eq_true rfl : 4 < 269) hsz.symm) (by kernel_rfl) o4
      have f3 : vs 3 = .int .i64 ((ko : Nat) : Int) := hd 3 (by kernel_rfl)
      have e237 : A'.tmps[237]?.getD undef = vs 3 := slot_in hA hap (Nat.lt_of_lt_of_eq (Nat.le_of_ble_eq_true rfl : 237 < 269) hsz.symm) (by kernel_rfl)
      rw [f3] at e237
      clear hA hd o3 o4 o18
      have h0 : 0 ≤ (ko : Int) := by omega
      have h1 : (ko : Int) < 2 := by omega
      go_step
      exact hK _ _ (Kp.refl _ _) rfl
    · intro vs A' W hA hW hd K hK
      have f4 : vs 4 = .pointer (some ⟨gT, ko, none⟩) := hd 4 (by kernel_rfl)
      have e238 : A'.tmps[238]?.getD undef = vs 4 := slot_in hA hap (Nat.lt_of_lt_of_eq (Nat.le_of_ble_eq_true rfl : 238 < 269) hsz.symm) (by kernel_rfl)
      rw [f4] at e238
      clear hA hd o3 o4 o18
      have c0 : W.cell? ⟨gT, ko, none⟩ = some (.slice At nt ct) := by rw [(hbT.kp hW (by simp)).cell]; exact htk
      go_step
      exact hK _ _ (Kp.refl _ _) rfl
    · intro vs A' W hA hW hd K hK
      have f5 : vs 5 = .slice At nt ct := hd 5 (by kernel_rfl)
      have e239 : A'.tmps[239]?.getD undef = vs 5 := slot_in hA hap (Nat.lt_of_lt_of_eq (Nat.le_of_ble_eq_true rfl : 239 < 269) hsz.symm) (by kernel_rfl)
      rw [f5] at e239
      clear hA hd o3 o4 o18
      go_step
      exact hK _ _ (Kp.refl _ _) rfl
    · intro vs A' W hA hW hd K hK
      have f2 : vs 2 = .pointer (some ⟨p, 0, none⟩) := hd 2 (by kernel_rfl)
      have e236 : A'.tmps[236]?.getD undef = vs 2 := slot_in hA hap (Nat.lt_of_lt_of_eq (Nat.le_of_ble_eq_true rfl : 236 < 269) hsz.symm) (by kernel_rfl)
      rw [f2] at e236
      have f6 : vs 6 = .int .i64 ((nt : Nat) : Int) := hd 6 (by kernel_rfl)
      have e240 : A'.tmps[240]?.getD undef = vs 6 := slot_in hA hap (Nat.lt_of_lt_of_eq (Nat.le_of_ble_eq_true rfl : 240 < 269) hsz.symm) (by kernel_rfl)
      rw [f6] at e240
      clear hA hd o3 o4 o18
      go_step
      refine (HC W hW).mono ?_
      rintro e w' ⟨rfl, k⟩
      exact hK _ _ k rfl
    · intro vs A' W hA hW hd K hK
      have f7 : vs 7 = .tuple #[.int .u32 ((x : Nat) : Int), .bool true] := hd 7 (by kernel_rfl)
      have e241 : A'.tmps[241]?.getD undef = vs 7 := slot_in hA hap (Nat.lt_of_lt_of_eq (Nat.le_of_ble_eq_true rfl : 241 < 269) hsz.symm) (by kernel_rfl)
      rw [f7] at e241
      clear hA hd o3 o4 o18
      go_step
      exact hK _ _ (Kp.refl _ _) rfl
    · intro vs A' W hA hW hd K hK
      have f8 : vs 8 = .tuple #[.int .u32 ((x : Nat) : Int), .bool true] := hd 8 (by kernel_rfl)
      have e233 : A'.tmps[233]?.getD undef = vs 8 := slot_in hA hap (Nat.lt_of_lt_of_eq (Nat.le_of_ble_eq_true rfl : 233 < 269) hsz.symm) (by kernel_rfl)
      rw [f8] at e233
      clear hA hd o3 o4 o18
      go_step
      exact hK _ _ (Kp.refl _ _) rfl
    · intro vs A' W hA hW hd K hK
      have f8 : vs 8 = .tuple #[.int .u32 ((x : Nat) : Int), .bool true] := hd 8 (by kernel_rfl)
      have e233 : A'.tmps[233]?.getD undef = vs 8 := slot_in hA hap (Nat.lt_of_lt_of_eq (Nat.le_of_ble_eq_true rfl : 233 < 269) hsz.symm) (by kernel_rfl)
      rw [f8] at e233
      clear hA hd o3 o4 o18
      go_step
      exact hK _ _ (Kp.refl _ _) rfl
    · intro vs A' W hA hW hd K hK
      have f9 : vs 9 = .int .u32 ((x : Nat) : Int) := hd 9 (by kernel_rfl)
      have e242 : A'.tmps[242]?.getD undef = vs 9 := slot_in hA hap (Nat.lt_of_lt_of_eq (Nat.le_of_ble_eq_true rfl : 242 < 269) hsz.symm) (by kernel_rfl)
      rw [f9] at e242
      clear hA hd o3 o4 o18
      go_step
      exact hK _ _ (Kp.refl _ _) rfl
    · intro vs A' W hA hW hd K hK
      have f10 : vs 10 = .bool true := hd 10 (by kernel_rfl)
      have e243 : A'.tmps[243]?.getD undef = vs 10 := slot_in hA hap (Nat.lt_of_lt_of_eq (Nat.le_of_ble_eq_true rfl : 243 < 269) hsz.symm) (by kernel_rfl)
      rw [f10] at e243
      clear hA hd o3 o4 o18
      go_step
      exact hK _ _ (Kp.refl _ _) rfl
  · intro vs W hW hp
    rw [show putAll vs (opsOf 50 Try.f10) 0 a = putD [(234, vs 0), (235, vs 1), (236, vs 2), (237, vs 3), (238, vs 4), (239, vs 5), (240, vs 6), (241, vs 7), (233, vs 8), (242, vs 9), (243, vs 10), (19, vs 11), (20, vs 12)] a from by kernel_rfl]
    exact hend _ W (same_putD _ a) hW (sl_putD _ a 19 _ (by rw [show vs 11 = _ from hp 11 (Nat.le_of_ble_eq_true (by kernel_rfl))]; kernel_rfl)) (sl_putD _ a 20 _ (by rw [show vs 12 = _ from hp 12 (Nat.le_of_ble_eq_true (by kernel_rfl))]; kernel_rfl))
-- END pmn50
-- REG pmn51
set_option maxRecDepth 100000 in
set_option maxHeartbeats 2000000 in
theorem pmn_r51 {Q : Exit → Act → World → Prop} {a : Act} {w : World} (ts cs : Array Value) (gT gO p ko : Nat) (hko : ko < 2) (hck : cs[ko]? = some (.pointer (some ⟨p, 0, none⟩))) (At : Option Addr) (nt ct : Nat) (htk : ts[ko]? = some (.slice At nt ct)) (hbO : Blk w.drew gO 49 cs) (hbT : Blk w.drew gT 50 ts) (x : Nat) (HL : ∀ V, Kp [] w.drew V → Calls Try.prog 39 #[.pointer (some ⟨p, 0, none⟩)] V fun e w' => e = .returned (.int .i64 ((nt : Nat) : Int)) ∧ Kp [] V w') (HC : ∀ V, Kp [] w.drew V → Calls Try.prog 15 #[.slice At nt ct] V fun e w' => e = .returned (.int .u32 ((x : Nat) : Int)) ∧ Kp [] V w') (hsz : a.tmps.size = 269) (o3 : Sl a 3 (.pointer (some ⟨gO, 0, none⟩))) (o4 : Sl a 4 (.pointer (some ⟨gT, 0, none⟩))) (o18 : Sl a 18 (.int .i64 ((ko : Nat) : Int))) (o19 : Sl a 19 (.int .u32 ((x : Nat) : Int))) (o20 : Sl a 20 (.bool true))
    (hend : ∀ (a' : Act) (W : World), Same a a' [244, 245, 246, 247, 248, 249, 250, 251, 252, 253, 254, 255, 256, 257, 258, 259, 260, 261, 262, 263, 264] → Kp [] w.drew W → Sl a' 264 (.bool false) → Q .normal a' W) : (Code.region 51 (opsOf 51 Try.f10).toArray true).wp Try.prog Q a w := by
  have hap : apartB (opsOf 51 Try.f10) = true := by kernel_rfl
  refine wp_region_invG (l := (opsOf 51 Try.f10)) (fun i v W => match i with | 0 => v = .int .i64 ((ko : Nat) : Int) | 1 => v = .pointer (some ⟨gO, ko, none⟩) | 2 => v = .pointer (some ⟨p, 0, none⟩) | 3 => v = .int .i64 ((nt : Nat) : Int) | 4 => v = .int .i64 ((ko : Nat) : Int) | 5 => v = .pointer (some ⟨gT, ko, none⟩) | 6 => v = .slice At nt ct | 7 => v = .int .i64 ((nt : Nat) : Int) | 8 => v = .bool false | 9 => v = .bool false | 10 => v = .bool true | 11 => v = .bool false | 12 => v = .bool false | 13 => v = .bool false | 14 => v = .int .u32 ((x : Nat) : Int) | 15 => v = .int .i64 ((ko : Nat) : Int) | 16 => v = .pointer (some ⟨gT, ko, none⟩) | 17 => v = .slice At nt ct | 18 => v = .int .u32 ((x : Nat) : Int) | 19 => v = .bool false | 20 => v = .bool false | _ => True) (by kernel_rfl) hap (by kernel_rfl) ?_ ?_ ?_
  · intro i v W W' h _
    iterate 21 (rcases i with _ | i; · exact h)
    exact h
  · refine ⟨?_, ?_, ?_, ?_, ?_, ?_, ?_, ?_, ?_, ?_, ?_, ?_, ?_, ?_, ?_, ?_, ?_, ?_, ?_, ?_, ?_, trivial⟩
    · intro vs A' W hA hW hd K hK
      refine wpOp_free _ rfl rfl ?_
      conv => arg 2; whnf
      have e18 : A'.tmps[18]?.getD undef = .int .i64 ((ko : Nat) : Int) := slot_out hA hap (Nat.lt_of_lt_of_eq (Nat.le_of_ble_eq_true rfl : 18 < 269) hsz.symm) (by kernel_rfl) o18
      clear hA hd o3 o4 o18 o19 o20
      go_step
      exact hK _ _ (Kp.refl _ _) rfl
    · intro vs A' W hA hW hd K hK
      refine wpOp_free _ rfl rfl ?_
      conv => arg 2; whnf
      have e3 : A'.tmps[3]?.getD undef = .pointer (some ⟨gO, 0, none⟩) := slot_out hA hap (Nat.lt_of_lt_of_eq (Nat.le_of_ble_eq_true rfl : 3 < 269) hsz.symm) (by kernel_rfl) o3
      have f0 : vs 0 = .int .i64 ((ko : Nat) : Int) := hd 0 (by kernel_rfl)
      have e244 : A'.tmps[244]?.getD undef = vs 0 := slot_in hA hap (Nat.lt_of_lt_of_eq (Nat.le_of_ble_eq_true rfl : 244 < 269) hsz.symm) (by kernel_rfl)
      rw [f0] at e244
      clear hA hd o3 o4 o18 o19 o20
      have h0 : 0 ≤ (ko : Int) := by omega
      have h1 : (ko : Int) < 2 := by omega
      go_step
      exact hK _ _ (Kp.refl _ _) rfl
    · intro vs A' W hA hW hd K hK
      refine wpOp_free _ rfl rfl ?_
      conv => arg 2; whnf
      have f1 : vs 1 = .pointer (some ⟨gO, ko, none⟩) := hd 1 (by kernel_rfl)
      have e245 : A'.tmps[245]?.getD undef = vs 1 := slot_in hA hap (Nat.lt_of_lt_of_eq (Nat.le_of_ble_eq_true rfl : 245 < 269) hsz.symm) (by kernel_rfl)
      rw [f1] at e245
      clear hA hd o3 o4 o18 o19 o20
      have c0 : W.cell? ⟨gO, ko, none⟩ = some (.pointer (some ⟨p, 0, none⟩)) := by rw [(hbO.kp hW (by simp)).cell]; exact hck
      go_step
      exact hK _ _ (Kp.refl _ _) rfl
    · intro vs A' W hA hW hd K hK
      refine wpOp_free _ rfl rfl ?_
      conv => arg 2; whnf
      have f2 : vs 2 = .pointer (some ⟨p, 0, none⟩) := hd 2 (by kernel_rfl)
      have e246 : A'.tmps[246]?.getD undef = vs 2 := slot_in hA hap (Nat.lt_of_lt_of_eq (Nat.le_of_ble_eq_true rfl : 246 < 269) hsz.symm) (by kernel_rfl)
      rw [f2] at e246
      clear hA hd o3 o4 o18 o19 o20
      go_step
      refine (HL W hW).mono ?_
      rintro e w' ⟨rfl, k⟩
      exact hK _ _ k rfl
    · intro vs A' W hA hW hd K hK
      refine wpOp_free _ rfl rfl ?_
      conv => arg 2; whnf
      have e18 : A'.tmps[18]?.getD undef = .int .i64 ((ko : Nat) : Int) := slot_out hA hap (Nat.lt_of_lt_of_eq (Nat.le_of_ble_eq_true rfl : 18 < 269) hsz.symm) (by kernel_rfl) o18
      clear hA hd o3 o4 o18 o19 o20
      go_step
      exact hK _ _ (Kp.refl _ _) rfl
    · intro vs A' W hA hW hd K hK
      refine wpOp_free _ rfl rfl ?_
      conv => arg 2; whnf
      have e4 : A'.tmps[4]?.getD undef = .pointer (some ⟨gT, 0, none⟩) := slot_out hA hap (Nat.lt_of_lt_of_eq (Nat.le_of_ble_eq_true rfl : 4 < 269) hsz.symm) (by kernel_rfl) o4
      have f4 : vs 4 = .int .i64 ((ko : Nat) : Int) := hd 4 (by kernel_rfl)
      have e248 : A'.tmps[248]?.getD undef = vs 4 := slot_in hA hap (Nat.lt_of_lt_of_eq (Nat.le_of_ble_eq_true rfl : 248 < 269) hsz.symm) (by kernel_rfl)
      rw [f4] at e248
      clear hA hd o3 o4 o18 o19 o20
      have h0 : 0 ≤ (ko : Int) := by omega
      have h1 : (ko : Int) < 2 := by omega
      go_step
      exact hK _ _ (Kp.refl _ _) rfl
    · intro vs A' W hA hW hd K hK
      refine wpOp_free _ rfl rfl ?_
      conv => arg 2; whnf
      have f5 : vs 5 = .pointer (some ⟨gT, ko, none⟩) := hd 5 (by kernel_rfl)
      have e249 : A'.tmps[249]?.getD undef = vs 5 := slot_in hA hap (Nat.lt_of_lt_of_eq (Nat.le_of_ble_eq_true rfl : 249 < 269) hsz.symm) (by kernel_rfl)
      rw [f5] at e249
      clear hA hd o3 o4 o18 o19 o20
      have c0 : W.cell? ⟨gT, ko, none⟩ = some (.slice At nt ct) := by rw [(hbT.kp hW (by simp)).cell]; exact htk
      go_step
      exact hK _ _ (Kp.refl _ _) rfl
    · intro vs A' W hA hW hd K hK
      refine wpOp_free _ rfl rfl ?_
      conv => arg 2; whnf
      have f6 : vs 6 = .slice At nt ct := hd 6 (by kernel_rfl)
      have e250 : A'.tmps[250]?.getD undef = vs 6 := slot_in hA hap (Nat.lt_of_lt_of_eq (Nat.le_of_ble_eq_true rfl : 250 < 269) hsz.symm) (by kernel_rfl)
      rw [f6] at e250
      clear hA hd o3 o4 o18 o19 o20
      go_step
      exact hK _ _ (Kp.refl _ _) rfl
    · intro vs A' W hA hW hd K hK
      refine wpOp_free _ rfl rfl ?_
      conv => arg 2; whnf
      have f3 : vs 3 = .int .i64 ((nt : Nat) : Int) := hd 3 (by kernel_rfl)
      have e247 : A'.tmps[247]?.getD undef = vs 3 := slot_in hA hap (Nat.lt_of_lt_of_eq (Nat.le_of_ble_eq_true rfl : 247 < 269) hsz.symm) (by kernel_rfl)
      rw [f3] at e247
      have f7 : vs 7 = .int .i64 ((nt : Nat) : Int) := hd 7 (by kernel_rfl)
      have e251 : A'.tmps[251]?.getD undef = vs 7 := slot_in hA hap (Nat.lt_of_lt_of_eq (Nat.le_of_ble_eq_true rfl : 251 < 269) hsz.symm) (by kernel_rfl)
      rw [f7] at e251
      clear hA hd o3 o4 o18 o19 o20
      go_step
      exact hK _ _ (Kp.refl _ _) (by first | rfl | exact (show Value.bool ((nt : Int) != (nt : Int)) = Value.bool false from by rw [bne_self_eq_false]))
    · intro vs A' W hA hW hd K hK
      refine wpOp_free _ rfl rfl ?_
      conv => arg 2; whnf
      have f8 : vs 8 = .bool false := hd 8 (by kernel_rfl)
      have e252 : A'.tmps[252]?.getD undef = vs 8 := slot_in hA hap (Nat.lt_of_lt_of_eq (Nat.le_of_ble_eq_true rfl : 252 < 269) hsz.symm) (by kernel_rfl)
      rw [f8] at e252
      clear hA hd o3 o4 o18 o19 o20
      go_step
      exact hK _ _ (Kp.refl _ _) rfl
    · intro vs A' W hA hW hd K hK
      have f9 : vs 9 = .bool false := hd 9 (by kernel_rfl)
      have e253 : A'.tmps[253]?.getD undef = vs 9 := slot_in hA hap (Nat.lt_of_lt_of_eq (Nat.le_of_ble_eq_true rfl : 253 < 269) hsz.symm) (by kernel_rfl)
      rw [f9] at e253
      refine wpOp_go _ rfl 9 253 false rfl rfl e253 ?_
      conv => arg 2; whnf
      have e20 : A'.tmps[20]?.getD undef = .bool true := slot_out hA hap (Nat.lt_of_lt_of_eq (Nat.le_of_ble_eq_true rfl : 20 < 269) hsz.symm) (by kernel_rfl) o20
      clear hA hd o3 o4 o18 o19 o20
      go_step
      exact hK _ _ (Kp.refl _ _) rfl
    · intro vs A' W hA hW hd K hK
      have f9 : vs 9 = .bool false := hd 9 (by kernel_rfl)
      have e253 : A'.tmps[253]?.getD undef = vs 9 := slot_in hA hap (Nat.lt_of_lt_of_eq (Nat.le_of_ble_eq_true rfl : 253 < 269) hsz.symm) (by kernel_rfl)
      rw [f9] at e253
      refine wpOp_go _ rfl 9 253 false rfl rfl e253 ?_
      conv => arg 2; whnf
      have f10 : vs 10 = .bool true := hd 10 (by kernel_rfl)
      have e254 : A'.tmps[254]?.getD undef = vs 10 := slot_in hA hap (Nat.lt_of_lt_of_eq (Nat.le_of_ble_eq_true rfl : 254 < 269) hsz.symm) (by kernel_rfl)
      rw [f10] at e254
      clear hA hd o3 o4 o18 o19 o20
      go_step
      exact hK _ _ (Kp.refl _ _) rfl
    · intro vs A' W hA hW hd K hK
      refine wpOp_free _ rfl rfl ?_
      conv => arg 2; whnf
      have f9 : vs 9 = .bool false := hd 9 (by kernel_rfl)
      have e253 : A'.tmps[253]?.getD undef = vs 9 := slot_in hA hap (Nat.lt_of_lt_of_eq (Nat.le_of_ble_eq_true rfl : 253 < 269) hsz.symm) (by kernel_rfl)
      rw [f9] at e253
      have f11 : vs 11 = .bool false := hd 11 (by kernel_rfl)
      have e255 : A'.tmps[255]?.getD undef = vs 11 := slot_in hA hap (Nat.lt_of_lt_of_eq (Nat.le_of_ble_eq_true rfl : 255 < 269) hsz.symm) (by kernel_rfl)
      rw [f11] at e255
      clear hA hd o3 o4 o18 o19 o20
      go_step
      exact hK _ _ (Kp.refl _ _) rfl
    · intro vs A' W hA hW hd K hK
      refine wpOp_free _ rfl rfl ?_
      conv => arg 2; whnf
      have f12 : vs 12 = .bool false := hd 12 (by kernel_rfl)
      have e256 : A'.tmps[256]?.getD undef = vs 12 := slot_in hA hap (Nat.lt_of_lt_of_eq (Nat.le_of_ble_eq_true rfl : 256 < 269) hsz.symm) (by kernel_rfl)
      rw [f12] at e256
      clear hA hd o3 o4 o18 o19 o20
      go_step
      exact hK _ _ (Kp.refl _ _) rfl
    · intro vs A' W hA hW hd K hK
      have f13 : vs 13 = .bool false := hd 13 (by kernel_rfl)
      have e257 : A'.tmps[257]?.getD undef = vs 13 := slot_in hA hap (Nat.lt_of_lt_of_eq (Nat.le_of_ble_eq_true rfl : 257 < 269) hsz.symm) (by kernel_rfl)
      rw [f13] at e257
      refine wpOp_go _ rfl 13 257 false rfl rfl e257 ?_
      conv => arg 2; whnf
      have e19 : A'.tmps[19]?.getD undef = .int .u32 ((x : Nat) : Int) := slot_out hA hap (Nat.lt_of_lt_of_eq (Nat.le_of_ble_eq_true rfl : 19 < 269) hsz.symm) (by kernel_rfl) o19
      clear hA hd o3 o4 o18 o19 o20
      go_step
      exact hK _ _ (Kp.refl _ _) rfl
    · intro vs A' W hA hW hd K hK
      have f13 : vs 13 = .bool false := hd 13 (by kernel_rfl)
      have e257 : A'.tmps[257]?.getD undef = vs 13 := slot_in hA hap (Nat.lt_of_lt_of_eq (Nat.le_of_ble_eq_true rfl : 257 < 269) hsz.symm) (by kernel_rfl)
      rw [f13] at e257
      refine wpOp_go _ rfl 13 257 false rfl rfl e257 ?_
      conv => arg 2; whnf
      have e18 : A'.tmps[18]?.getD undef = .int .i64 ((ko : Nat) : Int) := slot_out hA hap (Nat.lt_of_lt_of_eq (Nat.le_of_ble_eq_true rfl : 18 < 269) hsz.symm) (by kernel_rfl) o18
      clear hA hd o3 o4 o18 o19 o20
      go_step
      exact hK _ _ (Kp.refl _ _) rfl
    · intro vs A' W hA hW hd K hK
      have f13 : vs 13 = .bool false := hd 13 (by kernel_rfl)
      have e257 : A'.tmps[257]?.getD undef = vs 13 := slot_in hA hap (Nat.lt_of_lt_of_eq (Nat.le_of_ble_eq_true rfl : 257 < 269) hsz.symm) (by kernel_rfl)
      rw [f13] at e257
      refine wpOp_go _ rfl 13 257 false rfl rfl e257 ?_
      conv => arg 2; whnf
      have e4 : A'.tmps[4]?.getD undef = .pointer (some ⟨gT, 0, none⟩) := slot_out hA hap (Nat.lt_of_lt_of_eq (Nat.le_of_ble_eq_true rfl : 4 < 269) hsz.symm) (by kernel_rfl) o4
      have f15 : vs 15 = .int .i64 ((ko : Nat) : Int) := hd 15 (by kernel_rfl)
      have e259 : A'.tmps[259]?.getD undef = vs 15 := slot_in hA hap (Nat.lt_of_lt_of_eq (Nat.le_of_ble_eq_true rfl : 259 < 269) hsz.symm) (by kernel_rfl)
      rw [f15] at e259
      clear hA hd o3 o4 o18 o19 o20
      have h0 : 0 ≤ (ko : Int) := by omega
      have h1 : (ko : Int) < 2 := by omega
      go_step
      exact hK _ _ (Kp.refl _ _) rfl
    · intro vs A' W hA hW hd K hK
      have f13 : vs 13 = .bool false := hd 13 (by kernel_rfl)
      have e257 : A'.tmps[257]?.getD undef = vs 13 := slot_in hA hap (Nat.lt_of_lt_of_eq (Nat.le_of_ble_eq_true rfl : 257 < 269) hsz.symm) (by kernel_rfl)
      rw [f13] at e257
      refine wpOp_go _ rfl 13 257 false rfl rfl e257 ?_
      conv => arg 2; whnf
      have f16 : vs 16 = .pointer (some ⟨gT, ko, none⟩) := hd 16 (by kernel_rfl)
      have e260 : A'.tmps[260]?.getD undef = vs 16 := slot_in hA hap (Nat.lt_of_lt_of_eq (Nat.le_of_ble_eq_true rfl : 260 < 269) hsz.symm) (by kernel_rfl)
      rw [f16] at e260
      clear hA hd o3 o4 o18 o19 o20
      have c0 : W.cell? ⟨gT, ko, none⟩ = some (.slice At nt ct) := by rw [(hbT.kp hW (by simp)).cell]; exact htk
      go_step
      exact hK _ _ (Kp.refl _ _) rfl
    · intro vs A' W hA hW hd K hK
      have f13 : vs 13 = .bool false := hd 13 (by kernel_rfl)
      have e257 : A'.tmps[257]?.getD undef = vs 13 := slot_in hA hap (Nat.lt_of_lt_of_eq (Nat.le_of_ble_eq_true rfl : 257 < 269) hsz.symm) (by kernel_rfl)
      rw [f13] at e257
      refine wpOp_go _ rfl 13 257 false rfl rfl e257 ?_
      conv => arg 2; whnf
      have f17 : vs 17 = .slice At nt ct := hd 17 (by kernel_rfl)
      have e261 : A'.tmps[261]?.getD undef = vs 17 := slot_in hA hap (Nat.lt_of_lt_of_eq (Nat.le_of_ble_eq_true rfl : 261 < 269) hsz.symm) (by kernel_rfl)
      rw [f17] at e261
      clear hA hd o3 o4 o18 o19 o20
      go_step
      refine (HC W hW).mono ?_
      rintro e w' ⟨rfl, k⟩
      exact hK _ _ k rfl
    · intro vs A' W hA hW hd K hK
      have f13 : vs 13 = .bool false := hd 13 (by kernel_rfl)
      have e257 : A'.tmps[257]?.getD undef = vs 13 := slot_in hA hap (Nat.lt_of_lt_of_eq (Nat.le_of_ble_eq_true rfl : 257 < 269) hsz.symm) (by kernel_rfl)
      rw [f13] at e257
      refine wpOp_go _ rfl 13 257 false rfl rfl e257 ?_
      conv => arg 2; whnf
      have f14 : vs 14 = .int .u32 ((x : Nat) : Int) := hd 14 (by kernel_rfl)
      have e258 : A'.tmps[258]?.getD undef = vs 14 := slot_in hA hap (Nat.lt_of_lt_of_eq (Nat.le_of_ble_eq_true rfl : 258 < 269) hsz.symm) (by kernel_rfl)
      rw [f14] at e258
      have f18 : vs 18 = .int .u32 ((x : Nat) : Int) := hd 18 (by kernel_rfl)
      have e262 : A'.tmps[262]?.getD undef = vs 18 := slot_in hA hap (Nat.lt_of_lt_of_eq (Nat.le_of_ble_eq_true rfl : 262 < 269) hsz.symm) (by kernel_rfl)
      rw [f18] at e262
      clear hA hd o3 o4 o18 o19 o20
      go_step
      exact hK _ _ (Kp.refl _ _) (by first | rfl | exact (show Value.bool ((x : Int) != (x : Int)) = Value.bool false from by rw [bne_self_eq_false]))
    · intro vs A' W hA hW hd K hK
      refine wpOp_free _ rfl rfl ?_
      conv => arg 2; whnf
      have f13 : vs 13 = .bool false := hd 13 (by kernel_rfl)
      have e257 : A'.tmps[257]?.getD undef = vs 13 := slot_in hA hap (Nat.lt_of_lt_of_eq (Nat.le_of_ble_eq_true rfl : 257 < 269) hsz.symm) (by kernel_rfl)
      rw [f13] at e257
      have f19 : vs 19 = .bool false := hd 19 (by kernel_rfl)
      have e263 : A'.tmps[263]?.getD undef = vs 19 := slot_in hA hap (Nat.lt_of_lt_of_eq (Nat.le_of_ble_eq_true rfl : 263 < 269) hsz.symm) (by kernel_rfl)
      rw [f19] at e263
      clear hA hd o3 o4 o18 o19 o20
      go_step
      exact hK _ _ (Kp.refl _ _) rfl
  · intro vs W hW hp
    rw [show putAll vs (opsOf 51 Try.f10) 0 a = putD [(244, vs 0), (245, vs 1), (246, vs 2), (247, vs 3), (248, vs 4), (249, vs 5), (250, vs 6), (251, vs 7), (252, vs 8), (253, vs 9), (254, vs 10), (255, vs 11), (256, vs 12), (257, vs 13), (258, vs 14), (259, vs 15), (260, vs 16), (261, vs 17), (262, vs 18), (263, vs 19), (264, vs 20)] a from by kernel_rfl]
    exact hend _ W (same_putD _ a) hW (sl_putD _ a 264 _ (by rw [show vs 20 = _ from hp 20 (Nat.le_of_ble_eq_true (by kernel_rfl))]; kernel_rfl))
-- END pmn51
-- REG pmn53
set_option maxRecDepth 100000 in
set_option maxHeartbeats 2000000 in
theorem pmn_r53 {Q : Exit → Act → World → Prop} {a : Act} {w : World}  (hsz : a.tmps.size = 269) 
    (hend : ∀ (a' : Act) (W : World), Same a a' [265, 266, 267, 268, 2] → Kp [] w W → Sl a' 2 (.bool true) → Q .normal a' W) : (Code.region 53 (opsOf 53 Try.f10).toArray false).wp Try.prog Q a w := by
  have hap : apartB (opsOf 53 Try.f10) = true := by kernel_rfl
  refine wp_region_invS (l := (opsOf 53 Try.f10)) (fun i v W => match i with | 0 => v = .bool true | 1 => v = .bool true | 2 => v = .bool true | 3 => v = .bool true | 4 => v = .bool true | _ => True) hap ?_ ?_ ?_
  · intro i v W W' h _
    iterate 5 (rcases i with _ | i; · exact h)
    exact h
  · refine ⟨?_, ?_, ?_, ?_, ?_, trivial⟩
    · intro vs A' W hA hW hd hu K hK
      refine wpOp_free _ rfl rfl ?_
      conv => arg 2; whnf
      clear hA hd hu
      go_step
      refine (nothing_true W).mono ?_
      rintro e w' ⟨rfl, k⟩
      exact hK _ _ k rfl
    · intro vs A' W hA hW hd hu K hK
      refine wpOp_free _ rfl rfl ?_
      conv => arg 2; whnf
      have f0 : vs 0 = .bool true := hd 0 (by kernel_rfl)
      have e265 : A'.tmps[265]?.getD undef = vs 0 := slot_in hA hap (Nat.lt_of_lt_of_eq (Nat.le_of_ble_eq_true rfl : 265 < 269) hsz.symm) (by kernel_rfl)
      rw [f0] at e265
      clear hA hd hu
      go_step
      exact hK _ _ (Kp.refl _ _) rfl
    · intro vs A' W hA hW hd hu K hK
      have f1 : vs 1 = .bool true := hd 1 (by kernel_rfl)
      have e266 : A'.tmps[266]?.getD undef = vs 1 := slot_in hA hap (Nat.lt_of_lt_of_eq (Nat.le_of_ble_eq_true rfl : 266 < 269) hsz.symm) (by kernel_rfl)
      rw [f1] at e266
      refine wpOp_go _ rfl 1 266 true rfl rfl e266 ?_
      conv => arg 2; whnf
      clear hA hd hu
      go_step
      refine (works_true W).mono ?_
      rintro e w' ⟨rfl, k⟩
      exact hK _ _ k rfl
    · intro vs A' W hA hW hd hu K hK
      refine wpOp_free _ rfl rfl ?_
      conv => arg 2; whnf
      have f1 : vs 1 = .bool true := hd 1 (by kernel_rfl)
      have e266 : A'.tmps[266]?.getD undef = vs 1 := slot_in hA hap (Nat.lt_of_lt_of_eq (Nat.le_of_ble_eq_true rfl : 266 < 269) hsz.symm) (by kernel_rfl)
      rw [f1] at e266
      have f2 : vs 2 = .bool true := hd 2 (by kernel_rfl)
      have e267 : A'.tmps[267]?.getD undef = vs 2 := slot_in hA hap (Nat.lt_of_lt_of_eq (Nat.le_of_ble_eq_true rfl : 267 < 269) hsz.symm) (by kernel_rfl)
      rw [f2] at e267
      clear hA hd hu
      go_step
      exact hK _ _ (Kp.refl _ _) rfl
    · intro vs A' W hA hW hd hu K hK
      refine wpOp_free _ rfl rfl ?_
      conv => arg 2; whnf
      have f3 : vs 3 = .bool true := hd 3 (by kernel_rfl)
      have e268 : A'.tmps[268]?.getD undef = vs 3 := slot_in hA hap (Nat.lt_of_lt_of_eq (Nat.le_of_ble_eq_true rfl : 268 < 269) hsz.symm) (by kernel_rfl)
      rw [f3] at e268
      clear hA hd hu
      go_step
      exact hK _ _ (Kp.refl _ _) rfl
  · intro vs W hW hp
    rw [show putAll vs (opsOf 53 Try.f10) 0 a = putD [(265, vs 0), (266, vs 1), (267, vs 2), (268, vs 3), (2, vs 4)] a from by kernel_rfl]
    exact hend _ W (same_putD _ a) hW (sl_putD _ a 2 _ (by rw [show vs 4 = _ from hp 4 (Nat.le_of_ble_eq_true (by kernel_rfl))]; kernel_rfl))
-- END pmn53
end
end Go.Proofs.Ytgldgkdnnimglaa
