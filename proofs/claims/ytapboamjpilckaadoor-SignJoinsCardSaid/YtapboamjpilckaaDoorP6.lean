/- Several texts in one: SigX, SigY, SigZ, SigAA, SigAB, Join, SigAC, SigAD, InvS, Ops, Make, SigAE. -/
import Derived.Maps.OwnOps
import Derived.Maps.OwnSet
import Derived.Maps.Views
import Derived.StringKeys
import Derived.Great.BuildSlice
import Derived.Test.YtapboamjpilckaaDoorP5
/- A map from names to numbers, of the call's own. -/
namespace Go.Proofs.YtapboamjpilckaaDoor
open Go.RowKit
/-- Block b is a map of at most m entries: each name's number is f's. -/
def Cnt (w : World) (b m : Nat) (f : List UInt8 → Nat) : Prop := ∃ D : DataW Unit, w.ownsMap Tryd.prog 9 (plainElem Tryd.prog 3) b m D ∧ ∀ s, D.atKey (.string s) (.lit (.int .i64 0)) = .lit (.int .i64 (f s : Int))
def cntR (b m : Nat) (f : List UInt8 → Nat) : Res where
  fp := [b]
  ok := fun w => Cnt w b m f
  keep := fun _ _ _ h hk hn => by
    obtain ⟨D, h, hf⟩ := h
    have hlt := h.lt
    obtain ⟨es, clock, hb, rest⟩ := h
    exact ⟨D, ⟨es, clock, (hk.block b hlt (hn b (by simp))).trans hb, rest⟩, hf⟩
  lt := fun _ h g hg => by
    obtain ⟨D, h, hf⟩ := h
    simp at hg; subst hg; exact h.lt
theorem cnt_new (w : World) : Cnt (w.alloc (.map #[] 0)) w.heap.size 0 (fun _ => 0) := ⟨.map [], World.ownsMap_made .., fun _ => rfl⟩
theorem cnt_get {w : World} {b m : Nat} {f : List UInt8 → Nat} (h : Cnt w b m f) (s : ByteArray) (hs : s.size ≤ maxLen) : (Instr.lookup 94 (.map (some b)) (.string s) false).run Tryd.prog w = .ok (.int .i64 (f s.data.toList : Int)) w := by
  obtain ⟨D, h, hf⟩ := h
  obtain ⟨c, hrun, hat, -⟩ := h.lookup_int (Maps.string_keyed Tryd.underlying9) Tryd.underlying94 Tryd.underlying3 (by kernel_rfl) (WideMaps.keyOf_string_mk Tryd.underlying9 hs)
  rw [hf] at hat
  have : (f s.data.toList : Int) = c := by simp only [DataW.lit.injEq, Lit.int.injEq, true_and] at hat; exact hat
  rw [hrun, this]
theorem wf_nat {x : Nat} (hx : x < 9223372036854775808) : (Lit.int .i64 (x : Int)).wf = true := by
  have h1 : IntKind.i64.min = -9223372036854775808 := by decide
  have h2 : IntKind.i64.max = 9223372036854775807 := by decide
  show (decide (IntKind.i64.min ≤ (x : Int)) && decide ((x : Int) ≤ IntKind.i64.max)) = true
  rw [h1, h2, Bool.and_eq_true, decide_eq_true_iff, decide_eq_true_iff]
  omega
theorem cnt_put {w : World} {b m : Nat} {f : List UInt8 → Nat} (h : Cnt w b m f) (hm : m < maxLen) (s : ByteArray) (hs : s.size ≤ maxLen) (x : Nat) (hx : x < 9223372036854775808) :
    ∃ w', (Instr.mapUpdate 94 (.map (some b)) (.string s) (.int .i64 (x : Int))).run Tryd.prog w = .ok () w' ∧ Cnt w' b (m + 1) (fun t => if t = s.data.toList then x else f t) ∧ Kp [b] w w' := by
  obtain ⟨D, h, hf⟩ := h
  have hmap := h.isMap
  obtain ⟨w', hrun, h', hg⟩ := h.update (Maps.string_keyed Tryd.underlying9) Tryd.underlying94 hm (WideMaps.keyOf_string_mk Tryd.underlying9 hs) (plainElem_int Tryd.underlying3 (a := (x : Int)) (wf_nat hx))
  refine ⟨w', hrun, ⟨_, h', fun t => ?_⟩, Kp.of_grown hg⟩
  show _ = DataW.lit (.int .i64 ((if t = s.data.toList then x else f t : Nat) : Int))
  by_cases e : t = s.data.toList
  · rw [if_pos e, e]
    exact Maps.atKey_put_same hmap (by trivial) _ _
  · rw [if_neg e, Maps.atKey_put_other (fun h => e (by simpa using h))]
    exact hf t
end Go.Proofs.YtapboamjpilckaaDoor
/- sign.Right: its regions. -/
namespace Go.Proofs.YtapboamjpilckaaDoor
open Go.RowKit
theorem wpList_load_aggG {P : Program} {ops : Array Oper} {rest : List Oper} {o : Oper} {a : Act} {w : World} {Q : Exit → Act → World → Prop} (j d : Nat) (b : Bool) (hg : o.guard = some (j, b)) (hj : (ops[j]?).bind (·.dst) = some d) (hd : a.tmps[d]?.getD undef = .bool b)
    (ty : TypeId) (x : Operand) (ho : o.op = .load ty x) (ad : Addr) (hx : a.eval x = .pointer (some ad)) (cs : List Value) (ds : TypeDesc) (hc : ∀ j u, cs[j]? = some u → w.cell? (ad.add j) = some u) (hu : P.underlying ty = some ds) (hds : aggB ds = true) (hi : (P.info? ty).map (·.size) = some cs.length)
    (h : wpList P ops Q rest (a.put o.dst (.agg cs.toArray)) w) : wpList P ops Q (o :: rest) a w :=
  wpList_met j d b hg hj hd fun K hK => by
    unfold Oper.wp
    rw [exec_load ho hx (run_loadAt_agg w ad ty cs ds hc hu hds hi)]
    exact hK _ _ h
theorem sig_sum {w : World} {g : Nat} {t : TypeId} {s : SigD} (hb : Blk w g t (sgA s)) : ∀ j u, (hashA s.2).toList[j]? = some u → w.cell? ((⟨g, 1, none⟩ : Addr).add j) = some u := by
  intro j u hu
  rw [Addr.add_lit, Nat.add_comm]
  have := hb.agg (j + 1) u (by show (strV s.1 :: bv s.2)[j + 1]? = _; rw [List.getElem?_cons_succ]; exact hu)
  rwa [Addr.add_lit, Nat.zero_add] at this
theorem Tryd.infoStrZ : (Tryd.prog.info? 9).map (fun i => (i.zero, i.size, i.bytes)) = some (some (.string ⟨#[]⟩), 1, 16) := by kernel_rfl
theorem Tryd.infoKeyP : (Tryd.prog.info? 42).map (·.size) = some 2 := by kernel_rfl
-- REG srt0
set_option maxRecDepth 100000 in
set_option maxHeartbeats 2000000 in
theorem srt_r0 {Q : Exit → Act → World → Prop} {a : Act} {w : World} (w0 : World) (ca : Array Value) (L : List Res) (S : Held w0 w L) (hsz : a.tmps.size = 80) (o0 : Sl a 0 (.agg ca))
    (hend : ∀ (a' : Act) (W : World), Same a a' [2, 4] → (∃ gN, Sl a' 2 (.pointer (some ⟨gN, 0, none⟩)) ∧ Held w0 W (blkR gN 36 ca :: L)) → Q .normal a' W) : (Code.region 0 (opsOf 0 Tryd.f27).toArray false).wp Tryd.prog Q a w := by
  refine wp_region_lit (l := (opsOf 0 Tryd.f27)) ?_
  conv => arg 4; whnf
  unfold Sl at o0
  have S0 := Lib.hid (S.newBlk 36 ca)
  go_wp2_with fail
  try simp only [Act.put]
  exact hend _ _ (by repeat (first | (with_reducible refine same_set (by decide) ?_) | (with_reducible exact same_nil))) (⟨_, (by unfold Sl; simp [hsz]), S0.out⟩)
-- END srt0
-- REG srt1
set_option maxRecDepth 100000 in
set_option maxHeartbeats 2000000 in
theorem srt_r1 {Q : Exit → Act → World → Prop} {a : Act} {w : World} (w0 : World) (L : List Res) (S : Held w0 w L) (hsz : a.tmps.size = 80) 
    (hend : ∀ (a' : Act) (W : World), Same a a' [15, 5] → (∃ v, Sl a' 5 v ∧ Held w0 W (rowR 9 1 v 0 [] :: L)) → Q .normal a' W) : (Code.region 1 (opsOf 1 Tryd.f27).toArray false).wp Tryd.prog Q a w := by
  refine wp_region_lit (l := (opsOf 1 Tryd.f27)) ?_
  conv => arg 4; whnf
  have S1 := Lib.hid (S.rownew (ow_empty 9 1 (g := w.heap.size) rfl) ((Kp.refl [] w).alloc _) (by simp [Value.ownBlock]))
  go_wp2_with fail
  try simp only [Act.put]
  exact hend _ _ (by repeat (first | (with_reducible refine same_set (by decide) ?_) | (with_reducible exact same_nil))) (⟨_, (by unfold Sl; simp [hsz]), S1.out⟩)
-- END srt1
-- REG srt2
set_option maxRecDepth 100000 in
set_option maxHeartbeats 2000000 in
theorem srt_r2 {Q : Exit → Act → World → Prop} {a : Act} {w : World} (w0 : World) (gN : Nat) (ca : Array Value) (hz : ca.size = 34) (ck : Int) (b : Bool) (hb : (ck != 0) = b) (L : List Res) (S : Held w0 w (blkR gN 36 ca :: L)) (HC : ∀ V, Held w0 V (blkR gN 36 ca :: L) → Calls Tryd.prog 24 #[.agg ca] V fun e w' => e = .returned (.int .i64 ck) ∧ Kp [] V w') (hsz : a.tmps.size = 80) (o2 : Sl a 2 (.pointer (some ⟨gN, 0, none⟩)))
    (hend : ∀ (a' : Act) (W : World), Same a a' [16, 17, 18] → Sl a' 18 (.bool b) → (Held w0 W (blkR gN 36 ca :: L)) → Q .normal a' W) : (Code.region 2 (opsOf 2 Tryd.f27).toArray false).wp Tryd.prog Q a w := by
  refine wp_region_lit (l := (opsOf 2 Tryd.f27)) ?_
  conv => arg 4; whnf
  unfold Sl at o2
  have S := Lib.hid S
  have HC := Lib.hid (HC _ S.out)
  have hz := Lib.hid hz
  go_wp2_with (refine wpList_load_blk rfl 36 (.tmp 2) rfl gN (by simp [Act.eval, Act.put, hsz, o2]) 36 _ (S.out.at_ (l1 := [])) _ Tryd.underlying36 rfl (by rw [hz.out]; exact Tryd.infoNote) ?_)
  refine HC.out.mono ?_
  rintro e w1 ⟨rfl, k1⟩
  have S1 := Lib.hid (S.out.kp k1)
  clear k1
  go_wp2_with fail
  try simp only [Act.put]
  exact hend _ _ (by repeat (first | (with_reducible refine same_set (by decide) ?_) | (with_reducible exact same_nil))) (by unfold Sl; first | (simp [hsz]; done) | (simp [hsz]; omega)) (S1.out)
-- END srt2
-- REG srt3
set_option maxRecDepth 100000 in
set_option maxHeartbeats 2000000 in
theorem srt_r3 {Q : Exit → Act → World → Prop} {a : Act} {w : World} (v : Value) (hsz : a.tmps.size = 80) (o5 : Sl a 5 (v))
    (hend : ∀ (a' : Act), Same a a' [19, 4] → Sl a' 4 (v) → Q .normal a' (w)) : (Code.region 3 (opsOf 3 Tryd.f27).toArray false).wp Tryd.prog Q a w := by
  refine wp_region_lit (l := (opsOf 3 Tryd.f27)) ?_
  conv => arg 4; whnf
  unfold Sl at o5
  go_wp2_with fail
  try simp only [Act.put]
  exact hend _ (by repeat (first | (with_reducible refine same_set (by decide) ?_) | (with_reducible exact same_nil))) (by unfold Sl; first | (simp [hsz]; done) | (simp [hsz]; omega))
-- END srt3
-- REG srt4
set_option maxRecDepth 100000 in
set_option maxHeartbeats 2000000 in
theorem srt_r4 {Q : Exit → Act → World → Prop} {a : Act} {w : World} (w0 : World) (L : List Res) (S : Held w0 w L) (hsz : a.tmps.size = 80) 
    (hend : ∀ (a' : Act) (W : World), Same a a' [20, 6] → (∃ g, Sl a' 6 (.map (some g)) ∧ Held w0 W (cntR g 0 (fun _ => 0) :: L)) → Q .normal a' W) : (Code.region 4 (opsOf 4 Tryd.f27).toArray false).wp Tryd.prog Q a w := by
  refine wp_region_lit (l := (opsOf 4 Tryd.f27)) ?_
  conv => arg 4; whnf
  have hmk : (Instr.makeMap 94 none).run Tryd.prog w = .ok (.map (some w.heap.size)) (w.alloc (.map #[] 0)) := rfl
  have S1 := Lib.hid (S.new (cntR w.heap.size 0 (fun _ => 0)) ((Kp.refl [] w).alloc (.map #[] 0)) (cnt_new w) (fun b hb => by simp [cntR] at hb; omega))
  go_wp2_with fail
  try simp only [Act.put]
  exact hend _ _ (by repeat (first | (with_reducible refine same_set (by decide) ?_) | (with_reducible exact same_nil))) (⟨w.heap.size, (by unfold Sl; simp [hsz]), S1.out⟩)
-- END srt4
-- REG srt5
set_option maxRecDepth 100000 in
set_option maxHeartbeats 2000000 in
theorem srt_r5 {Q : Exit → Act → World → Prop} {a : Act} {w : World} (A : Option Addr) (n c : Nat) (hsz : a.tmps.size = 80) (o1 : Sl a 1 (.slice A n c))
    (hend : ∀ (a' : Act), Same a a' [21, 22, 23] → Sl a' 21 (.slice A n c) → Sl a' 22 (.int .i64 ((n : Nat) : Int)) → Sl a' 23 (.int .i64 ((0 : Nat) : Int)) → Q .normal a' (w)) : (Code.region 5 (opsOf 5 Tryd.f27).toArray false).wp Tryd.prog Q a w := by
  refine wp_region_lit (l := (opsOf 5 Tryd.f27)) ?_
  conv => arg 4; whnf
  unfold Sl at o1
  go_wp2_with fail
  try simp only [Act.put]
  exact hend _ (by repeat (first | (with_reducible refine same_set (by decide) ?_) | (with_reducible exact same_nil))) (by unfold Sl; first | (simp [hsz]; done) | (simp [hsz]; omega)) (by unfold Sl; first | (simp [hsz]; done) | (simp [hsz]; omega)) (by unfold Sl; first | (simp [hsz]; done) | (simp [hsz]; omega))
-- END srt5
-- REG srt6
set_option maxRecDepth 100000 in
set_option maxHeartbeats 2000000 in
theorem srt_r6 {Q : Exit → Act → World → Prop} {a : Act} {w : World} (k n : Nat) (hsz : a.tmps.size = 80) (o22 : Sl a 22 (.int .i64 ((n : Nat) : Int))) (o23 : Sl a 23 (.int .i64 ((k : Nat) : Int)))
    (hend : ∀ (a' : Act), Same a a' [24] → Sl a' 24 (.bool (decide (k < n))) → Q .normal a' (w)) : (Code.region 6 (opsOf 6 Tryd.f27).toArray false).wp Tryd.prog Q a w := by
  refine wp_region_lit (l := (opsOf 6 Tryd.f27)) ?_
  conv => arg 4; whnf
  unfold Sl at o22 o23
  go_wp2_with fail
  try simp only [Act.put]
  exact hend _ (by repeat (first | (with_reducible refine same_set (by decide) ?_) | (with_reducible exact same_nil))) (by unfold Sl; first | (simp [hsz]; done) | (simp [hsz]; omega))
-- END srt6
-- REG srt7
set_option maxRecDepth 100000 in
set_option maxHeartbeats 2000000 in
theorem srt_r7 {Q : Exit → Act → World → Prop} {a : Act} {w : World} (w0 : World) (ad : Addr) (k n c : Nat) (hk : k < n) (nm : ByteArray) (v : Value) (hv : ∃ A n c, v = .slice A n c) (hc : ∀ j u, ([.string nm, v] : List Value)[j]? = some u → w.cell? ((ad.add (k * 2)).add j) = some u) (L : List Res) (S : Held w0 w L) (hsz : a.tmps.size = 80) (o21 : Sl a 21 (.slice (some ad) n c)) (o23 : Sl a 23 (.int .i64 ((k : Nat) : Int)))
    (hend : ∀ (a' : Act) (W : World), Same a a' [25, 26, 8] → (∃ g, Sl a' 8 (.pointer (some ⟨g, 0, none⟩)) ∧ Held w0 W (blkR g 42 #[.string nm, v] :: L)) → Q .normal a' W) : (Code.region 7 (opsOf 7 Tryd.f27).toArray false).wp Tryd.prog Q a w := by
  refine wp_region_lit (l := (opsOf 7 Tryd.f27)) ?_
  conv => arg 4; whnf
  unfold Sl at o21 o23
  obtain ⟨A2, n2, c2, rfl⟩ := hv
  have S := Lib.hid S
  have h0 : 0 ≤ (k : Int) := by omega
  have h1 : (k : Int) < (n : Int) := by omega
  have HC := Lib.hid hc
  have HO : Hid (∀ u, u ∈ (#[.string nm, .slice A2 n2 c2] : Array Value).toList → u.oneCell' = true) := Lib.hid (by intro u hu; simp at hu; rcases hu with rfl | rfl <;> rfl)
  have HI := Lib.hid Tryd.infoKeyP
  clear hc
  have S1 := Lib.hid (S.out.newBlk 42 #[.string ⟨#[]⟩, .slice none 0 0])
  go_wp2_with (first
    | (refine wpList_load_agg rfl 42 (.tmp 25) rfl (ad.add (k * 2)) (by simp [Act.eval, Act.put, hsz]) [.string nm, .slice A2 n2 c2] _ HC.out Tryd.underlying42 rfl (by exact HI.out) ?_)
    | (refine wpList_store_blk rfl 42 (.tmp 8) (.tmp 26) rfl w.heap.size (by simp [Act.eval, Act.put, hsz]) #[.string nm, .slice A2 n2 c2] (by simp [Act.eval, Act.put, hsz]) 42 _ (S1.out.at_ (l1 := [])) (by exact HI.out) (by rfl) HO.out ?_; intro w7 b7 k7; have S7 := Lib.hid (Held.setBlk (l1 := []) S1.out b7 k7); clear b7 k7))
  try simp only [Act.put]
  exact hend _ _ (by repeat (first | (with_reducible refine same_set (by decide) ?_) | (with_reducible exact same_nil))) (⟨_, (by unfold Sl; simp [hsz]), S7.out⟩)
-- END srt7
-- REG srt8
set_option maxRecDepth 100000 in
set_option maxHeartbeats 2000000 in
theorem srt_r8 {Q : Exit → Act → World → Prop} {a : Act} {w : World} (w0 : World) (gN : Nat) (z : Int) (h : List UInt8) (hh : h.length = 32) (A : Option Addr) (n c : Nat) (L : List Res) (S : Held w0 w (blkR gN 36 (ntA z h (.slice A n c)) :: L)) (hsz : a.tmps.size = 80) (o2 : Sl a 2 (.pointer (some ⟨gN, 0, none⟩)))
    (hend : ∀ (a' : Act), Same a a' [27, 28, 29, 30] → Sl a' 28 (.slice A n c) → Sl a' 29 (.int .i64 ((n : Nat) : Int)) → Sl a' 30 (.int .i64 ((0 : Nat) : Int)) → Q .normal a' (w)) : (Code.region 8 (opsOf 8 Tryd.f27).toArray false).wp Tryd.prog Q a w := by
  refine wp_region_lit (l := (opsOf 8 Tryd.f27)) ?_
  conv => arg 4; whnf
  unfold Sl at o2
  have c33 : w.cell? ⟨gN, 33, none⟩ = some (.slice A n c) := by rw [(S.at_ (l1 := [])).cell]; exact ntA_sigs hh
  go_wp2_with fail
  try simp only [Act.put]
  exact hend _ (by repeat (first | (with_reducible refine same_set (by decide) ?_) | (with_reducible exact same_nil))) (by unfold Sl; first | (simp [hsz]; done) | (simp [hsz]; omega)) (by unfold Sl; first | (simp [hsz]; done) | (simp [hsz]; omega)) (by unfold Sl; first | (simp [hsz]; done) | (simp [hsz]; omega))
-- END srt8
-- REG srt9
set_option maxRecDepth 100000 in
set_option maxHeartbeats 2000000 in
theorem srt_r9 {Q : Exit → Act → World → Prop} {a : Act} {w : World} (k n : Nat) (hsz : a.tmps.size = 80) (o29 : Sl a 29 (.int .i64 ((n : Nat) : Int))) (o30 : Sl a 30 (.int .i64 ((k : Nat) : Int)))
    (hend : ∀ (a' : Act), Same a a' [31] → Sl a' 31 (.bool (decide (k < n))) → Q .normal a' (w)) : (Code.region 9 (opsOf 9 Tryd.f27).toArray false).wp Tryd.prog Q a w := by
  refine wp_region_lit (l := (opsOf 9 Tryd.f27)) ?_
  conv => arg 4; whnf
  unfold Sl at o29 o30
  go_wp2_with fail
  try simp only [Act.put]
  exact hend _ (by repeat (first | (with_reducible refine same_set (by decide) ?_) | (with_reducible exact same_nil))) (by unfold Sl; first | (simp [hsz]; done) | (simp [hsz]; omega))
-- END srt9
-- REG srt10
set_option maxRecDepth 100000 in
set_option maxHeartbeats 2000000 in
theorem srt_r10 {Q : Exit → Act → World → Prop} {a : Act} {w : World} (w0 : World) (ad : Addr) (k n c : Nat) (hk : k < n) (s : SigD) (hs : s.2.length = 32) (hc : ∀ j u, (sgL s)[j]? = some u → w.cell? ((ad.add (k * 33)).add j) = some u) (L : List Res) (S : Held w0 w L) (hsz : a.tmps.size = 80) (o28 : Sl a 28 (.slice (some ad) n c)) (o30 : Sl a 30 (.int .i64 ((k : Nat) : Int)))
    (hend : ∀ (a' : Act) (W : World), Same a a' [32, 33, 10] → (∃ g, Sl a' 10 (.pointer (some ⟨g, 0, none⟩)) ∧ Held w0 W (blkR g 81 (sgA s) :: L)) → Q .normal a' W) : (Code.region 10 (opsOf 10 Tryd.f27).toArray false).wp Tryd.prog Q a w := by
  refine wp_region_lit (l := (opsOf 10 Tryd.f27)) ?_
  conv => arg 4; whnf
  unfold Sl at o28 o30
  have S := Lib.hid S
  have h0 : 0 ≤ (k : Int) := by omega
  have h1 : (k : Int) < (n : Int) := by omega
  have hc2 : ∀ j u, (sgA s).toList[j]? = some u → w.cell? ((ad.add (k * 33)).add j) = some u := hc
  have HC := Lib.hid hc2
  clear hc hc2
  have HO := Lib.hid (sgA_one s)
  have hz2 : Hid ((sgA s).size = 33) := Lib.hid (sgA_size hs)
  have S1 := Lib.hid (S.out.newBlk 81 (sgA ([], List.replicate 32 0)))
  generalize sgA s = cs at *
  go_wp2_with (first
    | (refine wpList_load_agg rfl 81 (.tmp 32) rfl (ad.add (k * 33)) (by simp [Act.eval, Act.put, hsz]) cs.toList _ HC.out Tryd.underlying81 rfl (by rw [Array.length_toList, hz2.out]; exact Tryd.infoSig) ?_)
    | (refine wpList_store_blk rfl 81 (.tmp 10) (.tmp 33) rfl w.heap.size (by simp [Act.eval, Act.put, hsz]) cs (by simp [Act.eval, Act.put, hsz]) 81 _ (S1.out.at_ (l1 := [])) (by rw [hz2.out]; exact Tryd.infoSig) (by rw [hz2.out]; rfl) HO.out ?_; intro w7 b7 k7; have S7 := Lib.hid (Held.setBlk (l1 := []) S1.out b7 k7); clear b7 k7))
  try simp only [Act.put]
  exact hend _ _ (by repeat (first | (with_reducible refine same_set (by decide) ?_) | (with_reducible exact same_nil))) (⟨_, (by unfold Sl; simp [hsz]), S7.out⟩)
-- END srt10
-- REG srt11
set_option maxRecDepth 100000 in
set_option maxHeartbeats 2000000 in
theorem srt_r11 {Q : Exit → Act → World → Prop} {a : Act} {w : World} (w0 : World) (gs gk : Nat) (s : SigD) (ns nm : ByteArray) (v : Value) (hn : strV s.1 = .string ns) (b : Bool) (hb : (!(ns.toList == nm.toList)) = b) (L : List Res) (S : Held w0 w (blkR gs 81 (sgA s) :: blkR gk 42 #[.string nm, v] :: L)) (hsz : a.tmps.size = 80) (o8 : Sl a 8 (.pointer (some ⟨gk, 0, none⟩))) (o10 : Sl a 10 (.pointer (some ⟨gs, 0, none⟩)))
    (hend : ∀ (a' : Act), Same a a' [34, 35, 36, 37, 38] → Sl a' 38 (.bool b) → Q .normal a' (w)) : (Code.region 11 (opsOf 11 Tryd.f27).toArray false).wp Tryd.prog Q a w := by
  refine wp_region_lit (l := (opsOf 11 Tryd.f27)) ?_
  conv => arg 4; whnf
  unfold Sl at o8 o10
  have c1 : w.cell? ⟨gs, 0, none⟩ = some (.string ns) := by rw [(S.at_ (l1 := [])).cell, ← hn]; rfl
  obtain ⟨c2, c3, m3⟩ := Blk.c2 (S.at_ (l1 := [_]))
  go_wp2_with fail
  try simp only [Act.put]
  exact hend _ (by repeat (first | (with_reducible refine same_set (by decide) ?_) | (with_reducible exact same_nil))) (by unfold Sl; first | (simp [hsz]; done) | (simp [hsz]; omega))
-- END srt11
-- REG srt12
set_option maxRecDepth 100000 in
set_option maxHeartbeats 2000000 in
theorem srt_r12 {Q : Exit → Act → World → Prop} {a : Act} {w : World} (w0 : World) (gN gK : Nat) (z : Int) (h : List UInt8) (hh : h.length = 32) (v0 u v : Value) (sv : List UInt8) (hsv : sv.length = 32) (se : Int) (L : List Res) (S : Held w0 w (blkR gN 36 (ntA z h v0) :: blkR gK 42 #[u, v] :: L)) (HS0 : ∀ V, Held w0 V (blkR gN 36 (ntA z h v0) :: blkR gK 42 #[u, v] :: L) → Calls Tryd.prog 17 #[.agg (ptA z h), .agg #[u, v]] V fun e w' => e = .returned (.tuple #[.agg (hashA sv), .int .i64 se]) ∧ Kp [] V w') (hsz : a.tmps.size = 80) (o2 : Sl a 2 (.pointer (some ⟨gN, 0, none⟩))) (o8 : Sl a 8 (.pointer (some ⟨gK, 0, none⟩)))
    (hend : ∀ (a' : Act) (W : World), Same a a' [40, 41, 42, 43, 39, 44, 45, 11, 12] → Sl a' 12 (.int .i64 (se)) → (∃ gS, Sl a' 11 (.pointer (some ⟨gS, 0, none⟩)) ∧ Held w0 W (blkR gS 25 (hashA sv) :: blkR gN 36 (ntA z h v0) :: blkR gK 42 #[u, v] :: L)) → Q .normal a' W) : (Code.region 12 (opsOf 12 Tryd.f27).toArray false).wp Tryd.prog Q a w := by
  refine wp_region_lit (l := (opsOf 12 Tryd.f27)) ?_
  conv => arg 4; whnf
  unfold Sl at o2 o8
  have S := Lib.hid S
  have HS := Lib.hid (HS0 _ S.out)
  clear HS0
  have hp := Lib.hid (nt_pointAt (S.out.at_ (l1 := [])))
  have HP := Lib.hid (ptA_size (s := z) hh)
  have hO := Lib.hid (hashA_one sv)
  have hz2 : Hid ((hashA sv).size = 32) := Lib.hid (by rw [hashA_size, hsv])
  obtain ⟨c0, c1, m1⟩ := Blk.c2 (S.out.at_ (l1 := [_]))
  generalize ntA z h v0 = ca at *
  generalize ptA z h = cp at *
  generalize hashA sv = ch at *
  go_wp2_with (refine wpList_load_agg rfl 33 (.tmp 40) rfl ⟨gN, 0, none⟩ (by simp [Act.eval, Act.put, hsz]) cp.toList _ hp.out Tryd.underlying33 rfl (by rw [Array.length_toList, HP.out]; exact Tryd.infoPointP) ?_)
  refine HS.out.mono ?_
  rintro e w1 ⟨rfl, k1⟩
  have S1 := Lib.hid ((S.out.kp k1).newBlk 25 (hashA (List.replicate 32 0)))
  clear k1 c0 c1 m1
  go_wp2_with (refine wpList_store_blk rfl 25 (.tmp 11) (.tmp 44) rfl w1.heap.size (by simp [Act.eval, Act.put, hsz]) ch (by simp [Act.eval, Act.put, hsz]) 25 _ (S1.out.at_ (l1 := [])) (by rw [hz2.out]; exact Tryd.infoHashP) (by rw [hz2.out]; rfl) hO.out ?_; intro w7 b7 k7; have S7 := Lib.hid (Held.setBlk (l1 := []) S1.out b7 k7); clear b7 k7)
  try simp only [Act.put]
  exact hend _ _ (by repeat (first | (with_reducible refine same_set (by decide) ?_) | (with_reducible exact same_nil))) (by unfold Sl; first | (simp [hsz]; done) | (simp [hsz]; omega)) (⟨_, (by unfold Sl; simp [hsz]), S7.out⟩)
-- END srt12
-- REG srt14
set_option maxRecDepth 100000 in
set_option maxHeartbeats 2000000 in
theorem srt_r14 {Q : Exit → Act → World → Prop} {a : Act} {w : World} (w0 : World) (gM gK m : Nat) (hm : m < maxLen) (f : List UInt8 → Nat) (nm : ByteArray) (hnm : nm.size ≤ maxLen) (v : Value) (hf : f nm.data.toList < 4611686018427387904) (L : List Res) (S : Held w0 w (cntR gM m f :: blkR gK 42 #[.string nm, v] :: L)) (hsz : a.tmps.size = 80) (o6 : Sl a 6 (.map (some gM))) (o8 : Sl a 8 (.pointer (some ⟨gK, 0, none⟩)))
    (hend : ∀ (a' : Act) (W : World), Same a a' [54, 55, 56, 57, 58] → (Held w0 W (cntR gM (m + 1) (fun t => if t = nm.data.toList then f nm.data.toList + 1 else f t) :: blkR gK 42 #[.string nm, v] :: L)) → Q .normal a' W) : (Code.region 14 (opsOf 14 Tryd.f27).toArray false).wp Tryd.prog Q a w := by
  refine wp_region_lit (l := (opsOf 14 Tryd.f27)) ?_
  conv => arg 4; whnf
  unfold Sl at o6 o8
  have S := Lib.hid S
  have hC : Hid (Cnt w gM m f) := Lib.hid (S.out.at_ (l1 := []))
  obtain ⟨c2, c3, m3⟩ := Blk.c2 (S.out.at_ (l1 := [_]))
  have hg := cnt_get hC.out nm hnm
  have hp := Lib.hid (cnt_put hC.out hm nm hnm (f nm.data.toList + 1) (by omega))
  have hw : wrap64 ((f nm.data.toList : Int) + 1) = (f nm.data.toList : Int) + 1 := by unfold wrap64; omega
  obtain ⟨w5, hrun, hC5, hk5⟩ := hp.out
  have hC5 := Lib.hid hC5
  have hk5 := Lib.hid hk5
  rw [Int.natCast_add, Int.natCast_one] at hrun
  generalize f nm.data.toList = x at *
  have S5 := Lib.hid (S.out.turnAt (l1 := []) (cntR gM (m + 1) (fun t => if t = nm.data.toList then x + 1 else f t)) hk5.out hC5.out (fun b hb => .inl hb))
  go_wp2_with fail
  try simp only [Act.put]
  exact hend _ _ (by repeat (first | (with_reducible refine same_set (by decide) ?_) | (with_reducible exact same_nil))) (S5.out)
-- END srt14
-- REG srt15
set_option maxRecDepth 100000 in
set_option maxHeartbeats 2000000 in
theorem srt_r15 {Q : Exit → Act → World → Prop} {a : Act} {w : World} (k : Nat) (hk : k < 9223372036854775807) (hsz : a.tmps.size = 80) (o30 : Sl a 30 (.int .i64 ((k : Nat) : Int)))
    (hend : ∀ (a' : Act), Same a a' [59, 30] → Sl a' 30 (.int .i64 ((k + 1 : Nat) : Int)) → Q .normal a' (w)) : (Code.region 15 (opsOf 15 Tryd.f27).toArray false).wp Tryd.prog Q a w := by
  refine wp_region_lit (l := (opsOf 15 Tryd.f27)) ?_
  conv => arg 4; whnf
  unfold Sl at o30
  have hw : wrap64 ((k : Int) + 1) = (k : Int) + 1 := by unfold wrap64; omega
  go_wp2_with fail
  try simp only [Act.put]
  exact hend _ (by repeat (first | (with_reducible refine same_set (by decide) ?_) | (with_reducible exact same_nil))) (by unfold Sl; first | (simp [hsz]; done) | (simp [hsz]; omega))
-- END srt15
-- REG srt16
set_option maxRecDepth 100000 in
set_option maxHeartbeats 2000000 in
theorem srt_r16 {Q : Exit → Act → World → Prop} {a : Act} {w : World} (k : Nat) (hk : k < 9223372036854775807) (hsz : a.tmps.size = 80) (o23 : Sl a 23 (.int .i64 ((k : Nat) : Int)))
    (hend : ∀ (a' : Act), Same a a' [60, 23] → Sl a' 23 (.int .i64 ((k + 1 : Nat) : Int)) → Q .normal a' (w)) : (Code.region 16 (opsOf 16 Tryd.f27).toArray false).wp Tryd.prog Q a w := by
  refine wp_region_lit (l := (opsOf 16 Tryd.f27)) ?_
  conv => arg 4; whnf
  unfold Sl at o23
  have hw : wrap64 ((k : Int) + 1) = (k : Int) + 1 := by unfold wrap64; omega
  go_wp2_with fail
  try simp only [Act.put]
  exact hend _ (by repeat (first | (with_reducible refine same_set (by decide) ?_) | (with_reducible exact same_nil))) (by unfold Sl; first | (simp [hsz]; done) | (simp [hsz]; omega))
-- END srt16
-- REG srt17
set_option maxRecDepth 100000 in
set_option maxHeartbeats 2000000 in
theorem srt_r17 {Q : Exit → Act → World → Prop} {a : Act} {w : World} (w0 : World) (gN : Nat) (z : Int) (h : List UInt8) (hh : h.length = 32) (A : Option Addr) (n c : Nat) (L : List Res) (S : Held w0 w (blkR gN 36 (ntA z h (.slice A n c)) :: L)) (hsz : a.tmps.size = 80) (o2 : Sl a 2 (.pointer (some ⟨gN, 0, none⟩)))
    (hend : ∀ (a' : Act), Same a a' [61, 62, 63, 64] → Sl a' 62 (.slice A n c) → Sl a' 63 (.int .i64 ((n : Nat) : Int)) → Sl a' 64 (.int .i64 ((0 : Nat) : Int)) → Q .normal a' (w)) : (Code.region 17 (opsOf 17 Tryd.f27).toArray false).wp Tryd.prog Q a w := by
  refine wp_region_lit (l := (opsOf 17 Tryd.f27)) ?_
  conv => arg 4; whnf
  unfold Sl at o2
  have c33 : w.cell? ⟨gN, 33, none⟩ = some (.slice A n c) := by rw [(S.at_ (l1 := [])).cell]; exact ntA_sigs hh
  go_wp2_with fail
  try simp only [Act.put]
  exact hend _ (by repeat (first | (with_reducible refine same_set (by decide) ?_) | (with_reducible exact same_nil))) (by unfold Sl; first | (simp [hsz]; done) | (simp [hsz]; omega)) (by unfold Sl; first | (simp [hsz]; done) | (simp [hsz]; omega)) (by unfold Sl; first | (simp [hsz]; done) | (simp [hsz]; omega))
-- END srt17
-- REG srt18
set_option maxRecDepth 100000 in
set_option maxHeartbeats 2000000 in
theorem srt_r18 {Q : Exit → Act → World → Prop} {a : Act} {w : World} (k n : Nat) (hsz : a.tmps.size = 80) (o63 : Sl a 63 (.int .i64 ((n : Nat) : Int))) (o64 : Sl a 64 (.int .i64 ((k : Nat) : Int)))
    (hend : ∀ (a' : Act), Same a a' [65] → Sl a' 65 (.bool (decide (k < n))) → Q .normal a' (w)) : (Code.region 18 (opsOf 18 Tryd.f27).toArray false).wp Tryd.prog Q a w := by
  refine wp_region_lit (l := (opsOf 18 Tryd.f27)) ?_
  conv => arg 4; whnf
  unfold Sl at o63 o64
  go_wp2_with fail
  try simp only [Act.put]
  exact hend _ (by repeat (first | (with_reducible refine same_set (by decide) ?_) | (with_reducible exact same_nil))) (by unfold Sl; first | (simp [hsz]; done) | (simp [hsz]; omega))
-- END srt18
-- REG srt19
set_option maxRecDepth 100000 in
set_option maxHeartbeats 2000000 in
theorem srt_r19 {Q : Exit → Act → World → Prop} {a : Act} {w : World} (w0 : World) (ad : Addr) (k n c : Nat) (hk : k < n) (s : SigD) (hs : s.2.length = 32) (hc : ∀ j u, (sgL s)[j]? = some u → w.cell? ((ad.add (k * 33)).add j) = some u) (L : List Res) (S : Held w0 w L) (hsz : a.tmps.size = 80) (o62 : Sl a 62 (.slice (some ad) n c)) (o64 : Sl a 64 (.int .i64 ((k : Nat) : Int)))
    (hend : ∀ (a' : Act) (W : World), Same a a' [66, 67, 14] → (∃ g, Sl a' 14 (.pointer (some ⟨g, 0, none⟩)) ∧ Held w0 W (blkR g 81 (sgA s) :: L)) → Q .normal a' W) : (Code.region 19 (opsOf 19 Tryd.f27).toArray false).wp Tryd.prog Q a w := by
  refine wp_region_lit (l := (opsOf 19 Tryd.f27)) ?_
  conv => arg 4; whnf
  unfold Sl at o62 o64
  have S := Lib.hid S
  have h0 : 0 ≤ (k : Int) := by omega
  have h1 : (k : Int) < (n : Int) := by omega
  have hc2 : ∀ j u, (sgA s).toList[j]? = some u → w.cell? ((ad.add (k * 33)).add j) = some u := hc
  have HC := Lib.hid hc2
  clear hc hc2
  have HO := Lib.hid (sgA_one s)
  have hz2 : Hid ((sgA s).size = 33) := Lib.hid (sgA_size hs)
  have S1 := Lib.hid (S.out.newBlk 81 (sgA ([], List.replicate 32 0)))
  generalize sgA s = cs at *
  go_wp2_with (first
    | (refine wpList_load_agg rfl 81 (.tmp 66) rfl (ad.add (k * 33)) (by simp [Act.eval, Act.put, hsz]) cs.toList _ HC.out Tryd.underlying81 rfl (by rw [Array.length_toList, hz2.out]; exact Tryd.infoSig) ?_)
    | (refine wpList_store_blk rfl 81 (.tmp 14) (.tmp 67) rfl w.heap.size (by simp [Act.eval, Act.put, hsz]) cs (by simp [Act.eval, Act.put, hsz]) 81 _ (S1.out.at_ (l1 := [])) (by rw [hz2.out]; exact Tryd.infoSig) (by rw [hz2.out]; rfl) HO.out ?_; intro w7 b7 k7; have S7 := Lib.hid (Held.setBlk (l1 := []) S1.out b7 k7); clear b7 k7))
  try simp only [Act.put]
  exact hend _ _ (by repeat (first | (with_reducible refine same_set (by decide) ?_) | (with_reducible exact same_nil))) (⟨_, (by unfold Sl; simp [hsz]), S7.out⟩)
-- END srt19
-- REG srt20
set_option maxRecDepth 100000 in
set_option maxHeartbeats 2000000 in
theorem srt_r20 {Q : Exit → Act → World → Prop} {a : Act} {w : World} (w0 : World) (gM gs m : Nat) (f : List UInt8 → Nat) (s : SigD) (ns : ByteArray) (hn : strV s.1 = .string ns) (hnm : ns.size ≤ maxLen) (L : List Res) (S : Held w0 w (cntR gM m f :: blkR gs 81 (sgA s) :: L)) (hsz : a.tmps.size = 80) (o6 : Sl a 6 (.map (some gM))) (o14 : Sl a 14 (.pointer (some ⟨gs, 0, none⟩)))
    (hend : ∀ (a' : Act), Same a a' [68, 69, 70, 71, 72] → Sl a' 72 (.bool (decide (0 < f ns.data.toList))) → Q .normal a' (w)) : (Code.region 20 (opsOf 20 Tryd.f27).toArray false).wp Tryd.prog Q a w := by
  refine wp_region_lit (l := (opsOf 20 Tryd.f27)) ?_
  conv => arg 4; whnf
  unfold Sl at o6 o14
  have hC : Hid (Cnt w gM m f) := Lib.hid (S.at_ (l1 := []))
  have c1 : w.cell? ⟨gs, 0, none⟩ = some (.string ns) := by rw [(S.at_ (l1 := [_])).cell, ← hn]; rfl
  have hg := cnt_get hC.out ns hnm
  have hd : decide (0 < f ns.data.toList) = decide ((0 : Int) < (f ns.data.toList : Int)) := by congr 1; exact propext ⟨fun h => by omega, fun h => by omega⟩
  rw [hd] at hend
  clear hd
  go_wp2_with fail
  try simp only [Act.put]
  exact hend _ (by repeat (first | (with_reducible refine same_set (by decide) ?_) | (with_reducible exact same_nil))) (by unfold Sl; first | (simp [hsz]; done) | (simp [hsz]; omega))
-- END srt20
-- REG srt21
set_option maxRecDepth 100000 in
set_option maxHeartbeats 2000000 in
theorem srt_r21 {Q : Exit → Act → World → Prop} {a : Act} {w : World} (w0 : World) (gs n : Nat) (hn : n < 1000000) (s : SigD) (ns : ByteArray) (hns : strV s.1 = .string ns) (v : Value) (xs : List Value) (L : List Res) (S : Held w0 w (rowR 9 1 v n xs :: blkR gs 81 (sgA s) :: L)) (hsz : a.tmps.size = 80) (o5 : Sl a 5 (v)) (o14 : Sl a 14 (.pointer (some ⟨gs, 0, none⟩)))
    (hend : ∀ (a' : Act) (W : World), Same a a' [73, 74, 75, 76, 77, 5] → (∃ v', Sl a' 5 v' ∧ Held w0 W (rowR 9 1 v' (n + 1) (xs ++ [.string ns]) :: blkR gs 81 (sgA s) :: L)) → Q .normal a' W) : (Code.region 21 (opsOf 21 Tryd.f27).toArray false).wp Tryd.prog Q a w := by
  refine wp_region_lit (l := (opsOf 21 Tryd.f27)) ?_
  conv => arg 4; whnf
  unfold Sl at o5 o14
  have S := Lib.hid S
  have c1 : w.cell? ⟨gs, 0, none⟩ = some (.string ns) := by rw [(S.out.at_ (l1 := [_])).cell, ← hns]; rfl
  have S1 := Lib.hid (S.out.newBlk 9 #[.string ns])
  obtain ⟨i0, hi, hz, hsize, hby⟩ := info_parts Tryd.infoStrZ
  have Hz := Lib.hid hz
  clear hz
  have hle : Hid (n + 1 ≤ maxLen ∧ (n + 1) * 16 ≤ 140737488355328) := Lib.hid ⟨by unfold maxLen; omega, by omega⟩
  have HR : Hid (Rd (w.alloc (.cells #[.string ns] 9)) 1 (.slice (some ⟨w.heap.size, 0, none⟩) 1 1) 1 [.string ns]) := Lib.hid ⟨rfl, _, _, rfl, Nat.le_refl _, by unfold maxLen; omega, (fun h => by cases h), fun ad had j u hu => by cases had; exact (S1.out.at_ (l1 := [])).agg j u hu⟩
  go_wp2_with (at_builtin; refine wpList_app _ rfl (.tmp 73) (.tmp 76) 58 rfl 9 i0 _ 1 16 Tryd.underlying58 hi Hz.out hsize hby rfl (by decide) _ n xs (by simp [Act.eval, Act.put, hsz, o5]) (S1.out.at_ (l1 := [_])) _ 1 [.string ns] (by simp [Act.eval, Act.put, hsz]) HR.out (by intro u hu; rw [List.mem_singleton.1 hu]; rfl) hle.out.1 hle.out.2 ?_; intro v' w' o3 g3 b3; have S2 := Lib.hid (Held.grow (l1 := [_]) S1.out o3 g3 b3); clear o3 g3 b3)
  try simp only [Act.put]
  exact hend _ _ (by repeat (first | (with_reducible refine same_set (by decide) ?_) | (with_reducible exact same_nil))) (⟨_, (by unfold Sl; simp [hsz]), S2.out.drop⟩)
-- END srt21
-- REG srt22
set_option maxRecDepth 100000 in
set_option maxHeartbeats 2000000 in
theorem srt_r22 {Q : Exit → Act → World → Prop} {a : Act} {w : World} (k : Nat) (hk : k < 9223372036854775807) (hsz : a.tmps.size = 80) (o64 : Sl a 64 (.int .i64 ((k : Nat) : Int)))
    (hend : ∀ (a' : Act), Same a a' [78, 64] → Sl a' 64 (.int .i64 ((k + 1 : Nat) : Int)) → Q .normal a' (w)) : (Code.region 22 (opsOf 22 Tryd.f27).toArray false).wp Tryd.prog Q a w := by
  refine wp_region_lit (l := (opsOf 22 Tryd.f27)) ?_
  conv => arg 4; whnf
  unfold Sl at o64
  have hw : wrap64 ((k : Int) + 1) = (k : Int) + 1 := by unfold wrap64; omega
  go_wp2_with fail
  try simp only [Act.put]
  exact hend _ (by repeat (first | (with_reducible refine same_set (by decide) ?_) | (with_reducible exact same_nil))) (by unfold Sl; first | (simp [hsz]; done) | (simp [hsz]; omega))
-- END srt22
-- REG srt23
set_option maxRecDepth 100000 in
set_option maxHeartbeats 2000000 in
theorem srt_r23 {Q : Exit → Act → World → Prop} {a : Act} {w : World} (v : Value) (hsz : a.tmps.size = 80) (o5 : Sl a 5 (v))
    (hend : ∀ (a' : Act), Same a a' [79, 4] → Sl a' 4 (v) → Q .normal a' (w)) : (Code.region 23 (opsOf 23 Tryd.f27).toArray false).wp Tryd.prog Q a w := by
  refine wp_region_lit (l := (opsOf 23 Tryd.f27)) ?_
  conv => arg 4; whnf
  unfold Sl at o5
  go_wp2_with fail
  try simp only [Act.put]
  exact hend _ (by repeat (first | (with_reducible refine same_set (by decide) ?_) | (with_reducible exact same_nil))) (by unfold Sl; first | (simp [hsz]; done) | (simp [hsz]; omega))
-- END srt23
-- REG srt1300
-- END srt1300
-- REG srt1301
-- END srt1301
end Go.Proofs.YtapboamjpilckaaDoor
/- What Right says; keys in memory. -/
namespace Go.Proofs.YtapboamjpilckaaDoor
open Go.RowKit
abbrev KeyD := List UInt8 × List UInt8
def matchS (z : Int) (h : List UInt8) (k : KeyD) (s : SigD) : Bool := (s.1 == k.1) && (sumOk z k.1 k.2 && (sumV z h k.1 k.2 == s.2))
def cntOne (z : Int) (h : List UInt8) (k : KeyD) (l : List SigD) : Nat := (l.filter (matchS z h k)).length
def cntAll (z : Int) (h : List UInt8) (ks : List KeyD) (l : List SigD) (nm : List UInt8) : Nat := (ks.map fun k => if nm = k.1 then cntOne z h k l else 0).sum
/-- Whose signatures are right. -/
def rightN (z : Int) (h : List UInt8) (l : List SigD) (ks : List KeyD) : List (List UInt8) := (l.filter fun s => ks.any fun k => matchS z h k s).map (·.1)
theorem cntOne_le (z : Int) (h : List UInt8) (k : KeyD) (l : List SigD) : cntOne z h k l ≤ l.length := List.length_filter_le ..
theorem cntAll_le (z : Int) (h : List UInt8) (l : List SigD) (nm : List UInt8) : ∀ ks : List KeyD, cntAll z h ks l nm ≤ ks.length * l.length
  | [] => by simp [cntAll]
  | k :: ks => by
    have ih := cntAll_le z h l nm ks
    have h1 := cntOne_le z h k l
    unfold cntAll at ih ⊢
    rw [List.map_cons, List.sum_cons, List.length_cons, Nat.succ_mul]
    split <;> omega
theorem cntAll_snoc (z : Int) (h : List UInt8) (ks : List KeyD) (k : KeyD) (l : List SigD) (nm : List UInt8) : cntAll z h (ks ++ [k]) l nm = cntAll z h ks l nm + if nm = k.1 then cntOne z h k l else 0 := by
  unfold cntAll
  rw [List.map_append, List.sum_append]
  simp
theorem cntOne_snoc (z : Int) (h : List UInt8) (k : KeyD) (l : List SigD) (s : SigD) : cntOne z h k (l ++ [s]) = cntOne z h k l + if matchS z h k s then 1 else 0 := by
  unfold cntOne
  rw [List.filter_append, List.length_append]
  congr 1
  cases hm : matchS z h k s <;> simp [hm]
theorem rising_inj : ∀ {l : List SigD} {a : List UInt8}, rising a l = true → ∀ x y, x ∈ l → y ∈ l → x.1 = y.1 → x = y
  | [], _, _, x, _, hx, _, _ => by cases hx
  | s :: l, a, h, x, y, hx, hy, e => by
    unfold rising at h
    simp only [Bool.and_eq_true] at h
    have hr := rising_all h.2
    rcases List.mem_cons.1 hx with rfl | hx2
    · rcases List.mem_cons.1 hy with rfl | hy2
      · rfl
      · have := hr y hy2
        rw [e, cmpB_self] at this
        omega
    · rcases List.mem_cons.1 hy with rfl | hy2
      · have := hr x hx2
        rw [e, cmpB_self] at this
        omega
      · exact rising_inj h.2 x y hx2 hy2 e
theorem cnt_pos {z : Int} {h : List UInt8} {l : List SigD} {a : List UInt8} (hr : rising a l = true) {s : SigD} (hs : s ∈ l) : ∀ ks : List KeyD, decide (0 < cntAll z h ks l s.1) = ks.any fun k => matchS z h k s
  | [] => by simp [cntAll]
  | k :: ks => by
    have ih := cnt_pos (z := z) (h := h) hr hs ks
    rw [List.any_cons, ← ih]
    unfold cntAll
    rw [List.map_cons, List.sum_cons]
    by_cases hk : s.1 = k.1
    · rw [if_pos hk]
      cases hm : matchS z h k s
      · have h0 : cntOne z h k l = 0 := by
          unfold cntOne
          rw [List.length_eq_zero_iff, List.filter_eq_nil_iff]
          intro x hx hxm
          have hx1 : x.1 = k.1 := by
            unfold matchS at hxm
            simp only [Bool.and_eq_true, beq_iff_eq] at hxm
            exact hxm.1
          have := rising_inj hr x s hx hs (hx1.trans hk.symm)
          rw [this, hm] at hxm
          cases hxm
        rw [h0, Nat.zero_add, Bool.false_or]
      · have h0 : 0 < cntOne z h k l := List.length_pos_of_mem (List.mem_filter.2 ⟨hs, hm⟩)
        rw [Bool.true_or]
        exact decide_eq_true (by omega)
    · rw [if_neg hk, Nat.zero_add]
      have hm : matchS z h k s = false := by
        unfold matchS
        rw [beq_false_of_ne hk, Bool.false_and]
      rw [hm, Bool.false_or]
/-- Keys in memory, with told cells. -/
def KysF (W : World) (v : Value) (vs : List Value) (ks : List KeyD) : Prop := Rd W 2 v ks.length vs ∧ ∀ i (hi : i < ks.length), ∃ A c, vs[i * 2]? = some (strV ks[i].1) ∧ vs[i * 2 + 1]? = some (.slice A ks[i].2.length c) ∧ Rd W 1 (.slice A ks[i].2.length c) ks[i].2.length (bv ks[i].2)
theorem KysF.kp0 {W W' : World} {v : Value} {vs : List Value} {ks : List KeyD} (h : KysF W v vs ks) (k : Kp [] W W') : KysF W' v vs ks := ⟨rd_old h.1 k, fun i hi => by obtain ⟨A, c, h1, h2, h3⟩ := h.2 i hi; exact ⟨A, c, h1, h2, rd_old h3 k⟩⟩
theorem KysF.at_ {W : World} {ad : Addr} {n c : Nat} {vs : List Value} {ks : List KeyD} (h : KysF W (.slice (some ad) n c) vs ks) {i : Nat} (hi : i < ks.length) : ∃ A c, (∀ j u, ([strV ks[i].1, .slice A ks[i].2.length c] : List Value)[j]? = some u → W.cell? ((ad.add (i * 2)).add j) = some u) ∧ Rd W 1 (.slice A ks[i].2.length c) ks[i].2.length (bv ks[i].2) := by
  obtain ⟨A, c2, h1, h2, h3⟩ := h.2 i hi
  obtain ⟨-, A', c', he, -, -, -, hc⟩ := h.1
  cases he
  refine ⟨A, c2, fun j u hu => ?_, h3⟩
  rw [add_of_add]
  rcases j with _ | _ | j
  · cases hu; exact hc ad rfl _ _ h1
  · cases hu; exact hc ad rfl _ _ h2
  · cases hu
end Go.Proofs.YtapboamjpilckaaDoor
/- sign.Right: its loops. -/
namespace Go.Proofs.YtapboamjpilckaaDoor
open Go.RowKit
def dsRt3 : List Nat := [5, 14, 64, 65, 66, 67, 68, 69, 70, 71, 72, 73, 74, 75, 76, 77, 78]
set_option maxRecDepth 100000 in
set_option maxHeartbeats 2000000 in
/-- The third loop: the names whose number is above nought. -/
theorem srt_l4 {Q : Exit → Act → World → Prop} {a : Act} {w0 w : World} (gM m : Nat) (f : List UInt8 → Nat) (A : Option Addr) (c : Nat) (l : List SigD) (hok : SgOk l) (hll : l.length < 1000000) (L : List Res) (v0 : Value) (hsz : a.tmps.size = 80)
    (o5 : Sl a 5 v0) (o6 : Sl a 6 (.map (some gM))) (o62 : Sl a 62 (.slice A l.length c)) (o63 : Sl a 63 (.int .i64 ((l.length : Nat) : Int))) (o64 : Sl a 64 (.int .i64 ((0 : Nat) : Int))) (hv : Rd w0 33 (.slice A l.length c) l.length (sgsC l))
    (S : Held w0 w (rowR 9 1 v0 0 [] :: cntR gM m f :: L))
    (hend : ∀ (a' : Act) (W : World) (v : Value) (L2 : List Res), Same a a' dsRt3 → Sl a' 5 v → Held w0 W (rowR 9 1 v ((l.filter fun s => decide (0 < f s.1)).map (·.1)).length (((l.filter fun s => decide (0 < f s.1)).map (·.1)).map strV) :: L2) → Q .normal a' W) :
    (Code.block 4 (blockOf 4 Tryd.f27)).wp Tryd.prog Q a w := by
  refine wp_block ?_
  conv => arg 2; whnf
  refine wp_loop (fun a' w' => ∃ (k : Nat) (v : Value) (L2 : List Res), k ≤ l.length ∧ Same a a' dsRt3 ∧ Sl a' 64 (.int .i64 ((k : Nat) : Int)) ∧ Sl a' 5 v ∧ Held w0 w' (rowR 9 1 v (((l.take k).filter fun s => decide (0 < f s.1)).map (·.1)).length ((((l.take k).filter fun s => decide (0 < f s.1)).map (·.1)).map strV) :: cntR gM m f :: L2)) (fun a' _ => l.length - (intOf (a'.eval (.tmp 64))).toNat) ⟨0, v0, L, Nat.zero_le _, Same.refl _ _, o64, o5, S⟩ ?_
  clear o64 o5 S
  rintro a1 w1 ⟨k, v, L2, hk, T, o64, o5, S⟩
  have hz1 := T.size.trans hsz
  have o6 := T.keep 6 _ (by decide) o6
  have o62 := T.keep 62 _ (by decide) o62
  have o63 := T.keep 63 _ (by decide) o63
  have e64 := o64.eval (by rw [hz1]; decide)
  refine wp_seq (srt_r18 k l.length hz1 o63 o64 (fun a2 hs2 o65 => ?_))
  have hz2 := hs2.size.trans hz1
  have o5 := hs2.keep 5 _ (by decide) o5
  have o6 := hs2.keep 6 _ (by decide) o6
  have o62 := hs2.keep 62 _ (by decide) o62
  have o64 := hs2.keep 64 _ (by decide) o64
  have T := T.trans hs2
  by_cases hlt : k < l.length
  · refine wp_seq (wp_cond_true ((o65.eval (by rw [hz2]; decide)).trans (by rw [decide_eq_true hlt])) (wp_skip ?_))
    have hv1 := rd_old hv S.k
    obtain ⟨ad, rfl⟩ := sgs_addr hv1 (by omega)
    obtain ⟨s, hs⟩ : ∃ s, l[k]? = some s := ⟨_, List.getElem?_eq_getElem hlt⟩
    have hsk := hok s (List.mem_of_getElem? hs)
    obtain ⟨ns, hns, hnl, hnz, hnd⟩ := str_of s.1
    have htk : l.take (k + 1) = l.take k ++ [s] := by rw [List.take_add_one, hs]; rfl
    refine wp_seq (wp_block ?_)
    refine wp_seq (srt_r19 w0 ad k l.length c hlt s hsk.1 (sgs_at hv1 hok hs) _ S hz2 o62 o64 (fun a3 w3 hs3 h => ?_))
    obtain ⟨g, o14, S⟩ := h
    have hz3 := hs3.size.trans hz2
    have o5 := hs3.keep 5 _ (by decide) o5
    have o6 := hs3.keep 6 _ (by decide) o6
    have o64 := hs3.keep 64 _ (by decide) o64
    have T := T.trans hs3
    have S := S.perm (show List.Perm _ (cntR gM m f :: blkR g 81 (sgA s) :: rowR 9 1 v (((l.take k).filter fun s => decide (0 < f s.1)).map (·.1)).length ((((l.take k).filter fun s => decide (0 < f s.1)).map (·.1)).map strV) :: L2) from (List.perm_append_comm (l₁ := [_, _]) (l₂ := [_])).append_right L2)
    refine wp_seq (srt_r20 w0 gM g m f s ns hns.out (by rw [hnz]; unfold maxLen; omega) _ S hz3 o6 o14 (fun a4 hs4 o72 => ?_))
    have hz4 := hs4.size.trans hz3
    have o5 := hs4.keep 5 _ (by decide) o5
    have o14 := hs4.keep 14 _ (by decide) o14
    have o64 := hs4.keep 64 _ (by decide) o64
    have T := T.trans hs4
    rw [hnd.out] at o72
    have hlen : (((l.take k).filter fun s => decide (0 < f s.1)).map (·.1)).length ≤ k := by
      rw [List.length_map]
      exact Nat.le_trans (List.length_filter_le ..) (by rw [List.length_take]; omega)
    by_cases hp : 0 < f s.1
    · refine wp_cond_true ((o72.eval (by rw [hz4]; decide)).trans (by rw [decide_eq_true hp])) ?_
      have S := S.perm (show List.Perm _ (rowR 9 1 v (((l.take k).filter fun s => decide (0 < f s.1)).map (·.1)).length ((((l.take k).filter fun s => decide (0 < f s.1)).map (·.1)).map strV) :: blkR g 81 (sgA s) :: cntR gM m f :: L2) from (List.Perm.cons _ (List.Perm.swap _ _ _)).trans ((List.Perm.swap _ _ _).trans (List.Perm.cons _ (List.Perm.swap _ _ _))))
      refine srt_r21 w0 g _ (by omega) s ns hns.out v _ _ S hz4 o5 o14 (fun a5 w5 hs5 h => ?_)
      obtain ⟨v', o5, S⟩ := h
      have hz5 := hs5.size.trans hz4
      have o64 := hs5.keep 64 _ (by decide) o64
      have T := T.trans hs5
      simp only [Exit.inBlock, Exit.then]
      refine srt_r22 k (by omega) hz5 o64 (fun a6 hs6 o64' => ?_)
      have hz6 := hs6.size.trans hz5
      have o5 := hs6.keep 5 _ (by decide) o5
      have T := T.trans hs6
      have hf : (((l.take k).filter fun s => decide (0 < f s.1)).map (·.1)) ++ [s.1] = (((l.take (k + 1)).filter fun s => decide (0 < f s.1)).map (·.1)) := by
        rw [htk, List.filter_append, List.map_append]
        simp [hp]
      have S := S.perm (show List.Perm _ (rowR 9 1 v' ((((l.take k).filter fun s => decide (0 < f s.1)).map (·.1)).length + 1) (((((l.take k).filter fun s => decide (0 < f s.1)).map (·.1)).map strV) ++ [.string ns]) :: cntR gM m f :: blkR g 81 (sgA s) :: L2) from List.Perm.cons _ (List.Perm.swap _ _ _))
      have e1 : ((((l.take k).filter fun s => decide (0 < f s.1)).map (·.1)).map strV) ++ [.string ns] = (((l.take (k + 1)).filter fun s => decide (0 < f s.1)).map (·.1)).map strV := by rw [← hf, List.map_append, ← hns.out]; rfl
      have e2 : (((l.take k).filter fun s => decide (0 < f s.1)).map (·.1)).length + 1 = (((l.take (k + 1)).filter fun s => decide (0 < f s.1)).map (·.1)).length := by rw [← hf, List.length_append]; rfl
      rw [e1, e2] at S
      refine ⟨⟨k + 1, v', _, by omega, T.more (by decide +kernel), o64', o5, S⟩, ?_⟩
      show l.length - (intOf _).toNat < l.length - (intOf _).toNat
      rw [e64, o64'.eval (by rw [hz6]; decide)]
      simp only [intOf]; omega
    · refine wp_cond_false ((o72.eval (by rw [hz4]; decide)).trans (by rw [decide_eq_false hp])) (wp_skip ?_)
      simp only [Exit.inBlock, Exit.then]
      refine srt_r22 k (by omega) hz4 o64 (fun a6 hs6 o64' => ?_)
      have hz6 := hs6.size.trans hz4
      have o5 := hs6.keep 5 _ (by decide) o5
      have T := T.trans hs6
      have hf : (((l.take k).filter fun s => decide (0 < f s.1)).map (·.1)) = (((l.take (k + 1)).filter fun s => decide (0 < f s.1)).map (·.1)) := by
        rw [htk, List.filter_append, List.map_append]
        simp [hp]
      have S := S.perm (show List.Perm _ (rowR 9 1 v (((l.take k).filter fun s => decide (0 < f s.1)).map (·.1)).length ((((l.take k).filter fun s => decide (0 < f s.1)).map (·.1)).map strV) :: cntR gM m f :: blkR g 81 (sgA s) :: L2) from (List.perm_append_comm (l₁ := [_, _]) (l₂ := [_])).append_right L2)
      rw [hf] at S
      refine ⟨⟨k + 1, v, _, by omega, T.more (by decide +kernel), o64', o5, S⟩, ?_⟩
      show l.length - (intOf _).toNat < l.length - (intOf _).toNat
      rw [e64, o64'.eval (by rw [hz6]; decide)]
      simp only [intOf]; omega
  · refine wp_seq (wp_cond_false ((o65.eval (by rw [hz2]; decide)).trans (by rw [decide_eq_false hlt])) (wp_exit ?_))
    obtain rfl : k = l.length := by omega
    rw [List.take_length] at S
    exact hend _ _ v _ (T.more (by decide +kernel)) o5 S
end Go.Proofs.YtapboamjpilckaaDoor
/- sign.Right: its ordered region with guards. -/
namespace Go.Proofs.YtapboamjpilckaaDoor
open Go.RowKit
theorem wpList_skipG {P : Program} {ops : Array Oper} {rest : List Oper} {o : Oper} {a : Act} {w : World} {Q : Exit → Act → World → Prop} (j d : Nat) (b : Bool) (hg : o.guard = some (j, b)) (hj : (ops[j]?).bind (·.dst) = some d) (hd : a.tmps[d]?.getD undef = .bool (!b)) (h : wpList P ops Q rest (a.put o.dst undef) w) : wpList P ops Q (o :: rest) a w :=
  wpList_step fun K hK => by
    rw [if_neg (by cases b <;> simp [Region.wanted, hg, yielded_of hj hd])]
    exact hK _ _ h
set_option maxRecDepth 100000 in
set_option maxHeartbeats 400000 in
theorem srt_r13N {Q : Exit → Act → World → Prop} {a : Act} {w : World} (se : Int) (hse : (se == 0) = false) (hsz : a.tmps.size = 80) (o12 : Sl a 12 (.int .i64 se))
    (hend : ∀ (a' : Act), Same a a' [46, 47, 48, 49, 50, 51, 52, 53] → Sl a' 53 (.bool false) → Q .normal a' w) : (Code.region 13 (opsOf 13 Tryd.f27).toArray false).wp Tryd.prog Q a w := by
  refine wp_region_lit (l := (opsOf 13 Tryd.f27)) ?_
  have hj : (((opsOf 13 Tryd.f27).toArray)[2]?).bind (·.dst) = some 48 := by kernel_rfl
  generalize (opsOf 13 Tryd.f27).toArray = OPS at *
  conv => arg 4; whnf
  unfold Sl at o12
  go_wp2_with (refine wpList_skipG 2 48 true rfl hj (by simp [Act.put, hsz]) ?_)
  try simp only [Act.put]
  exact hend _ (by repeat (first | (with_reducible refine same_set (by decide) ?_) | (with_reducible exact same_nil))) (by unfold Sl; first | (simp [hsz]; done) | (simp [hsz]; omega))
set_option maxRecDepth 100000 in
set_option maxHeartbeats 400000 in
theorem srt_r13Y {Q : Exit → Act → World → Prop} {a : Act} {w : World} (w0 : World) (gS gs : Nat) (sv : List UInt8) (hsv : sv.length = 32) (s : SigD) (hs : s.2.length = 32) (L : List Res) (S : Held w0 w (blkR gS 25 (hashA sv) :: blkR gs 81 (sgA s) :: L)) (hsz : a.tmps.size = 80) (o12 : Sl a 12 (.int .i64 0)) (o11 : Sl a 11 (.pointer (some ⟨gS, 0, none⟩))) (o10 : Sl a 10 (.pointer (some ⟨gs, 0, none⟩)))
    (hend : ∀ (a' : Act) (W : World), Same a a' [46, 47, 48, 49, 50, 51, 52, 53] → Sl a' 53 (.bool (sv == s.2)) → Held w0 W (blkR gS 25 (hashA sv) :: blkR gs 81 (sgA s) :: L) → Q .normal a' W) : (Code.region 13 (opsOf 13 Tryd.f27).toArray false).wp Tryd.prog Q a w := by
  refine wp_region_lit (l := (opsOf 13 Tryd.f27)) ?_
  have hj : (((opsOf 13 Tryd.f27).toArray)[2]?).bind (·.dst) = some 48 := by kernel_rfl
  generalize (opsOf 13 Tryd.f27).toArray = OPS at *
  conv => arg 4; whnf
  unfold Sl at o12 o11 o10
  have S := Lib.hid S
  have HE := Lib.hid (fun V => sgeq_any sv s.2 hsv hs V)
  have hz1 : Hid ((hashA sv).size = 32) := Lib.hid (by rw [hashA_size, hsv])
  have hz2 : Hid ((hashA s.2).size = 32) := Lib.hid (by rw [hashA_size, hs])
  have HC := Lib.hid (sig_sum (S.out.at_ (l1 := [_])))
  generalize hashA sv = ca at *
  generalize hashA s.2 = cb at *
  generalize sgA s = cs at *
  go_wp2_with (first
    | (refine wpList_load_blkG 2 48 true rfl hj (by simp [Act.eval, Act.put, hsz]) 25 (.tmp 11) rfl gS (by simp [Act.eval, Act.put, hsz, o11]) 25 _ (S.out.at_ (l1 := [])) _ Tryd.underlying25 rfl (by rw [hz1.out]; exact Tryd.infoHashP) ?_)
    | (refine wpList_load_aggG 2 48 true rfl hj (by simp [Act.eval, Act.put, hsz]) 25 (.tmp 50) rfl ⟨gs, 1, none⟩ (by simp [Act.eval, Act.put, hsz]) cb.toList _ HC.out Tryd.underlying25 rfl (by rw [Array.length_toList, hz2.out]; exact Tryd.infoHashP) ?_)
    | (refine wpList_met 2 48 true rfl hj (by simp [Act.put, hsz]) ?_; intro K hK))
  refine (HE.out _).mono ?_
  rintro e w1 ⟨rfl, k1⟩
  have S1 := Lib.hid (S.out.kp k1)
  clear k1
  refine hK _ _ ?_
  go_wp2_with fail
  try simp only [Act.put]
  exact hend _ _ (by repeat (first | (with_reducible refine same_set (by decide) ?_) | (with_reducible exact same_nil))) (by unfold Sl; first | (simp [hsz]; done) | (simp [hsz]; omega)) S1.out
end Go.Proofs.YtapboamjpilckaaDoor
/- Held lists: pull things to the front by number. -/
namespace Go.Proofs.YtapboamjpilckaaDoor
theorem Held.pull {w0 w : World} {L : List Res} (S : Held w0 w L) (i : Nat) {r : Res} (h : L[i]? = some r) : Held w0 w (r :: L.eraseIdx i) := by
  refine S.perm ?_
  clear S
  induction L generalizing i with
  | nil => simp at h
  | cons x L ih =>
    rcases i with _ | i
    · simp at h; subst h; exact List.Perm.refl _
    · exact ((ih i (by simpa using h)).cons x).trans (List.Perm.swap _ _ _)
theorem Held.back {w0 w1 w : World} {L : List Res} (k : Kp [] w0 w1) (h : Held w1 w L) : Held w0 w L :=
  ⟨k.trans h.k (by simp), h.ok, fun r hr b hb => Nat.le_trans k.size (h.base r hr b hb), h.apart⟩
/-- Some of what is held. -/
theorem Held.some_of {w0 w : World} {L L' : List Res} (S : Held w0 w L) (h : L'.Sublist L) : Held w0 w L' :=
  ⟨S.k, fun r hr => S.ok r (h.subset hr), fun r hr => S.base r (h.subset hr), List.Pairwise.sublist h S.apart⟩
end Go.Proofs.YtapboamjpilckaaDoor
/- sign.Right: its inner loop. -/
namespace Go.Proofs.YtapboamjpilckaaDoor
open Go.RowKit
def dsRt2 : List Nat := [10, 11, 12, 30, 31, 32, 33, 34, 35, 36, 37, 38, 39, 40, 41, 42, 43, 44, 45, 46, 47, 48, 49, 50, 51, 52, 53, 54, 55, 56, 57, 58, 59]
/-- The numbers, when so many signatures were looked at for one key. -/
def stepF (base : List UInt8 → Nat) (z : Int) (h : List UInt8) (k : KeyD) (l : List SigD) : List UInt8 → Nat := fun t => base t + if t = k.1 then cntOne z h k l else 0
theorem stepF_nil (base : List UInt8 → Nat) (z : Int) (h : List UInt8) (k : KeyD) : stepF base z h k [] = base := by
  funext t; unfold stepF cntOne; simp
theorem stepF_no {base : List UInt8 → Nat} {z : Int} {h : List UInt8} {k : KeyD} {l : List SigD} {s : SigD} (hm : matchS z h k s = false) : stepF base z h k (l ++ [s]) = stepF base z h k l := by
  funext t; unfold stepF; rw [cntOne_snoc, hm]; simp
theorem stepF_yes {base : List UInt8 → Nat} {z : Int} {h : List UInt8} {k : KeyD} {l : List SigD} {s : SigD} (hm : matchS z h k s = true) : (fun t => if t = k.1 then stepF base z h k l k.1 + 1 else stepF base z h k l t) = stepF base z h k (l ++ [s]) := by
  funext t; unfold stepF; rw [cntOne_snoc, hm]
  by_cases e : t = k.1
  · subst e; simp; omega
  · simp [e]
def dsRt3b : List Nat := [10, 11, 12, 32, 33, 34, 35, 36, 37, 38, 39, 40, 41, 42, 43, 44, 45, 46, 47, 48, 49, 50, 51, 52, 53, 54, 55, 56, 57, 58]
def upF (f : List UInt8 → Nat) (m : Bool) (n : List UInt8) : List UInt8 → Nat := if m then (fun t => if t = n then f n + 1 else f t) else f
theorem match_no {z : Int} {h : List UInt8} {k : KeyD} {s : SigD} (e : (s.1 == k.1) = false) : matchS z h k s = false := by unfold matchS; rw [e, Bool.false_and]
theorem match_bad {z : Int} {h : List UInt8} {k : KeyD} {s : SigD} (e : sumOk z k.1 k.2 = false) : matchS z h k s = false := by unfold matchS; rw [e, Bool.false_and, Bool.and_false]
theorem match_is {z : Int} {h : List UInt8} {k : KeyD} {s : SigD} (e : (s.1 == k.1) = true) (o : sumOk z k.1 k.2 = true) : matchS z h k s = (sumV z h k.1 k.2 == s.2) := by unfold matchS; rw [e, o, Bool.true_and, Bool.true_and]
set_option maxRecDepth 100000 in
set_option maxHeartbeats 4000000 in
/-- One signature against one key. -/
theorem srt_b3 {Q : Exit → Act → World → Prop} {a : Act} {w0 w : World} (gM gN gK m : Nat) (hm : m < maxLen) (f : List UInt8 → Nat) (z : Int) (hz : -9223372036854775808 ≤ z ∧ z ≤ 9223372036854775807) (h : List UInt8) (hh : h.length = 32) (v0 : Value) (ad : Addr) (n c : Nat) (j : Nat) (hlt : j < n) (s : SigD) (hsk : s.2.length = 32) (hc : ∀ V, Kp [] w0 V → ∀ i u, (sgL s)[i]? = some u → V.cell? ((ad.add (j * 33)).add i) = some u) (k : KeyD) (hf : f k.1 < 4611686018427387904) (nm : ByteArray) (hnl : nm.toList = k.1) (hnd : nm.data.toList = k.1) (hnz : nm.size ≤ maxLen) (Ak : Option Addr) (ck : Nat) (LDw : LD w0) (L : List Res)
    (hsz : a.tmps.size = 80) (o2 : Sl a 2 (.pointer (some ⟨gN, 0, none⟩))) (o6 : Sl a 6 (.map (some gM))) (o8 : Sl a 8 (.pointer (some ⟨gK, 0, none⟩))) (o28 : Sl a 28 (.slice (some ad) n c)) (o30 : Sl a 30 (.int .i64 ((j : Nat) : Int))) (hkr : Rd w0 1 (.slice Ak k.2.length ck) k.2.length (bv k.2))
    (S : Held w0 w (cntR gM m f :: blkR gN 36 (ntA z h v0) :: blkR gK 42 #[.string nm, .slice Ak k.2.length ck] :: L))
    (hend : ∀ (e : Exit) (a' : Act) (W : World) (m2 : Nat), (e = .normal ∨ e = .exit 3) → Same a a' dsRt3b → m2 ≤ m + 1 → Held w0 W (cntR gM m2 (upF f (matchS z h k s) k.1) :: blkR gN 36 (ntA z h v0) :: blkR gK 42 #[.string nm, .slice Ak k.2.length ck] :: L) → Q e a' W) :
    (blockOf 3 Tryd.f27).wp Tryd.prog Q a w := by
  conv => arg 2; whnf
  obtain ⟨ns, hns, hnsl, hnsz, hnsd⟩ := str_of s.1
  refine wp_seq (srt_r10 w0 ad j n c hlt s hsk (hc _ S.k) _ S hsz o28 o30 (fun a3 w3 hs3 h3 => ?_))
  obtain ⟨g, o10, S⟩ := h3
  have hz3 := hs3.size.trans hsz
  have o2 := hs3.keep 2 _ (by decide) o2
  have o6 := hs3.keep 6 _ (by decide) o6
  have o8 := hs3.keep 8 _ (by decide) o8
  have T := hs3
  have S := S.perm (show List.Perm _ (blkR g 81 (sgA s) :: blkR gK 42 #[.string nm, .slice Ak k.2.length ck] :: cntR gM m f :: blkR gN 36 (ntA z h v0) :: L) from List.Perm.cons _ ((List.perm_append_comm (l₁ := [_, _]) (l₂ := [_])).append_right L))
  refine wp_seq (wp_seq (srt_r11 w0 g gK s ns nm _ hns.out (!(s.1 == k.1)) (by rw [hnsl.out, hnl]) _ S hz3 o8 o10 (fun a4 hs4 o38 => ?_)))
  have hz4 := hs4.size.trans hz3
  have o2 := hs4.keep 2 _ (by decide) o2
  have o6 := hs4.keep 6 _ (by decide) o6
  have o8 := hs4.keep 8 _ (by decide) o8
  have o10 := hs4.keep 10 _ (by decide) o10
  have T := T.trans hs4
  cases hn : (s.1 == k.1)
  · refine wp_cond_true ((o38.eval (by rw [hz4]; decide)).trans (by rw [hn]; rfl)) (wp_exit ?_)
    have S := S.perm (show List.Perm _ (cntR gM m f :: blkR gN 36 (ntA z h v0) :: blkR gK 42 #[.string nm, .slice Ak k.2.length ck] :: blkR g 81 (sgA s) :: L) from ((List.perm_append_comm (l₁ := [_, _]) (l₂ := [_, _])).trans ((List.Perm.cons _ (List.Perm.cons _ (List.Perm.swap _ _ _))))).append_right L)
    have e : upF f (matchS z h k s) k.1 = f := by rw [match_no hn]; rfl
    rw [← e] at S
    exact hend _ _ _ m (.inr rfl) (T.more (by decide +kernel)) (by omega) (S.some_of (List.Sublist.append_left (List.sublist_append_right [_] _) [_, _, _]))
  · refine wp_cond_false ((o38.eval (by rw [hz4]; decide)).trans (by rw [hn]; rfl)) (wp_skip ?_)
    have S := S.perm (show List.Perm _ (blkR gN 36 (ntA z h v0) :: blkR gK 42 #[.string nm, .slice Ak k.2.length ck] :: blkR g 81 (sgA s) :: cntR gM m f :: L) from ((List.perm_append_comm (l₁ := [_, _, _]) (l₂ := [_])).trans (List.Perm.cons _ (List.Perm.swap _ _ _))).append_right L)
    obtain ⟨se, hse⟩ : ∃ se : Int, se = if sumOk z nm.data.toList k.2 then 0 else 2 := ⟨_, rfl⟩
    refine wp_seq (srt_r12 w0 gN gK z h hh _ _ _ (sumV z h nm.data.toList k.2) (sumV_length ..) se _ S (fun V SV => hse ▸ ssm_any z hz h hh nm (by unfold maxLen at hnz; omega) Ak ck k.2 V (LDw.kp SV.k) (rd_old hkr SV.k)) hz4 o2 o8 (fun a5 w5 hs5 o12 h5 => ?_))
    obtain ⟨gS, o11, S⟩ := h5
    have hz5 := hs5.size.trans hz4
    have o6 := hs5.keep 6 _ (by decide) o6
    have o8 := hs5.keep 8 _ (by decide) o8
    have o10 := hs5.keep 10 _ (by decide) o10
    have T := T.trans hs5
    rw [hnd] at S hse
    have S := S.perm (show List.Perm _ (blkR gS 25 (hashA (sumV z h k.1 k.2)) :: blkR g 81 (sgA s) :: cntR gM m f :: blkR gN 36 (ntA z h v0) :: blkR gK 42 #[.string nm, .slice Ak k.2.length ck] :: L) from List.Perm.cons _ ((List.perm_append_comm (l₁ := [_, _]) (l₂ := [_, _])).append_right L))
    cases ho : sumOk z k.1 k.2
    · rw [ho] at hse
      refine wp_seq (srt_r13N se (by rw [hse]; rfl) hz5 o12 (fun a6 hs6 o53 => ?_))
      have hz6 := hs6.size.trans hz5
      have T := T.trans hs6
      refine wp_cond_false ((o53.eval (by rw [hz6]; decide)).trans rfl) (wp_skip ?_)
      have S := S.perm (show List.Perm _ (cntR gM m f :: blkR gN 36 (ntA z h v0) :: blkR gK 42 #[.string nm, .slice Ak k.2.length ck] :: blkR gS 25 (hashA (sumV z h k.1 k.2)) :: blkR g 81 (sgA s) :: L) from (List.perm_append_comm (l₁ := [_, _]) (l₂ := [_, _, _])).append_right L)
      have e : upF f (matchS z h k s) k.1 = f := by rw [match_bad ho]; rfl
      rw [← e] at S
      exact hend _ _ _ m (.inl rfl) (T.more (by decide +kernel)) (by omega) (S.some_of (List.Sublist.append_left (List.sublist_append_right [_, _] _) [_, _, _]))
    · rw [ho] at hse
      obtain rfl : se = 0 := hse
      refine wp_seq (srt_r13Y w0 gS g _ (sumV_length ..) s hsk _ S hz5 o12 o11 o10 (fun a6 w6 hs6 o53 S => ?_))
      have hz6 := hs6.size.trans hz5
      have o6 := hs6.keep 6 _ (by decide) o6
      have o8 := hs6.keep 8 _ (by decide) o8
      have T := T.trans hs6
      cases hv : (sumV z h k.1 k.2 == s.2)
      · refine wp_cond_false ((o53.eval (by rw [hz6]; decide)).trans (by rw [hv])) (wp_skip ?_)
        have S := S.perm (show List.Perm _ (cntR gM m f :: blkR gN 36 (ntA z h v0) :: blkR gK 42 #[.string nm, .slice Ak k.2.length ck] :: blkR gS 25 (hashA (sumV z h k.1 k.2)) :: blkR g 81 (sgA s) :: L) from (List.perm_append_comm (l₁ := [_, _]) (l₂ := [_, _, _])).append_right L)
        have e : upF f (matchS z h k s) k.1 = f := by rw [match_is hn ho, hv]; rfl
        rw [← e] at S
        exact hend _ _ _ m (.inl rfl) (T.more (by decide +kernel)) (by omega) (S.some_of (List.Sublist.append_left (List.sublist_append_right [_, _] _) [_, _, _]))
      · refine wp_cond_true ((o53.eval (by rw [hz6]; decide)).trans (by rw [hv])) ?_
        have S := S.perm (show List.Perm _ (cntR gM m f :: blkR gK 42 #[.string nm, .slice Ak k.2.length ck] :: blkR gN 36 (ntA z h v0) :: blkR gS 25 (hashA (sumV z h k.1 k.2)) :: blkR g 81 (sgA s) :: L) from ((List.perm_append_comm (l₁ := [_, _]) (l₂ := [_, _, _])).trans (List.Perm.cons _ (List.Perm.swap _ _ _))).append_right L)
        refine srt_r14 w0 gM gK m hm f nm hnz _ (by rw [hnd]; exact hf) _ S hz6 o6 o8 (fun a7 w7 hs7 S => ?_)
        have T := T.trans hs7
        rw [hnd] at S
        have S := S.perm (show List.Perm _ (cntR gM (m + 1) (fun t => if t = k.1 then f k.1 + 1 else f t) :: blkR gN 36 (ntA z h v0) :: blkR gK 42 #[.string nm, .slice Ak k.2.length ck] :: blkR gS 25 (hashA (sumV z h k.1 k.2)) :: blkR g 81 (sgA s) :: L) from List.Perm.cons _ (List.Perm.swap _ _ _))
        have e : upF f (matchS z h k s) k.1 = (fun t => if t = k.1 then f k.1 + 1 else f t) := by rw [match_is hn ho, hv]; rfl
        rw [← e] at S
        exact hend _ _ _ (m + 1) (.inl rfl) (T.more (by decide +kernel)) (by omega) (S.some_of (List.Sublist.append_left (List.sublist_append_right [_, _] _) [_, _, _]))
set_option maxRecDepth 100000 in
set_option maxHeartbeats 4000000 in
theorem srt_l2 {Q : Exit → Act → World → Prop} {a : Act} {w0 w : World} (gM gN gK m0 : Nat) (base : List UInt8 → Nat) (hbs : ∀ t, base t < 2305843009213693952) (hm0 : m0 < 4611686018427387904) (z : Int) (hz : -9223372036854775808 ≤ z ∧ z ≤ 9223372036854775807) (h : List UInt8) (hh : h.length = 32) (A : Option Addr) (c : Nat) (l : List SigD) (hok : SgOk l) (hll : l.length < 1000000) (k : KeyD) (nm : ByteArray) (hnl : nm.toList = k.1) (hnd : nm.data.toList = k.1) (hnz : nm.size ≤ maxLen) (Ak : Option Addr) (ck : Nat) (LDw : LD w0) (L : List Res)
    (hsz : a.tmps.size = 80) (o2 : Sl a 2 (.pointer (some ⟨gN, 0, none⟩))) (o6 : Sl a 6 (.map (some gM))) (o8 : Sl a 8 (.pointer (some ⟨gK, 0, none⟩))) (o28 : Sl a 28 (.slice A l.length c)) (o29 : Sl a 29 (.int .i64 ((l.length : Nat) : Int))) (o30 : Sl a 30 (.int .i64 ((0 : Nat) : Int))) (hv : Rd w0 33 (.slice A l.length c) l.length (sgsC l)) (hkr : Rd w0 1 (.slice Ak k.2.length ck) k.2.length (bv k.2))
    (S : Held w0 w (cntR gM m0 base :: blkR gN 36 (ntA z h (.slice A l.length c)) :: blkR gK 42 #[.string nm, .slice Ak k.2.length ck] :: L))
    (hend : ∀ (a' : Act) (W : World) (m : Nat), Same a a' dsRt2 → m ≤ m0 + l.length → Held w0 W (cntR gM m (stepF base z h k l) :: blkR gN 36 (ntA z h (.slice A l.length c)) :: blkR gK 42 #[.string nm, .slice Ak k.2.length ck] :: L) → Q (.exit 2) a' W) :
    (blockOf 2 Tryd.f27).wp Tryd.prog Q a w := by
  conv => arg 2; whnf
  refine wp_loop (fun a' w' => ∃ (j m : Nat), j ≤ l.length ∧ m ≤ m0 + j ∧ Same a a' dsRt2 ∧ Sl a' 30 (.int .i64 ((j : Nat) : Int)) ∧ Held w0 w' (cntR gM m (stepF base z h k (l.take j)) :: blkR gN 36 (ntA z h (.slice A l.length c)) :: blkR gK 42 #[.string nm, .slice Ak k.2.length ck] :: L)) (fun a' _ => l.length - (intOf (a'.eval (.tmp 30))).toNat) ⟨0, m0, Nat.zero_le _, Nat.le_refl _, Same.refl _ _, o30, by rw [List.take_zero, stepF_nil]; exact S⟩ ?_
  clear o30 S
  rintro a1 w1 ⟨j, m, hj, hmj, T, o30, S⟩
  have hz1 := T.size.trans hsz
  have o2 := T.keep 2 _ (by decide) o2
  have o6 := T.keep 6 _ (by decide) o6
  have o8 := T.keep 8 _ (by decide) o8
  have o28 := T.keep 28 _ (by decide) o28
  have o29 := T.keep 29 _ (by decide) o29
  have e30 := o30.eval (by rw [hz1]; decide)
  refine wp_seq (srt_r9 j l.length hz1 o29 o30 (fun a2 hs2 o31 => ?_))
  have hz2 := hs2.size.trans hz1
  have o2 := hs2.keep 2 _ (by decide) o2
  have o6 := hs2.keep 6 _ (by decide) o6
  have o8 := hs2.keep 8 _ (by decide) o8
  have o28 := hs2.keep 28 _ (by decide) o28
  have o30 := hs2.keep 30 _ (by decide) o30
  have T := T.trans hs2
  by_cases hlt : j < l.length
  · refine wp_seq (wp_cond_true ((o31.eval (by rw [hz2]; decide)).trans (by rw [decide_eq_true hlt])) (wp_skip ?_))
    have hv1 := rd_old hv S.k
    obtain ⟨ad, rfl⟩ := sgs_addr hv1 (by omega)
    obtain ⟨s, hs⟩ : ∃ s, l[j]? = some s := ⟨_, List.getElem?_eq_getElem hlt⟩
    have hsk := hok s (List.mem_of_getElem? hs)
    have htk : l.take (j + 1) = l.take j ++ [s] := by rw [List.take_add_one, hs]; rfl
    refine wp_seq (wp_block (srt_b3 gM gN gK m (by unfold maxLen; omega) _ z hz h hh _ ad l.length c j hlt s hsk.1 (fun V kV => sgs_at (rd_old hv kV) hok hs) k ?_ nm hnl hnd hnz Ak ck LDw _ hz2 o2 o6 o8 o28 o30 hkr S (fun e a3 w3 m3 he hs3 hm3 S => ?_)))
    · have := cntOne_le z h k (l.take j)
      have := hbs k.1
      unfold stepF
      rw [if_pos rfl]
      rw [List.length_take] at *
      omega
    have hz3 := hs3.size.trans hz2
    have o30 := hs3.keep 30 _ (by decide) o30
    have T := T.trans hs3
    have S2 : Held w0 w3 (cntR gM m3 (stepF base z h k (l.take (j + 1))) :: blkR gN 36 (ntA z h (.slice (some ad) l.length c)) :: blkR gK 42 #[.string nm, .slice Ak k.2.length ck] :: L) := by
      rw [htk]
      cases hm : matchS z h k s
      · rw [hm] at S
        rw [stepF_no hm]
        exact S
      · rw [hm] at S
        rw [← stepF_yes hm]
        exact S
    have hR : (Code.region 15 (opsOf 15 Tryd.f27).toArray false).wp Tryd.prog (Exit.then (fun a' w' => (∃ (j m : Nat), j ≤ l.length ∧ m ≤ m0 + j ∧ Same a a' dsRt2 ∧ Sl a' 30 (.int .i64 ((j : Nat) : Int)) ∧ Held w0 w' (cntR gM m (stepF base z h k (l.take j)) :: blkR gN 36 (ntA z h (.slice (some ad) l.length c)) :: blkR gK 42 #[.string nm, .slice Ak k.2.length ck] :: L)) ∧ l.length - (intOf (a'.eval (.tmp 30))).toNat < l.length - (intOf (a1.eval (.tmp 30))).toNat) Q) a3 w3 := by
      refine srt_r15 j (by omega) hz3 o30 (fun a6 hs6 o30' => ?_)
      have hz6 := hs6.size.trans hz3
      have T := T.trans hs6
      refine ⟨⟨j + 1, m3, by omega, by omega, T.more (by decide +kernel), o30', S2⟩, ?_⟩
      rw [e30, o30'.eval (by rw [hz6]; decide)]
      simp only [intOf]; omega
    rcases he with rfl | rfl
    · exact hR
    · exact hR
  · refine wp_seq (wp_cond_false ((o31.eval (by rw [hz2]; decide)).trans (by rw [decide_eq_false hlt])) (wp_exit ?_))
    obtain rfl : j = l.length := by omega
    rw [List.take_length] at S
    exact hend _ _ m (T.more (by decide +kernel)) hmj S
end Go.Proofs.YtapboamjpilckaaDoor
/- sign.Right, whole. -/
namespace Go.Proofs.YtapboamjpilckaaDoor
open Go.RowKit
def dsRt0 : List Nat := [8, 10, 11, 12, 24, 25, 26, 27, 28, 29, 30, 31, 32, 33, 34, 35, 36, 37, 38, 39, 40, 41, 42, 43, 44, 45, 46, 47, 48, 49, 50, 51, 52, 53, 54, 55, 56, 57, 58, 59, 60, 23]
theorem stepF_all (z : Int) (h : List UInt8) (ks : List KeyD) (k : KeyD) (l : List SigD) : stepF (cntAll z h ks l) z h k l = cntAll z h (ks ++ [k]) l := by
  funext t; unfold stepF; rw [cntAll_snoc]
theorem kys_addr {W : World} {A : Option Addr} {c : Nat} {vs : List Value} {ks : List KeyD} (h : KysF W (.slice A ks.length c) vs ks) (hn : 0 < ks.length) : ∃ ad, A = some ad := by
  cases A with
  | some ad => exact ⟨ad, rfl⟩
  | none =>
    obtain ⟨hvl, A', c', he, -, -, hnil, -⟩ := h.1
    cases he
    obtain ⟨-, -, e1, -⟩ := h.2 0 hn
    have := hnil rfl
    omega
theorem cntAll_nil (z : Int) (h : List UInt8) (l : List SigD) : cntAll z h [] l = fun _ => 0 := by funext t; rfl
def rightA (z : Int) (h : List UInt8) (l : List SigD) (ks : List KeyD) : List (List UInt8) := if mayN z l then rightN z h l ks else []
theorem rightN_is {z : Int} {h : List UInt8} {l : List SigD} {ks : List KeyD} (hr : rising [] l = true) : ((l.filter fun s => decide (0 < cntAll z h ks l s.1)).map (·.1)) = rightN z h l ks := by
  unfold rightN
  congr 1
  exact List.filter_congr fun s hs => cnt_pos hr hs ks
theorem KysF.at2 {w0 : World} {ad : Addr} {n c : Nat} {vs : List Value} {ks : List KeyD} (h : KysF w0 (.slice (some ad) n c) vs ks) {i : Nat} {k : KeyD} (hk : ks[i]? = some k) : ∃ A c, (∀ W, Kp [] w0 W → ∀ j u, ([strV k.1, .slice A k.2.length c] : List Value)[j]? = some u → W.cell? ((ad.add (i * 2)).add j) = some u) ∧ Rd w0 1 (.slice A k.2.length c) k.2.length (bv k.2) := by
  obtain ⟨hi, rfl⟩ := List.getElem?_eq_some_iff.1 hk
  obtain ⟨A, c2, h1, h2, h3⟩ := h.2 i hi
  refine ⟨A, c2, fun W kW j u hu => ?_, h3⟩
  obtain ⟨-, A', c', he, -, -, -, hc⟩ := (h.kp0 kW).1
  cases he
  rw [add_of_add]
  rcases j with _ | _ | j
  · cases hu; exact hc ad rfl _ _ h1
  · cases hu; exact hc ad rfl _ _ h2
  · cases hu
set_option maxRecDepth 100000 in
set_option maxHeartbeats 4000000 in
/-- The loop over the keys. -/
theorem srt_l0 {Q : Exit → Act → World → Prop} {a : Act} {w0 w : World} (gM gN : Nat) (z : Int) (hz : -9223372036854775808 ≤ z ∧ z ≤ 9223372036854775807) (h : List UInt8) (hh : h.length = 32) (A : Option Addr) (c : Nat) (l : List SigD) (hok : SgOk l) (hll : l.length ≤ 64) (Ak : Option Addr) (ck : Nat) (ks : List KeyD) (hks : ks.length ≤ 35184372088832) (hnm : ∀ k, k ∈ ks → k.1.length ≤ maxLen) (vs : List Value) (LDw : LD w0) (L : List Res)
    (hsz : a.tmps.size = 80) (o2 : Sl a 2 (.pointer (some ⟨gN, 0, none⟩))) (o6 : Sl a 6 (.map (some gM))) (o21 : Sl a 21 (.slice Ak ks.length ck)) (o22 : Sl a 22 (.int .i64 ((ks.length : Nat) : Int))) (o23 : Sl a 23 (.int .i64 ((0 : Nat) : Int))) (hv : Rd w0 33 (.slice A l.length c) l.length (sgsC l)) (hkv : KysF w0 (.slice Ak ks.length ck) vs ks)
    (S : Held w0 w (cntR gM 0 (fun _ => 0) :: blkR gN 36 (ntA z h (.slice A l.length c)) :: L))
    (hend : ∀ (a' : Act) (W : World) (m : Nat), Same a a' dsRt0 → Held w0 W (cntR gM m (cntAll z h ks l) :: blkR gN 36 (ntA z h (.slice A l.length c)) :: L) → Q .normal a' W) :
    (Code.block 0 (blockOf 0 Tryd.f27)).wp Tryd.prog Q a w := by
  refine wp_block ?_
  conv => arg 2; whnf
  refine wp_loop (fun a' w' => ∃ (j m : Nat), j ≤ ks.length ∧ m ≤ j * 64 ∧ Same a a' dsRt0 ∧ Sl a' 23 (.int .i64 ((j : Nat) : Int)) ∧ Held w0 w' (cntR gM m (cntAll z h (ks.take j) l) :: blkR gN 36 (ntA z h (.slice A l.length c)) :: L)) (fun a' _ => ks.length - (intOf (a'.eval (.tmp 23))).toNat) ⟨0, 0, Nat.zero_le _, Nat.le_refl _, Same.refl _ _, o23, by rw [List.take_zero, cntAll_nil]; exact S⟩ ?_
  clear o23 S
  rintro a1 w1 ⟨j, m, hj, hmj, T, o23, S⟩
  have hz1 := T.size.trans hsz
  have o2 := T.keep 2 _ (by decide) o2
  have o6 := T.keep 6 _ (by decide) o6
  have o21 := T.keep 21 _ (by decide) o21
  have o22 := T.keep 22 _ (by decide) o22
  have e23 := o23.eval (by rw [hz1]; decide)
  refine wp_seq (srt_r6 j ks.length hz1 o22 o23 (fun a2 hs2 o24 => ?_))
  have hz2 := hs2.size.trans hz1
  have o2 := hs2.keep 2 _ (by decide) o2
  have o6 := hs2.keep 6 _ (by decide) o6
  have o21 := hs2.keep 21 _ (by decide) o21
  have o23 := hs2.keep 23 _ (by decide) o23
  have T := T.trans hs2
  by_cases hlt : j < ks.length
  · refine wp_seq (wp_cond_true ((o24.eval (by rw [hz2]; decide)).trans (by rw [decide_eq_true hlt])) (wp_skip ?_))
    obtain ⟨adk, rfl⟩ := kys_addr hkv (by omega)
    obtain ⟨k, hk⟩ : ∃ k, ks[j]? = some k := ⟨_, List.getElem?_eq_getElem hlt⟩
    have htk : ks.take (j + 1) = ks.take j ++ [k] := by rw [List.take_add_one, hk]; rfl
    obtain ⟨Ak2, ck2, hc0, hkr⟩ := hkv.at2 hk
    have hc := hc0 _ S.k
    obtain ⟨nm, hnv, hnl, hnz, hnd⟩ := str_of k.1
    rw [hnv.out] at hc
    refine wp_seq (wp_block ?_)
    refine wp_seq (srt_r7 w0 adk j ks.length ck hlt nm _ ⟨_, _, _, rfl⟩ hc _ S hz2 o21 o23 (fun a3 w3 hs3 h3 => ?_))
    have hz3 := hs3.size.trans hz2
    have o2 := hs3.keep 2 _ (by decide) o2
    have o6 := hs3.keep 6 _ (by decide) o6
    have o21 := hs3.keep 21 _ (by decide) o21
    have o23 := hs3.keep 23 _ (by decide) o23
    have o24 := hs3.keep 24 _ (by decide) o24
    have T := T.trans hs3
    obtain ⟨gK, o8, S⟩ := h3
    have S : Held w0 w3 (blkR gN 36 (ntA z h (.slice A l.length c)) :: cntR gM m (cntAll z h (ks.take j) l) :: blkR gK 42 #[.string nm, .slice Ak2 k.2.length ck2] :: L) := (S.pull 1 rfl).pull 2 rfl
    refine wp_seq (srt_r8 w0 gN z h hh _ _ _ _ S hz3 o2 (fun a4 hs4 o28 o29 o30 => ?_))
    have hz4 := hs4.size.trans hz3
    have o2 := hs4.keep 2 _ (by decide) o2
    have o6 := hs4.keep 6 _ (by decide) o6
    have o21 := hs4.keep 21 _ (by decide) o21
    have o23 := hs4.keep 23 _ (by decide) o23
    have o24 := hs4.keep 24 _ (by decide) o24
    have o8 := hs4.keep 8 _ (by decide) o8
    have T := T.trans hs4
    have S : Held w0 w3 (cntR gM m (cntAll z h (ks.take j) l) :: blkR gN 36 (ntA z h (.slice A l.length c)) :: blkR gK 42 #[.string nm, .slice Ak2 k.2.length ck2] :: L) := S.pull 1 rfl
    refine wp_block ?_
    have hbs : ∀ t, cntAll z h (ks.take j) l t < 2305843009213693952 := by
      intro t
      have h1 := cntAll_le z h l t (ks.take j)
      rw [List.length_take, Nat.min_eq_left hj] at h1
      have h2 : j * l.length ≤ 35184372088832 * 64 := Nat.mul_le_mul (by omega) hll
      omega
    refine srt_l2 gM gN gK m _ hbs (by omega) z hz h hh A c l hok (by omega) k nm hnl.out hnd.out (by rw [hnz]; exact hnm k (List.mem_of_getElem? hk)) Ak2 ck2 LDw _ hz4 o2 o6 o8 o28 o29 o30 hv hkr S (fun a5 w5 m5 hs5 hm5 S => ?_)
    have hz5 := hs5.size.trans hz4
    have o2 := hs5.keep 2 _ (by decide) o2
    have o6 := hs5.keep 6 _ (by decide) o6
    have o21 := hs5.keep 21 _ (by decide) o21
    have o23 := hs5.keep 23 _ (by decide) o23
    have o24 := hs5.keep 24 _ (by decide) o24
    have o28 := hs5.keep 28 _ (by decide) o28
    have o29 := hs5.keep 29 _ (by decide) o29
    have T := T.trans hs5
    simp only [Exit.inBlock, if_true, Exit.then]
    rw [stepF_all, ← htk] at S
    refine srt_r16 j (by omega) hz5 o23 (fun a6 hs6 o23 => ?_)
    have hz6 := hs6.size.trans hz5
    have o2 := hs6.keep 2 _ (by decide) o2
    have o6 := hs6.keep 6 _ (by decide) o6
    have o21 := hs6.keep 21 _ (by decide) o21
    have o24 := hs6.keep 24 _ (by decide) o24
    have o28 := hs6.keep 28 _ (by decide) o28
    have o29 := hs6.keep 29 _ (by decide) o29
    have T := T.trans hs6
    have S : Held w0 w5 (cntR gM m5 (cntAll z h (ks.take (j + 1)) l) :: blkR gN 36 (ntA z h (.slice A l.length c)) :: L) := S.some_of (List.Sublist.append_left (List.sublist_append_right [_] _) [_, _])
    refine ⟨⟨j + 1, m5, by omega, by omega, T.more (by decide +kernel), o23, S⟩, ?_⟩
    show ks.length - (intOf _).toNat < ks.length - (intOf _).toNat
    rw [e23, o23.eval (by rw [hz6]; decide)]
    simp only [intOf]; omega
  · refine wp_seq (wp_cond_false ((o24.eval (by rw [hz2]; decide)).trans (by rw [decide_eq_false hlt])) (wp_exit ?_))
    obtain rfl : j = ks.length := by omega
    rw [List.take_length] at S
    exact hend _ _ m (T.more (by decide +kernel)) S
set_option maxRecDepth 100000 in
set_option maxHeartbeats 4000000 in
theorem sright_any (z : Int) (hz : -9223372036854775808 ≤ z ∧ z ≤ 9223372036854775807) (h : List UInt8) (hh : h.length = 32) (A : Option Addr) (c : Nat) (l : List SigD) (hok : SgOk l) (hll : l.length ≤ 9223372036854775807) (Ak : Option Addr) (ck : Nat) (ks : List KeyD) (hks : ks.length ≤ 35184372088832) (hnm : ∀ k, k ∈ ks → k.1.length ≤ maxLen) (vs : List Value) (w : World) (LDw : LD w) (hv : Rd w 33 (.slice A l.length c) l.length (sgsC l)) (hkv : KysF w (.slice Ak ks.length ck) vs ks) :
    Calls Tryd.prog 27 #[.agg (ntA z h (.slice A l.length c)), .slice Ak ks.length ck] w fun e w' => ∃ v, e = .returned v ∧ Held w w' [rowR 9 1 v (rightA z h l ks).length ((rightA z h l ks).map strV)] := by
  refine calls_fr Tryd.func27 rfl 80 rfl (fun a0 hsz hdf hAr => ?_)
  have hz0 : a0.tmps.size = 80 := hsz
  have D := hdf
  have o0 := hAr 0 _ rfl
  have o1 := hAr 1 _ rfl
  have hcz := ntA_size (z := z) (v := .slice A l.length c) hh
  refine wp_seq (srt_r0 w _ [] (Held.start w) hz0 o0 (fun a1 w1 hs1 h1 => ?_))
  have hz1 := hs1.size.trans hz0
  have o0 := hs1.keep 0 _ (by decide) o0
  have o1 := hs1.keep 1 _ (by decide) o1
  have D := hs1.defers.trans D
  obtain ⟨gN, o2, S⟩ := h1
  refine wp_seq (srt_r1 w _ S hz1 (fun a2 w2 hs2 h2 => ?_))
  have hz2 := hs2.size.trans hz1
  have o0 := hs2.keep 0 _ (by decide) o0
  have o1 := hs2.keep 1 _ (by decide) o1
  have o2 := hs2.keep 2 _ (by decide) o2
  have D := hs2.defers.trans D
  obtain ⟨v0, o5, S⟩ := h2
  have S : Held w w2 (blkR gN 36 (ntA z h (.slice A l.length c)) :: rowR 9 1 v0 0 [] :: []) := S.pull 1 rfl
  obtain ⟨b, hb⟩ : ∃ b, ((chkN z l : Int) != 0) = b := ⟨_, rfl⟩
  have hb2 : b = !mayN z l := by rw [← hb]; unfold chkN; cases mayN z l <;> rfl
  refine wp_seq (wp_seq (srt_r2 w gN _ hcz (chkN z l) b hb _ S (fun V SV => scheck_any z hz h hh l hok hll A c V (LDw.kp SV.k) (rd_old hv SV.k)) hz2 o2 (fun a3 w3 hs3 o18 S => ?_)))
  have hz3 := hs3.size.trans hz2
  have o0 := hs3.keep 0 _ (by decide) o0
  have o1 := hs3.keep 1 _ (by decide) o1
  have o2 := hs3.keep 2 _ (by decide) o2
  have o5 := hs3.keep 5 _ (by decide) o5
  have D := hs3.defers.trans D
  cases hm : mayN z l
  · rw [hm] at hb2
    have hA : rightA z h l ks = [] := by unfold rightA; rw [hm]; rfl
    refine wp_cond_true ((o18.eval (by rw [hz3]; decide)).trans (by rw [hb2]; rfl)) ?_
    refine wp_seq (srt_r3 v0 hz3 o5 (fun a4 hs4 o4 => ?_))
    have hz4 := hs4.size.trans hz3
    have o0 := hs4.keep 0 _ (by decide) o0
    have o1 := hs4.keep 1 _ (by decide) o1
    have o2 := hs4.keep 2 _ (by decide) o2
    have o5 := hs4.keep 5 _ (by decide) o5
    have o18 := hs4.keep 18 _ (by decide) o18
    have D := hs4.defers.trans D
    refine wp_ret ?_
    simp only [Exit.then]
    refine (bodyPost_ret (results_t1 (by rfl) (o4.eval (by rw [hz4]; decide))) D ⟨_, rfl, ?_⟩)
    rw [hA]
    exact S.some_of (List.Sublist.cons _ (List.Sublist.refl _))
  · rw [hm] at hb2
    refine wp_cond_false ((o18.eval (by rw [hz3]; decide)).trans (by rw [hb2]; rfl)) (wp_skip ?_)
    obtain ⟨h64, hris⟩ := mayN_64 hm
    have hA : rightA z h l ks = rightN z h l ks := by unfold rightA; rw [hm]; rfl
    refine wp_seq (srt_r4 w _ S hz3 (fun a4 w4 hs4 h4 => ?_))
    have hz4 := hs4.size.trans hz3
    have o0 := hs4.keep 0 _ (by decide) o0
    have o1 := hs4.keep 1 _ (by decide) o1
    have o2 := hs4.keep 2 _ (by decide) o2
    have o5 := hs4.keep 5 _ (by decide) o5
    have o18 := hs4.keep 18 _ (by decide) o18
    have D := hs4.defers.trans D
    obtain ⟨gM, o6, S⟩ := h4
    refine wp_seq (wp_seq (srt_r5 Ak _ ck hz4 o1 (fun a5 hs5 o21 o22 o23 => ?_)))
    have hz5 := hs5.size.trans hz4
    have o0 := hs5.keep 0 _ (by decide) o0
    have o1 := hs5.keep 1 _ (by decide) o1
    have o2 := hs5.keep 2 _ (by decide) o2
    have o5 := hs5.keep 5 _ (by decide) o5
    have o18 := hs5.keep 18 _ (by decide) o18
    have o6 := hs5.keep 6 _ (by decide) o6
    have D := hs5.defers.trans D
    refine srt_l0 gM gN z hz h hh A c l hok h64 Ak ck ks hks hnm vs LDw _ hz5 o2 o6 o21 o22 o23 hv hkv S (fun a6 w5 m5 hs6 S => ?_)
    have hz6 := hs6.size.trans hz5
    have o0 := hs6.keep 0 _ (by decide) o0
    have o1 := hs6.keep 1 _ (by decide) o1
    have o2 := hs6.keep 2 _ (by decide) o2
    have o5 := hs6.keep 5 _ (by decide) o5
    have o18 := hs6.keep 18 _ (by decide) o18
    have o6 := hs6.keep 6 _ (by decide) o6
    have o21 := hs6.keep 21 _ (by decide) o21
    have o22 := hs6.keep 22 _ (by decide) o22
    have D := hs6.defers.trans D
    have S : Held w w5 (blkR gN 36 (ntA z h (.slice A l.length c)) :: cntR gM m5 (cntAll z h ks l) :: rowR 9 1 v0 0 [] :: []) := S.pull 1 rfl
    refine wp_seq (wp_seq (srt_r17 w gN z h hh _ _ _ _ S hz6 o2 (fun a7 hs7 o62 o63 o64 => ?_)))
    have hz7 := hs7.size.trans hz6
    have o0 := hs7.keep 0 _ (by decide) o0
    have o1 := hs7.keep 1 _ (by decide) o1
    have o2 := hs7.keep 2 _ (by decide) o2
    have o5 := hs7.keep 5 _ (by decide) o5
    have o18 := hs7.keep 18 _ (by decide) o18
    have o6 := hs7.keep 6 _ (by decide) o6
    have o21 := hs7.keep 21 _ (by decide) o21
    have o22 := hs7.keep 22 _ (by decide) o22
    have D := hs7.defers.trans D
    have S : Held w w5 (rowR 9 1 v0 0 [] :: cntR gM m5 (cntAll z h ks l) :: blkR gN 36 (ntA z h (.slice A l.length c)) :: []) := (S.pull 1 rfl).pull 2 rfl
    refine srt_l4 gM m5 (cntAll z h ks l) A c l hok (by omega) _ v0 hz7 o5 o6 o62 o63 o64 hv S (fun a8 w6 v6 L6 hs8 o5 S => ?_)
    have hz8 := hs8.size.trans hz7
    have D := hs8.defers.trans D
    rw [rightN_is hris, ← hA] at S
    refine wp_seq (srt_r23 v6 hz8 o5 (fun a9 hs9 o4 => ?_))
    have hz9 := hs9.size.trans hz8
    have o5 := hs9.keep 5 _ (by decide) o5
    have D := hs9.defers.trans D
    refine wp_ret ?_
    refine (bodyPost_ret (results_t1 (by rfl) (o4.eval (by rw [hz9]; decide))) D ⟨_, rfl, ?_⟩)
    exact S.some_of (List.singleton_sublist.2 (by simp))
end Go.Proofs.YtapboamjpilckaaDoor
/- An ORDERED region, operation by operation, with guards: XInvG's way for regions that draw no order. -/
namespace Go.Proofs.YtapboamjpilckaaDoor

section
variable {P : Program} {Q : Exit → Act → World → Prop}
def InvStepS (P : Program) (Q : Exit → Act → World → Prop) (PV : Nat → Value → World → Prop) (W0 : World) (fr : (Nat → Value) → Act) (u0 : Nat → Value) (ops : Array Oper) (o : Oper) (i : Nat) : Prop :=
  ∀ (vs : Nat → Value) (A : Act) (W : World), fr vs = A → Kp [] W0 W → (∀ j, Nat.blt j i = true → PV j (vs j) W) → (∀ j, Nat.ble i j = true → vs j = u0 j) →
    ∀ K : Act → World → Prop, (∀ v W', Kp [] W W' → PV i v W' → K (A.put o.dst v) W') → wpOp P ops (Qn Q) i K A W
def InvStepsS (P : Program) (Q : Exit → Act → World → Prop) (PV : Nat → Value → World → Prop) (W0 : World) (fr : (Nat → Value) → Act) (u0 : Nat → Value) (ops : Array Oper) : List Oper → Nat → Prop
  | [], _ => True
  | o :: l, i => InvStepS P Q PV W0 fr u0 ops o i ∧ InvStepsS P Q PV W0 fr u0 ops l (i + 1)
theorem wpList_of_op {ops : Array Oper} {o : Oper} {rest : List Oper} {a : Act} {w : World} {i : Nat} (ho : ops[i]? = some o) (h : wpOp P ops Q i (wpList P ops Q rest) a w) : wpList P ops Q (o :: rest) a w := by
  unfold wpOp at h
  simp only [ho] at h
  unfold wpList
  exact h
theorem seq_inv {PV : Nat → Value → World → Prop} {W0 : World} {a0 : Act} {l l2 : List Oper} {ops : Array Oper} (hops : ∀ (i : Nat) (o : Oper), l[i]? = some o → ops[i]? = some o) (hst : ∀ i v W W', PV i v W → Kp [] W W' → PV i v W') (hap : apartB l = true)
    (hend : ∀ vs W, Kp [] W0 W → (∀ i, i < l.length → PV i (vs i) W) → wpList P ops Q l2 (putAll vs l 0 a0) W) :
    ∀ (rest : List Oper) (i : Nat) (vs : Nat → Value) (W : World), l.drop i = rest → InvStepsS P Q PV W0 (fun vs => putAll vs l 0 a0) (at0 a0 l) ops rest i → Kp [] W0 W → (∀ j, j < i → PV j (vs j) W) → (∀ j, i ≤ j → vs j = at0 a0 l j) →
      wpList P ops Q (rest ++ l2) (putAll vs l 0 a0) W
  | [], i, vs, W, hr, _, hk, hp, _ => by
    have hi : l.length ≤ i := List.drop_eq_nil_iff.1 hr
    exact hend vs W hk (fun j hj => hp j (by omega))
  | o :: rest, i, vs, W, hr, hs, hk, hp, hu => by
    have hol : l[i]? = some o := by
      have : (l.drop i)[0]? = some o := by rw [hr]; rfl
      rwa [List.getElem?_drop, Nat.add_zero] at this
    have hr2 : l.drop (i + 1) = rest := by
      rw [← List.drop_drop, hr]; rfl
    refine wpList_of_op (i := i) (hops i o hol) (wpOp_n ?_)
    refine hs.1 vs _ W rfl hk (fun j hj => hp j (by simpa [Nat.blt_eq] using hj)) (fun j hj => hu j (by simpa [Nat.ble_eq] using hj)) _ fun v W' hk' hv => ?_
    rw [putAll_upd vs i v l 0 a0 o hap (Nat.zero_le _) (by simpa using hol)]
    refine seq_inv hops hst hap hend rest (i + 1) _ W' hr2 hs.2 (hk.trans hk' (by simp)) (fun j hj => ?_) (fun j hj => ?_)
    · by_cases e : j = i
      · subst e; simpa [upd] using hv
      · simp only [upd, if_neg e]
        exact hst j _ W W' (hp j (by omega)) hk'
    · simp only [upd, if_neg (show j ≠ i by omega)]
      exact hu j (by omega)
/-- The region's rule. -/
theorem wp_region_invS {id : Nat} {a : Act} {w : World} {l : List Oper} (PV : Nat → Value → World → Prop) (hap : apartB l = true)
    (hst : ∀ i v W W', PV i v W → Kp [] W W' → PV i v W')
    (hs : InvStepsS P Q PV w (fun vs => putAll vs l 0 a) (at0 a l) l.toArray l 0)
    (hend : ∀ vs W, Kp [] w W → (∀ i, i < l.length → PV i (vs i) W) → Q .normal (putAll vs l 0 a) W) : (Code.region id l.toArray false).wp P Q a w := by
  refine wp_region_lit (l := l) ?_
  have h := seq_inv (P := P) (Q := Q) (a0 := a) (l := l) (l2 := []) (ops := l.toArray) (fun i o h => by simpa using h) hst hap hend l 0 (at0 a l) w rfl hs (Kp.refl _ _) (fun j hj => by omega) (fun _ _ => rfl)
  rwa [List.append_nil, putAll_at a l 0 (at0 a l) (fun j o ho => by simp [at0, ho])] at h
end
end Go.Proofs.YtapboamjpilckaaDoor
/- Single operations: struct and slice literals of parts that are known. -/
namespace Go.Proofs.YtapboamjpilckaaDoor
theorem op_build {P : Program} {o : Oper} {a : Act} {w : World} {K : Act → World → Prop} {Q : Exit → Act → World → Prop} (t : TypeId) (parts : Array (Nat × Operand)) (ho : o.op = .build t parts) (ps : List (Nat × Value)) (hp : (parts.map fun (i, x) => (i, a.eval x)).toList = ps)
    (cells : Array Value) (hb : P.built t ps = some cells) (h : K (a.put o.dst (.agg cells)) w) : o.wp P a w K Q := by
  refine wp_build t parts ho (by rw [hp, hb]; rfl) ?_
  rw [hp, hb]
  exact h
theorem wpList_buildP {P : Program} {ops : Array Oper} {rest : List Oper} {o : Oper} {a : Act} {w : World} {Q : Exit → Act → World → Prop} (hg : o.guard = none) (t : TypeId) (parts : Array (Nat × Operand)) (ho : o.op = .build t parts) (ps : List (Nat × Value)) (hp : (parts.map fun (i, x) => (i, a.eval x)).toList = ps)
    (cells : Array Value) (hb : P.built t ps = some cells) (h : wpList P ops Q rest (a.put o.dst (.agg cells)) w) : wpList P ops Q (o :: rest) a w := by
  refine wpList_build hg t parts ho (by rw [hp, hb]; rfl) ?_
  rw [hp, hb]
  exact h
/-- A list of things, as made since the world w. -/
theorem Held.of_kp {w w' : World} (k : Kp [] w w') : Held w w' [] := ⟨k, by simp, by simp, List.Pairwise.nil⟩
end Go.Proofs.YtapboamjpilckaaDoor
/- 'make([]byte, n)' of a constant. -/
namespace Go.Proofs.YtapboamjpilckaaDoor
open Go.RowKit
theorem make_noughts {ops : Array Oper} {rest : List Oper} {o : Oper} {a : Act} {w : World} {Q : Exit → Act → World → Prop} (hgd : Region.wanted o (yielded ops a.tmps) = true) (n : Nat) (hn : n ≤ 1073741824)
    (ho : o.op = .makeSlice 22 (.const (.int .i64 (n : Int))) (.const (.int .i64 (n : Int))))
    (h : ∀ w1, Ow w1 5 1 (.slice (some ⟨w.heap.size, 0, none⟩) n n) n (bv (List.replicate n 0)) → Kp [] w w1 → wpList Tryd.prog ops Q rest (a.put o.dst (.slice (some ⟨w.heap.size, 0, none⟩) n n)) w1) : wpList Tryd.prog ops Q (o :: rest) a w := by
  obtain ⟨i0, hi, hz0, hz1, hz2⟩ := info_parts Tryd.infoU8
  obtain ⟨w1, hr, h1, h2⟩ := run_make_full (P := Tryd.prog) w 0 22 5 i0 _ 1 Tryd.underlying22 hi hz0 hz1 .i64 .i64 n (by rw [hz2]; omega) (by unfold maxLen; omega) (Nat.zero_le _)
  refine wpList_step fun K hK => ?_
  rw [if_pos hgd]
  unfold Oper.wp execOp
  simp only [ho, BigFrame.eval_const, Sem.run_bind, hr, Result.andThen_ok, Sem.run_pure]
  refine hK _ _ (h w1 ?_ (Kp.of_grown h2))
  rw [show (Value.int .u8 0).cells = #[.int .u8 0] from rfl, Nat.mul_one, toList_madeCells_one] at h1
  have e : bv (List.replicate n 0) = List.replicate n (.int .u8 0) := by simp [bv]
  rw [e]
  exact h1
end Go.Proofs.YtapboamjpilckaaDoor
/- known of layer 28: its regions. -/
namespace Go.Proofs.YtapboamjpilckaaDoor
open Go.RowKit
def zH : List UInt8 := List.replicate 32 0
theorem zH_length : zH.length = 32 := rfl
def k20 : List UInt8 := List.replicate 20 11
def hiL : List UInt8 := [72, 105]
def thL : List UInt8 := [32, 84, 104, 101, 114, 101]
def sec12 : List UInt8 := [1, 2]
def sec13 : List UInt8 := [1, 3]
def wN : List UInt8 := [119]
def sum1 : List UInt8 := sumF 0 zH wN sec12
theorem sum1_length : sum1.length = 32 := by unfold sum1; exact sumF_length 0 zH wN sec12
def sig1 : SigD := (wN, sum1)
theorem sig1_2 : sig1.2 = sum1 := by simp only [sig1]
theorem sig1_1 : sig1.1 = wN := by simp only [sig1]
def kn20 : List UInt8 := macF k20 (hiL ++ thL)
theorem kn20_at : kn20[0]? = some 176 ∧ kn20[1]? = some 52 ∧ kn20[31]? = some 247 := by decide +kernel
theorem sig1_ne : (sumV 0 zH wN sec13 == sig1.2) = false := by decide +kernel
theorem signE_0 : signE 0 [] wN sec12 = 0 := by decide +kernel
theorem sig1_ok : SgOk [sig1] := by
  intro s hs
  rw [List.mem_singleton.1 hs]
  refine ⟨?_, ?_⟩
  · rw [sig1_2]; exact sum1_length
  · rw [sig1_1]; unfold wN; rw [List.length_singleton]; omega
theorem may_1 : mayN 0 [sig1] = true := by
  unfold mayN
  rw [show rising [] [sig1] = true from by unfold rising sig1; decide +kernel]
  rfl
theorem signE_8 : signE 0 [sig1] wN sec12 = 8 := by
  unfold signE
  rw [may_1, if_neg (by decide), show sumOk 0 wN sec12 = true from by decide +kernel, if_neg (by decide), show hasN wN [sig1] = true from by unfold hasN posN sig1; decide +kernel]
  rfl
theorem right_1 : rightA 0 zH [sig1] [(wN, sec12)] = [wN] := by
  have e : matchS 0 zH (wN, sec12) sig1 = true := by
    unfold matchS sig1 sum1 sumV
    rw [show sumOk 0 (wN, sec12).1 (wN, sec12).2 = true from by decide +kernel]
    simp
  unfold rightA rightN
  rw [may_1]
  rw [if_pos rfl, List.filter_cons, if_pos (by rw [List.any_cons, e]; rfl)]
  rfl
theorem right_0 : rightA 0 zH [sig1] [(wN, sec13)] = [] := by
  have e : matchS 0 zH (wN, sec13) sig1 = false := by
    unfold matchS
    rw [show sumV 0 zH (wN, sec13).1 (wN, sec13).2 = sumV 0 zH wN sec13 from rfl, sig1_ne]
    simp
  unfold rightA rightN
  rw [may_1]
  rw [if_pos rfl, List.filter_cons, if_neg (by rw [List.any_cons, e]; decide)]
  rfl
set_option maxRecDepth 100000 in
theorem lnum_any (x : Int) (w : World) : Calls Tryd.prog 16 #[.int .i64 x] w fun e w' => e = .returned (.int .i64 x) ∧ w = w' := by
  go_enter Tryd.func16, Tryd.ntmps16
  go_wp2
  go_ret
  exact ⟨rfl, rfl⟩
theorem kys1 {w : World} {g : Nat} {A : Option Addr} {c : Nat} (t : TypeId) (hg : g = w.heap.size) (nm : ByteArray) (sec : List UInt8) (h : Rd w 1 (.slice A sec.length c) sec.length (bv sec)) (k : List UInt8) (hk : strV k = .string nm) :
    KysF (w.alloc (.cells #[.string nm, .slice A sec.length c] t)) (.slice (some ⟨g, 0, none⟩) 1 1) [.string nm, .slice A sec.length c] [(k, sec)] := by
  subst hg
  refine ⟨Rd.of_own (ow_new w t 2 1 #[.string nm, .slice A sec.length c] rfl (by decide)), fun i hi => ?_⟩
  obtain rfl : i = 0 := by simpa using hi
  exact ⟨A, c, by rw [show ([(k, sec)] : List KeyD)[0].1 = k from rfl, hk]; rfl, rfl, h.alloc _⟩
theorem Tryd.built_pt0 : Tryd.prog.built 33 [] = some (ptA 0 zH) := by kernel_rfl
theorem Tryd.built_key2 (s : ByteArray) (A : Option Addr) (n c : Nat) : Tryd.prog.built 42 [(0, .string s), (1, .slice A n c)] = some #[.string s, .slice A n c] := by kernel_rfl
theorem Tryd.infoKeyZ : (Tryd.prog.info? 42).map (fun i => (i.zero, i.size, i.bytes)) = some (some (.agg #[.string ⟨#[]⟩, .slice none 0 0]), 2, 40) := by kernel_rfl
theorem op_keys1 {o : Oper} {a : Act} {w : World} {K : Act → World → Prop} {Q : Exit → Act → World → Prop} (x : Operand) (ho : o.op = .buildSlice 46 1 #[(0, x)]) (nm : ByteArray) (A : Option Addr) (n c : Nat) (hx : a.eval x = .agg #[.string nm, .slice A n c])
    (h : K (a.put o.dst (.slice (some ⟨w.heap.size, 0, none⟩) 1 1)) (w.alloc (.cells #[.string nm, .slice A n c] 42))) : o.wp Tryd.prog a w K Q := by
  obtain ⟨i0, hi, hz, hsize, -⟩ := info_parts Tryd.infoKeyZ
  refine wp_buildSlice 46 42 1 #[(0, x)] ho #[.string nm, .slice A n c] i0 _ Tryd.underlying46 hi hz (by rw [hsize]; decide) (by rw [hsize]; decide) ?_ h
  rw [hsize, show ((#[(0, x)] : Array (Nat × Operand)).map fun (i, x) => (i, a.eval x)).toList = [(0, .agg #[.string nm, .slice A n c])] from by simp [hx]]
  kernel_rfl
theorem wpList_keys1 {ops : Array Oper} {rest : List Oper} {o : Oper} {a : Act} {w : World} {Q : Exit → Act → World → Prop} (hg : o.guard = none) (t e : TypeId) (x : Operand) (ho : o.op = .buildSlice 46 1 #[(0, x)]) (nm : ByteArray) (A : Option Addr) (n c : Nat) (hx : a.eval x = .agg #[.string nm, .slice A n c])
    (h : wpList Tryd.prog ops Q rest (a.put o.dst (.slice (some ⟨w.heap.size, 0, none⟩) 1 1)) (w.alloc (.cells #[.string nm, .slice A n c] 42))) : wpList Tryd.prog ops Q (o :: rest) a w :=
  wpList_plain hg fun _ hK => op_keys1 x ho nm A n c hx (hK _ _ h)
end Go.Proofs.YtapboamjpilckaaDoor
