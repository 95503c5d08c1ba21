/- Several texts in one: SigQ, SigR, SigS, SigT, SigU, SigV, SigW, SigX, SigY, SigZ, SigAA, SigAB. -/
import Derived.Lib.AppendZeros
import Derived.Lib.Overlaps
import Derived.Laws.Externs
import Derived.Lib.ConvBytes
import Derived.Great.BuildSlice
import Derived.Maps.OwnOps
import Derived.Maps.OwnSet
import Derived.Maps.Views
import Derived.StringKeys
import Derived.Test.YtapboamjpilckaaDoorP4
set_option linter.unusedVariables false
set_option linter.unusedSimpArgs false
set_option maxRecDepth 100000
set_option maxHeartbeats 8000000
namespace Go.Proofs.YtapboamjpilckaaDoor
/- slices.Clone over signatures. -/
section
open Go.RowKit
theorem sgsC_one : ∀ (l : List SigD), ∀ u, u ∈ sgsC l → u.oneCell' = true
 | [], u, h => by cases h
 | s :: l, u, h => by
  rcases List.mem_append.1 (show u ∈ sgL s ++ sgsC l from h) with h | h
  · exact sgA_one s u (by simpa [sgA] using h)
  · exact sgsC_one l u h
theorem sgsC_append (a b : List SigD) : sgsC (a ++ b) = sgsC a ++ sgsC b := by unfold sgsC; rw [List.flatMap_append]
theorem ow_empty {w : World} {g : Nat} (e : TypeId) (s : Nat) (hg : g = w.heap.size) : Ow (w.alloc (.cells #[] e)) e s (.slice (some ⟨g, 0, none⟩) 0 0) 0 [] := by
 subst hg
 exact ow_new w e s 0 #[] (by simp) (by decide)
theorem eq_nil_sigs (w : World) (a : Option Addr) (n c : Nat) : (binOp .eql 34 (.slice a n c) (.slice none 0 0)).run Tryd.prog w = .ok (.bool a.isNone) w :=
 Lib.run_eql_slice_nil (P := Tryd.prog) w 34 81 a n c 0 0 Tryd.underlying34
theorem sclone_any (w0 : World) (L : List Res) (A : Option Addr) (c : Nat) (l : List SigD) (hok : SgOk l) (hll : l.length ≤ 1000000) (w : World) (S : Held w0 w L) (HV : ∀ V, Held w0 V L → Rd V 33 (.slice A l.length c) l.length (sgsC l)) :
 Calls Tryd.prog 46 #[.slice A l.length c] w fun e w' => ∃ v, e = .returned v ∧ Held w0 w' (rowR 81 33 v l.length (sgsC l) :: L) := by
 have HV := Lib.hid HV
 have S := Lib.hid S
 have HO := Lib.hid (sgsC_one l)
 rcases A with _ | ad
 · have h0 : l.length = 0 ∧ c = 0 := by
    obtain ⟨-, A', c', he, -, -, hA, -⟩ := HV.out w S.out
    cases he
    exact hA rfl
   obtain rfl : l = [] := List.eq_nil_of_length_eq_zero h0.1
   obtain rfl := h0.2
   clear h0
   have hq := fun V => eq_nil_sigs V none 0 0
   simp only [Option.isNone_none] at hq
   go_enter Tryd.func46, Tryd.ntmps46
   go_wp2
   go_ret
   exact ⟨_, rfl, S.out.rownew (World.ownsRow_nil _ _ _ _) (Kp.refl [] w) (by simp [Value.ownBlock])⟩
 · have hq := fun V n => eq_nil_sigs V (some ad) n c
   simp only [Option.isNone_some] at hq
   have S1 := Lib.hid (S.out.rownew (ow_empty 81 33 (g := w.heap.size) rfl) ((Kp.refl [] w).alloc _) (by simp [Value.ownBlock]))
   obtain ⟨i0, hi, hz, hsize, hby⟩ := info_parts Tryd.infoSigZ
   have Hz := Lib.hid hz
   clear hz
   have hle : Hid (l.length ≤ maxLen ∧ l.length * 48 ≤ 140737488355328) := Lib.hid ⟨by unfold maxLen; omega, by omega⟩
   generalize hcs : sgsC l = cs at *
   generalize l.length = n at *
   go_enter Tryd.func46, Tryd.ntmps46
   go_wp2_with (at_builtin; refine wpList_app _ rfl (.tmp 5) (.tmp 6) 34 rfl 81 i0 _ 33 48 Tryd.underlying34 hi Hz.out hsize hby rfl (by decide) _ 0 [] (by simp [Act.eval, Act.put]) (S1.out.at_ (l1 := [])) _ n cs (by simp [Act.eval, Act.put]) (HV.out _ S1.out.drop) HO.out (by rw [Nat.zero_add]; exact hle.out.1) (by rw [Nat.zero_add]; exact hle.out.2) ?_; intro v' w' o2 g2 b2; have S2 := Lib.hid (Held.grow (l1 := []) S1.out o2 g2 b2); clear o2 g2 b2)
   rw [Nat.zero_add, List.nil_append] at S2
   go_ret
   exact ⟨_, rfl, S2.out⟩
end
/- copy and append of elements of several cells; rows as blocks. -/
section
open Go.RowKit
theorem run_copy_rowS {P : Program} (size : Nat) (w : World) (dT sT ty elem : TypeId) (g o dLen dCap : Nat) (a : Addr) (sLen sCap : Nat) (cur : Array Value) (t : TypeId) (cs : List Value)
 (hu : P.underlying dT = some (.slice elem)) (hs : (P.info? elem).map (·.size) = some size)
 (hg : w.heap[g]? = some (.cells cur t (0, 0))) (hn : cs.length = Nat.min sLen dLen * size)
 (hsrc : ∀ j v, cs[j]? = some v → w.cell? (a.add j) = some v) (hfit : o + cs.length ≤ cur.size) (h1 : ∀ v ∈ cs, v.oneCell' = true) :
 (Builtin.copy_ #[dT, sT] ty #[.slice (some ⟨g, o, none⟩) dLen dCap, .slice (some a) sLen sCap]).run P w =
  .ok (goInt (Nat.min sLen dLen : Nat)) (w.setRow g (cur.toList.take o ++ cs ++ cur.toList.drop (o + cs.length)).toArray) := by
 have hl := run_loadCells_list (P := P) w a cs hsrc
 have hst := run_storeCells_at P g o t cs 0 cur w hg (by simpa using hfit) h1
 cases hq : P.info? elem with
 | none => simp [hq] at hs
 | some i =>
  have hi : i.size = size := by simpa [hq] using hs
  simp [Builtin.copy_, run_underlying hu, Builtin.lenOf, Builtin.firstCells, sizeOf, typeInfo, hq, hi, ← hn, hl, hst]
section
variable {P : Program} {w : World} {o : Oper} {a : Act} {Q : Exit → Act → World → Prop} (size : Nat) (d s : Operand) (dT sT : TypeId)
theorem op_copy_blkS {K : Act → World → Prop} (ho : o.op = .call { callee := .builtin .copy, args := #[d, s], argTypes := #[dT, sT] }) (elem : TypeId) (hu : P.underlying dT = some (.slice elem)) (hsz : (P.info? elem).map (·.size) = some size)
 (g off dLen dCap : Nat) (hd : a.eval d = .slice (some ⟨g, off, none⟩) dLen dCap) (ad : Addr) (n c : Nat) (hs : a.eval s = .slice (some ad) n c) (xs : List Value) (m : Nat) (hm : Nat.min n dLen = m) (hl : xs.length = m * size) (hc : ∀ j u, xs[j]? = some u → w.cell? (ad.add j) = some u)
 (t : TypeId) (cur : Array Value) (hb : Blk w g t cur) (hfit : off + m * size ≤ cur.size) (h1 : ∀ v ∈ xs, v.oneCell' = true)
 (h : ∀ w', Blk w' g t (splice cur.toList off xs).toArray → Kp [g] w w' → K (a.put o.dst (goInt (m : Int))) w') : o.wp P a w K Q := by
 subst hm
 have hrun := run_copy_rowS (P := P) size w dT sT o.type elem g off dLen dCap ad n c cur t xs hu hsz hb hl hc (by omega) h1
 have hblk := setRow_blk (cs := (cur.toList.take off ++ xs ++ cur.toList.drop (off + xs.length)).toArray) hb
 refine op_runs (v := goInt ((Nat.min n dLen : Nat) : Int)) (w' := w.setRow g (cur.toList.take off ++ xs ++ cur.toList.drop (off + xs.length)).toArray) ?_ ?_
 rotate_left
 · exact h _ (by unfold splice; rw [← List.append_assoc]; exact hblk.1) hblk.2
 · simp [execOp, ho, resolve, invoke, builtin, hd, hs, hrun, Result.andThen]
theorem wpList_copy_blkS {ops : Array Oper} {rest : List Oper} (hgd : o.guard = none) (ho : o.op = .call { callee := .builtin .copy, args := #[d, s], argTypes := #[dT, sT] }) (elem : TypeId) (hu : P.underlying dT = some (.slice elem)) (hsz : (P.info? elem).map (·.size) = some size)
 (g off dLen dCap : Nat) (hd : a.eval d = .slice (some ⟨g, off, none⟩) dLen dCap) (ad : Addr) (n c : Nat) (hs : a.eval s = .slice (some ad) n c) (xs : List Value) (m : Nat) (hm : Nat.min n dLen = m) (hl : xs.length = m * size) (hc : ∀ j u, xs[j]? = some u → w.cell? (ad.add j) = some u)
 (t : TypeId) (cur : Array Value) (hb : Blk w g t cur) (hfit : off + m * size ≤ cur.size) (h1 : ∀ v ∈ xs, v.oneCell' = true)
 (h : ∀ w', Blk w' g t (splice cur.toList off xs).toArray → Kp [g] w w' → wpList P ops Q rest (a.put o.dst (goInt (m : Int))) w') : wpList P ops Q (o :: rest) a w :=
 wpList_plain hgd fun K hK => op_copy_blkS size d s dT sT ho elem hu hsz g off dLen dCap hd ad n c hs xs m hm hl hc t cur hb hfit h1 (fun w' h2 h3 => hK _ _ (h w' h2 h3))
end
theorem run_append_zerosG {P : Program} (w : World) (t tn ty e : TypeId) (i : TypeInfo) (z : Value) (ht : P.underlying t = some (.slice e)) (htn : P.underlying tn = some (.int .i64)) (hi : P.info? e = some i) (hz : i.zero = some z)
 (ad : Addr) (k c m : Nat) (olds : List Value) (hol : olds.length = k * i.size) (ho : ∀ j u, olds[j]? = some u → w.cell? (ad.add j) = some u) (h0 : 0 < m) (hs : 0 < i.size) (hc : c < k + m) (hm : k + m ≤ 1000000) (hby : i.bytes ≤ 100) :
 (Builtin.append_ #[t, tn] ty #[.slice (some ad) k c, .int .i64 m]).run P w =
  .ok (.slice (some ⟨w.heap.size, 0, none⟩) (k + m) (grownCap w (k + m) c e)) (w.drew.alloc (.cells (olds.toArray ++ Builtin.zeroCells z.cells m ++ Builtin.zeroCells z.cells (grownCap w (k + m) c e - (k + m))) e)) := by
 have hn : m ≠ 0 := by omega
 have hw : IntKind.i64.wrap (m : Int) = m := by rw [IntKind.wrap_i64]; omega
 have hneed : ¬ (k + m ≤ c) := by omega
 have h63' : ¬ (9223372036854775807 < ((k : Int) + (m : Int))) := by omega
 have hb1 : (k + m) * i.bytes ≤ 1000000 * 100 := Nat.mul_le_mul hm hby
 have hb2 : m * i.bytes ≤ 1000000 * 100 := Nat.mul_le_mul (by omega) hby
 have h48' : ¬ (281474976710656 < Builtin.nextslicecap (k + m) c * i.bytes) := by have := growslice_fits (bytes := i.bytes) hc (by omega); omega
 have h48i : ¬ (281474976710656 < (m : Int) * (i.bytes : Int)) := by
  rw [← Int.natCast_mul]
  omega
 have hneg : ¬ ((m : Int) < 0) := by omega
 have hns : ¬ (m * i.size = 0) := Nat.mul_ne_zero hn (by omega)
 have hfc := run_firstCells_some (P := P) (w := w.drew) i.size k ad k c olds hol ho
 simp [Builtin.append_, run_underlying ht, run_underlying htn, sizeOf, typeInfo, zeroValue, hi, hz, asInt, asIntOf, hw, hneg, hns, hneed, h63', h48', h48i, Question.forced, hfc, newRow, grownCap]
theorem Held.row_blk {w0 w : World} {L : List Res} {e : TypeId} {s n g c : Nat} {xs : List Value} (h : Held w0 w (rowR e s (.slice (some ⟨g, 0, none⟩) n c) n xs :: L)) :
 ∃ cur : Array Value, Held w0 w (blkR g e cur :: L) ∧ cur.size = c * s ∧ cur.toList.take (n * s) = xs ∧ n ≤ c ∧ c ≤ maxLen := by
 have h1 : Ow w e s (.slice (some ⟨g, 0, none⟩) n c) n xs := h.at_ (l1 := [])
 rcases h1.2 with ⟨hv, -⟩ | ⟨g', cap, cur, he, -, hg, h2, h3, h4, h5⟩
 · cases hv
 · cases he
   exact ⟨cur, h.turn (blkR g e cur) kR hg (fun b hb => .inl (by simpa [rowR, blkR, Value.ownBlock] using hb)), h4, h5, h2, h3⟩
theorem Held.blk_row {w0 w : World} {L : List Res} {e : TypeId} {s n g c : Nat} {cur : Array Value} {xs : List Value} (h : Held w0 w (blkR g e cur :: L)) (hs : cur.size = c * s) (hx : cur.toList.take (n * s) = xs) (hn : n ≤ c) (hc : c ≤ maxLen) :
 Held w0 w (rowR e s (.slice (some ⟨g, 0, none⟩) n c) n xs :: L) :=
 h.turn (rowR e s (.slice (some ⟨g, 0, none⟩) n c) n xs) kR ⟨by
  rw [← hx, List.length_take, Array.length_toList, hs]
  exact Nat.min_eq_left (Nat.mul_le_mul_right s hn), .inr ⟨g, c, cur, rfl, Nat.zero_le _, h.at_ (l1 := []), hn, hc, hs, hx⟩⟩ (fun b hb => .inl (by simpa [rowR, blkR, Value.ownBlock] using hb))
end
/- slices.Insert over signatures: its regions. -/
section
variable {Q : Exit → Act → World → Prop} {a : Act} {w : World}
open Go.RowKit
theorem rd_sig1 {w : World} {vb : Nat} {t : TypeId} {s : SigD} (hb : Blk w vb t (sgA s)) (hs : s.2.length = 32) : Rd w 33 (.slice (some ⟨vb, 0, none⟩) 1 1) 1 (sgA s).toList :=
 ⟨by rw [Array.length_toList, sgA_size hs], _, _, rfl, Nat.le_refl _, by unfold maxLen; omega, (fun h => by cases h), fun ad had j u hu => by cases had; exact hb.agg j u hu⟩
theorem elem_sig : Tryd.prog.elem 34 = 81 := by kernel_rfl
theorem und_sig : Tryd.prog.underlying 34 = some (.slice (Tryd.prog.elem 34)) := by rw [elem_sig]; exact Tryd.underlying34
theorem size_sig (w : World) : (sizeOf 81).run Tryd.prog w = .ok 33 w := by
 obtain ⟨i0, hi, -, hs, -⟩ := info_parts Tryd.infoSigZ
 simp only [sizeOf, typeInfo]
 simp [hi, hs, go_sem]
theorem cut_loS (A : Option Addr) (n c k : Nat) (hk : k ≤ n) (w : World) : (Instr.sliceAt 34 (.slice A n c) (some (.int .i64 (k : Int))) none none).run Tryd.prog w = .ok (sliced A k n c 33) w := by
 rw [run_sliceAt_slice w 34 _ _ _ _ und_sig, run_slice_l w 34 A n c und_sig .i64 k (by omega) (by omega), elem_sig, size_sig]
 simp only [Result.andThen_ok, Int.toNat_natCast]
theorem sin_zeros (cur : Array Value) (k m c c2 n1 : Nat) (hcz : cur.size = c * 33) (hk : k ≤ c) (hm : k + m = n1) (hn : n1 ≤ c2) :
 ((cur.toList.take (k * 33)).toArray ++ Builtin.zeroCells (Value.cells (.agg (sgA ([], List.replicate 32 0)))) m ++ Builtin.zeroCells (Value.cells (.agg (sgA ([], List.replicate 32 0)))) (c2 - n1)).size = c2 * 33 ∧
 ((cur.toList.take (k * 33)).toArray ++ Builtin.zeroCells (Value.cells (.agg (sgA ([], List.replicate 32 0)))) m ++ Builtin.zeroCells (Value.cells (.agg (sgA ([], List.replicate 32 0)))) (c2 - n1)).toList.take (k * 33) = cur.toList.take (k * 33) := by
 have hz : (Value.cells (.agg (sgA ([], List.replicate 32 0)))).size = 33 := sgA_size (by simp)
 have hl : (cur.toList.take (k * 33)).length = k * 33 := by rw [List.length_take, Array.length_toList, hcz]; omega
 constructor
 · rw [Array.size_append, Array.size_append, size_zeroCells, size_zeroCells, hz, List.size_toArray, hl]
   omega
 · rw [Array.toList_append, Array.toList_append, List.append_assoc, List.take_append_of_le_length (by rw [List.toList_toArray, hl]; exact Nat.le_refl _), List.toList_toArray, List.take_of_length_le (by rw [hl]; exact Nat.le_refl _)]
theorem sin_over (w : World) (g vb k n lb cb : Nat) (cur cv : Array Value) (hg : Blk w g 81 cur) (hv : Blk w vb 81 cv) (hne : vb ≠ g) (hc : cur.size ≠ 0) :
 (callFunc 70 #[.slice (some ⟨vb, 0, none⟩) 1 1, .slice (some ⟨g, n, none⟩) lb cb]).run Tryd.prog w = .ok (.value (.bool false)) w := by
 have h1 : w.shape? vb = some (81, cv.size) := by have hv : w.heap[vb]? = _ := hv; simp [World.shape?, hv]
 have h2 : w.shape? g = some (81, cur.size) := by have hg : w.heap[g]? = _ := hg; simp [World.shape?, hg]
 rw [run_callFunc_extern Tryd.func70 (by kernel_rfl) (by kernel_rfl) (by kernel_rfl) (e := Extern.SlicesOverlaps.overlaps #[34, 34] #[4]) (by kernel_rfl),
  Lib.run_overlaps_apart w 34 4 81 Tryd.underlying34 33 size_sig ⟨vb, 0, none⟩ ⟨g, n, none⟩ 1 1 lb cb hne 81 81 cv.size cur.size h1 h2 hc (hv.frozen 0) (hv.frozen cv.size)]
 rfl
theorem sin_r0  (hsz : a.tmps.size = 95) 
 (hend : ∀ a', Same a a' [6] → Sl a' 6 (.slice none 0 0) → Q .normal a' (w)) : (Code.region 0 (opsOf 0 Tryd.f45).toArray false).wp Tryd.prog Q a w := by
 refine wp_region_lit ?_
 (conv => arg 4; whnf)
 go_wp2_with fail
 try simp only [Act.put]
 exact hend _ sS sP
theorem sin_r1 (A : Option Addr) (n c k : Nat) (hk : k ≤ n) (hsz : a.tmps.size = 95) (o0 : Sl a 0 (.slice A n c)) (o1 : Sl a 1 (.int .i64 ((k : Nat) : Int)))
 (hend : ∀ a', Same a a' [10, 11, 12] → Sl a' 11 (.int .i64 ((k : Nat) : Int)) → Q .normal a' (w)) : (Code.region 1 (opsOf 1 Tryd.f45).toArray false).wp Tryd.prog Q a w := by
 refine wp_region_lit ?_
 (conv => arg 4; whnf)
 unfold Sl at o0 o1
 have hsl := fun V => cut_loS A n c k hk V
 obtain ⟨x, hx⟩ : ∃ x, sliced A k n c 33 = x := ⟨_, rfl⟩
 rw [hx] at hsl
 clear hx
 go_wp2_with fail
 try simp only [Act.put]
 exact hend _ sS sP
theorem sin_r2 (vb : Nat) (hsz : a.tmps.size = 95) (o2 : Sl a 2 (.slice (some ⟨vb, 0, none⟩) 1 1))
 (hend : ∀ a', Same a a' [13, 14, 7] → Sl a' 7 (.int .i64 ((1 : Nat) : Int)) → Q .normal a' (w)) : (Code.region 2 (opsOf 2 Tryd.f45).toArray false).wp Tryd.prog Q a w := by
 refine wp_region_lit ?_
 (conv => arg 4; whnf)
 unfold Sl at o2
 go_wp2_with fail
 try simp only [Act.put]
 exact hend _ sS sP
theorem sin_r3  (hsz : a.tmps.size = 95) (o7 : Sl a 7 (.int .i64 ((1 : Nat) : Int)))
 (hend : ∀ a', Same a a' [15, 16] → Sl a' 16 (.bool false) → Q .normal a' (w)) : (Code.region 3 (opsOf 3 Tryd.f45).toArray false).wp Tryd.prog Q a w := by
 refine wp_region_lit ?_
 (conv => arg 4; whnf)
 unfold Sl at o7
 go_wp2_with fail
 try simp only [Act.put]
 exact hend _ sS sP
theorem sin_r5 (A : Option Addr) (n c : Nat) (hsz : a.tmps.size = 95) (o0 : Sl a 0 (.slice A n c))
 (hend : ∀ a', Same a a' [18, 19, 8] → Sl a' 8 (.int .i64 ((n : Nat) : Int)) → Q .normal a' (w)) : (Code.region 5 (opsOf 5 Tryd.f45).toArray false).wp Tryd.prog Q a w := by
 refine wp_region_lit ?_
 (conv => arg 4; whnf)
 unfold Sl at o0
 go_wp2_with fail
 try simp only [Act.put]
 exact hend _ sS sP
theorem sin_r6 (k n : Nat) (b : Bool) (hb : ((k : Int) == (n : Int)) = b) (hsz : a.tmps.size = 95) (o1 : Sl a 1 (.int .i64 ((k : Nat) : Int))) (o8 : Sl a 8 (.int .i64 ((n : Nat) : Int)))
 (hend : ∀ a', Same a a' [20, 21, 22] → Sl a' 22 (.bool b) → Q .normal a' (w)) : (Code.region 6 (opsOf 6 Tryd.f45).toArray false).wp Tryd.prog Q a w := by
 refine wp_region_lit ?_
 (conv => arg 4; whnf)
 unfold Sl at o1 o8
 go_wp2_with fail
 try simp only [Act.put]
 exact hend _ sS sP
theorem sin_r7 (w0 : World) (v : Value) (vb : Nat) (l : List SigD) (s : SigD) (hs : s.2.length = 32) (hll : l.length ≤ 1000000) (L : List Res) (S : Held w0 w (rowR 81 33 v l.length (sgsC l) :: blkR vb 81 (sgA s) :: L)) (hsz : a.tmps.size = 95) (o0 : Sl a 0 (v)) (o2 : Sl a 2 (.slice (some ⟨vb, 0, none⟩) 1 1))
 (hend : ∀ a' W, Same a a' [23, 24, 25, 6] → (∃ v', Sl a' 6 v' ∧ Held w0 W (rowR 81 33 v' (l.length + 1) (sgsC (l ++ [s])) :: blkR vb 81 (sgA s) :: L)) → Q .normal a' W) : (Code.region 7 (opsOf 7 Tryd.f45).toArray false).wp Tryd.prog Q a w := by
 refine wp_region_lit ?_
 (conv => arg 4; whnf)
 unfold Sl at o0 o2
 have S := Lib.hid S
 have HO := Lib.hid (sgA_one s)
 have HR : Hid (Rd w 33 (.slice (some ⟨vb, 0, none⟩) 1 1) 1 (sgA s).toList) := Lib.hid (rd_sig1 (S.out.at_ (l1 := [_])) hs)
 have HE : Hid (sgsC l ++ (sgA s).toList = sgsC (l ++ [s])) := Lib.hid (by rw [sgsC_append]; show _ = _ ++ (sgL s ++ []); rw [List.append_nil]; rfl)
 obtain ⟨i0, hi, hz, hsize, hby⟩ := info_parts Tryd.infoSigZ
 have Hz := Lib.hid hz
 clear hz
 have hle : Hid (l.length + 1 ≤ maxLen ∧ (l.length + 1) * 48 ≤ 140737488355328) := Lib.hid ⟨by unfold maxLen; omega, by omega⟩
 generalize hcs : sgsC l = cs at *
 generalize l.length = n at *
 generalize hca : (sgA s).toList = ca at *
 go_wp2_with (at_builtin; refine wpList_app _ rfl (.tmp 23) (.tmp 24) 34 rfl 81 i0 _ 33 48 Tryd.underlying34 hi Hz.out hsize hby rfl (by decide) _ n cs (by simp [Act.eval, Act.put, hsz, o0]) (S.out.at_ (l1 := [])) _ 1 ca (by simp [Act.eval, Act.put, hsz, o2]) HR.out HO.out hle.out.1 hle.out.2 ?_; intro v' w' o3 g3 b3; have S2 := Lib.hid (Held.grow (l1 := []) S.out o3 g3 b3); clear o3 g3 b3)
 rw [HE.out] at S2
 try simp only [Act.put]
 exact hend _ _ sS (⟨_, sP0, S2.out⟩)
theorem sin_r8 (A : Option Addr) (n c : Nat) (hn : n < 1000000) (hsz : a.tmps.size = 95) (o0 : Sl a 0 (.slice A n c)) (o7 : Sl a 7 (.int .i64 ((1 : Nat) : Int))) (o8 : Sl a 8 (.int .i64 ((n : Nat) : Int)))
 (hend : ∀ a', Same a a' [26, 27, 28, 29, 30, 31] → Sl a' 31 (.bool (decide (c < n + 1))) → Q .normal a' (w)) : (Code.region 8 (opsOf 8 Tryd.f45).toArray false).wp Tryd.prog Q a w := by
 refine wp_region_lit ?_
 (conv => arg 4; whnf)
 unfold Sl at o0 o7 o8
 have hw : wrap64 ((n : Int) + 1) = ((n + 1 : Nat) : Int) := by unfold wrap64; omega
 go_wp2_with fail
 try simp only [Act.put]
 exact hend _ sS sP
theorem sin_r9 (w0 : World) (g n c k : Nat) (hk : k < n) (hnc : n ≤ c) (hn : n < 1000000) (hc : c < n + 1) (cur : Array Value) (hcz : cur.size = c * 33) (L : List Res) (S : Held w0 w (blkR g 81 cur :: L)) (hsz : a.tmps.size = 95) (o0 : Sl a 0 (.slice (some ⟨g, 0, none⟩) n c)) (o1 : Sl a 1 (.int .i64 ((k : Nat) : Int))) (o7 : Sl a 7 (.int .i64 ((1 : Nat) : Int))) (o8 : Sl a 8 (.int .i64 ((n : Nat) : Int)))
 (hend : ∀ a' W, Same a a' [32, 33, 34, 35, 36, 37, 38, 39, 40, 9] → (∃ (g2 c2 : Nat) (cur2 : Array Value), Sl a' 9 (.slice (some ⟨g2, 0, none⟩) (n + 1) c2) ∧ n + 1 ≤ c2 ∧ c2 ≤ maxLen ∧ cur2.size = c2 * 33 ∧ cur2.toList.take (k * 33) = cur.toList.take (k * 33) ∧ Held w0 W (blkR g2 81 cur2 :: blkR g 81 cur :: L)) → Q .normal a' W) : (Code.region 9 (opsOf 9 Tryd.f45).toArray false).wp Tryd.prog Q a w := by
 refine wp_region_lit ?_
 (conv => arg 4; whnf)
 unfold Sl at o0 o1 o7 o8
 have S := Lib.hid S
 have h0 : 0 ≤ (k : Int) := by omega
 have h1 : (k : Int) ≤ (c : Int) := by omega
 have h2 : ¬ c = 0 := by omega
 have hw : wrap64 ((n : Int) + 1) = ((n + 1 : Nat) : Int) := by unfold wrap64; omega
 have hw2 : wrap64 (((n + 1 : Nat) : Int) - (k : Int)) = ((n + 1 - k : Nat) : Int) := by unfold wrap64; omega
 have hw3 : wrap64 ((n : Int) + 1 - (k : Int)) = ((n + 1 - k : Nat) : Int) := by unfold wrap64; omega
 obtain ⟨i0, hi, hz, hsize, hby⟩ := info_parts Tryd.infoSigZ
 have HA0 := run_append_zerosG w 34 3 34 81 i0 _ Tryd.underlying34 Tryd.underlying3 hi hz ⟨g, 0, none⟩ k c (n + 1 - k) (cur.toList.take (k * 33)) (by rw [hsize, List.length_take, Array.length_toList, hcz]; omega) (fun j u hu => by
  rw [Addr.add_lit, Nat.zero_add, Blk.cell (S.out.at_ (l1 := []))]
  rw [List.getElem?_take] at hu
  split at hu
  · simpa using hu
  · cases hu) (by omega) (by omega) (by omega) (by omega) (by omega)
 have hkn : k + (n + 1 - k) = n + 1 := by omega
 rw [hkn] at HA0
 have hme : ((n + 1 - k : Nat) : Int) = (n : Int) + 1 - (k : Int) := by omega
 rw [hme] at HA0
 clear hme
 have HG : Hid (n + 1 ≤ grownCap w (n + 1) c 81 ∧ grownCap w (n + 1) c 81 ≤ maxLen) := Lib.hid ⟨grownCap_ge _ _ _ _, grownCap_le_maxLen _ _ _ _ (by unfold maxLen; omega)⟩
 generalize grownCap w (n + 1) c 81 = c2 at *
 have HZ := sin_zeros cur k (n + 1 - k) c c2 (n + 1) hcz (by omega) hkn HG.out.1
 generalize (cur.toList.take (k * 33)).toArray ++ Builtin.zeroCells (Value.cells (.agg (sgA ([], List.replicate 32 0)))) (n + 1 - k) ++ Builtin.zeroCells (Value.cells (.agg (sgA ([], List.replicate 32 0)))) (c2 - (n + 1)) = C2 at *
 have HZ := Lib.hid HZ
 have HA := Lib.hid HA0
 clear HA0 hkn
 generalize hm : n + 1 - k = m at *
 clear hz
 go_wp2_with (at_builtin; refine Lib.wpList_append_run _ rfl (.tmp 34) (.tmp 39) 34 3 rfl (.slice (some ⟨g, 0, none⟩) k c) (.int .i64 ((n : Int) + 1 - (k : Int))) (by simp [Act.eval, Act.put, hsz]) (by simp [Act.eval, Act.put, hsz]) _ _ HA.out ?_)
 have S2 := Lib.hid ((S.out.newBlk 81 C2).kp (Kp.refl [] _).drew)
 try simp only [Act.put]
 exact hend _ _ sS (⟨_, _, _, sP0, HG.out.1, HG.out.2, HZ.out.1, HZ.out.2, S2.out⟩)
theorem sin_r10 (w0 : World) (g n1 c2 k vb : Nat) (hk : k < n1) (hnc : n1 ≤ c2) (cur : Array Value) (hcz : cur.size = c2 * 33) (s : SigD) (hs : s.2.length = 32) (L : List Res) (S : Held w0 w (blkR g 81 cur :: blkR vb 81 (sgA s) :: L)) (hsz : a.tmps.size = 95) (o1 : Sl a 1 (.int .i64 ((k : Nat) : Int))) (o2 : Sl a 2 (.slice (some ⟨vb, 0, none⟩) 1 1)) (o9 : Sl a 9 (.slice (some ⟨g, 0, none⟩) n1 c2))
 (hend : ∀ a' W, Same a a' [41, 42, 43, 44, 45] → (Held w0 W (blkR g 81 (splice cur.toList (k * 33) (sgL s)).toArray :: blkR vb 81 (sgA s) :: L)) → Q .normal a' W) : (Code.region 10 (opsOf 10 Tryd.f45).toArray false).wp Tryd.prog Q a w := by
 refine wp_region_lit ?_
 (conv => arg 4; whnf)
 unfold Sl at o1 o2 o9
 have S := Lib.hid S
 have h0 : 0 ≤ (k : Int) := by omega
 have h1 : (k : Int) ≤ (n1 : Int) := by omega
 have h2 : ¬ c2 = k := by omega
 have HO := Lib.hid (sgA_one s)
 have HL : Hid ((sgA s).toList.length = 1 * 33) := Lib.hid (by rw [Array.length_toList, sgA_size hs])
 have HC : Hid (∀ j u, (sgA s).toList[j]? = some u → w.cell? ((⟨vb, 0, none⟩ : Addr).add j) = some u) := Lib.hid (Blk.agg (S.out.at_ (l1 := [_])))
 have HM : Hid (Nat.min 1 (n1 - k) = 1) := Lib.hid (by simp only [Nat.min_def]; split <;> omega)
 have HF : Hid (k * 33 + 1 * 33 ≤ cur.size) := Lib.hid (by omega)
 have hx : (sgA s).toList = sgL s := rfl
 generalize sgA s = ca at *
 go_wp2_with (refine wpList_copy_blkS 33 (.tmp 43) (.tmp 44) 34 34 rfl rfl 81 Tryd.underlying34 Tryd.infoSig g (k * 33) (n1 - k) (c2 - k) (by simp [Act.eval, Act.put, hsz]) ⟨vb, 0, none⟩ 1 1 (by simp [Act.eval, Act.put, hsz]) ca.toList 1 HM.out HL.out HC.out 81 cur (S.out.at_ (l1 := [])) HF.out HO.out ?_; intro w2 b2 k2; have S2 := Lib.hid (Held.setBlk (l1 := []) S.out b2 k2); clear b2 k2)
 rw [hx] at S2
 try simp only [Act.put]
 exact hend _ _ sS (S2.out)
theorem sin_r11 (w0 : World) (g2 n1 c2 g n0 c k : Nat) (hk : k + 1 < n1) (hnc : n1 ≤ c2) (hn1 : n1 < 1000000) (hk0 : k < n0) (hn0 : n0 + 1 ≤ n1) (hn0' : n1 ≤ n0 + 1) (hnc0 : n0 ≤ c) (cur : Array Value) (hcz : cur.size = c2 * 33) (curS : Array Value) (xs : List Value) (hxl : xs.length = (n1 - (k + 1)) * 33) (hx1 : ∀ v, v ∈ xs → v.oneCell' = true) (hxc : ∀ j u, xs[j]? = some u → curS[k * 33 + j]? = some u) (L : List Res) (hsz : a.tmps.size = 95) (o0 : Sl a 0 (.slice (some ⟨g, 0, none⟩) n0 c)) (o1 : Sl a 1 (.int .i64 ((k : Nat) : Int))) (o7 : Sl a 7 (.int .i64 ((1 : Nat) : Int))) (o9 : Sl a 9 (.slice (some ⟨g2, 0, none⟩) n1 c2))
 (S0 : Held w0 w (blkR g2 81 cur :: blkR g 81 curS :: L))
 (hend : ∀ a' W, Same a a' [46, 47, 48, 49, 50, 51, 52, 53, 54] → Held w0 W (blkR g2 81 (splice cur.toList ((k + 1) * 33) xs).toArray :: blkR g 81 curS :: L) → Q .normal a' W) : (Code.region 11 (opsOf 11 Tryd.f45).toArray true).wp Tryd.prog Q a w := by
 have hap : apartB (opsOf 11 Tryd.f45) = true := by kernel_rfl
 refine wp_region_sep (Γ := Unit) (l := (opsOf 11 Tryd.f45)) 3 [0, 1, 2, 3, 4, 5, 6, 7, 8, 10, 11]
  (fun i vs gs => match i with | 0 => vs 0 = .slice (some ⟨g2, 0, none⟩) n1 c2 | 1 => vs 1 = .int .i64 ((k : Nat) : Int) | 2 => vs 2 = .int .i64 ((1 : Nat) : Int) | 3 => vs 3 = .int .i64 ((k + 1 : Nat) : Int) | 4 => vs 4 = .slice (some ⟨g2, (k + 1) * 33, none⟩) (n1 - (k + 1)) (c2 - (k + 1)) | 5 => vs 5 = .slice (some ⟨g, 0, none⟩) n0 c | 6 => vs 6 = .int .i64 ((k : Nat) : Int) | 7 => vs 7 = .slice (some ⟨g, k * 33, none⟩) (n0 - k) (c - k) | _ => True)
  (fun i vs gs => match i with | 8 => [blkR g2 81 (splice cur.toList ((k + 1) * 33) xs).toArray] | 9 => [blkR g2 81 cur] | 10 => [blkR g 81 curS] | 11 => L | _ => [])
  (fun i => match i with | 8 => [9] | _ => []) (fun i => match i with | 8 => [10] | _ => []) S0 (by kernel_rfl) hap (by kernel_rfl) (by kernel_rfl) (fun i => match i with | 0 => [0] | 1 => [1] | 2 => [2] | 3 => [3] | 4 => [4] | 5 => [5] | 6 => [6] | 7 => [7] | _ => []) (by kernel_rfl) ?_ (by kernel_rfl) ?_ ?_ ?_
 · intro s vs vs' gs gs' h
   iterate 12 (rcases s with _ | s; · (first | exact ⟨rfl, id⟩ | (simp only [List.mem_cons, List.not_mem_nil, or_false, forall_eq] at h; simp [h])))
   exact ⟨rfl, id⟩
 · simp only [List.range, List.range.loop, List.flatMap_cons, List.flatMap_nil, List.append_nil]
   exact List.Perm.refl _
 · clear S0 hend
   refine ⟨?_, ?_, ?_, ?_, ?_, ?_, ?_, ?_, ?_, trivial⟩
   · intro vs gs A' W LF hA S hR hd hu K hK; replace hK := hK default; have e9 := sO 9 o9 hA hap hsz; clear hA o0 o1 o7 o9; go_step; exact hK _ _ S rfl
   · intro vs gs A' W LF hA S hR hd hu K hK; replace hK := hK default; have e1 := sO 1 o1 hA hap hsz; clear hA o0 o1 o7 o9; go_step; exact hK _ _ S rfl
   · intro vs gs A' W LF hA S hR hd hu K hK; replace hK := hK default; have e7 := sO 7 o7 hA hap hsz; clear hA o0 o1 o7 o9; go_step; exact hK _ _ S rfl
   · intro vs gs A' W LF hA S hR hd hu K hK; replace hK := hK default; have e47 := sV 47 (hd 1 (by kernel_rfl)) hA hap hsz; have e48 := sV 48 (hd 2 (by kernel_rfl)) hA hap hsz; clear hA o0 o1 o7 o9
     have hw : wrap64 ((k : Int) + 1) = ((k + 1 : Nat) : Int) := by unfold wrap64; omega
     go_step
     exact hK _ _ S (congrArg (Value.int .i64) (by first | omega | (unfold wrap64; omega)))
   · intro vs gs A' W LF hA S hR hd hu K hK; replace hK := hK default; have e46 := sV 46 (hd 0 (by kernel_rfl)) hA hap hsz; have e49 := sV 49 (hd 3 (by kernel_rfl)) hA hap hsz; clear hA o0 o1 o7 o9
     have h0 : 0 ≤ (k : Int) + 1 := by omega
     have h1 : (k : Int) + 1 ≤ (n1 : Int) := by omega
     have h2 : ¬ c2 = k + 1 := by omega
     have h3 : ((k : Int) + 1).toNat = k + 1 := by omega
     go_step; exact hK _ _ S rfl
   · intro vs gs A' W LF hA S hR hd hu K hK; replace hK := hK default; have e0 := sO 0 o0 hA hap hsz; clear hA o0 o1 o7 o9; go_step; exact hK _ _ S rfl
   · intro vs gs A' W LF hA S hR hd hu K hK; replace hK := hK default; have e1 := sO 1 o1 hA hap hsz; clear hA o0 o1 o7 o9; go_step; exact hK _ _ S rfl
   · intro vs gs A' W LF hA S hR hd hu K hK; replace hK := hK default; have e51 := sV 51 (hd 5 (by kernel_rfl)) hA hap hsz; have e52 := sV 52 (hd 6 (by kernel_rfl)) hA hap hsz; clear hA o0 o1 o7 o9
     have h0 : 0 ≤ (k : Int) := by omega
     have h1 : (k : Int) ≤ (n0 : Int) := by omega
     have h2 : ¬ c = k := by omega
     go_step; exact hK _ _ S rfl
   · intro vs gs A' W LF hA S hR hd hu K hK; replace hK := hK default; have e50 := sV 50 (hd 4 (by kernel_rfl)) hA hap hsz; have e53 := sV 53 (hd 7 (by kernel_rfl)) hA hap hsz; clear hA o0 o1 o7 o9
     have S1 : Held w0 W (blkR g2 81 cur :: LF) := S
     refine op_copy_blkS 33 (.tmp 50) (.tmp 53) 34 34 rfl 81 Tryd.underlying34 Tryd.infoSig g2 ((k + 1) * 33) (n1 - (k + 1)) (c2 - (k + 1)) (by simpa [Act.eval] using e50) ⟨g, k * 33, none⟩ _ _ (by simpa [Act.eval] using e53) xs (n1 - (k + 1)) (by simp only [Nat.min_def]; split <;> omega) hxl (fun j u hu => ?_) 81 cur (S1.at_ (l1 := [])) (by omega) hx1 (fun w' hbk k => hK _ _ (Held.setBlk (l1 := []) S1 hbk k) trivial)
     rw [Addr.add_lit, Blk.cell (S1.ok (blkR g 81 curS) (List.mem_cons_of_mem _ (hR 10 (List.mem_singleton.2 rfl) _ (List.mem_singleton.2 rfl))))]
     exact hxc j u hu
 · intro vs gs W S hp
   have S : Held w0 W (blkR g2 81 (splice cur.toList ((k + 1) * 33) xs).toArray :: blkR g 81 curS :: L) := by simpa only [List.flatMap_cons, List.flatMap_nil, List.append_nil, List.nil_append, List.cons_append, List.append_assoc] using S
   rw [putAll_eq]
   exact hend _ W sQ  S
theorem sin_r12 (v : Value) (hsz : a.tmps.size = 95) (o9 : Sl a 9 (v))
 (hend : ∀ a', Same a a' [55, 6] → Sl a' 6 (v) → Q .normal a' (w)) : (Code.region 12 (opsOf 12 Tryd.f45).toArray false).wp Tryd.prog Q a w := by
 refine wp_region_lit ?_
 (conv => arg 4; whnf)
 unfold Sl at o9
 go_wp2_with fail
 try simp only [Act.put]
 exact hend _ sS sP
theorem sin_r13 (g n c : Nat) (hc : n + 1 ≤ c) (hn : n < 1000000) (hsz : a.tmps.size = 95) (o0 : Sl a 0 (.slice (some ⟨g, 0, none⟩) n c)) (o7 : Sl a 7 (.int .i64 ((1 : Nat) : Int))) (o8 : Sl a 8 (.int .i64 ((n : Nat) : Int)))
 (hend : ∀ a', Same a a' [56, 57, 58, 59, 60, 0] → Sl a' 0 (.slice (some ⟨g, 0, none⟩) (n + 1) c) → Q .normal a' (w)) : (Code.region 13 (opsOf 13 Tryd.f45).toArray false).wp Tryd.prog Q a w := by
 refine wp_region_lit ?_
 (conv => arg 4; whnf)
 unfold Sl at o0 o7 o8
 have hw : wrap64 ((n : Int) + 1) = ((n + 1 : Nat) : Int) := by unfold wrap64; omega
 have h0 : 0 ≤ (n : Int) + 1 := by omega
 have h1 : (n : Int) + 1 ≤ (c : Int) := by omega
 have h2 : ¬ c = 0 := by omega
 have h3 : ((n : Int) + 1).toNat = n + 1 := by omega
 go_wp2_with fail
 try simp only [Act.put]
 exact hend _ sS sP
theorem sin_r14 (w0 : World) (g n1 c k vb : Nat) (hk : k + 1 < n1) (hn1 : n1 < 1000000) (hnc : n1 ≤ c) (cur : Array Value) (hcz : cur.size = c * 33) (s : SigD) (hs : s.2.length = 32) (L : List Res) (S : Held w0 w (blkR g 81 cur :: blkR vb 81 (sgA s) :: L)) (hsz : a.tmps.size = 95) (o0 : Sl a 0 (.slice (some ⟨g, 0, none⟩) n1 c)) (o1 : Sl a 1 (.int .i64 ((k : Nat) : Int))) (o2 : Sl a 2 (.slice (some ⟨vb, 0, none⟩) 1 1)) (o7 : Sl a 7 (.int .i64 ((1 : Nat) : Int)))
 (hend : ∀ a', Same a a' [61, 62, 63, 64, 65, 66, 67, 68] → Sl a' 68 (.bool true) → Q .normal a' (w)) : (Code.region 14 (opsOf 14 Tryd.f45).toArray false).wp Tryd.prog Q a w := by
 refine wp_region_lit ?_
 (conv => arg 4; whnf)
 unfold Sl at o0 o1 o2 o7
 have hw : wrap64 ((k : Int) + 1) = ((k + 1 : Nat) : Int) := by unfold wrap64; omega
 have h0 : 0 ≤ (k : Int) + 1 := by omega
 have h1 : (k : Int) + 1 ≤ (n1 : Int) := by omega
 have h2 : ¬ c = k + 1 := by omega
 have h3 : ((k : Int) + 1).toNat = k + 1 := by omega
 have hov : ∀ lb cb, (callFunc 70 #[.slice (some ⟨vb, 0, none⟩) 1 1, .slice (some ⟨g, (k + 1) * 33, none⟩) lb cb]).run Tryd.prog w = .ok (.value (.bool false)) w := fun lb cb => sin_over w g vb k _ lb cb cur (sgA s) (S.at_ (l1 := [])) (S.at_ (l1 := [_])) (by have := (S.apart2 (l1 := []) (l2 := [])) vb; intro e; subst e; exact this (by simp [blkR]) (by simp [blkR])) (by rw [hcz]; omega)
 go_wp2_with (simp only [hov])
 try simp only [Act.put]
 exact hend _ sS sP
theorem sin_r15 (w0 : World) (g2 n1 c2  k : Nat) (hk : k + 1 < n1) (hnc : n1 ≤ c2) (hn1 : n1 < 1000000)  (cur : Array Value) (hcz : cur.size = c2 * 33)  (xs : List Value) (hxl : xs.length = (n1 - (k + 1)) * 33) (hx1 : ∀ v, v ∈ xs → v.oneCell' = true) (hxc : ∀ j u, xs[j]? = some u → cur[k * 33 + j]? = some u) (L : List Res) (hsz : a.tmps.size = 95) (o0 : Sl a 0 (.slice (some ⟨g2, 0, none⟩) n1 c2)) (o1 : Sl a 1 (.int .i64 ((k : Nat) : Int))) (o7 : Sl a 7 (.int .i64 ((1 : Nat) : Int)))
 (S0 : Held w0 w (blkR g2 81 cur :: L))
 (hend : ∀ a' W, Same a a' [69, 70, 71, 72, 73, 74, 75, 76, 77] → Held w0 W (blkR g2 81 (splice cur.toList ((k + 1) * 33) xs).toArray :: L) → Q .normal a' W) : (Code.region 15 (opsOf 15 Tryd.f45).toArray true).wp Tryd.prog Q a w := by
 have hap : apartB (opsOf 15 Tryd.f45) = true := by kernel_rfl
 refine wp_region_sep (Γ := Unit) (l := (opsOf 15 Tryd.f45)) 2 [0, 1, 2, 3, 4, 5, 6, 7, 8, 10]
  (fun i vs gs => match i with | 0 => vs 0 = .slice (some ⟨g2, 0, none⟩) n1 c2 | 1 => vs 1 = .int .i64 ((k : Nat) : Int) | 2 => vs 2 = .int .i64 ((1 : Nat) : Int) | 3 => vs 3 = .int .i64 ((k + 1 : Nat) : Int) | 4 => vs 4 = .slice (some ⟨g2, (k + 1) * 33, none⟩) (n1 - (k + 1)) (c2 - (k + 1)) | 5 => vs 5 = .slice (some ⟨g2, 0, none⟩) n1 c2 | 6 => vs 6 = .int .i64 ((k : Nat) : Int) | 7 => vs 7 = .slice (some ⟨g2, k * 33, none⟩) (n1 - k) (c2 - k) | _ => True)
  (fun i vs gs => match i with | 8 => [blkR g2 81 (splice cur.toList ((k + 1) * 33) xs).toArray] | 9 => [blkR g2 81 cur] | 10 => L | _ => [])
  (fun i => match i with | 8 => [9] | _ => []) (fun i => match i with  | _ => []) S0 (by kernel_rfl) hap (by kernel_rfl) (by kernel_rfl) (fun i => match i with | 0 => [0] | 1 => [1] | 2 => [2] | 3 => [3] | 4 => [4] | 5 => [5] | 6 => [6] | 7 => [7] | _ => []) (by kernel_rfl) ?_ (by kernel_rfl) ?_ ?_ ?_
 · intro s vs vs' gs gs' h
   iterate 11 (rcases s with _ | s; · (first | exact ⟨rfl, id⟩ | (simp only [List.mem_cons, List.not_mem_nil, or_false, forall_eq] at h; simp [h])))
   exact ⟨rfl, id⟩
 · simp only [List.range, List.range.loop, List.flatMap_cons, List.flatMap_nil, List.append_nil]
   exact List.Perm.refl _
 · clear S0 hend
   refine ⟨?_, ?_, ?_, ?_, ?_, ?_, ?_, ?_, ?_, trivial⟩
   · intro vs gs A' W LF hA S hR hd hu K hK; replace hK := hK default; have e0 := sO 0 o0 hA hap hsz; clear hA o0 o1 o7; go_step; exact hK _ _ S rfl
   · intro vs gs A' W LF hA S hR hd hu K hK; replace hK := hK default; have e1 := sO 1 o1 hA hap hsz; clear hA o0 o1 o7; go_step; exact hK _ _ S rfl
   · intro vs gs A' W LF hA S hR hd hu K hK; replace hK := hK default; have e7 := sO 7 o7 hA hap hsz; clear hA o0 o1 o7; go_step; exact hK _ _ S rfl
   · intro vs gs A' W LF hA S hR hd hu K hK; replace hK := hK default; have e70 := sV 70 (hd 1 (by kernel_rfl)) hA hap hsz; have e71 := sV 71 (hd 2 (by kernel_rfl)) hA hap hsz; clear hA o0 o1 o7
     have hw : wrap64 ((k : Int) + 1) = ((k + 1 : Nat) : Int) := by unfold wrap64; omega
     go_step
     exact hK _ _ S (congrArg (Value.int .i64) (by first | omega | (unfold wrap64; omega)))
   · intro vs gs A' W LF hA S hR hd hu K hK; replace hK := hK default; have e69 := sV 69 (hd 0 (by kernel_rfl)) hA hap hsz; have e72 := sV 72 (hd 3 (by kernel_rfl)) hA hap hsz; clear hA o0 o1 o7
     have h0 : 0 ≤ (k : Int) + 1 := by omega
     have h1 : (k : Int) + 1 ≤ (n1 : Int) := by omega
     have h2 : ¬ c2 = k + 1 := by omega
     have h3 : ((k : Int) + 1).toNat = k + 1 := by omega
     go_step; exact hK _ _ S rfl
   · intro vs gs A' W LF hA S hR hd hu K hK; replace hK := hK default; have e0 := sO 0 o0 hA hap hsz; clear hA o0 o1 o7; go_step; exact hK _ _ S rfl
   · intro vs gs A' W LF hA S hR hd hu K hK; replace hK := hK default; have e1 := sO 1 o1 hA hap hsz; clear hA o0 o1 o7; go_step; exact hK _ _ S rfl
   · intro vs gs A' W LF hA S hR hd hu K hK; replace hK := hK default; have e74 := sV 74 (hd 5 (by kernel_rfl)) hA hap hsz; have e75 := sV 75 (hd 6 (by kernel_rfl)) hA hap hsz; clear hA o0 o1 o7
     have h0 : 0 ≤ (k : Int) := by omega
     have h1 : (k : Int) ≤ (n1 : Int) := by omega
     have h2 : ¬ c2 = k := by omega
     go_step; exact hK _ _ S rfl
   · intro vs gs A' W LF hA S hR hd hu K hK; replace hK := hK default; have e73 := sV 73 (hd 4 (by kernel_rfl)) hA hap hsz; have e76 := sV 76 (hd 7 (by kernel_rfl)) hA hap hsz; clear hA o0 o1 o7
     have S1 : Held w0 W (blkR g2 81 cur :: LF) := S
     refine op_copy_blkS 33 (.tmp 73) (.tmp 76) 34 34 rfl 81 Tryd.underlying34 Tryd.infoSig g2 ((k + 1) * 33) (n1 - (k + 1)) (c2 - (k + 1)) (by simpa [Act.eval] using e73) ⟨g2, k * 33, none⟩ _ _ (by simpa [Act.eval] using e76) xs (n1 - (k + 1)) (by simp only [Nat.min_def]; split <;> omega) hxl (fun j u hu => ?_) 81 cur (S1.at_ (l1 := [])) (by omega) hx1 (fun w' hbk k => hK _ _ (Held.setBlk (l1 := []) S1 hbk k) trivial)
     rw [Addr.add_lit, Blk.cell (S1.at_ (l1 := []))]
     exact hxc j u hu
 · intro vs gs W S hp
   have S : Held w0 W (blkR g2 81 (splice cur.toList ((k + 1) * 33) xs).toArray :: L) := by simpa only [List.flatMap_cons, List.flatMap_nil, List.append_nil, List.nil_append, List.cons_append, List.append_assoc] using S
   rw [putAll_eq]
   exact hend _ W sQ  S
theorem sin_r16 (w0 : World) (g n1 c2 k vb : Nat) (hk : k < n1) (hnc : n1 ≤ c2) (cur : Array Value) (hcz : cur.size = c2 * 33) (s : SigD) (hs : s.2.length = 32) (L : List Res) (S : Held w0 w (blkR g 81 cur :: blkR vb 81 (sgA s) :: L)) (hsz : a.tmps.size = 95) (o0 : Sl a 0 (.slice (some ⟨g, 0, none⟩) n1 c2)) (o1 : Sl a 1 (.int .i64 ((k : Nat) : Int))) (o2 : Sl a 2 (.slice (some ⟨vb, 0, none⟩) 1 1))
 (hend : ∀ a' W, Same a a' [78, 79, 80, 81, 82] → (Held w0 W (blkR g 81 (splice cur.toList (k * 33) (sgL s)).toArray :: blkR vb 81 (sgA s) :: L)) → Q .normal a' W) : (Code.region 16 (opsOf 16 Tryd.f45).toArray false).wp Tryd.prog Q a w := by
 refine wp_region_lit ?_
 (conv => arg 4; whnf)
 unfold Sl at o0 o1 o2
 have S := Lib.hid S
 have h0 : 0 ≤ (k : Int) := by omega
 have h1 : (k : Int) ≤ (n1 : Int) := by omega
 have h2 : ¬ c2 = k := by omega
 have HO := Lib.hid (sgA_one s)
 have HL : Hid ((sgA s).toList.length = 1 * 33) := Lib.hid (by rw [Array.length_toList, sgA_size hs])
 have HC : Hid (∀ j u, (sgA s).toList[j]? = some u → w.cell? ((⟨vb, 0, none⟩ : Addr).add j) = some u) := Lib.hid (Blk.agg (S.out.at_ (l1 := [_])))
 have HM : Hid (Nat.min 1 (n1 - k) = 1) := Lib.hid (by simp only [Nat.min_def]; split <;> omega)
 have HF : Hid (k * 33 + 1 * 33 ≤ cur.size) := Lib.hid (by omega)
 have hx : (sgA s).toList = sgL s := rfl
 generalize sgA s = ca at *
 go_wp2_with (refine wpList_copy_blkS 33 (.tmp 80) (.tmp 81) 34 34 rfl rfl 81 Tryd.underlying34 Tryd.infoSig g (k * 33) (n1 - k) (c2 - k) (by simp [Act.eval, Act.put, hsz]) ⟨vb, 0, none⟩ 1 1 (by simp [Act.eval, Act.put, hsz]) ca.toList 1 HM.out HL.out HC.out 81 cur (S.out.at_ (l1 := [])) HF.out HO.out ?_; intro w2 b2 k2; have S2 := Lib.hid (Held.setBlk (l1 := []) S.out b2 k2); clear b2 k2)
 rw [hx] at S2
 try simp only [Act.put]
 exact hend _ _ sS (S2.out)
theorem sin_r17 (v : Value) (hsz : a.tmps.size = 95) (o0 : Sl a 0 (v))
 (hend : ∀ a', Same a a' [83, 6] → Sl a' 6 (v) → Q .normal a' (w)) : (Code.region 17 (opsOf 17 Tryd.f45).toArray false).wp Tryd.prog Q a w := by
 refine wp_region_lit ?_
 (conv => arg 4; whnf)
 unfold Sl at o0
 go_wp2_with fail
 try simp only [Act.put]
 exact hend _ sS sP
end
/- slices.Insert over signatures, whole. -/
section
open Go.RowKit
theorem results_t1 {P : Program} {fn : Func} {w : World} {tmps : Array Value} {u : Nat} {x : Value} (h : fn.results = #[.tmp u]) (hx : tmps.getD u undef = x) : (results fn tmps).run P w = .ok x w := by
 simp only [Array.getD_eq_getD_getElem?] at hx
 simp [results, h, hx]
theorem splice_len {l xs : List Value} {off : Nat} (h : off + xs.length ≤ l.length) : (splice l off xs).length = l.length := by
 unfold splice
 rw [List.length_append, List.length_append, List.length_take, List.length_drop]
 omega
theorem ins_B {l x d : List Value} {off : Nat} (h : off + x.length + d.length ≤ l.length) : (splice (splice l off x) (off + x.length) d).take (off + x.length + d.length) = l.take off ++ x ++ d := by
 have hA : (l.take off).length = off := by rw [List.length_take]; omega
 have h1 : (splice l off x).take (off + x.length) = l.take off ++ x := by
  unfold splice
  rw [← List.append_assoc, List.take_append_of_le_length (by rw [List.length_append, hA]; exact Nat.le_refl _), List.take_of_length_le (by rw [List.length_append, hA]; exact Nat.le_refl _)]
 show ((splice l off x).take (off + x.length) ++ (d ++ _)).take _ = _
 rw [h1, ← List.append_assoc, List.take_append_of_le_length (by rw [List.length_append, List.length_append, hA]; exact Nat.le_refl _), List.take_of_length_le (by rw [List.length_append, List.length_append, hA]; exact Nat.le_refl _)]
theorem ins_C {l x d : List Value} {off : Nat} (h : off + x.length + d.length ≤ l.length) : (splice (splice l (off + x.length) d) off x).take (off + x.length + d.length) = l.take off ++ x ++ d := by
 have hA : (l.take off).length = off := by rw [List.length_take]; omega
 have hB : (l.take (off + x.length)).length = off + x.length := by rw [List.length_take]; omega
 have h1 : (splice l (off + x.length) d).take off = l.take off := by
  unfold splice
  rw [List.take_append_of_le_length (by rw [hB]; omega), List.take_take, Nat.min_eq_left (by omega)]
 have h2 : ∃ R, (splice l (off + x.length) d).drop (off + x.length) = d ++ R := by
  unfold splice
  exact ⟨l.drop (off + x.length + d.length), by rw [List.drop_append_of_le_length (by rw [hB]; exact Nat.le_refl _), List.drop_of_length_le (by rw [hB]; exact Nat.le_refl _), List.nil_append]⟩
 obtain ⟨R, h2⟩ := h2
 show ((splice l (off + x.length) d).take off ++ (x ++ (splice l (off + x.length) d).drop (off + x.length))).take _ = _
 rw [h1, h2, ← List.append_assoc x, ← List.append_assoc (l.take off), ← List.append_assoc (l.take off), List.take_append_of_le_length (by rw [List.length_append, List.length_append, hA]; exact Nat.le_refl _), List.take_of_length_le (by rw [List.length_append, List.length_append, hA]; exact Nat.le_refl _)]
theorem sgok_take {l : List SigD} (h : SgOk l) (k : Nat) : SgOk (l.take k) := fun s hs => h s (List.mem_of_mem_take hs)
theorem sgok_drop {l : List SigD} (h : SgOk l) (k : Nat) : SgOk (l.drop k) := fun s hs => h s (List.mem_of_mem_drop hs)
theorem sgsC_cut {l : List SigD} (h : SgOk l) {k : Nat} (hk : k ≤ l.length) : sgsC l = sgsC (l.take k) ++ sgsC (l.drop k) ∧ (sgsC (l.take k)).length = k * 33 ∧ (sgsC (l.drop k)).length = (l.length - k) * 33 := by
 refine ⟨by rw [← sgsC_append, List.take_append_drop], ?_, ?_⟩
 · rw [sgsC_length (sgok_take h k), List.length_take, Nat.min_eq_left hk]
 · rw [sgsC_length (sgok_drop h k), List.length_drop]
theorem sgsC_ins {l : List SigD} (s : SigD) (k : Nat) : sgsC (l.take k ++ s :: l.drop k) = sgsC (l.take k) ++ sgL s ++ sgsC (l.drop k) := by
 rw [sgsC_append]
 show _ ++ (sgL s ++ sgsC (l.drop k)) = _
 rw [List.append_assoc]
theorem sgs_drop_at {l : List SigD} (h : SgOk l) {k : Nat} (hk : k ≤ l.length) {cur : Array Value} (hc : cur.toList.take (l.length * 33) = sgsC l) : ∀ j u, (sgsC (l.drop k))[j]? = some u → cur[k * 33 + j]? = some u := by
 intro j u hu
 obtain ⟨h1, h2, h3⟩ := sgsC_cut h hk
 have hj := (List.getElem?_eq_some_iff.1 hu).1
 have e : (sgsC l)[k * 33 + j]? = some u := by
  rw [h1, List.getElem?_append_right (by omega), h2, Nat.add_sub_cancel_left]
  exact hu
 rw [← hc, List.getElem?_take, if_pos (by omega)] at e
 simpa using e
theorem sinsert_any (w0 : World) (L : List Res) (v : Value) (l : List SigD) (hok : SgOk l) (hll : l.length < 999999) (k : Nat) (hk : k ≤ l.length) (vb : Nat) (s : SigD) (hs : s.2.length = 32) (w : World) (S : Held w0 w (rowR 81 33 v l.length (sgsC l) :: blkR vb 81 (sgA s) :: L)) :
 Calls Tryd.prog 45 #[v, .int .i64 ((k : Nat) : Int), .slice (some ⟨vb, 0, none⟩) 1 1] w fun e w' => ∃ v', e = .returned v' ∧ Held w0 w' (rowR 81 33 v' (l.length + 1) (sgsC (l.take k ++ s :: l.drop k)) :: blkR vb 81 (sgA s) :: L) := by
 obtain ⟨A, c, rfl, hnc, hcm⟩ := ow_form (show Ow w 81 33 v l.length (sgsC l) from S.at_ (l1 := []))
 obtain ⟨hcut1, hcut2, hcut3⟩ := sgsC_cut hok hk
 have hsl : (sgL s).length = 33 := sgL_length hs
 refine calls_fr Tryd.func45 rfl 95 rfl (fun a0 hsz hdf hAr => ?_)
 have hz0 : a0.tmps.size = 95 := hsz
 have D := hdf
 have o0 := hAr 0 _ rfl
 have o1 := hAr 1 _ rfl
 have o2 := hAr 2 _ rfl
 refine wp_seq (sin_r0 hz0 (fun a1 hs1 o6 => ?_))
 have hz1 := hs1.size.trans hz0; have o0 := hs1.k o0; have o1 := hs1.k o1; have o2 := hs1.k o2; have D := hs1.defers.trans D
 refine wp_seq (sin_r1 A l.length c k hk hz1 o0 o1 (fun a2 hs2 o11 => ?_))
 have hz2 := hs2.size.trans hz1; have o0 := hs2.k o0; have o1 := hs2.k o1; have o2 := hs2.k o2; have o6 := hs2.k o6; have D := hs2.defers.trans D
 refine wp_seq (sin_r2 vb hz2 o2 (fun a3 hs3 o7 => ?_))
 have hz3 := hs3.size.trans hz2; have o0 := hs3.k o0; have o1 := hs3.k o1; have o2 := hs3.k o2; have o6 := hs3.k o6; have o11 := hs3.k o11; have D := hs3.defers.trans D
 refine wp_seq (wp_seq (sin_r3 hz3 o7 (fun a4 hs4 o16 => ?_)))
 have hz4 := hs4.size.trans hz3; have o0 := hs4.k o0; have o1 := hs4.k o1; have o2 := hs4.k o2; have o6 := hs4.k o6; have o11 := hs4.k o11; have o7 := hs4.k o7; have D := hs4.defers.trans D
 refine wp_cond_false (o16.eval (by rw [hz4]; decide)) (wp_skip ?_)
 refine wp_seq (sin_r5 A l.length c hz4 o0 (fun a5 hs5 o8 => ?_))
 have hz5 := hs5.size.trans hz4; have o0 := hs5.k o0; have o1 := hs5.k o1; have o2 := hs5.k o2; have o6 := hs5.k o6; have o11 := hs5.k o11; have o7 := hs5.k o7; have o16 := hs5.k o16; have D := hs5.defers.trans D
 obtain ⟨b, hb⟩ : ∃ b, ((k : Int) == (l.length : Int)) = b := ⟨_, rfl⟩
 refine wp_seq (wp_seq (sin_r6 k l.length b hb hz5 o1 o8 (fun a6 hs6 o22 => ?_)))
 have hz6 := hs6.size.trans hz5; have o0 := hs6.k o0; have o1 := hs6.k o1; have o2 := hs6.k o2; have o6 := hs6.k o6; have o11 := hs6.k o11; have o7 := hs6.k o7; have o16 := hs6.k o16; have o8 := hs6.k o8; have D := hs6.defers.trans D
 by_cases hkn : k = l.length
 · have hb1 : b = true := by rw [← hb, hkn]; exact beq_self_eq_true _
   refine wp_cond_true ((o22.eval (by rw [hz6]; decide)).trans (by rw [hb1])) ?_
   refine wp_seq (sin_r7 w0 (.slice A l.length c) vb l s hs (by omega) L S hz6 o0 o2 (fun a7 w7 hs7 h => ?_))
   have hz7 := hs7.size.trans hz6; have o0 := hs7.k o0; have o1 := hs7.k o1; have o2 := hs7.k o2; have o11 := hs7.k o11; have o7 := hs7.k o7; have o16 := hs7.k o16; have o8 := hs7.k o8; have o22 := hs7.k o22; have D := hs7.defers.trans D
   obtain ⟨v', o6, S⟩ := h
   have e : l.take k ++ s :: l.drop k = l ++ [s] := by rw [hkn, List.take_length, List.drop_length]
   rw [← e] at S
   refine wp_ret ?_
   simp only [Exit.then]
   exact (bodyPost_ret (results_t1 (by rfl) (o6.eval (by rw [hz7]; decide))) D ⟨_, rfl, S⟩)
 · have hb1 : b = false := by rw [← hb]; exact beq_false_of_ne (by omega)
   refine wp_cond_false ((o22.eval (by rw [hz6]; decide)).trans (by rw [hb1])) (wp_skip ?_)
   obtain ⟨ad, rfl⟩ := sgs_addr (Rd.of_own (show Ow w 81 33 (.slice A l.length c) l.length (sgsC l) from S.at_ (l1 := []))) (by omega)
   obtain ⟨g, rfl⟩ : ∃ g, ad = ⟨g, 0, none⟩ := by
    obtain ⟨g, c', he, -, -⟩ := ow_some (show Ow w 81 33 (.slice (some ad) l.length c) l.length (sgsC l) from S.at_ (l1 := [])) (by omega)
    cases he
    exact ⟨g, rfl⟩
   obtain ⟨cur, S, hcz, hct, -, -⟩ := S.row_blk
   have hpre : cur.toList.take (k * 33) = sgsC (l.take k) := by
    have := congrArg (List.take (k * 33)) hct
    rw [List.take_take, Nat.min_eq_left (by omega), hcut1, List.take_append_of_le_length (by omega), List.take_of_length_le (show (sgsC (l.take k)).length ≤ k * 33 by omega)] at this
    exact this
   have hone := sgsC_one (l.drop k)
   refine wp_seq (wp_seq (sin_r8 (some ⟨g, 0, none⟩) l.length c (by omega) hz6 o0 o7 o8 (fun a7 hs7 o31 => ?_)))
   have hz7 := hs7.size.trans hz6; have o0 := hs7.k o0; have o1 := hs7.k o1; have o2 := hs7.k o2; have o6 := hs7.k o6; have o11 := hs7.k o11; have o7 := hs7.k o7; have o16 := hs7.k o16; have o8 := hs7.k o8; have o22 := hs7.k o22; have D := hs7.defers.trans D
   by_cases hcc : c < l.length + 1
   · refine wp_cond_true ((o31.eval (by rw [hz7]; decide)).trans (by rw [decide_eq_true hcc])) ?_
     refine wp_seq (sin_r9 w0 g l.length c k (by omega) hnc (by omega) hcc cur hcz _ S hz7 o0 o1 o7 o8 (fun a8 w9 hs8 h => ?_))
     have hz8 := hs8.size.trans hz7; have o0 := hs8.k o0; have o1 := hs8.k o1; have o2 := hs8.k o2; have o6 := hs8.k o6; have o11 := hs8.k o11; have o7 := hs8.k o7; have o16 := hs8.k o16; have o8 := hs8.k o8; have o22 := hs8.k o22; have o31 := hs8.k o31; have D := hs8.defers.trans D
     obtain ⟨g2, c2, cur2, o9, hn2, hm2, hz2c, hp2, S⟩ := h
     have S := S.perm (show List.Perm _ (blkR g2 81 cur2 :: blkR vb 81 (sgA s) :: blkR g 81 cur :: L) from List.Perm.cons _ (List.Perm.swap _ _ _))
     refine wp_seq (sin_r10 w0 g2 (l.length + 1) c2 k vb (by omega) hn2 cur2 hz2c s hs _ S hz8 o1 o2 o9 (fun a9 w10 hs9 S => ?_))
     have hz9 := hs9.size.trans hz8; have o0 := hs9.k o0; have o1 := hs9.k o1; have o2 := hs9.k o2; have o6 := hs9.k o6; have o11 := hs9.k o11; have o7 := hs9.k o7; have o16 := hs9.k o16; have o8 := hs9.k o8; have o22 := hs9.k o22; have o31 := hs9.k o31; have o9 := hs9.k o9; have D := hs9.defers.trans D
     have hcl2 : cur2.toList.length = c2 * 33 := by rw [Array.length_toList, hz2c]
     have hz3c : (splice cur2.toList (k * 33) (sgL s)).toArray.size = c2 * 33 := by rw [List.size_toArray, splice_len (by rw [hsl, hcl2]; omega), hcl2]
     have S := S.perm (show List.Perm _ (blkR g2 81 (splice cur2.toList (k * 33) (sgL s)).toArray :: blkR g 81 cur :: blkR vb 81 (sgA s) :: L) from List.Perm.cons _ (List.Perm.swap _ _ _))
     refine wp_seq (sin_r11 w0 g2 (l.length + 1) c2 g l.length c k (by omega) hn2 (by omega) (by omega) (by omega) (by omega) hnc _ hz3c cur (sgsC (l.drop k)) (by rw [hcut3]; congr 1; omega) hone (sgs_drop_at hok hk hct) _ hz9 o0 o1 o7 o9 S (fun a10 w11 hs10 S => ?_))
     have hz10 := hs10.size.trans hz9; have o0 := hs10.k o0; have o1 := hs10.k o1; have o2 := hs10.k o2; have o6 := hs10.k o6; have o11 := hs10.k o11; have o7 := hs10.k o7; have o16 := hs10.k o16; have o8 := hs10.k o8; have o22 := hs10.k o22; have o31 := hs10.k o31; have o9 := hs10.k o9; have D := hs10.defers.trans D
     refine wp_seq (sin_r12 _ hz10 o9 (fun a11 hs11 o6 => ?_))
     have hz11 := hs11.size.trans hz10; have o0 := hs11.k o0; have o1 := hs11.k o1; have o2 := hs11.k o2; have o11 := hs11.k o11; have o7 := hs11.k o7; have o16 := hs11.k o16; have o8 := hs11.k o8; have o22 := hs11.k o22; have o31 := hs11.k o31; have o9 := hs11.k o9; have D := hs11.defers.trans D
     have e1 : (k + 1) * 33 = k * 33 + (sgL s).length := by omega
     have e2 : (l.length + 1) * 33 = k * 33 + (sgL s).length + (sgsC (l.drop k)).length := by omega
     have hfin : (splice (splice cur2.toList (k * 33) (sgL s)) ((k + 1) * 33) (sgsC (l.drop k))).toArray.toList.take ((l.length + 1) * 33) = sgsC (l.take k ++ s :: l.drop k) := by
      rw [sgsC_ins, List.toList_toArray, e1, e2, ins_B (by rw [hcl2]; omega), hp2, hpre]
     have hsz4 : (splice (splice cur2.toList (k * 33) (sgL s)) ((k + 1) * 33) (sgsC (l.drop k))).toArray.size = c2 * 33 := by
      rw [List.size_toArray, splice_len (by rw [splice_len (by rw [hsl, hcl2]; omega), hcl2]; omega), splice_len (by rw [hsl, hcl2]; omega), hcl2]
     have S := Held.blk_row (s := 33) (n := l.length + 1) S hsz4 hfin hn2 hm2
     have S := S.dropAt (l1 := [_])
     refine wp_ret ?_
     simp only [Exit.then]
     exact (bodyPost_ret (results_t1 (by rfl) (o6.eval (by rw [hz11]; decide))) D ⟨_, rfl, S⟩)
   · refine wp_cond_false ((o31.eval (by rw [hz7]; decide)).trans (by rw [decide_eq_false hcc])) (wp_skip ?_)
     refine wp_seq (sin_r13 g l.length c (by omega) (by omega) hz7 o0 o7 o8 (fun a8 hs8 o0 => ?_))
     have hz8 := hs8.size.trans hz7; have o1 := hs8.k o1; have o2 := hs8.k o2; have o6 := hs8.k o6; have o11 := hs8.k o11; have o7 := hs8.k o7; have o16 := hs8.k o16; have o8 := hs8.k o8; have o22 := hs8.k o22; have o31 := hs8.k o31; have D := hs8.defers.trans D
     refine wp_seq (wp_seq (sin_r14 w0 g (l.length + 1) c k vb (by omega) (by omega) (by omega) cur hcz s hs _ S hz8 o0 o1 o2 o7 (fun a9 hs9 o68 => ?_)))
     have hz9 := hs9.size.trans hz8; have o1 := hs9.k o1; have o2 := hs9.k o2; have o6 := hs9.k o6; have o11 := hs9.k o11; have o7 := hs9.k o7; have o16 := hs9.k o16; have o8 := hs9.k o8; have o22 := hs9.k o22; have o31 := hs9.k o31; have o0 := hs9.k o0; have D := hs9.defers.trans D
     refine wp_cond_true (o68.eval (by rw [hz9]; decide)) ?_
     refine wp_seq (sin_r15 w0 g (l.length + 1) c k (by omega) (by omega) (by omega) cur hcz (sgsC (l.drop k)) (by rw [hcut3]; congr 1; omega) hone (sgs_drop_at hok hk hct) _ hz9 o0 o1 o7 S (fun a10 w15 hs10 S => ?_))
     have hz10 := hs10.size.trans hz9; have o1 := hs10.k o1; have o2 := hs10.k o2; have o6 := hs10.k o6; have o11 := hs10.k o11; have o7 := hs10.k o7; have o16 := hs10.k o16; have o8 := hs10.k o8; have o22 := hs10.k o22; have o31 := hs10.k o31; have o0 := hs10.k o0; have o68 := hs10.k o68; have D := hs10.defers.trans D
     have hcl : cur.toList.length = c * 33 := by rw [Array.length_toList, hcz]
     have hz3c : (splice cur.toList ((k + 1) * 33) (sgsC (l.drop k))).toArray.size = c * 33 := by rw [List.size_toArray, splice_len (by rw [hcl]; omega), hcl]
     refine wp_seq (sin_r16 w0 g (l.length + 1) c k vb (by omega) (by omega) _ hz3c s hs _ S hz10 o0 o1 o2 (fun a11 w16 hs11 S => ?_))
     have hz11 := hs11.size.trans hz10; have o1 := hs11.k o1; have o2 := hs11.k o2; have o6 := hs11.k o6; have o11 := hs11.k o11; have o7 := hs11.k o7; have o16 := hs11.k o16; have o8 := hs11.k o8; have o22 := hs11.k o22; have o31 := hs11.k o31; have o0 := hs11.k o0; have o68 := hs11.k o68; have D := hs11.defers.trans D
     refine wp_seq (sin_r17 _ hz11 o0 (fun a12 hs12 o6 => ?_))
     have hz12 := hs12.size.trans hz11; have o1 := hs12.k o1; have o2 := hs12.k o2; have o11 := hs12.k o11; have o7 := hs12.k o7; have o16 := hs12.k o16; have o8 := hs12.k o8; have o22 := hs12.k o22; have o31 := hs12.k o31; have o0 := hs12.k o0; have o68 := hs12.k o68; have D := hs12.defers.trans D
     have e1 : (k + 1) * 33 = k * 33 + (sgL s).length := by omega
     have e2 : (l.length + 1) * 33 = k * 33 + (sgL s).length + (sgsC (l.drop k)).length := by omega
     have hfin : (splice (splice cur.toList ((k + 1) * 33) (sgsC (l.drop k))) (k * 33) (sgL s)).toArray.toList.take ((l.length + 1) * 33) = sgsC (l.take k ++ s :: l.drop k) := by
      rw [sgsC_ins, List.toList_toArray, e1, e2, ins_C (by rw [hcl]; omega), hpre]
     have hsz4 : (splice (splice cur.toList ((k + 1) * 33) (sgsC (l.drop k))) (k * 33) (sgL s)).toArray.size = c * 33 := by
      rw [List.size_toArray, splice_len (by rw [hsl, splice_len (by rw [hcl]; omega), hcl]; omega), splice_len (by rw [hcl]; omega), hcl]
     have S := Held.blk_row (s := 33) (n := l.length + 1) S hsz4 hfin (by omega) hcm
     refine wp_ret ?_
     simp only [Exit.then]
     exact (bodyPost_ret (results_t1 (by rfl) (o6.eval (by rw [hz12]; decide))) D ⟨_, rfl, S⟩)
end
/- sign.Sum. -/
section
open Go.RowKit
theorem conv_str (w : World) (s : ByteArray) (hs : s.size ≤ 100000000) : ∃ v w', (convert 9 22 (.string s)).run Tryd.prog w = .ok v w' ∧ Held w w' [rdR v s.size (bv s.data.toList)] := by
 refine ⟨_, _, Lib.run_convert_string_bytes (P := Tryd.prog) w 9 22 5 s Tryd.underlying9 Tryd.underlying22 Tryd.underlying5, ?_⟩
 have hle := grownCap_ge w s.size 0 5
 have hmx := grownCap_le_maxLen w s.size 0 5 (by unfold maxLen; omega)
 have hk : Kp [] w (Lib.bytesWorld w 5 s) := ⟨rfl, rfl, rfl, by rw [Lib.bytesWorld_size]; omega, fun j hj _ => Lib.bytesWorld_at_old w _ s j hj⟩
 refine (Held.start w).new (rdR _ _ _) hk ⟨⟨by rw [bv_length]; simp, _, _, rfl, hle, hmx, (fun h => by cases h), fun ad had j u hu => ?_⟩, fun g hg => ?_⟩ (fun b hb => ?_)
 · cases had
   have hj : j < s.size := by have := (List.getElem?_eq_some_iff.1 hu).1; rw [bv_length] at this; simpa using this
   have := Lib.bytesWorld_cell w 5 s j hj
   rw [Addr.add_lit, Nat.zero_add, this]
   simp only [bv, List.getElem?_map] at hu
   have hj2 : j < s.data.toList.length := by simpa using hj
   rw [List.getElem?_eq_getElem hj2] at hu
   rw [List.getD_eq_getElem?_getD, List.getElem?_eq_getElem hj2]
   simpa using hu
 · cases hg
   rw [Lib.bytesWorld_size]
   exact Nat.lt_succ_self _
 · simp only [rdR, Value.ownBlock, Option.toList_some, List.mem_singleton] at hb
   omega
theorem wpList_conv {ops : Array Oper} {rest : List Oper} {o : Oper} {a : Act} {w0 w : World} {L : List Res} {Q : Exit → Act → World → Prop} (hg : o.guard = none) (x : Operand) (ho : o.op = .convert 9 22 x) (s : ByteArray) (hx : a.eval x = .string s) (hs : s.size ≤ 100000000) (n : Nat) (hn : s.size = n) (S : Held w0 w L)
 (h : ∀ v w', Held w0 w' (rdR v n (bv s.data.toList) :: L) → wpList Tryd.prog ops Q rest (a.put o.dst v) w') : wpList Tryd.prog ops Q (o :: rest) a w :=
 wpList_plain hg fun K hK => by
  subst hn
  obtain ⟨v, w', hrun, S'⟩ := conv_str w s hs
  refine op_runs (v := v) (w' := w') ?_ (hK _ _ (h v w' ?_))
  · simp [execOp, ho, hx, hrun, Result.andThen]
  · exact S.new _ S'.k (S'.at_ (l1 := [])) (fun b hb => S'.base _ (List.mem_singleton.2 rfl) b hb)
def sumOk (z : Int) (nm sec : List UInt8) : Bool := decide (0 ≤ z) && keyOk nm sec
def sumF (z : Int) (h nm sec : List UInt8) : List UInt8 := macF sec (nm ++ [10] ++ told z.toNat h)
def sumV (z : Int) (h nm sec : List UInt8) : List UInt8 := if sumOk z nm sec then sumF z h nm sec else List.replicate 32 0
theorem sumF_length (z : Int) (h nm sec : List UInt8) : (sumF z h nm sec).length = 32 := by unfold sumF macF; exact shaF_length _
theorem sumV_length (z : Int) (h nm sec : List UInt8) : (sumV z h nm sec).length = 32 := by
 unfold sumV
 split
 · exact sumF_length ..
 · simp
theorem Tryd.built_hashZ : Tryd.prog.built 25 [] = some (hashA (List.replicate 32 0)) := by kernel_rfl
theorem told_le (n : Nat) (hn : n < 9223372036854775808) (h : List UInt8) (hh : h.length = 32) : (told n h).length ≤ 1000 := by
 rw [told_length, hexS_length, hh]
 have := dec_19 hn
 omega
theorem txf_two {w : World} {g : Nat} {t : TypeId} {u v : Value} {n m : Nat} {l1 l2 : List UInt8} (hb : Blk w g t #[u, v]) (h1 : Rd w 1 u n (bv l1)) (h2 : Rd w 1 v m (bv l2)) : TxF w (.slice (some ⟨g, 0, none⟩) 2 2) [u, v] [l1, l2] := by
 have e1 : n = l1.length := by have := h1.1; rw [bv_length] at this; omega
 have e2 : m = l2.length := by have := h2.1; rw [bv_length] at this; omega
 subst e1 e2
 refine ⟨⟨rfl, _, _, rfl, Nat.le_refl _, by unfold maxLen; omega, (fun h => by cases h), fun ad had j x hx => ?_⟩, fun i hi => ?_⟩
 · cases had
   exact hb.agg j x hx
 · rcases i with _ | _ | i
   · exact ⟨u, rfl, h1⟩
   · exact ⟨v, rfl, h2⟩
   · have hi : i + 1 + 1 < 2 := hi
     omega
theorem ssm_any (z : Int) (hz : -9223372036854775808 ≤ z ∧ z ≤ 9223372036854775807) (h : List UInt8) (hh : h.length = 32) (nm : ByteArray) (hnm : nm.size ≤ 9223372036854775807) (A : Option Addr) (c : Nat) (sec : List UInt8) (w : World) (LDw : LD w) (hv : Rd w 1 (.slice A sec.length c) sec.length (bv sec)) :
 Calls Tryd.prog 17 #[.agg (ptA z h), .agg #[.string nm, .slice A sec.length c]] w fun e w' => e = .returned (.tuple #[.agg (hashA (sumV z h nm.data.toList sec)), .int .i64 (if sumOk z nm.data.toList sec then 0 else 2)]) ∧ Kp [] w w' := by
 have S0 := Lib.hid ((((Held.start w).newBlk 33 (ptA z h)).newBlkN 42 #[.string nm, .slice A sec.length c] (g := w.heap.size + 1) (by simp)).newBlkN 25 (hashA (List.replicate 32 0)) (g := w.heap.size + 1 + 1) (by simp))
 have HT := Lib.hid (fun V (hk : Kp [] w V) => ptext_any z hz h hh V (LDw.kp hk))
 have hp1 := Lib.hid (ptA_size (s := z) hh)
 have HM := Lib.hid (fun V => smay_any nm hnm A sec.length c V)
 have hvv := Lib.hid hv
 have HB0 := Lib.hid Tryd.built_hashZ
 have HV : Hid (sumV z h nm.data.toList sec = if sumOk z nm.data.toList sec then sumF z h nm.data.toList sec else List.replicate 32 0) := Lib.hid rfl
 have HK : Hid (sumOk z nm.data.toList sec = (decide (0 ≤ z) && (nmOk nm.data.toList && decide (0 < sec.length) && decide (sec.length ≤ 256)))) := Lib.hid rfl
 have hO := Lib.hid (hashA_one (List.replicate 32 0))
 unfold TextPost at HT
 clear hv
 obtain ⟨cp, hcp⟩ : ∃ cp, ptA z h = cp := ⟨_, rfl⟩
 rw [hcp] at S0 hp1 HT ⊢
 clear hcp
 by_cases hz0 : z < 0
 · have Hok : Hid (sumOk z nm.data.toList sec = false) := Lib.hid (by rw [HK.out, decide_eq_false (by omega), Bool.false_and])
   have e : txE z = 2 := if_pos hz0
   rw [e] at HT
   rw [Hok.out] at HV ⊢
   clear HM hvv HK
   generalize txt z h = tx at *
   generalize sec.length = sl at *
   obtain ⟨ca, hca⟩ : ∃ ca, Hid (hashA (List.replicate 32 0) = ca) := ⟨_, Lib.hid rfl⟩
   go_enter Tryd.func17, Tryd.ntmps17
   go_wp2_with (refine wpList_load_blk rfl 33 (.tmp 2) rfl w.heap.size (by simp [Act.eval, Act.put]) 33 _ (S0.out.at_ (l1 := [_, _])) _ Tryd.underlying33 rfl (by rw [hp1.out]; exact Tryd.infoPointP) ?_)
   refine (HT.out _ S0.out.k).mono ?_
   rintro e w1 ⟨rfl, k1⟩
   have S1 := Lib.hid (S0.out.kp k1)
   clear k1 S0
   go_wp2_with (first
    | (refine wpList_buildC rfl 25 _ rfl [] (by simp [Act.eval, Act.put]) _ HB0.out ?_)
    | (refine wpList_store_blk rfl 25 (.tmp 4) (.tmp 20) rfl (w.heap.size + 1 + 1) (by simp [Act.eval, Act.put]) (hashA (List.replicate 32 0)) (by simp [Act.eval, Act.put]) 25 _ (S1.out.at_ (l1 := [])) (by exact Tryd.infoHashP) (by rfl) hO.out ?_; intro w7 b7 k7; have S7 := Lib.hid (Held.setBlk (l1 := []) S1.out b7 k7); clear b7 k7))
   refine bodyPost_ret (results_cell_tmp (by rfl) rfl (S7.out.at_ (l1 := [])) Tryd.underlying25 rfl (by exact Tryd.infoHashP)) rfl ?_
   exact ⟨by rw [HV.out]; rfl, S7.out.k⟩
 · have e : txE z = 0 := if_neg hz0
   have e2 : txt z h = told z.toNat h := if_neg hz0
   rw [e, e2] at HT
   clear e e2
   have HTL : Hid ((told z.toNat h).length ≤ 1000) := Lib.hid (told_le _ (by omega) h hh)
   rw [decide_eq_true (show 0 ≤ z by omega), Bool.true_and] at HK
   obtain ⟨ts, hts, -, htz, htd⟩ := str_of (told z.toNat h)
   have hts : (⟨(told z.toNat h).toArray⟩ : ByteArray) = ts := by have := hts.out; unfold strV at this; injection this
   rw [hts] at HT
   have htz := Lib.hid htz
   clear hts
   have hsumF : Hid (sumF z h nm.data.toList sec = macF sec [(nm ++ { data := #[10] }).data.toList, ts.data.toList].flatten) := Lib.hid (by
    rw [htd.out]; unfold sumF; congr 1; simp)
   have hkb : Hid ((nmOk nm.data.toList && decide (0 < sec.length) && decide (sec.length ≤ 256)) = true → nm.size ≤ 64 ∧ sec.length ≤ 256) := Lib.hid (fun hb => by
    rw [nmOk_eq] at hb
    simp only [Bool.and_eq_true, decide_eq_true_eq] at hb
    exact ⟨hb.1.1.1.2, hb.2⟩)
   have hmm := fun (w5 : World) (L : List Res) (x : Value) (vs : List Value) (S : Held w w5 L) (hb : (nmOk nm.data.toList && decide (0 < sec.length) && decide (sec.length ≤ 256)) = true) (HX : ∀ V, Held w V L → TxF V x vs [(nm ++ { data := #[10] }).data.toList, ts.data.toList]) => mac_any w L A c sec (by have := (hkb.out hb).2; omega) x vs _ (by
    have h1 := (hkb.out hb).1
    have h2 := HTL.out
    have h3 : ts.data.toList.length = ts.size := rfl
    have h4 : (nm ++ { data := #[10] }).data.toList.length = nm.size + 1 := by
     show (nm ++ { data := #[10] }).size = _
     rw [ByteArray.size_append]; rfl
    rw [← htz.out] at h2
    simp only [List.flatten_cons, List.flatten_nil, List.append_nil, List.length_append, h3, h4]
    omega) w5 S (fun V SV => rd_old hvv.out SV.k) HX
   rw [← hsumF.out] at hmm
   have Hmm := Lib.hid hmm
   clear hmm
   have hO2 := Lib.hid (hashA_one (sumF z h nm.data.toList sec))
   have hZ2 : Hid ((hashA (sumF z h nm.data.toList sec)).size = 32) := Lib.hid (by rw [hashA_size, sumF_length])
   obtain ⟨sm, hsm⟩ : ∃ sm, Hid (hashA (sumF z h nm.data.toList sec) = sm) := ⟨_, Lib.hid rfl⟩
   rw [hsm.out] at Hmm hO2 hZ2
   generalize hbb : (nmOk nm.data.toList && decide (0 < sec.length) && decide (sec.length ≤ 256)) = b at *
   generalize hsl : sec.length = sl at *
   clear hbb hsl
   have hsz1 : Hid (b = true → (nm ++ { data := #[10] }).size ≤ 100000000 ∧ ts.size ≤ 100000000) := Lib.hid (fun hb => by
    have h1 := (hkb.out hb).1
    have h2 := HTL.out
    rw [ByteArray.size_append, htz.out]
    exact ⟨by show nm.size + 1 ≤ _; omega, by omega⟩)
   have hsz2 : Hid (b = true → nm.size ≤ 64) := Lib.hid (fun hb => (hkb.out hb).1)
   clear hkb
   rw [HK.out] at HV ⊢
   clear HK
   go_enter Tryd.func17, Tryd.ntmps17
   go_wp2_with (refine wpList_load_blk rfl 33 (.tmp 2) rfl w.heap.size (by simp [Act.eval, Act.put]) 33 _ (S0.out.at_ (l1 := [_, _])) _ Tryd.underlying33 rfl (by rw [hp1.out]; exact Tryd.infoPointP) ?_)
   refine (HT.out _ S0.out.k).mono ?_
   rintro e w1 ⟨rfl, k1⟩
   have S1 := Lib.hid (S0.out.kp k1)
   clear k1 S0
   obtain ⟨c0, c1, m1⟩ := Blk.c2 (S1.out.at_ (l1 := [_]))
   go_wp2_with fail
   refine (HM.out _).mono ?_
   rintro e w2 ⟨rfl, k2⟩
   have S2 := Lib.hid (S1.out.kp k2)
   clear k2 S1 c0 c1 m1
   obtain ⟨c0, c1, m1⟩ := Blk.c2 (S2.out.at_ (l1 := [_]))
   cases b
   · go_wp2_with (first
      | (refine wpList_buildC rfl 25 _ rfl [] (by simp [Act.eval, Act.put]) _ HB0.out ?_)
      | (refine wpList_store_blk rfl 25 (.tmp 4) (.tmp 20) rfl (w.heap.size + 1 + 1) (by simp [Act.eval, Act.put]) (hashA (List.replicate 32 0)) (by simp [Act.eval, Act.put]) 25 _ (S2.out.at_ (l1 := [])) (by exact Tryd.infoHashP) (by rfl) hO.out ?_; intro w7 b7 k7; have S7 := Lib.hid (Held.setBlk (l1 := []) S2.out b7 k7); clear b7 k7))
     refine bodyPost_ret (results_cell_tmp (by rfl) rfl (S7.out.at_ (l1 := [])) Tryd.underlying25 rfl (by exact Tryd.infoHashP)) rfl ?_
     exact ⟨by rw [HV.out]; rfl, S7.out.k⟩
   · have hz5 := (hsz1.out rfl).1
     have hz6 := (hsz1.out rfl).2
     have hz5 := Lib.hid hz5
     obtain ⟨l5, hl5⟩ : ∃ l5, Hid ((nm ++ { data := #[10] }).size = l5) := ⟨_, Lib.hid rfl⟩
     obtain ⟨l6, hl6⟩ : ∃ l6, Hid (ts.size = l6) := ⟨_, Lib.hid rfl⟩
     have hz6 := Lib.hid hz6
     have hcc : ¬ 9223372036854775807 < nm.size + 1 := by have := (hsz2.out rfl); omega
     go_wp2_with (first
      | (refine wpList_conv rfl (.tmp 25) rfl (nm ++ { data := #[10] }) (by simp [Act.eval, Act.put]) hz5.out l5 hl5.out S2.out ?_; intro v3 w3 s3; obtain ⟨A3, c3, hv3⟩ := rd_form (s3.at_ (l1 := [])).1; subst hv3; have S3 := Lib.hid s3; clear s3)
      | (refine wpList_conv rfl (.tmp 27) rfl ts (by simp [Act.eval, Act.put]) hz6.out l6 hl6.out S3.out ?_; intro v4 w4 s4; obtain ⟨A4, c4, hv4⟩ := rd_form (s4.at_ (l1 := [])).1; subst hv4; have S4 := Lib.hid s4; clear s4))
     have S5 := Lib.hid (S4.out.newBlk 22 #[.slice A3 l5 c3, .slice A4 l6 c4])
     refine (Hmm.out _ _ _ [_, _] S5.out (by trivial) (fun V SV => txf_two (SV.at_ (l1 := [])) (SV.at_ (l1 := [_, _])).1 (SV.at_ (l1 := [_])).1)).mono ?_
     rintro e w6 ⟨rfl, s6⟩
     have S6 := Lib.hid s6
     clear s6
     go_wp2_with (refine wpList_store_blk rfl 25 (.tmp 4) (.tmp 30) rfl (w.heap.size + 1 + 1) (by simp [Act.eval, Act.put]) sm (by simp [Act.eval, Act.put]) 25 _ (S6.out.at_ (l1 := [_, _, _])) (by rw [hZ2.out]; exact Tryd.infoHashP) (by rw [hZ2.out]; rfl) hO2.out ?_; intro w7 b7 k7; have S7 := Lib.hid (Held.setBlk (l1 := [_, _, _]) S6.out b7 k7); clear b7 k7)
     refine bodyPost_ret (results_cell_tmp (by rfl) rfl (S7.out.at_ (l1 := [_, _, _])) Tryd.underlying25 rfl (by rw [hZ2.out]; exact Tryd.infoHashP)) rfl ?_
     exact ⟨by rw [HV.out]; simp only [if_true]; rw [hsm.out]; rfl, S7.out.k⟩
end
/- sign.Sign: its regions. -/
section
variable {Q : Exit → Act → World → Prop} {a : Act} {w : World}
open Go.RowKit
theorem Tryd.builtS_is (ps : List (Nat × Value)) : Tryd.prog.built 81 ps = Instr.fill (#[(0, 1), (1, 32)][·]?) (sgA ([], List.replicate 32 0)) ps := by
 unfold Program.built
 kernel_rfl
theorem Tryd.built_sig (s : SigD) (hs : s.2.length = 32) : Tryd.prog.built 81 [(0, strV s.1), (1, .agg (hashA s.2))] = some (sgA s) := by
 rw [Tryd.builtS_is]
 have hz : (hashA s.2).size = 32 := by rw [hashA_size, hs]
 have h1 := foldl_place 1 (hashA s.2).toList 0 (sgA (s.1, List.replicate 32 0))
 have hz1 : (sgA (s.1, List.replicate 32 0)).size = 33 := sgA_size (by simp)
 have e : ((hashA s.2).zipIdx.foldl (fun cs (x : Value × Nat) => cs.setIfInBounds (1 + x.2) x.1) (sgA (s.1, List.replicate 32 0))) = sgA s := by
  rw [show (hashA s.2).zipIdx.foldl (fun cs (x : Value × Nat) => cs.setIfInBounds (1 + x.2) x.1) (sgA (s.1, List.replicate 32 0)) = ((hashA s.2).toList.zipIdx 0).foldl (fun cs (x : Value × Nat) => cs.setIfInBounds (1 + x.2) x.1) (sgA (s.1, List.replicate 32 0)) from by rw [← Array.foldl_toList, Array.toList_zipIdx], h1]
  rw [hz1, List.take_of_length_le (l := (hashA s.2).toList) (by rw [Array.length_toList, hz]; decide), Array.length_toList, hz]
  show (#[strV s.1].toList ++ bv s.2 ++ []).toArray = _
  rw [List.append_nil]; rfl
 have f1 : Instr.fill (#[(0, 1), (1, 32)][·]?) (sgA (s.1, List.replicate 32 0)) [(1, .agg (hashA s.2))] = some (sgA s) := by
  unfold Instr.fill
  show (if (decide ((hashA s.2).size ≠ 32) || decide (1 + (hashA s.2).size > (sgA (s.1, List.replicate 32 0)).size)) = true then none else Instr.fill (#[(0, 1), (1, 32)][·]?) ((hashA s.2).zipIdx.foldl (fun cs (x : Value × Nat) => cs.setIfInBounds (1 + x.2) x.1) (sgA (s.1, List.replicate 32 0))) []) = some (sgA s)
  rw [hz, hz1, e]
  rfl
 unfold Instr.fill
 exact f1
theorem fill_sig {cs : Array Value} (hc : cs.size = 33) : Instr.fill (fun i => some (i * 33, 33)) ((Array.range (1 * 33)).map ((sgA ([], List.replicate 32 0))[· % (sgA ([], List.replicate 32 0)).size]!)) [(0, .agg cs)] = some cs := by
 have hz : ((Array.range (1 * 33)).map ((sgA ([], List.replicate 32 0))[· % (sgA ([], List.replicate 32 0)).size]!)).size = 33 := by simp
 generalize (Array.range (1 * 33)).map ((sgA ([], List.replicate 32 0))[· % (sgA ([], List.replicate 32 0)).size]!) = z at *
 have h1 := foldl_place 0 cs.toList 0 z
 have e : cs.zipIdx.foldl (fun r (x : Value × Nat) => r.setIfInBounds (0 + x.2) x.1) z = cs := by
  rw [show cs.zipIdx.foldl (fun r (x : Value × Nat) => r.setIfInBounds (0 + x.2) x.1) z = (cs.toList.zipIdx 0).foldl (fun r (x : Value × Nat) => r.setIfInBounds (0 + x.2) x.1) z from by rw [← Array.foldl_toList, Array.toList_zipIdx], h1]
  rw [hz, List.take_of_length_le (l := cs.toList) (by rw [Array.length_toList, hc]; decide), Array.length_toList, hc, List.drop_of_length_le (by rw [Array.length_toList, hz]; decide)]
  simp
 unfold Instr.fill
 show (if (decide (cs.size ≠ 33) || decide (0 + cs.size > z.size)) = true then none else Instr.fill (fun i => some (i * 33, 33)) (cs.zipIdx.foldl (fun r (x : Value × Nat) => r.setIfInBounds (0 + x.2) x.1) z) []) = some cs
 rw [hc, hz, e]
 rfl
theorem ssg_r0 (w0 : World) (ca : Array Value) (u v : Value) (L : List Res) (S : Held w0 w L) (hsz : a.tmps.size = 55) (o0 : Sl a 0 (.agg ca)) (o1 : Sl a 1 (.agg #[u, v]))
 (hend : ∀ a' W, Same a a' [2, 3, 4, 5] → (∃ gN gK gR, Sl a' 2 (.pointer (some ⟨gN, 0, none⟩)) ∧ Sl a' 3 (.pointer (some ⟨gK, 0, none⟩)) ∧ Sl a' 4 (.pointer (some ⟨gR, 0, none⟩)) ∧ Held w0 W (blkR gR 36 zeroN :: blkR gK 42 #[u, v] :: blkR gN 36 ca :: L)) → Q .normal a' W) : (Code.region 0 (opsOf 0 Tryd.f15).toArray false).wp Tryd.prog Q a w := by
 refine wp_region_lit ?_
 (conv => arg 4; whnf)
 unfold Sl at o0 o1
 have S0 := Lib.hid (((S.newBlk 36 ca).newBlkN 42 #[u, v] (g := w.heap.size + 1) (by simp)).newBlkN 36 zeroN (g := w.heap.size + 1 + 1) (by simp))
 go_wp2_with fail
 try simp only [Act.put]
 exact hend _ _ sS (⟨_, _, _, sP0, sP0, sP0, S0.out⟩)
theorem ssg_r1 (w0 : World) (gN : Nat) (ca : Array Value) (hz : ca.size = 34) (ck : Int) (b : Bool) (hb : (ck != 0) = b) (L : List Res) (S : Held w0 w (blkR gN 36 ca :: L)) (HC : ∀ V, Held w0 V (blkR gN 36 ca :: L) → Calls Tryd.prog 24 #[.agg ca] V fun e w' => e = .returned (.int .i64 ck) ∧ Kp [] V w') (hsz : a.tmps.size = 55) (o2 : Sl a 2 (.pointer (some ⟨gN, 0, none⟩)))
 (hend : ∀ a' W, Same a a' [11, 12, 13] → Sl a' 13 (.bool b) → (Held w0 W (blkR gN 36 ca :: L)) → Q .normal a' W) : (Code.region 1 (opsOf 1 Tryd.f15).toArray false).wp Tryd.prog Q a w := by
 refine wp_region_lit ?_
 (conv => arg 4; whnf)
 unfold Sl at o2
 have S := Lib.hid S
 have HC := Lib.hid (HC _ S.out)
 have hz := Lib.hid hz
 go_wp2_with (refine wpList_load_blk rfl 36 (.tmp 2) rfl gN (by simp [Act.eval, Act.put, hsz, o2]) 36 _ (S.out.at_ (l1 := [])) _ Tryd.underlying36 rfl (by rw [hz.out]; exact Tryd.infoNote) ?_)
 refine HC.out.mono ?_
 rintro e w1 ⟨rfl, k1⟩
 have S1 := Lib.hid (S.out.kp k1)
 clear k1
 go_wp2_with fail
 try simp only [Act.put]
 exact hend _ _ sS sP (S1.out)
theorem ssg_r2 (w0 : World) (gR : Nat)  (L : List Res) (S : Held w0 w (blkR gR 36 zeroN :: L)) (hsz : a.tmps.size = 55) (o4 : Sl a 4 (.pointer (some ⟨gR, 0, none⟩)))
 (hend : ∀ a' W, Same a a' [14, 5] → Sl a' 5 (.int .i64 (2)) → (Held w0 W (blkR gR 36 zeroN :: L)) → Q .normal a' W) : (Code.region 2 (opsOf 2 Tryd.f15).toArray false).wp Tryd.prog Q a w := by
 refine wp_region_lit ?_
 (conv => arg 4; whnf)
 unfold Sl at o4
 have S := Lib.hid S
 have HB0 := Lib.hid Tryd.built_noteZ
 have hzz : Hid (zeroN.size = 34) := Lib.hid rfl
 have hOz : Hid (∀ u, u ∈ zeroN.toList → u.oneCell' = true) := Lib.hid (ntA_one (v := .slice none 0 0) rfl)
 generalize zeroN = cz at *
 go_wp2_with (first | (refine wpList_buildC rfl 36 _ rfl [] (by simp [Act.eval, Act.put]) _ HB0.out ?_) | (refine wpList_store_blk rfl 36 (.tmp 4) (.tmp 14) rfl gR (by simp [Act.eval, Act.put, hsz, o4]) cz (by simp [Act.eval, Act.put, hsz]) 36 _ (S.out.at_ (l1 := [])) (by rw [hzz.out]; exact Tryd.infoNote) (by rw [hzz.out]) hOz.out ?_; intro w7 b7 k7; have S7 := Lib.hid (Held.setBlk (l1 := []) S.out b7 k7); clear b7 k7))
 try simp only [Act.put]
 exact hend _ _ sS sP (S7.out)
theorem ssg_r3 (w0 : World) (gN gK : Nat) (z : Int) (h : List UInt8) (hh : h.length = 32) (v0 u v : Value) (sv : List UInt8) (hsv : sv.length = 32) (se : Int) (L : List Res) (S : Held w0 w (blkR gN 36 (ntA z h v0) :: blkR gK 42 #[u, v] :: L)) (HS0 : ∀ V, Held w0 V (blkR gN 36 (ntA z h v0) :: blkR gK 42 #[u, v] :: L) → Calls Tryd.prog 17 #[.agg (ptA z h), .agg #[u, v]] V fun e w' => e = .returned (.tuple #[.agg (hashA sv), .int .i64 se]) ∧ Kp [] V w') (hsz : a.tmps.size = 55) (o2 : Sl a 2 (.pointer (some ⟨gN, 0, none⟩))) (o3 : Sl a 3 (.pointer (some ⟨gK, 0, none⟩)))
 (hend : ∀ a' W, Same a a' [16, 17, 18, 19, 15, 20, 21, 6, 7] → Sl a' 7 (.int .i64 (se)) → (∃ gS, Sl a' 6 (.pointer (some ⟨gS, 0, none⟩)) ∧ Held w0 W (blkR gS 25 (hashA sv) :: blkR gN 36 (ntA z h v0) :: blkR gK 42 #[u, v] :: L)) → Q .normal a' W) : (Code.region 3 (opsOf 3 Tryd.f15).toArray false).wp Tryd.prog Q a w := by
 refine wp_region_lit ?_
 (conv => arg 4; whnf)
 unfold Sl at o2 o3
 have S := Lib.hid S
 have HS := Lib.hid (HS0 _ S.out)
 clear HS0
 have hp := Lib.hid (nt_pointAt (S.out.at_ (l1 := [])))
 have HP := Lib.hid (ptA_size (s := z) hh)
 have hO := Lib.hid (hashA_one sv)
 have hz2 : Hid ((hashA sv).size = 32) := Lib.hid (by rw [hashA_size, hsv])
 obtain ⟨c0, c1, m1⟩ := Blk.c2 (S.out.at_ (l1 := [_]))
 generalize ntA z h v0 = ca at *
 generalize ptA z h = cp at *
 generalize hashA sv = ch at *
 go_wp2_with (refine wpList_load_agg rfl 33 (.tmp 16) rfl ⟨gN, 0, none⟩ (by simp [Act.eval, Act.put, hsz]) cp.toList _ hp.out Tryd.underlying33 rfl (by rw [Array.length_toList, HP.out]; exact Tryd.infoPointP) ?_)
 refine HS.out.mono ?_
 rintro e w1 ⟨rfl, k1⟩
 have S1 := Lib.hid ((S.out.kp k1).newBlk 25 (hashA (List.replicate 32 0)))
 clear k1 c0 c1 m1
 go_wp2_with (refine wpList_store_blk rfl 25 (.tmp 6) (.tmp 20) rfl w1.heap.size (by simp [Act.eval, Act.put, hsz]) ch (by simp [Act.eval, Act.put, hsz]) 25 _ (S1.out.at_ (l1 := [])) (by rw [hz2.out]; exact Tryd.infoHashP) (by rw [hz2.out]; rfl) hO.out ?_; intro w7 b7 k7; have S7 := Lib.hid (Held.setBlk (l1 := []) S1.out b7 k7); clear b7 k7)
 try simp only [Act.put]
 exact hend _ _ sS sP (⟨_, sP0, S7.out⟩)
theorem ssg_r4 (er : Int) (b : Bool) (hb : (er != 0) = b) (hsz : a.tmps.size = 55) (o7 : Sl a 7 (.int .i64 (er)))
 (hend : ∀ a', Same a a' [22, 23] → Sl a' 23 (.bool b) → Q .normal a' (w)) : (Code.region 4 (opsOf 4 Tryd.f15).toArray false).wp Tryd.prog Q a w := by
 refine wp_region_lit ?_
 (conv => arg 4; whnf)
 unfold Sl at o7
 go_wp2_with fail
 try simp only [Act.put]
 exact hend _ sS sP
theorem ssg_r5 (w0 : World) (gR : Nat) (er : Int) (L : List Res) (S : Held w0 w (blkR gR 36 zeroN :: L)) (hsz : a.tmps.size = 55) (o4 : Sl a 4 (.pointer (some ⟨gR, 0, none⟩))) (o7 : Sl a 7 (.int .i64 (er)))
 (hend : ∀ a' W, Same a a' [24, 25, 5] → Sl a' 5 (.int .i64 (er)) → (Held w0 W (blkR gR 36 zeroN :: L)) → Q .normal a' W) : (Code.region 5 (opsOf 5 Tryd.f15).toArray false).wp Tryd.prog Q a w := by
 refine wp_region_lit ?_
 (conv => arg 4; whnf)
 unfold Sl at o4 o7
 have S := Lib.hid S
 have HB0 := Lib.hid Tryd.built_noteZ
 have hzz : Hid (zeroN.size = 34) := Lib.hid rfl
 have hOz : Hid (∀ u, u ∈ zeroN.toList → u.oneCell' = true) := Lib.hid (ntA_one (v := .slice none 0 0) rfl)
 generalize zeroN = cz at *
 go_wp2_with (first | (refine wpList_buildC rfl 36 _ rfl [] (by simp [Act.eval, Act.put]) _ HB0.out ?_) | (refine wpList_store_blk rfl 36 (.tmp 4) (.tmp 24) rfl gR (by simp [Act.eval, Act.put, hsz, o4]) cz (by simp [Act.eval, Act.put, hsz]) 36 _ (S.out.at_ (l1 := [])) (by rw [hzz.out]; exact Tryd.infoNote) (by rw [hzz.out]) hOz.out ?_; intro w7 b7 k7; have S7 := Lib.hid (Held.setBlk (l1 := []) S.out b7 k7); clear b7 k7))
 try simp only [Act.put]
 exact hend _ _ sS sP (S7.out)
theorem ssg_r6 (w0 : World) (gK gS : Nat) (ns : ByteArray) (v : Value) (s : SigD) (hs : s.2.length = 32) (hn : strV s.1 = .string ns) (L : List Res) (S : Held w0 w (blkR gS 25 (hashA s.2) :: blkR gK 42 #[.string ns, v] :: L)) (hsz : a.tmps.size = 55) (o3 : Sl a 3 (.pointer (some ⟨gK, 0, none⟩))) (o6 : Sl a 6 (.pointer (some ⟨gS, 0, none⟩)))
 (hend : ∀ a' W, Same a a' [26, 27, 28, 29, 8] → (∃ gG, Sl a' 8 (.pointer (some ⟨gG, 0, none⟩)) ∧ Held w0 W (blkR gG 81 (sgA s) :: blkR gS 25 (hashA s.2) :: blkR gK 42 #[.string ns, v] :: L)) → Q .normal a' W) : (Code.region 6 (opsOf 6 Tryd.f15).toArray false).wp Tryd.prog Q a w := by
 refine wp_region_lit ?_
 (conv => arg 4; whnf)
 unfold Sl at o3 o6
 have S := Lib.hid S
 have HB := Lib.hid (Tryd.built_sig s hs)
 rw [hn] at HB
 have hO := Lib.hid (sgA_one s)
 have hz2 : Hid ((sgA s).size = 33) := Lib.hid (sgA_size hs)
 have hzh : Hid ((hashA s.2).size = 32) := Lib.hid (by rw [hashA_size, hs])
 obtain ⟨c0, c1, m1⟩ := Blk.c2 (S.out.at_ (l1 := [_]))
 have S1 := Lib.hid (S.out.newBlk 81 (sgA ([], List.replicate 32 0)))
 clear hn
 generalize sgA s = cs at *
 generalize hashA s.2 = ch at *
 go_wp2_with (first
  | (refine wpList_load_blk rfl 25 (.tmp 6) rfl gS (by simp [Act.eval, Act.put, hsz, o6]) 25 _ (S.out.at_ (l1 := [])) _ Tryd.underlying25 rfl (by rw [hzh.out]; exact Tryd.infoHashP) ?_)
  | (refine wpList_buildC rfl 81 _ rfl [(0, .string ns), (1, .agg ch)] (by simp [Act.eval, Act.put, hsz]) _ HB.out ?_)
  | (refine wpList_store_blk rfl 81 (.tmp 8) (.tmp 29) rfl w.heap.size (by simp [Act.eval, Act.put, hsz]) cs (by simp [Act.eval, Act.put, hsz]) 81 _ (S1.out.at_ (l1 := [])) (by rw [hz2.out]; exact Tryd.infoSig) (by rw [hz2.out]; rfl) hO.out ?_; intro w7 b7 k7; have S7 := Lib.hid (Held.setBlk (l1 := []) S1.out b7 k7); clear b7 k7))
 try simp only [Act.put]
 exact hend _ _ sS (⟨_, sP0, S7.out⟩)
theorem ssg_r7 (w0 : World) (gN gG : Nat) (z : Int) (h : List UInt8) (hh : h.length = 32) (A : Option Addr) (n c : Nat) (s : SigD) (hs : s.2.length = 32) (p : Nat) (b : Bool) (L : List Res) (S : Held w0 w (blkR gN 36 (ntA z h (.slice A n c)) :: blkR gG 81 (sgA s) :: L)) (HS0 : ∀ V, Held w0 V (blkR gN 36 (ntA z h (.slice A n c)) :: blkR gG 81 (sgA s) :: L) → Calls Tryd.prog 43 #[.slice A n c, .agg (sgA s), .func (.func 44) #[] #[]] V fun e w' => e = .returned (.tuple #[.int .i64 (p : Int), .bool b]) ∧ Kp [] V w') (hsz : a.tmps.size = 55) (o2 : Sl a 2 (.pointer (some ⟨gN, 0, none⟩))) (o8 : Sl a 8 (.pointer (some ⟨gG, 0, none⟩)))
 (hend : ∀ a' W, Same a a' [31, 32, 33, 34, 30, 35, 36, 9, 10] → Sl a' 9 (.int .i64 ((p : Nat))) → Sl a' 10 (.bool b) → (Held w0 W (blkR gN 36 (ntA z h (.slice A n c)) :: blkR gG 81 (sgA s) :: L)) → Q .normal a' W) : (Code.region 7 (opsOf 7 Tryd.f15).toArray false).wp Tryd.prog Q a w := by
 refine wp_region_lit ?_
 (conv => arg 4; whnf)
 unfold Sl at o2 o8
 have S := Lib.hid S
 have HS := Lib.hid (HS0 _ S.out)
 clear HS0
 have c33 : w.cell? ⟨gN, 33, none⟩ = some (.slice A n c) := by rw [(S.out.at_ (l1 := [])).cell]; exact ntA_sigs hh
 have hz2 : Hid ((sgA s).size = 33) := Lib.hid (sgA_size hs)
 generalize ntA z h (.slice A n c) = ca at *
 generalize sgA s = cs at *
 go_wp2_with (refine wpList_load_blk rfl 81 (.tmp 8) rfl gG (by simp [Act.eval, Act.put, hsz, o8]) 81 _ (S.out.at_ (l1 := [_])) _ Tryd.underlying81 rfl (by rw [hz2.out]; exact Tryd.infoSig) ?_)
 refine HS.out.mono ?_
 rintro e w1 ⟨rfl, k1⟩
 have S1 := Lib.hid (S.out.kp k1)
 clear k1 c33
 go_wp2_with fail
 try simp only [Act.put]
 exact hend _ _ sS sP sP (S1.out)
theorem ssg_r8 (b : Bool) (hsz : a.tmps.size = 55) (o10 : Sl a 10 (.bool b))
 (hend : ∀ a', Same a a' [38, 37] → Sl a' 37 (.bool b) → Q .normal a' (w)) : (Code.region 8 (opsOf 8 Tryd.f15).toArray false).wp Tryd.prog Q a w := by
 refine wp_region_lit ?_
 (conv => arg 4; whnf)
 unfold Sl at o10
 go_wp2_with fail
 try simp only [Act.put]
 exact hend _ sS sP
theorem ssg_r9 (w0 : World) (gR : Nat)  (L : List Res) (S : Held w0 w (blkR gR 36 zeroN :: L)) (hsz : a.tmps.size = 55) (o4 : Sl a 4 (.pointer (some ⟨gR, 0, none⟩)))
 (hend : ∀ a' W, Same a a' [39, 5] → Sl a' 5 (.int .i64 (8)) → (Held w0 W (blkR gR 36 zeroN :: L)) → Q .normal a' W) : (Code.region 9 (opsOf 9 Tryd.f15).toArray false).wp Tryd.prog Q a w := by
 refine wp_region_lit ?_
 (conv => arg 4; whnf)
 unfold Sl at o4
 have S := Lib.hid S
 have HB0 := Lib.hid Tryd.built_noteZ
 have hzz : Hid (zeroN.size = 34) := Lib.hid rfl
 have hOz : Hid (∀ u, u ∈ zeroN.toList → u.oneCell' = true) := Lib.hid (ntA_one (v := .slice none 0 0) rfl)
 generalize zeroN = cz at *
 go_wp2_with (first | (refine wpList_buildC rfl 36 _ rfl [] (by simp [Act.eval, Act.put]) _ HB0.out ?_) | (refine wpList_store_blk rfl 36 (.tmp 4) (.tmp 39) rfl gR (by simp [Act.eval, Act.put, hsz, o4]) cz (by simp [Act.eval, Act.put, hsz]) 36 _ (S.out.at_ (l1 := [])) (by rw [hzz.out]; exact Tryd.infoNote) (by rw [hzz.out]) hOz.out ?_; intro w7 b7 k7; have S7 := Lib.hid (Held.setBlk (l1 := []) S.out b7 k7); clear b7 k7))
 try simp only [Act.put]
 exact hend _ _ sS sP (S7.out)
theorem ssg_r10 (w0 : World) (gN : Nat) (z : Int) (h : List UInt8) (hh : h.length = 32) (A : Option Addr) (n c : Nat) (b : Bool) (hb : ((n : Int) == 64) = b) (L : List Res) (S : Held w0 w (blkR gN 36 (ntA z h (.slice A n c)) :: L)) (hsz : a.tmps.size = 55) (o2 : Sl a 2 (.pointer (some ⟨gN, 0, none⟩)))
 (hend : ∀ a', Same a a' [41, 42, 43, 44, 40] → Sl a' 40 (.bool b) → Q .normal a' (w)) : (Code.region 10 (opsOf 10 Tryd.f15).toArray false).wp Tryd.prog Q a w := by
 refine wp_region_lit ?_
 (conv => arg 4; whnf)
 unfold Sl at o2
 have c33 : w.cell? ⟨gN, 33, none⟩ = some (.slice A n c) := by rw [(S.at_ (l1 := [])).cell]; exact ntA_sigs hh
 go_wp2_with fail
 try simp only [Act.put]
 exact hend _ sS sP
theorem ssg_r11 (w0 : World) (gR : Nat)  (L : List Res) (S : Held w0 w (blkR gR 36 zeroN :: L)) (hsz : a.tmps.size = 55) (o4 : Sl a 4 (.pointer (some ⟨gR, 0, none⟩)))
 (hend : ∀ a' W, Same a a' [45, 5] → Sl a' 5 (.int .i64 (380)) → (Held w0 W (blkR gR 36 zeroN :: L)) → Q .normal a' W) : (Code.region 11 (opsOf 11 Tryd.f15).toArray false).wp Tryd.prog Q a w := by
 refine wp_region_lit ?_
 (conv => arg 4; whnf)
 unfold Sl at o4
 have S := Lib.hid S
 have HB0 := Lib.hid Tryd.built_noteZ
 have hzz : Hid (zeroN.size = 34) := Lib.hid rfl
 have hOz : Hid (∀ u, u ∈ zeroN.toList → u.oneCell' = true) := Lib.hid (ntA_one (v := .slice none 0 0) rfl)
 generalize zeroN = cz at *
 go_wp2_with (first | (refine wpList_buildC rfl 36 _ rfl [] (by simp [Act.eval, Act.put]) _ HB0.out ?_) | (refine wpList_store_blk rfl 36 (.tmp 4) (.tmp 45) rfl gR (by simp [Act.eval, Act.put, hsz, o4]) cz (by simp [Act.eval, Act.put, hsz]) 36 _ (S.out.at_ (l1 := [])) (by rw [hzz.out]; exact Tryd.infoNote) (by rw [hzz.out]) hOz.out ?_; intro w7 b7 k7; have S7 := Lib.hid (Held.setBlk (l1 := []) S.out b7 k7); clear b7 k7))
 try simp only [Act.put]
 exact hend _ _ sS sP (S7.out)
theorem ssg_r12 (w0 : World) (gN g8 : Nat) (z : Int) (h : List UInt8) (hh : h.length = 32) (A : Option Addr) (c : Nat) (l : List SigD) (hok : SgOk l) (hll : l.length < 999999) (p : Nat) (hp : p ≤ l.length) (s : SigD) (hs : s.2.length = 32) (hv : Rd w0 33 (.slice A l.length c) l.length (sgsC l)) (L : List Res) (hsz : a.tmps.size = 55) (o2 : Sl a 2 (.pointer (some ⟨gN, 0, none⟩))) (o8 : Sl a 8 (.pointer (some ⟨g8, 0, none⟩))) (o9 : Sl a 9 (.int .i64 ((p : Nat))))
 (S0 : Held w0 w (blkR gN 36 (ntA z h (.slice A l.length c)) :: blkR g8 81 (sgA s) :: L))
 (hend : ∀ (a' : Act) (vs : Nat → Value) (gs : Nat → Nat) (W : World), Same a a' [46, 47, 48, 49, 50, 51, 52, 53] → Held w0 W ([rowR 81 33 (vs 6) (l.length + 1) (sgsC (l.take p ++ s :: l.drop p)), blkR (gs 5) 81 (sgA s)] ++ (blkR gN 36 (ntA z h (vs 6)) :: blkR g8 81 (sgA s) :: L)) → Q .normal a' W) : (Code.region 12 (opsOf 12 Tryd.f15).toArray true).wp Tryd.prog Q a w := by
 have hap : apartB (opsOf 12 Tryd.f15) = true := by kernel_rfl
 refine wp_region_sep (Γ := Nat) (l := (opsOf 12 Tryd.f15)) 3 [0, 1, 3, 4, 6, 7, 8, 10, 11]
  (fun i vs gs => match i with | 0 => vs 0 = .pointer (some ⟨gN, 33, none⟩) | 1 => vs 1 = .slice A l.length c | 3 => vs 3 = .int .i64 ((p : Nat)) | 4 => vs 4 = .agg (sgA s) | 5 => vs 5 = .slice (some ⟨gs 5, 0, none⟩) 1 1 | 7 => vs 7 = .pointer (some ⟨gN, 33, none⟩) | _ => True)
  (fun i vs gs => match i with | 2 => [rowR 81 33 (vs 2) l.length (sgsC l)] | 5 => [blkR (gs 5) 81 (sgA s)] | 6 => [rowR 81 33 (vs 6) (l.length + 1) (sgsC (l.take p ++ s :: l.drop p)), blkR (gs 5) 81 (sgA s)] | 8 => [blkR gN 36 (ntA z h (vs 6))] | 9 => [blkR gN 36 (ntA z h (.slice A l.length c))] | 10 => [blkR g8 81 (sgA s)] | 11 => L | _ => [])
  (fun i => match i with | 6 => [2, 5] | 8 => [9] | _ => []) (fun i => match i with | 1 => [9] | 4 => [10] | 8 => [6] | _ => []) S0 (by kernel_rfl) hap (by kernel_rfl) (by kernel_rfl) (fun i => match i with | 0 => [0] | 1 => [1] | 2 => [2] | 3 => [3] | 4 => [4] | 5 => [5] | 6 => [5, 6] | 7 => [7] | 8 => [6] | _ => []) (by kernel_rfl) ?_ (by kernel_rfl) ?_ ?_ ?_
 · intro s vs vs' gs gs' h
   iterate 12 (rcases s with _ | s; · (first | exact ⟨rfl, id⟩ | (simp only [List.mem_cons, List.not_mem_nil, or_false, forall_eq_or_imp, forall_eq] at h; simp [h])))
   exact ⟨rfl, id⟩
 · simp only [List.range, List.range.loop, List.flatMap_cons, List.flatMap_nil, List.append_nil]
   exact List.Perm.refl _
 · clear S0 hend
   refine ⟨?_, ?_, ?_, ?_, ?_, ?_, ?_, ?_, ?_, trivial⟩
   · intro vs gs A' W LF hA S hR hd hu K hK; replace hK := hK default; have e2 := sO 2 o2 hA hap hsz; clear hA o2 o8 o9; go_step; exact hK _ _ S rfl
   · intro vs gs A' W LF hA S hR hd hu K hK; replace hK := hK default; have e46 := sV 46 (hd 0 (by kernel_rfl)) hA hap hsz; clear hA o2 o8 o9
     have c33 : W.cell? ⟨gN, 33, none⟩ = some (.slice A l.length c) := by rw [(show Blk W gN 36 (ntA z h (.slice A l.length c)) from S.ok (blkR gN 36 (ntA z h (.slice A l.length c))) (hR 9 (List.mem_singleton.2 rfl) _ (List.mem_singleton.2 rfl))).cell]; exact ntA_sigs hh
     go_step; exact hK _ _ S rfl
   · intro vs gs A' W LF hA S hR hd hu K hK; replace hK := hK default; have e47 := sV 47 (hd 1 (by kernel_rfl)) hA hap hsz; clear hA o2 o8 o9; go_step
     refine (sclone_any w0 LF A c l hok (by omega) W S (fun V SV => rd_old hv SV.k)).mono ?_
     rintro e w' ⟨v, rfl, S2⟩
     exact hK v w' S2 trivial
   · intro vs gs A' W LF hA S hR hd hu K hK; replace hK := hK default; have e9 := sO 9 o9 hA hap hsz; clear hA o2 o8 o9; go_step; exact hK _ _ S rfl
   · intro vs gs A' W LF hA S hR hd hu K hK; replace hK := hK default; have e8 := sO 8 o8 hA hap hsz; clear hA o2 o8 o9
     refine op_runs (v := .agg (sgA s)) (w' := W) (exec_load rfl (by simpa [Act.eval] using e8) (run_loadAt_agg W ⟨g8, 0, none⟩ 81 (sgA s).toList _ (Blk.agg (S.ok (blkR g8 81 (sgA s)) (hR 10 (List.mem_singleton.2 rfl) _ (List.mem_singleton.2 rfl)))) Tryd.underlying81 rfl (by rw [Array.length_toList, sgA_size hs]; exact Tryd.infoSig))) ?_
     exact hK _ _ S rfl
   · intro vs gs A' W LF hA S hR hd hu K hK; have e50 := sV 50 (hd 4 (by kernel_rfl)) hA hap hsz; clear hA o2 o8 o9
     obtain ⟨i0, hi, hz, hsize, -⟩ := info_parts Tryd.infoSigZ
     refine wp_buildSlice 34 81 1 #[(0, .tmp 50)] rfl (sgA s) i0 _ Tryd.underlying34 hi hz (by rw [hsize]; decide) (by rw [hsize]; decide) (by rw [hsize]; have he : A'.eval (.tmp 50) = .agg (sgA s) := (by simpa [Act.eval] using e50); have hpp : ((#[(0, Operand.tmp 50)] : Array (Nat × Operand)).map fun (i, x) => (i, A'.eval x)).toList = [(0, .agg (sgA s))] := (by simp [he]); rw [hpp]; exact fill_sig (sgA_size hs)) ?_
     exact hK W.heap.size _ _ (S.newBlk _ _) rfl
   · intro vs gs A' W LF hA S hR hd hu K hK; replace hK := hK default
     have e48 := sU 48 2 hA hap hsz
     have e49 := sV 49 (hd 3 (by kernel_rfl)) hA hap hsz; have e51 := sV 51 (hd 5 (by kernel_rfl)) hA hap hsz; clear hA o2 o8 o9; go_step
     have S1 : Held w0 W (rowR 81 33 (vs 2) l.length (sgsC l) :: blkR (gs 5) 81 (sgA s) :: LF) := S
     refine (sinsert_any w0 LF (vs 2) l hok hll p hp (gs 5) s hs W S1).mono ?_
     rintro e w' ⟨v', rfl, S2⟩
     exact hK v' w' S2 trivial
   · intro vs gs A' W LF hA S hR hd hu K hK; replace hK := hK default; have e2 := sO 2 o2 hA hap hsz; clear hA o2 o8 o9; go_step; exact hK _ _ S rfl
   · intro vs gs A' W LF hA S hR hd hu K hK; replace hK := hK default; have e53 := sV 53 (hd 7 (by kernel_rfl)) hA hap hsz
     have e52 := sU 52 6 hA hap hsz
     clear hA o2 o8 o9
     have S1 : Held w0 W (blkR gN 36 (ntA z h (.slice A l.length c)) :: LF) := S
     obtain ⟨A6, c6, e6, -, -⟩ := ow_form (show Ow W 81 33 (vs 6) (l.length + 1) (sgsC (l.take p ++ s :: l.drop p)) from S1.ok (rowR 81 33 (vs 6) (l.length + 1) (sgsC (l.take p ++ s :: l.drop p))) (List.mem_cons_of_mem _ (hR 6 (List.mem_singleton.2 rfl) _ (List.mem_cons_self ..))))
     have S2 := S1.set (l1 := []) 33 (.slice A6 (l.length + 1) c6)
     rw [ntA_setSigs hh, show ntA z h (.slice A6 (l.length + 1) c6) = ntA z h (vs 6) from by rw [e6]] at S2
     have c33 : W.cell? ⟨gN, 33, none⟩ = some (.slice A l.length c) := by rw [(S1.at_ (l1 := [])).cell]; exact ntA_sigs hh
     have f33 := (show Blk W gN _ _ from S1.at_ (l1 := [])).frozen 33
     rw [e6] at e52
     go_step
     exact hK undef _ S2 trivial
 · intro vs gs W S hp
   have S : Held w0 W ([rowR 81 33 (vs 6) (l.length + 1) (sgsC (l.take p ++ s :: l.drop p)), blkR (gs 5) 81 (sgA s)] ++ (blkR gN 36 (ntA z h (vs 6)) :: blkR g8 81 (sgA s) :: L)) := by simpa only [List.flatMap_cons, List.flatMap_nil, List.append_nil, List.nil_append, List.cons_append, List.append_assoc] using S
   rw [putAll_eq]
   exact hend _ vs gs W sQ  S
theorem ssg_r13 (w0 : World) (gN gR : Nat) (ca cr : Array Value) (hz : ca.size = 34) (hr : cr.size = 34) (hO0 : ∀ u, u ∈ ca.toList → u.oneCell' = true) (L : List Res) (S : Held w0 w (blkR gR 36 cr :: blkR gN 36 ca :: L)) (hsz : a.tmps.size = 55) (o2 : Sl a 2 (.pointer (some ⟨gN, 0, none⟩))) (o4 : Sl a 4 (.pointer (some ⟨gR, 0, none⟩)))
 (hend : ∀ a' W, Same a a' [54, 5] → Sl a' 5 (.int .i64 (0)) → (Held w0 W (blkR gR 36 ca :: blkR gN 36 ca :: L)) → Q .normal a' W) : (Code.region 13 (opsOf 13 Tryd.f15).toArray false).wp Tryd.prog Q a w := by
 refine wp_region_lit ?_
 (conv => arg 4; whnf)
 unfold Sl at o2 o4
 have S := Lib.hid S
 have hz := Lib.hid hz
 have hO := Lib.hid hO0
 clear hO0
 go_wp2_with (first | (refine wpList_load_blk rfl 36 (.tmp 2) rfl gN (by simp [Act.eval, Act.put, hsz, o2]) 36 _ (S.out.at_ (l1 := [_])) _ Tryd.underlying36 rfl (by rw [hz.out]; exact Tryd.infoNote) ?_) | (refine wpList_store_blk rfl 36 (.tmp 4) (.tmp 54) rfl gR (by simp [Act.eval, Act.put, hsz, o4]) ca (by simp [Act.eval, Act.put, hsz]) 36 _ (S.out.at_ (l1 := [])) (by rw [hz.out]; exact Tryd.infoNote) (by rw [hz.out, hr]) hO.out ?_; intro w7 b7 k7; have S7 := Lib.hid (Held.setBlk (l1 := []) S.out b7 k7); clear b7 k7))
 try simp only [Act.put]
 exact hend _ _ sS sP (S7.out)
end
/- sign.Sign, whole. -/
section
open Go.RowKit
theorem perm_r3 (n g r s k : Res) : List.Perm [n, g, r, s, k] [r, n, g, s, k] := (List.Perm.cons _ (List.Perm.swap _ _ _)).trans (List.Perm.swap _ _ _)
theorem perm_r4 (w g n t r s k : Res) : List.Perm [w, g, n, t, r, s, k] [r, n, w, g, t, s, k] := (List.perm_append_comm (l₁ := [w, g, n, t]) (l₂ := [r])).append_right [s, k] |>.trans (List.Perm.cons _ ((List.perm_append_comm (l₁ := [w, g]) (l₂ := [n])).append_right [t, s, k]))
theorem perm_one {w w' : World} {a b c : Res} {L : List Res} (S : Held w w' (a :: b :: c :: L)) : Held w w' [c] := ⟨S.k, fun r hr => S.ok r (by rw [List.mem_singleton.1 hr]; simp), fun r hr => S.base r (by rw [List.mem_singleton.1 hr]; simp), List.pairwise_singleton ..⟩
theorem perm_sg (g s k n r : Res) : List.Perm [g, s, k, n, r] [n, g, r, s, k] := ((List.perm_append_comm (l₁ := [g, s, k]) (l₂ := [n, r])).trans (List.Perm.cons _ ((List.perm_append_comm (l₁ := [r]) (l₂ := [g, s, k])).trans (List.Perm.cons _ ((List.perm_append_comm (l₁ := [s, k]) (l₂ := [r])))))))
def signE (z : Int) (l : List SigD) (nm sec : List UInt8) : Int := if mayN z l = false then 2 else if sumOk z nm sec = false then 2 else if hasN nm l then 8 else if l.length = 64 then 380 else 0
def insN (l : List SigD) (s : SigD) : List SigD := l.take (posN s.1 l) ++ s :: l.drop (posN s.1 l)
theorem posN_le (nm : List UInt8) (l : List SigD) : posN nm l ≤ l.length := (List.takeWhile_sublist _).length_le
theorem mayN_64 {z : Int} {l : List SigD} (h : mayN z l = true) : l.length ≤ 64 ∧ rising [] l = true := by
 unfold mayN at h
 simp only [Bool.and_eq_true, decide_eq_true_eq] at h
 exact ⟨h.1.2, h.2⟩
theorem ssign_any (z : Int) (hz : -9223372036854775808 ≤ z ∧ z ≤ 9223372036854775807) (h : List UInt8) (hh : h.length = 32) (l : List SigD) (hok : SgOk l) (hll : l.length ≤ 9223372036854775807) (A : Option Addr) (c : Nat) (nm : ByteArray) (hnm : nm.size ≤ 9223372036854775807) (Ak : Option Addr) (ck : Nat) (sec : List UInt8) (w : World) (LDw : LD w)
 (hv : Rd w 33 (.slice A l.length c) l.length (sgsC l)) (hk : Rd w 1 (.slice Ak sec.length ck) sec.length (bv sec)) :
 Calls Tryd.prog 15 #[.agg (ntA z h (.slice A l.length c)), .agg #[.string nm, .slice Ak sec.length ck]] w fun e w' => ∃ v, e = .returned (.tuple #[.agg (if signE z l nm.data.toList sec = 0 then ntA z h v else zeroN), .int .i64 (signE z l nm.data.toList sec)]) ∧ (signE z l nm.data.toList sec = 0 → Held w w' [rowR 81 33 v (l.length + 1) (sgsC (insN l (nm.data.toList, sumF z h nm.data.toList sec)))]) ∧ Kp [] w w' := by
 refine calls_fr Tryd.func15 rfl 55 rfl (fun a0 hsz hdf hAr => ?_)
 have hz0 : a0.tmps.size = 55 := hsz
 have D := hdf
 have o0 := hAr 0 _ rfl
 have o1 := hAr 1 _ rfl
 have hcz := ntA_size (z := z) (v := .slice A l.length c) hh
 refine wp_seq (ssg_r0 w _ _ _ [] (Held.start w) hz0 o0 o1 (fun a1 w1 hs1 h => ?_))
 have hz1 := hs1.size.trans hz0; have o0 := hs1.k o0; have o1 := hs1.k o1; have D := hs1.defers.trans D
 obtain ⟨gN, gK, gR, o2, o3, o4, S⟩ := h
 obtain ⟨b, hb⟩ : ∃ b, ((chkN z l : Int) != 0) = b := ⟨_, rfl⟩
 have hb2 : b = !mayN z l := by rw [← hb]; unfold chkN; cases mayN z l <;> rfl
 have S := S.perm (show List.Perm _ (blkR gN 36 (ntA z h (.slice A l.length c)) :: blkR gR 36 zeroN :: blkR gK 42 #[.string nm, .slice Ak sec.length ck] :: []) from ((List.Perm.cons _ (List.Perm.swap _ _ _)).trans (List.Perm.swap _ _ _)))
 refine wp_seq (wp_seq (ssg_r1 w gN _ hcz (chkN z l) b hb _ S (fun V SV => scheck_any z hz h hh l hok hll A c V (LDw.kp SV.k) (rd_old hv SV.k)) hz1 o2 (fun a2 w2 hs2 o13 S => ?_)))
 have hz2 := hs2.size.trans hz1; have o0 := hs2.k o0; have o1 := hs2.k o1; have o2 := hs2.k o2; have o3 := hs2.k o3; have o4 := hs2.k o4; have D := hs2.defers.trans D
 cases hm : mayN z l
 · rw [hm] at hb2
   refine wp_cond_true ((o13.eval (by rw [hz2]; decide)).trans (by rw [hb2]; rfl)) ?_
   have S := S.perm (List.Perm.swap _ _ _)
   refine wp_seq (ssg_r2 w gR _ S hz2 o4 (fun a3 wx hs3 o5 S => ?_))
   have hz3 := hs3.size.trans hz2; have o0 := hs3.k o0; have o1 := hs3.k o1; have o2 := hs3.k o2; have o3 := hs3.k o3; have o4 := hs3.k o4; have o13 := hs3.k o13; have D := hs3.defers.trans D
   refine wp_ret ?_
   simp only [Exit.then]
   refine (bodyPost_ret (results_cell_tmp (by rfl) (o4.eval (by rw [hz3]; decide)) (S.at_ (l1 := [])) Tryd.underlying36 rfl (by rw [show zeroN.size = 34 from rfl]; exact Tryd.infoNote)) D ⟨.slice none 0 0, ?_, fun h0 => ?_, S.k⟩)
   · rw [(show signE z l nm.data.toList sec = 2 from by unfold signE; rw [if_pos hm]), if_neg (by decide)]
     exact congrArg (fun x => Ending.returned (.tuple #[.agg zeroN, x])) (o5.eval (by rw [hz3]; decide))
   · rw [(show signE z l nm.data.toList sec = 2 from by unfold signE; rw [if_pos hm])] at h0; exact absurd h0 (by decide)
 · rw [hm] at hb2
   refine wp_cond_false ((o13.eval (by rw [hz2]; decide)).trans (by rw [hb2]; rfl)) (wp_skip ?_)
   obtain ⟨h64, hris⟩ := mayN_64 hm
   have S := S.perm (show List.Perm _ (blkR gN 36 (ntA z h (.slice A l.length c)) :: blkR gK 42 #[.string nm, .slice Ak sec.length ck] :: blkR gR 36 zeroN :: []) from List.Perm.cons _ (List.Perm.swap _ _ _))
   obtain ⟨se, hse⟩ : ∃ se : Int, (if sumOk z nm.data.toList sec then (0 : Int) else 2) = se := ⟨_, rfl⟩
   refine wp_seq (ssg_r3 w gN gK z h hh _ _ _ (sumV z h nm.data.toList sec) (sumV_length ..) se _ S (fun V SV => hse ▸ ssm_any z hz h hh nm hnm Ak ck sec V (LDw.kp SV.k) (rd_old hk SV.k)) hz2 o2 o3 (fun a3 w3 hs3 o7 h => ?_))
   have hz3 := hs3.size.trans hz2; have o0 := hs3.k o0; have o1 := hs3.k o1; have o2 := hs3.k o2; have o3 := hs3.k o3; have o4 := hs3.k o4; have o13 := hs3.k o13; have D := hs3.defers.trans D
   obtain ⟨gS, o6, S⟩ := h
   obtain ⟨b4, hb4⟩ : ∃ b4, (se != 0) = b4 := ⟨_, rfl⟩
   have hb5 : b4 = !sumOk z nm.data.toList sec := by rw [← hb4, ← hse]; cases sumOk z nm.data.toList sec <;> rfl
   refine wp_seq (wp_seq (ssg_r4 se b4 hb4 hz3 o7 (fun a4 hs4 o23 => ?_)))
   have hz4 := hs4.size.trans hz3; have o0 := hs4.k o0; have o1 := hs4.k o1; have o2 := hs4.k o2; have o3 := hs4.k o3; have o4 := hs4.k o4; have o13 := hs4.k o13; have o7 := hs4.k o7; have o6 := hs4.k o6; have D := hs4.defers.trans D
   cases hq : sumOk z nm.data.toList sec
   · rw [hq] at hb5 hse
     obtain rfl : se = 2 := hse.symm
     refine wp_cond_true ((o23.eval (by rw [hz4]; decide)).trans (by rw [hb5]; rfl)) ?_
     have S := S.perm ((List.perm_append_comm (l₁ := [_, _, _]) (l₂ := [_])))
     refine wp_seq (ssg_r5 w gR 2 _ S hz4 o4 o7 (fun a5 wx hs5 o5 S => ?_))
     have hz5 := hs5.size.trans hz4; have o0 := hs5.k o0; have o1 := hs5.k o1; have o2 := hs5.k o2; have o3 := hs5.k o3; have o4 := hs5.k o4; have o13 := hs5.k o13; have o7 := hs5.k o7; have o6 := hs5.k o6; have o23 := hs5.k o23; have D := hs5.defers.trans D
     refine wp_ret ?_
     simp only [Exit.then]
     refine (bodyPost_ret (results_cell_tmp (by rfl) (o4.eval (by rw [hz5]; decide)) (S.at_ (l1 := [])) Tryd.underlying36 rfl (by rw [show zeroN.size = 34 from rfl]; exact Tryd.infoNote)) D ⟨.slice none 0 0, ?_, fun h0 => ?_, S.k⟩)
     · rw [(show signE z l nm.data.toList sec = 2 from by unfold signE; rw [if_neg (by rw [hm]; decide), if_pos hq]), if_neg (by decide)]
       exact congrArg (fun x => Ending.returned (.tuple #[.agg zeroN, x])) (o5.eval (by rw [hz5]; decide))
     · rw [(show signE z l nm.data.toList sec = 2 from by unfold signE; rw [if_neg (by rw [hm]; decide), if_pos hq])] at h0; exact absurd h0 (by decide)
   · rw [hq] at hb5 hse
     refine wp_cond_false ((o23.eval (by rw [hz4]; decide)).trans (by rw [hb5]; rfl)) (wp_skip ?_)
     have hsv : sumV z h nm.data.toList sec = sumF z h nm.data.toList sec := by unfold sumV; rw [if_pos hq]
     rw [hsv] at S
     obtain ⟨s, hs⟩ : ∃ s : SigD, (nm.data.toList, sumF z h nm.data.toList sec) = s := ⟨_, rfl⟩
     have hs1 : s.1 = nm.data.toList := by rw [← hs]
     have hs2 : s.2 = sumF z h nm.data.toList sec := by rw [← hs]
     have hsl : s.2.length = 32 := by rw [hs2]; exact sumF_length ..
     have hsn : strV s.1 = .string nm := by rw [hs1]; rfl
     rw [← hs2] at S
     have S := S.perm (show List.Perm _ (blkR gS 25 (hashA s.2) :: blkR gK 42 #[.string nm, .slice Ak sec.length ck] :: blkR gN 36 (ntA z h (.slice A l.length c)) :: blkR gR 36 zeroN :: []) from List.Perm.cons _ (List.Perm.swap _ _ _))
     refine wp_seq (ssg_r6 w gK gS nm _ s hsl hsn _ S hz4 o3 o6 (fun a5 w6 hs5 h => ?_))
     have hz5 := hs5.size.trans hz4; have o0 := hs5.k o0; have o1 := hs5.k o1; have o2 := hs5.k o2; have o3 := hs5.k o3; have o4 := hs5.k o4; have o13 := hs5.k o13; have o7 := hs5.k o7; have o6 := hs5.k o6; have o23 := hs5.k o23; have D := hs5.defers.trans D
     obtain ⟨gG, o8, S⟩ := h
     have S := S.perm (show List.Perm _ (blkR gN 36 (ntA z h (.slice A l.length c)) :: blkR gG 81 (sgA s) :: blkR gR 36 zeroN :: blkR gS 25 (hashA s.2) :: blkR gK 42 #[.string nm, .slice Ak sec.length ck] :: []) from perm_sg _ _ _ _ _)
     refine wp_seq (ssg_r7 w gN gG z h hh A l.length c s hsl (posN s.1 l) (hasN s.1 l) _ S (fun V SV => bsf_any A c l s hok hsl (by omega) (rising_mono s.1 hris) V (rd_old hv SV.k)) hz5 o2 o8 (fun a6 w7 hs6 o9 o10 S => ?_))
     have hz6 := hs6.size.trans hz5; have o0 := hs6.k o0; have o1 := hs6.k o1; have o2 := hs6.k o2; have o3 := hs6.k o3; have o4 := hs6.k o4; have o13 := hs6.k o13; have o7 := hs6.k o7; have o6 := hs6.k o6; have o23 := hs6.k o23; have o8 := hs6.k o8; have D := hs6.defers.trans D
     refine wp_seq (wp_block ?_)
     refine wp_seq (ssg_r8 _ hz6 o10 (fun a7 hs7 o37 => ?_))
     have hz7 := hs7.size.trans hz6; have o0 := hs7.k o0; have o1 := hs7.k o1; have o2 := hs7.k o2; have o3 := hs7.k o3; have o4 := hs7.k o4; have o13 := hs7.k o13; have o7 := hs7.k o7; have o6 := hs7.k o6; have o23 := hs7.k o23; have o8 := hs7.k o8; have o9 := hs7.k o9; have o10 := hs7.k o10; have D := hs7.defers.trans D
     have hs1' := hs1
     cases hth : hasN s.1 l
     rotate_left
     · rw [hth] at o37
       refine wp_cond_true (o37.eval (by rw [hz7]; decide)) ?_
       have S := S.perm (perm_r3 _ _ _ _ _)
       refine wp_seq (ssg_r9 w gR _ S hz7 o4 (fun a8 wx hs8 o5 S => ?_))
       have hz8 := hs8.size.trans hz7; have o0 := hs8.k o0; have o1 := hs8.k o1; have o2 := hs8.k o2; have o3 := hs8.k o3; have o4 := hs8.k o4; have o13 := hs8.k o13; have o7 := hs8.k o7; have o6 := hs8.k o6; have o23 := hs8.k o23; have o8 := hs8.k o8; have o9 := hs8.k o9; have o10 := hs8.k o10; have o37 := hs8.k o37; have D := hs8.defers.trans D
       refine wp_ret ?_
       simp only [Exit.then, Exit.inBlock]
       refine (bodyPost_ret (results_cell_tmp (by rfl) (o4.eval (by rw [hz8]; decide)) (S.at_ (l1 := [])) Tryd.underlying36 rfl (by rw [show zeroN.size = 34 from rfl]; exact Tryd.infoNote)) D ⟨.slice none 0 0, ?_, fun h0 => ?_, S.k⟩)
       · rw [(show signE z l nm.data.toList sec = 8 from by unfold signE; rw [if_neg (by rw [hm]; decide), if_neg (by rw [hq]; decide), if_pos (by rw [← hs1]; exact hth)]), if_neg (by decide)]
         exact congrArg (fun x => Ending.returned (.tuple #[.agg zeroN, x])) (o5.eval (by rw [hz8]; decide))
       · rw [(show signE z l nm.data.toList sec = 8 from by unfold signE; rw [if_neg (by rw [hm]; decide), if_neg (by rw [hq]; decide), if_pos (by rw [← hs1]; exact hth)])] at h0; exact absurd h0 (by decide)
     · rw [hth] at o37
       refine wp_cond_false (o37.eval (by rw [hz7]; decide)) ?_
       obtain ⟨b10, hb10⟩ : ∃ b10, ((l.length : Int) == 64) = b10 := ⟨_, rfl⟩
       refine wp_seq (ssg_r10 w gN z h hh A l.length c b10 hb10 _ S hz7 o2 (fun a8 hs8 o40 => ?_))
       have hz8 := hs8.size.trans hz7; have o0 := hs8.k o0; have o1 := hs8.k o1; have o2 := hs8.k o2; have o3 := hs8.k o3; have o4 := hs8.k o4; have o13 := hs8.k o13; have o7 := hs8.k o7; have o6 := hs8.k o6; have o23 := hs8.k o23; have o8 := hs8.k o8; have o9 := hs8.k o9; have o10 := hs8.k o10; have o37 := hs8.k o37; have D := hs8.defers.trans D
       by_cases h640 : l.length = 64
       · have hb11 : b10 = true := by rw [← hb10, h640]; rfl
         refine wp_cond_true ((o40.eval (by rw [hz8]; decide)).trans (by rw [hb11])) ?_
         have S := S.perm (perm_r3 _ _ _ _ _)
         refine wp_seq (ssg_r11 w gR _ S hz8 o4 (fun a9 wx hs9 o5 S => ?_))
         have hz9 := hs9.size.trans hz8; have o0 := hs9.k o0; have o1 := hs9.k o1; have o2 := hs9.k o2; have o3 := hs9.k o3; have o4 := hs9.k o4; have o13 := hs9.k o13; have o7 := hs9.k o7; have o6 := hs9.k o6; have o23 := hs9.k o23; have o8 := hs9.k o8; have o9 := hs9.k o9; have o10 := hs9.k o10; have o37 := hs9.k o37; have o40 := hs9.k o40; have D := hs9.defers.trans D
         refine wp_ret ?_
         simp only [Exit.then, Exit.inBlock]
         refine (bodyPost_ret (results_cell_tmp (by rfl) (o4.eval (by rw [hz9]; decide)) (S.at_ (l1 := [])) Tryd.underlying36 rfl (by rw [show zeroN.size = 34 from rfl]; exact Tryd.infoNote)) D ⟨.slice none 0 0, ?_, fun h0 => ?_, S.k⟩)
         · rw [(show signE z l nm.data.toList sec = 380 from by unfold signE; rw [if_neg (by rw [hm]; decide), if_neg (by rw [hq]; decide), if_neg (by rw [← hs1, hth]; decide), if_pos h640]), if_neg (by decide)]
           exact congrArg (fun x => Ending.returned (.tuple #[.agg zeroN, x])) (o5.eval (by rw [hz9]; decide))
         · rw [(show signE z l nm.data.toList sec = 380 from by unfold signE; rw [if_neg (by rw [hm]; decide), if_neg (by rw [hq]; decide), if_neg (by rw [← hs1, hth]; decide), if_pos h640])] at h0; exact absurd h0 (by decide)
       · have hb11 : b10 = false := by rw [← hb10]; exact beq_false_of_ne (by omega)
         refine wp_cond_false ((o40.eval (by rw [hz8]; decide)).trans (by rw [hb11])) (wp_skip ?_)
         simp only [Exit.inBlock, Exit.then]
         refine wp_seq (ssg_r12 w gN gG z h hh A c l hok (by omega) (posN s.1 l) (posN_le _ _) s hsl hv _ hz8 o2 o8 o9 S (fun a9 vs12 gs12 w12 hs9 S => ?_))
         have hz9 := hs9.size.trans hz8; have o0 := hs9.k o0; have o1 := hs9.k o1; have o2 := hs9.k o2; have o3 := hs9.k o3; have o4 := hs9.k o4; have o13 := hs9.k o13; have o7 := hs9.k o7; have o6 := hs9.k o6; have o23 := hs9.k o23; have o8 := hs9.k o8; have o9 := hs9.k o9; have o10 := hs9.k o10; have o37 := hs9.k o37; have o40 := hs9.k o40; have D := hs9.defers.trans D
         obtain ⟨A6, c6, e6, -, -⟩ := ow_form (show Ow w12 81 33 (vs12 6) (l.length + 1) (sgsC (l.take (posN s.1 l) ++ s :: l.drop (posN s.1 l))) from S.at_ (l1 := []))
         have S := S.perm (perm_r4 _ _ _ _ _ _ _)
         refine wp_seq (ssg_r13 w gN gR _ zeroN (ntA_size hh) rfl (ntA_one (by rw [e6]; rfl)) _ S hz9 o2 o4 (fun a10 w13 hs10 o5 S => ?_))
         have hz10 := hs10.size.trans hz9; have o0 := hs10.k o0; have o1 := hs10.k o1; have o2 := hs10.k o2; have o3 := hs10.k o3; have o4 := hs10.k o4; have o13 := hs10.k o13; have o7 := hs10.k o7; have o6 := hs10.k o6; have o23 := hs10.k o23; have o8 := hs10.k o8; have o9 := hs10.k o9; have o10 := hs10.k o10; have o37 := hs10.k o37; have o40 := hs10.k o40; have D := hs10.defers.trans D
         have hE : signE z l nm.data.toList sec = 0 := by unfold signE; rw [if_neg (by rw [hm]; decide), if_neg (by rw [hq]; decide), if_neg (by rw [← hs1, hth]; decide), if_neg h640]
         refine wp_ret ?_
         refine (bodyPost_ret (results_cell_tmp (by rfl) (o4.eval (by rw [hz10]; decide)) (S.at_ (l1 := [])) Tryd.underlying36 rfl (by rw [ntA_size hh]; exact Tryd.infoNote)) D ⟨vs12 6, ?_, fun h0 => ?_, S.k⟩)
         · rw [hE, if_pos rfl]
           exact congrArg (fun x => Ending.returned (.tuple #[.agg _, x])) (o5.eval (by rw [hz10]; decide))
         · rw [hs]
           exact perm_one S
end
/- A map from names to numbers, of the call's own. -/
section
open Go.RowKit
def Cnt (w : World) (b m : Nat) (f : List UInt8 → Nat) : Prop := ∃ D : DataW Unit, w.ownsMap Tryd.prog 9 (plainElem Tryd.prog 3) b m D ∧ ∀ s, D.atKey (.string s) (.lit (.int .i64 0)) = .lit (.int .i64 (f s : Int))
def cntR (b m : Nat) (f : List UInt8 → Nat) : Res where
 fp := [b]
 ok := fun w => Cnt w b m f
 keep := fun _ _ _ h hk hn => by
  obtain ⟨D, h, hf⟩ := h
  have hlt := h.lt
  obtain ⟨es, clock, hb, rest⟩ := h
  exact ⟨D, ⟨es, clock, (hk.block b hlt (hn b (by simp))).trans hb, rest⟩, hf⟩
 lt := fun _ h g hg => by
  obtain ⟨D, h, hf⟩ := h
  simp at hg; subst hg; exact h.lt
theorem cnt_new (w : World) : Cnt (w.alloc (.map #[] 0)) w.heap.size 0 (fun _ => 0) := ⟨.map [], World.ownsMap_made .., fun _ => rfl⟩
theorem cnt_get {w : World} {b m : Nat} {f : List UInt8 → Nat} (h : Cnt w b m f) (s : ByteArray) (hs : s.size ≤ maxLen) : (Instr.lookup 94 (.map (some b)) (.string s) false).run Tryd.prog w = .ok (.int .i64 (f s.data.toList : Int)) w := by
 obtain ⟨D, h, hf⟩ := h
 obtain ⟨c, hrun, hat, -⟩ := h.lookup_int (Maps.string_keyed Tryd.underlying9) Tryd.underlying94 Tryd.underlying3 (by kernel_rfl) (WideMaps.keyOf_string_mk Tryd.underlying9 hs)
 rw [hf] at hat
 have : (f s.data.toList : Int) = c := by simp only [DataW.lit.injEq, Lit.int.injEq, true_and] at hat; exact hat
 rw [hrun, this]
theorem wf_nat {x : Nat} (hx : x < 9223372036854775808) : (Lit.int .i64 (x : Int)).wf = true := by
 have h1 : IntKind.i64.min = -9223372036854775808 := by decide
 have h2 : IntKind.i64.max = 9223372036854775807 := by decide
 show (decide (IntKind.i64.min ≤ (x : Int)) && decide ((x : Int) ≤ IntKind.i64.max)) = true
 rw [h1, h2, Bool.and_eq_true, decide_eq_true_iff, decide_eq_true_iff]
 omega
theorem cnt_put {w : World} {b m : Nat} {f : List UInt8 → Nat} (h : Cnt w b m f) (hm : m < maxLen) (s : ByteArray) (hs : s.size ≤ maxLen) (x : Nat) (hx : x < 9223372036854775808) :
 ∃ w', (Instr.mapUpdate 94 (.map (some b)) (.string s) (.int .i64 (x : Int))).run Tryd.prog w = .ok () w' ∧ Cnt w' b (m + 1) (fun t => if t = s.data.toList then x else f t) ∧ Kp [b] w w' := by
 obtain ⟨D, h, hf⟩ := h
 have hmap := h.isMap
 obtain ⟨w', hrun, h', hg⟩ := h.update (Maps.string_keyed Tryd.underlying9) Tryd.underlying94 hm (WideMaps.keyOf_string_mk Tryd.underlying9 hs) (plainElem_int Tryd.underlying3 (a := (x : Int)) (wf_nat hx))
 refine ⟨w', hrun, ⟨_, h', fun t => ?_⟩, Kp.of_grown hg⟩
 show _ = DataW.lit (.int .i64 ((if t = s.data.toList then x else f t : Nat) : Int))
 by_cases e : t = s.data.toList
 · rw [if_pos e, e]
   exact Maps.atKey_put_same hmap (by trivial) _ _
 · rw [if_neg e, Maps.atKey_put_other (fun h => e (by simpa using h))]
   exact hf t
end
/- sign.Right: its regions. -/
section
variable {Q : Exit → Act → World → Prop} {a : Act} {w : World}
open Go.RowKit
theorem wpList_load_aggG {P : Program} {ops : Array Oper} {rest : List Oper} {o : Oper} {a : Act} {w : World} {Q : Exit → Act → World → Prop} (j d : Nat) (b : Bool) (hg : o.guard = some (j, b)) (hj : (ops[j]?).bind (·.dst) = some d) (hd : a.tmps[d]?.getD undef = .bool b)
 (ty : TypeId) (x : Operand) (ho : o.op = .load ty x) (ad : Addr) (hx : a.eval x = .pointer (some ad)) (cs : List Value) (ds : TypeDesc) (hc : ∀ j u, cs[j]? = some u → w.cell? (ad.add j) = some u) (hu : P.underlying ty = some ds) (hds : aggB ds = true) (hi : (P.info? ty).map (·.size) = some cs.length)
 (h : wpList P ops Q rest (a.put o.dst (.agg cs.toArray)) w) : wpList P ops Q (o :: rest) a w :=
 wpList_met j d b hg hj hd fun K hK => by
  unfold Oper.wp
  rw [exec_load ho hx (run_loadAt_agg w ad ty cs ds hc hu hds hi)]
  exact hK _ _ h
theorem sig_sum {w : World} {g : Nat} {t : TypeId} {s : SigD} (hb : Blk w g t (sgA s)) : ∀ j u, (hashA s.2).toList[j]? = some u → w.cell? ((⟨g, 1, none⟩ : Addr).add j) = some u := by
 intro j u hu
 rw [Addr.add_lit, Nat.add_comm]
 have := hb.agg (j + 1) u (by show (strV s.1 :: bv s.2)[j + 1]? = _; rw [List.getElem?_cons_succ]; exact hu)
 rwa [Addr.add_lit, Nat.zero_add] at this
theorem Tryd.infoStrZ : (Tryd.prog.info? 9).map (fun i => (i.zero, i.size, i.bytes)) = some (some (.string ⟨#[]⟩), 1, 16) := by kernel_rfl
theorem Tryd.infoKeyP : (Tryd.prog.info? 42).map (·.size) = some 2 := by kernel_rfl
theorem srt_r0 (w0 : World) (ca : Array Value) (L : List Res) (S : Held w0 w L) (hsz : a.tmps.size = 80) (o0 : Sl a 0 (.agg ca))
 (hend : ∀ a' W, Same a a' [2, 4] → (∃ gN, Sl a' 2 (.pointer (some ⟨gN, 0, none⟩)) ∧ Held w0 W (blkR gN 36 ca :: L)) → Q .normal a' W) : (Code.region 0 (opsOf 0 Tryd.f27).toArray false).wp Tryd.prog Q a w := by
 refine wp_region_lit ?_
 (conv => arg 4; whnf)
 unfold Sl at o0
 have S0 := Lib.hid (S.newBlk 36 ca)
 go_wp2_with fail
 try simp only [Act.put]
 exact hend _ _ sS (⟨_, sP0, S0.out⟩)
theorem srt_r1 (w0 : World) (L : List Res) (S : Held w0 w L) (hsz : a.tmps.size = 80) 
 (hend : ∀ a' W, Same a a' [15, 5] → (∃ v, Sl a' 5 v ∧ Held w0 W (rowR 9 1 v 0 [] :: L)) → Q .normal a' W) : (Code.region 1 (opsOf 1 Tryd.f27).toArray false).wp Tryd.prog Q a w := by
 refine wp_region_lit ?_
 (conv => arg 4; whnf)
 have S1 := Lib.hid (S.rownew (ow_empty 9 1 (g := w.heap.size) rfl) ((Kp.refl [] w).alloc _) (by simp [Value.ownBlock]))
 go_wp2_with fail
 try simp only [Act.put]
 exact hend _ _ sS (⟨_, sP0, S1.out⟩)
theorem srt_r2 (w0 : World) (gN : Nat) (ca : Array Value) (hz : ca.size = 34) (ck : Int) (b : Bool) (hb : (ck != 0) = b) (L : List Res) (S : Held w0 w (blkR gN 36 ca :: L)) (HC : ∀ V, Held w0 V (blkR gN 36 ca :: L) → Calls Tryd.prog 24 #[.agg ca] V fun e w' => e = .returned (.int .i64 ck) ∧ Kp [] V w') (hsz : a.tmps.size = 80) (o2 : Sl a 2 (.pointer (some ⟨gN, 0, none⟩)))
 (hend : ∀ a' W, Same a a' [16, 17, 18] → Sl a' 18 (.bool b) → (Held w0 W (blkR gN 36 ca :: L)) → Q .normal a' W) : (Code.region 2 (opsOf 2 Tryd.f27).toArray false).wp Tryd.prog Q a w := by
 refine wp_region_lit ?_
 (conv => arg 4; whnf)
 unfold Sl at o2
 have S := Lib.hid S
 have HC := Lib.hid (HC _ S.out)
 have hz := Lib.hid hz
 go_wp2_with (refine wpList_load_blk rfl 36 (.tmp 2) rfl gN (by simp [Act.eval, Act.put, hsz, o2]) 36 _ (S.out.at_ (l1 := [])) _ Tryd.underlying36 rfl (by rw [hz.out]; exact Tryd.infoNote) ?_)
 refine HC.out.mono ?_
 rintro e w1 ⟨rfl, k1⟩
 have S1 := Lib.hid (S.out.kp k1)
 clear k1
 go_wp2_with fail
 try simp only [Act.put]
 exact hend _ _ sS sP (S1.out)
theorem srt_r3 (v : Value) (hsz : a.tmps.size = 80) (o5 : Sl a 5 (v))
 (hend : ∀ a', Same a a' [19, 4] → Sl a' 4 (v) → Q .normal a' (w)) : (Code.region 3 (opsOf 3 Tryd.f27).toArray false).wp Tryd.prog Q a w := by
 refine wp_region_lit ?_
 (conv => arg 4; whnf)
 unfold Sl at o5
 go_wp2_with fail
 try simp only [Act.put]
 exact hend _ sS sP
theorem srt_r4 (w0 : World) (L : List Res) (S : Held w0 w L) (hsz : a.tmps.size = 80) 
 (hend : ∀ a' W, Same a a' [20, 6] → (∃ g, Sl a' 6 (.map (some g)) ∧ Held w0 W (cntR g 0 (fun _ => 0) :: L)) → Q .normal a' W) : (Code.region 4 (opsOf 4 Tryd.f27).toArray false).wp Tryd.prog Q a w := by
 refine wp_region_lit ?_
 (conv => arg 4; whnf)
 have hmk : (Instr.makeMap 94 none).run Tryd.prog w = .ok (.map (some w.heap.size)) (w.alloc (.map #[] 0)) := rfl
 have S1 := Lib.hid (S.new (cntR w.heap.size 0 (fun _ => 0)) ((Kp.refl [] w).alloc (.map #[] 0)) (cnt_new w) (fun b hb => by simp [cntR] at hb; omega))
 go_wp2_with fail
 try simp only [Act.put]
 exact hend _ _ sS (⟨w.heap.size, sP0, S1.out⟩)
theorem srt_r5 (A : Option Addr) (n c : Nat) (hsz : a.tmps.size = 80) (o1 : Sl a 1 (.slice A n c))
 (hend : ∀ a', Same a a' [21, 22, 23] → Sl a' 21 (.slice A n c) → Sl a' 22 (.int .i64 ((n : Nat) : Int)) → Sl a' 23 (.int .i64 ((0 : Nat) : Int)) → Q .normal a' (w)) : (Code.region 5 (opsOf 5 Tryd.f27).toArray false).wp Tryd.prog Q a w := by
 refine wp_region_lit ?_
 (conv => arg 4; whnf)
 unfold Sl at o1
 go_wp2_with fail
 try simp only [Act.put]
 exact hend _ sS sP sP sP
theorem srt_r6 (k n : Nat) (hsz : a.tmps.size = 80) (o22 : Sl a 22 (.int .i64 ((n : Nat) : Int))) (o23 : Sl a 23 (.int .i64 ((k : Nat) : Int)))
 (hend : ∀ a', Same a a' [24] → Sl a' 24 (.bool (decide (k < n))) → Q .normal a' (w)) : (Code.region 6 (opsOf 6 Tryd.f27).toArray false).wp Tryd.prog Q a w := by
 refine wp_region_lit ?_
 (conv => arg 4; whnf)
 unfold Sl at o22 o23
 go_wp2_with fail
 try simp only [Act.put]
 exact hend _ sS sP
theorem srt_r7 (w0 : World) (ad : Addr) (k n c : Nat) (hk : k < n) (nm : ByteArray) (v : Value) (hv : ∃ A n c, v = .slice A n c) (hc : ∀ j u, ([.string nm, v] : List Value)[j]? = some u → w.cell? ((ad.add (k * 2)).add j) = some u) (L : List Res) (S : Held w0 w L) (hsz : a.tmps.size = 80) (o21 : Sl a 21 (.slice (some ad) n c)) (o23 : Sl a 23 (.int .i64 ((k : Nat) : Int)))
 (hend : ∀ a' W, Same a a' [25, 26, 8] → (∃ g, Sl a' 8 (.pointer (some ⟨g, 0, none⟩)) ∧ Held w0 W (blkR g 42 #[.string nm, v] :: L)) → Q .normal a' W) : (Code.region 7 (opsOf 7 Tryd.f27).toArray false).wp Tryd.prog Q a w := by
 refine wp_region_lit ?_
 (conv => arg 4; whnf)
 unfold Sl at o21 o23
 obtain ⟨A2, n2, c2, rfl⟩ := hv
 have S := Lib.hid S
 have h0 : 0 ≤ (k : Int) := by omega
 have h1 : (k : Int) < (n : Int) := by omega
 have HC := Lib.hid hc
 have HO : Hid (∀ u, u ∈ (#[.string nm, .slice A2 n2 c2] : Array Value).toList → u.oneCell' = true) := Lib.hid (by intro u hu; simp at hu; rcases hu with rfl | rfl <;> rfl)
 have HI := Lib.hid Tryd.infoKeyP
 clear hc
 have S1 := Lib.hid (S.out.newBlk 42 #[.string ⟨#[]⟩, .slice none 0 0])
 go_wp2_with (first
  | (refine wpList_load_agg rfl 42 (.tmp 25) rfl (ad.add (k * 2)) (by simp [Act.eval, Act.put, hsz]) [.string nm, .slice A2 n2 c2] _ HC.out Tryd.underlying42 rfl (by exact HI.out) ?_)
  | (refine wpList_store_blk rfl 42 (.tmp 8) (.tmp 26) rfl w.heap.size (by simp [Act.eval, Act.put, hsz]) #[.string nm, .slice A2 n2 c2] (by simp [Act.eval, Act.put, hsz]) 42 _ (S1.out.at_ (l1 := [])) (by exact HI.out) (by rfl) HO.out ?_; intro w7 b7 k7; have S7 := Lib.hid (Held.setBlk (l1 := []) S1.out b7 k7); clear b7 k7))
 try simp only [Act.put]
 exact hend _ _ sS (⟨_, sP0, S7.out⟩)
theorem srt_r8 (w0 : World) (gN : Nat) (z : Int) (h : List UInt8) (hh : h.length = 32) (A : Option Addr) (n c : Nat) (L : List Res) (S : Held w0 w (blkR gN 36 (ntA z h (.slice A n c)) :: L)) (hsz : a.tmps.size = 80) (o2 : Sl a 2 (.pointer (some ⟨gN, 0, none⟩)))
 (hend : ∀ a', Same a a' [27, 28, 29, 30] → Sl a' 28 (.slice A n c) → Sl a' 29 (.int .i64 ((n : Nat) : Int)) → Sl a' 30 (.int .i64 ((0 : Nat) : Int)) → Q .normal a' (w)) : (Code.region 8 (opsOf 8 Tryd.f27).toArray false).wp Tryd.prog Q a w := by
 refine wp_region_lit ?_
 (conv => arg 4; whnf)
 unfold Sl at o2
 have c33 : w.cell? ⟨gN, 33, none⟩ = some (.slice A n c) := by rw [(S.at_ (l1 := [])).cell]; exact ntA_sigs hh
 go_wp2_with fail
 try simp only [Act.put]
 exact hend _ sS sP sP sP
theorem srt_r9 (k n : Nat) (hsz : a.tmps.size = 80) (o29 : Sl a 29 (.int .i64 ((n : Nat) : Int))) (o30 : Sl a 30 (.int .i64 ((k : Nat) : Int)))
 (hend : ∀ a', Same a a' [31] → Sl a' 31 (.bool (decide (k < n))) → Q .normal a' (w)) : (Code.region 9 (opsOf 9 Tryd.f27).toArray false).wp Tryd.prog Q a w := by
 refine wp_region_lit ?_
 (conv => arg 4; whnf)
 unfold Sl at o29 o30
 go_wp2_with fail
 try simp only [Act.put]
 exact hend _ sS sP
theorem srt_r10 (w0 : World) (ad : Addr) (k n c : Nat) (hk : k < n) (s : SigD) (hs : s.2.length = 32) (hc : ∀ j u, (sgL s)[j]? = some u → w.cell? ((ad.add (k * 33)).add j) = some u) (L : List Res) (S : Held w0 w L) (hsz : a.tmps.size = 80) (o28 : Sl a 28 (.slice (some ad) n c)) (o30 : Sl a 30 (.int .i64 ((k : Nat) : Int)))
 (hend : ∀ a' W, Same a a' [32, 33, 10] → (∃ g, Sl a' 10 (.pointer (some ⟨g, 0, none⟩)) ∧ Held w0 W (blkR g 81 (sgA s) :: L)) → Q .normal a' W) : (Code.region 10 (opsOf 10 Tryd.f27).toArray false).wp Tryd.prog Q a w := by
 refine wp_region_lit ?_
 (conv => arg 4; whnf)
 unfold Sl at o28 o30
 have S := Lib.hid S
 have h0 : 0 ≤ (k : Int) := by omega
 have h1 : (k : Int) < (n : Int) := by omega
 have hc2 : ∀ j u, (sgA s).toList[j]? = some u → w.cell? ((ad.add (k * 33)).add j) = some u := hc
 have HC := Lib.hid hc2
 clear hc hc2
 have HO := Lib.hid (sgA_one s)
 have hz2 : Hid ((sgA s).size = 33) := Lib.hid (sgA_size hs)
 have S1 := Lib.hid (S.out.newBlk 81 (sgA ([], List.replicate 32 0)))
 generalize sgA s = cs at *
 go_wp2_with (first
  | (refine wpList_load_agg rfl 81 (.tmp 32) rfl (ad.add (k * 33)) (by simp [Act.eval, Act.put, hsz]) cs.toList _ HC.out Tryd.underlying81 rfl (by rw [Array.length_toList, hz2.out]; exact Tryd.infoSig) ?_)
  | (refine wpList_store_blk rfl 81 (.tmp 10) (.tmp 33) rfl w.heap.size (by simp [Act.eval, Act.put, hsz]) cs (by simp [Act.eval, Act.put, hsz]) 81 _ (S1.out.at_ (l1 := [])) (by rw [hz2.out]; exact Tryd.infoSig) (by rw [hz2.out]; rfl) HO.out ?_; intro w7 b7 k7; have S7 := Lib.hid (Held.setBlk (l1 := []) S1.out b7 k7); clear b7 k7))
 try simp only [Act.put]
 exact hend _ _ sS (⟨_, sP0, S7.out⟩)
theorem srt_r11 (w0 : World) (gs gk : Nat) (s : SigD) (ns nm : ByteArray) (v : Value) (hn : strV s.1 = .string ns) (b : Bool) (hb : (!(ns.toList == nm.toList)) = b) (L : List Res) (S : Held w0 w (blkR gs 81 (sgA s) :: blkR gk 42 #[.string nm, v] :: L)) (hsz : a.tmps.size = 80) (o8 : Sl a 8 (.pointer (some ⟨gk, 0, none⟩))) (o10 : Sl a 10 (.pointer (some ⟨gs, 0, none⟩)))
 (hend : ∀ a', Same a a' [34, 35, 36, 37, 38] → Sl a' 38 (.bool b) → Q .normal a' (w)) : (Code.region 11 (opsOf 11 Tryd.f27).toArray false).wp Tryd.prog Q a w := by
 refine wp_region_lit ?_
 (conv => arg 4; whnf)
 unfold Sl at o8 o10
 have c1 : w.cell? ⟨gs, 0, none⟩ = some (.string ns) := by rw [(S.at_ (l1 := [])).cell, ← hn]; rfl
 obtain ⟨c2, c3, m3⟩ := Blk.c2 (S.at_ (l1 := [_]))
 go_wp2_with fail
 try simp only [Act.put]
 exact hend _ sS sP
theorem srt_r12 (w0 : World) (gN gK : Nat) (z : Int) (h : List UInt8) (hh : h.length = 32) (v0 u v : Value) (sv : List UInt8) (hsv : sv.length = 32) (se : Int) (L : List Res) (S : Held w0 w (blkR gN 36 (ntA z h v0) :: blkR gK 42 #[u, v] :: L)) (HS0 : ∀ V, Held w0 V (blkR gN 36 (ntA z h v0) :: blkR gK 42 #[u, v] :: L) → Calls Tryd.prog 17 #[.agg (ptA z h), .agg #[u, v]] V fun e w' => e = .returned (.tuple #[.agg (hashA sv), .int .i64 se]) ∧ Kp [] V w') (hsz : a.tmps.size = 80) (o2 : Sl a 2 (.pointer (some ⟨gN, 0, none⟩))) (o8 : Sl a 8 (.pointer (some ⟨gK, 0, none⟩)))
 (hend : ∀ a' W, Same a a' [40, 41, 42, 43, 39, 44, 45, 11, 12] → Sl a' 12 (.int .i64 (se)) → (∃ gS, Sl a' 11 (.pointer (some ⟨gS, 0, none⟩)) ∧ Held w0 W (blkR gS 25 (hashA sv) :: blkR gN 36 (ntA z h v0) :: blkR gK 42 #[u, v] :: L)) → Q .normal a' W) : (Code.region 12 (opsOf 12 Tryd.f27).toArray false).wp Tryd.prog Q a w := by
 refine wp_region_lit ?_
 (conv => arg 4; whnf)
 unfold Sl at o2 o8
 have S := Lib.hid S
 have HS := Lib.hid (HS0 _ S.out)
 clear HS0
 have hp := Lib.hid (nt_pointAt (S.out.at_ (l1 := [])))
 have HP := Lib.hid (ptA_size (s := z) hh)
 have hO := Lib.hid (hashA_one sv)
 have hz2 : Hid ((hashA sv).size = 32) := Lib.hid (by rw [hashA_size, hsv])
 obtain ⟨c0, c1, m1⟩ := Blk.c2 (S.out.at_ (l1 := [_]))
 generalize ntA z h v0 = ca at *
 generalize ptA z h = cp at *
 generalize hashA sv = ch at *
 go_wp2_with (refine wpList_load_agg rfl 33 (.tmp 40) rfl ⟨gN, 0, none⟩ (by simp [Act.eval, Act.put, hsz]) cp.toList _ hp.out Tryd.underlying33 rfl (by rw [Array.length_toList, HP.out]; exact Tryd.infoPointP) ?_)
 refine HS.out.mono ?_
 rintro e w1 ⟨rfl, k1⟩
 have S1 := Lib.hid ((S.out.kp k1).newBlk 25 (hashA (List.replicate 32 0)))
 clear k1 c0 c1 m1
 go_wp2_with (refine wpList_store_blk rfl 25 (.tmp 11) (.tmp 44) rfl w1.heap.size (by simp [Act.eval, Act.put, hsz]) ch (by simp [Act.eval, Act.put, hsz]) 25 _ (S1.out.at_ (l1 := [])) (by rw [hz2.out]; exact Tryd.infoHashP) (by rw [hz2.out]; rfl) hO.out ?_; intro w7 b7 k7; have S7 := Lib.hid (Held.setBlk (l1 := []) S1.out b7 k7); clear b7 k7)
 try simp only [Act.put]
 exact hend _ _ sS sP (⟨_, sP0, S7.out⟩)
theorem srt_r14 (w0 : World) (gM gK m : Nat) (hm : m < maxLen) (f : List UInt8 → Nat) (nm : ByteArray) (hnm : nm.size ≤ maxLen) (v : Value) (hf : f nm.data.toList < 4611686018427387904) (L : List Res) (S : Held w0 w (cntR gM m f :: blkR gK 42 #[.string nm, v] :: L)) (hsz : a.tmps.size = 80) (o6 : Sl a 6 (.map (some gM))) (o8 : Sl a 8 (.pointer (some ⟨gK, 0, none⟩)))
 (hend : ∀ a' W, Same a a' [54, 55, 56, 57, 58] → (Held w0 W (cntR gM (m + 1) (fun t => if t = nm.data.toList then f nm.data.toList + 1 else f t) :: blkR gK 42 #[.string nm, v] :: L)) → Q .normal a' W) : (Code.region 14 (opsOf 14 Tryd.f27).toArray false).wp Tryd.prog Q a w := by
 refine wp_region_lit ?_
 (conv => arg 4; whnf)
 unfold Sl at o6 o8
 have S := Lib.hid S
 have hC : Hid (Cnt w gM m f) := Lib.hid (S.out.at_ (l1 := []))
 obtain ⟨c2, c3, m3⟩ := Blk.c2 (S.out.at_ (l1 := [_]))
 have hg := cnt_get hC.out nm hnm
 have hp := Lib.hid (cnt_put hC.out hm nm hnm (f nm.data.toList + 1) (by omega))
 have hw : wrap64 ((f nm.data.toList : Int) + 1) = (f nm.data.toList : Int) + 1 := by unfold wrap64; omega
 obtain ⟨w5, hrun, hC5, hk5⟩ := hp.out
 have hC5 := Lib.hid hC5
 have hk5 := Lib.hid hk5
 rw [Int.natCast_add, Int.natCast_one] at hrun
 generalize f nm.data.toList = x at *
 have S5 := Lib.hid (S.out.turnAt (l1 := []) (cntR gM (m + 1) (fun t => if t = nm.data.toList then x + 1 else f t)) hk5.out hC5.out (fun b hb => .inl hb))
 go_wp2_with fail
 try simp only [Act.put]
 exact hend _ _ sS (S5.out)
theorem srt_r15 (k : Nat) (hk : k < 9223372036854775807) (hsz : a.tmps.size = 80) (o30 : Sl a 30 (.int .i64 ((k : Nat) : Int)))
 (hend : ∀ a', Same a a' [59, 30] → Sl a' 30 (.int .i64 ((k + 1 : Nat) : Int)) → Q .normal a' (w)) : (Code.region 15 (opsOf 15 Tryd.f27).toArray false).wp Tryd.prog Q a w := by
 refine wp_region_lit ?_
 (conv => arg 4; whnf)
 unfold Sl at o30
 have hw : wrap64 ((k : Int) + 1) = (k : Int) + 1 := by unfold wrap64; omega
 go_wp2_with fail
 try simp only [Act.put]
 exact hend _ sS sP
theorem srt_r16 (k : Nat) (hk : k < 9223372036854775807) (hsz : a.tmps.size = 80) (o23 : Sl a 23 (.int .i64 ((k : Nat) : Int)))
 (hend : ∀ a', Same a a' [60, 23] → Sl a' 23 (.int .i64 ((k + 1 : Nat) : Int)) → Q .normal a' (w)) : (Code.region 16 (opsOf 16 Tryd.f27).toArray false).wp Tryd.prog Q a w := by
 refine wp_region_lit ?_
 (conv => arg 4; whnf)
 unfold Sl at o23
 have hw : wrap64 ((k : Int) + 1) = (k : Int) + 1 := by unfold wrap64; omega
 go_wp2_with fail
 try simp only [Act.put]
 exact hend _ sS sP
theorem srt_r17 (w0 : World) (gN : Nat) (z : Int) (h : List UInt8) (hh : h.length = 32) (A : Option Addr) (n c : Nat) (L : List Res) (S : Held w0 w (blkR gN 36 (ntA z h (.slice A n c)) :: L)) (hsz : a.tmps.size = 80) (o2 : Sl a 2 (.pointer (some ⟨gN, 0, none⟩)))
 (hend : ∀ a', Same a a' [61, 62, 63, 64] → Sl a' 62 (.slice A n c) → Sl a' 63 (.int .i64 ((n : Nat) : Int)) → Sl a' 64 (.int .i64 ((0 : Nat) : Int)) → Q .normal a' (w)) : (Code.region 17 (opsOf 17 Tryd.f27).toArray false).wp Tryd.prog Q a w := by
 refine wp_region_lit ?_
 (conv => arg 4; whnf)
 unfold Sl at o2
 have c33 : w.cell? ⟨gN, 33, none⟩ = some (.slice A n c) := by rw [(S.at_ (l1 := [])).cell]; exact ntA_sigs hh
 go_wp2_with fail
 try simp only [Act.put]
 exact hend _ sS sP sP sP
theorem srt_r18 (k n : Nat) (hsz : a.tmps.size = 80) (o63 : Sl a 63 (.int .i64 ((n : Nat) : Int))) (o64 : Sl a 64 (.int .i64 ((k : Nat) : Int)))
 (hend : ∀ a', Same a a' [65] → Sl a' 65 (.bool (decide (k < n))) → Q .normal a' (w)) : (Code.region 18 (opsOf 18 Tryd.f27).toArray false).wp Tryd.prog Q a w := by
 refine wp_region_lit ?_
 (conv => arg 4; whnf)
 unfold Sl at o63 o64
 go_wp2_with fail
 try simp only [Act.put]
 exact hend _ sS sP
theorem srt_r19 (w0 : World) (ad : Addr) (k n c : Nat) (hk : k < n) (s : SigD) (hs : s.2.length = 32) (hc : ∀ j u, (sgL s)[j]? = some u → w.cell? ((ad.add (k * 33)).add j) = some u) (L : List Res) (S : Held w0 w L) (hsz : a.tmps.size = 80) (o62 : Sl a 62 (.slice (some ad) n c)) (o64 : Sl a 64 (.int .i64 ((k : Nat) : Int)))
 (hend : ∀ a' W, Same a a' [66, 67, 14] → (∃ g, Sl a' 14 (.pointer (some ⟨g, 0, none⟩)) ∧ Held w0 W (blkR g 81 (sgA s) :: L)) → Q .normal a' W) : (Code.region 19 (opsOf 19 Tryd.f27).toArray false).wp Tryd.prog Q a w := by
 refine wp_region_lit ?_
 (conv => arg 4; whnf)
 unfold Sl at o62 o64
 have S := Lib.hid S
 have h0 : 0 ≤ (k : Int) := by omega
 have h1 : (k : Int) < (n : Int) := by omega
 have hc2 : ∀ j u, (sgA s).toList[j]? = some u → w.cell? ((ad.add (k * 33)).add j) = some u := hc
 have HC := Lib.hid hc2
 clear hc hc2
 have HO := Lib.hid (sgA_one s)
 have hz2 : Hid ((sgA s).size = 33) := Lib.hid (sgA_size hs)
 have S1 := Lib.hid (S.out.newBlk 81 (sgA ([], List.replicate 32 0)))
 generalize sgA s = cs at *
 go_wp2_with (first
  | (refine wpList_load_agg rfl 81 (.tmp 66) rfl (ad.add (k * 33)) (by simp [Act.eval, Act.put, hsz]) cs.toList _ HC.out Tryd.underlying81 rfl (by rw [Array.length_toList, hz2.out]; exact Tryd.infoSig) ?_)
  | (refine wpList_store_blk rfl 81 (.tmp 14) (.tmp 67) rfl w.heap.size (by simp [Act.eval, Act.put, hsz]) cs (by simp [Act.eval, Act.put, hsz]) 81 _ (S1.out.at_ (l1 := [])) (by rw [hz2.out]; exact Tryd.infoSig) (by rw [hz2.out]; rfl) HO.out ?_; intro w7 b7 k7; have S7 := Lib.hid (Held.setBlk (l1 := []) S1.out b7 k7); clear b7 k7))
 try simp only [Act.put]
 exact hend _ _ sS (⟨_, sP0, S7.out⟩)
theorem srt_r20 (w0 : World) (gM gs m : Nat) (f : List UInt8 → Nat) (s : SigD) (ns : ByteArray) (hn : strV s.1 = .string ns) (hnm : ns.size ≤ maxLen) (L : List Res) (S : Held w0 w (cntR gM m f :: blkR gs 81 (sgA s) :: L)) (hsz : a.tmps.size = 80) (o6 : Sl a 6 (.map (some gM))) (o14 : Sl a 14 (.pointer (some ⟨gs, 0, none⟩)))
 (hend : ∀ a', Same a a' [68, 69, 70, 71, 72] → Sl a' 72 (.bool (decide (0 < f ns.data.toList))) → Q .normal a' (w)) : (Code.region 20 (opsOf 20 Tryd.f27).toArray false).wp Tryd.prog Q a w := by
 refine wp_region_lit ?_
 (conv => arg 4; whnf)
 unfold Sl at o6 o14
 have hC : Hid (Cnt w gM m f) := Lib.hid (S.at_ (l1 := []))
 have c1 : w.cell? ⟨gs, 0, none⟩ = some (.string ns) := by rw [(S.at_ (l1 := [_])).cell, ← hn]; rfl
 have hg := cnt_get hC.out ns hnm
 have hd : decide (0 < f ns.data.toList) = decide ((0 : Int) < (f ns.data.toList : Int)) := by congr 1; exact propext ⟨fun h => by omega, fun h => by omega⟩
 rw [hd] at hend
 clear hd
 go_wp2_with fail
 try simp only [Act.put]
 exact hend _ sS sP
theorem srt_r21 (w0 : World) (gs n : Nat) (hn : n < 1000000) (s : SigD) (ns : ByteArray) (hns : strV s.1 = .string ns) (v : Value) (xs : List Value) (L : List Res) (S : Held w0 w (rowR 9 1 v n xs :: blkR gs 81 (sgA s) :: L)) (hsz : a.tmps.size = 80) (o5 : Sl a 5 (v)) (o14 : Sl a 14 (.pointer (some ⟨gs, 0, none⟩)))
 (hend : ∀ a' W, Same a a' [73, 74, 75, 76, 77, 5] → (∃ v', Sl a' 5 v' ∧ Held w0 W (rowR 9 1 v' (n + 1) (xs ++ [.string ns]) :: blkR gs 81 (sgA s) :: L)) → Q .normal a' W) : (Code.region 21 (opsOf 21 Tryd.f27).toArray false).wp Tryd.prog Q a w := by
 refine wp_region_lit ?_
 (conv => arg 4; whnf)
 unfold Sl at o5 o14
 have S := Lib.hid S
 have c1 : w.cell? ⟨gs, 0, none⟩ = some (.string ns) := by rw [(S.out.at_ (l1 := [_])).cell, ← hns]; rfl
 have S1 := Lib.hid (S.out.newBlk 9 #[.string ns])
 obtain ⟨i0, hi, hz, hsize, hby⟩ := info_parts Tryd.infoStrZ
 have Hz := Lib.hid hz
 clear hz
 have hle : Hid (n + 1 ≤ maxLen ∧ (n + 1) * 16 ≤ 140737488355328) := Lib.hid ⟨by unfold maxLen; omega, by omega⟩
 have HR : Hid (Rd (w.alloc (.cells #[.string ns] 9)) 1 (.slice (some ⟨w.heap.size, 0, none⟩) 1 1) 1 [.string ns]) := Lib.hid ⟨rfl, _, _, rfl, Nat.le_refl _, by unfold maxLen; omega, (fun h => by cases h), fun ad had j u hu => by cases had; exact (S1.out.at_ (l1 := [])).agg j u hu⟩
 go_wp2_with (at_builtin; refine wpList_app _ rfl (.tmp 73) (.tmp 76) 58 rfl 9 i0 _ 1 16 Tryd.underlying58 hi Hz.out hsize hby rfl (by decide) _ n xs (by simp [Act.eval, Act.put, hsz, o5]) (S1.out.at_ (l1 := [_])) _ 1 [.string ns] (by simp [Act.eval, Act.put, hsz]) HR.out (by intro u hu; rw [List.mem_singleton.1 hu]; rfl) hle.out.1 hle.out.2 ?_; intro v' w' o3 g3 b3; have S2 := Lib.hid (Held.grow (l1 := [_]) S1.out o3 g3 b3); clear o3 g3 b3)
 try simp only [Act.put]
 exact hend _ _ sS (⟨_, sP0, S2.out.drop⟩)
theorem srt_r22 (k : Nat) (hk : k < 9223372036854775807) (hsz : a.tmps.size = 80) (o64 : Sl a 64 (.int .i64 ((k : Nat) : Int)))
 (hend : ∀ a', Same a a' [78, 64] → Sl a' 64 (.int .i64 ((k + 1 : Nat) : Int)) → Q .normal a' (w)) : (Code.region 22 (opsOf 22 Tryd.f27).toArray false).wp Tryd.prog Q a w := by
 refine wp_region_lit ?_
 (conv => arg 4; whnf)
 unfold Sl at o64
 have hw : wrap64 ((k : Int) + 1) = (k : Int) + 1 := by unfold wrap64; omega
 go_wp2_with fail
 try simp only [Act.put]
 exact hend _ sS sP
theorem srt_r23 (v : Value) (hsz : a.tmps.size = 80) (o5 : Sl a 5 (v))
 (hend : ∀ a', Same a a' [79, 4] → Sl a' 4 (v) → Q .normal a' (w)) : (Code.region 23 (opsOf 23 Tryd.f27).toArray false).wp Tryd.prog Q a w := by
 refine wp_region_lit ?_
 (conv => arg 4; whnf)
 unfold Sl at o5
 go_wp2_with fail
 try simp only [Act.put]
 exact hend _ sS sP
end
/- What Right says; keys in memory. -/
section
open Go.RowKit
abbrev KeyD := List UInt8 × List UInt8
def matchS (z : Int) (h : List UInt8) (k : KeyD) (s : SigD) : Bool := (s.1 == k.1) && (sumOk z k.1 k.2 && (sumV z h k.1 k.2 == s.2))
def cntOne (z : Int) (h : List UInt8) (k : KeyD) (l : List SigD) : Nat := (l.filter (matchS z h k)).length
def cntAll (z : Int) (h : List UInt8) (ks : List KeyD) (l : List SigD) (nm : List UInt8) : Nat := (ks.map fun k => if nm = k.1 then cntOne z h k l else 0).sum
def rightN (z : Int) (h : List UInt8) (l : List SigD) (ks : List KeyD) : List (List UInt8) := (l.filter fun s => ks.any fun k => matchS z h k s).map (·.1)
theorem cntOne_le (z : Int) (h : List UInt8) (k : KeyD) (l : List SigD) : cntOne z h k l ≤ l.length := List.length_filter_le ..
theorem cntAll_le (z : Int) (h : List UInt8) (l : List SigD) (nm : List UInt8) : ∀ ks : List KeyD, cntAll z h ks l nm ≤ ks.length * l.length
 | [] => by simp [cntAll]
 | k :: ks => by
  have ih := cntAll_le z h l nm ks
  have h1 := cntOne_le z h k l
  unfold cntAll at ih ⊢
  rw [List.map_cons, List.sum_cons, List.length_cons, Nat.succ_mul]
  split <;> omega
theorem cntAll_snoc (z : Int) (h : List UInt8) (ks : List KeyD) (k : KeyD) (l : List SigD) (nm : List UInt8) : cntAll z h (ks ++ [k]) l nm = cntAll z h ks l nm + if nm = k.1 then cntOne z h k l else 0 := by
 unfold cntAll
 rw [List.map_append, List.sum_append]
 simp
theorem cntOne_snoc (z : Int) (h : List UInt8) (k : KeyD) (l : List SigD) (s : SigD) : cntOne z h k (l ++ [s]) = cntOne z h k l + if matchS z h k s then 1 else 0 := by
 unfold cntOne
 rw [List.filter_append, List.length_append]
 congr 1
 cases hm : matchS z h k s <;> simp [hm]
theorem rising_inj : ∀ {l : List SigD} {a : List UInt8}, rising a l = true → ∀ x y, x ∈ l → y ∈ l → x.1 = y.1 → x = y
 | [], _, _, x, _, hx, _, _ => by cases hx
 | s :: l, a, h, x, y, hx, hy, e => by
  unfold rising at h
  simp only [Bool.and_eq_true] at h
  have hr := rising_all h.2
  rcases List.mem_cons.1 hx with rfl | hx2
  · rcases List.mem_cons.1 hy with rfl | hy2
    · rfl
    · have := hr y hy2
      rw [e, cmpB_self] at this
      omega
  · rcases List.mem_cons.1 hy with rfl | hy2
    · have := hr x hx2
      rw [e, cmpB_self] at this
      omega
    · exact rising_inj h.2 x y hx2 hy2 e
theorem cnt_pos {z : Int} {h : List UInt8} {l : List SigD} {a : List UInt8} (hr : rising a l = true) {s : SigD} (hs : s ∈ l) : ∀ ks : List KeyD, decide (0 < cntAll z h ks l s.1) = ks.any fun k => matchS z h k s
 | [] => by simp [cntAll]
 | k :: ks => by
  have ih := cnt_pos (z := z) (h := h) hr hs ks
  rw [List.any_cons, ← ih]
  unfold cntAll
  rw [List.map_cons, List.sum_cons]
  by_cases hk : s.1 = k.1
  · rw [if_pos hk]
    cases hm : matchS z h k s
    · have h0 : cntOne z h k l = 0 := by
       unfold cntOne
       rw [List.length_eq_zero_iff, List.filter_eq_nil_iff]
       intro x hx hxm
       have hx1 : x.1 = k.1 := by
        unfold matchS at hxm
        simp only [Bool.and_eq_true, beq_iff_eq] at hxm
        exact hxm.1
       have := rising_inj hr x s hx hs (hx1.trans hk.symm)
       rw [this, hm] at hxm
       cases hxm
      rw [h0, Nat.zero_add, Bool.false_or]
    · have h0 : 0 < cntOne z h k l := List.length_pos_of_mem (List.mem_filter.2 ⟨hs, hm⟩)
      rw [Bool.true_or]
      exact decide_eq_true (by omega)
  · rw [if_neg hk, Nat.zero_add]
    have hm : matchS z h k s = false := by
     unfold matchS
     rw [beq_false_of_ne hk, Bool.false_and]
    rw [hm, Bool.false_or]
def KysF (W : World) (v : Value) (vs : List Value) (ks : List KeyD) : Prop := Rd W 2 v ks.length vs ∧ ∀ i (hi : i < ks.length), ∃ A c, vs[i * 2]? = some (strV ks[i].1) ∧ vs[i * 2 + 1]? = some (.slice A ks[i].2.length c) ∧ Rd W 1 (.slice A ks[i].2.length c) ks[i].2.length (bv ks[i].2)
theorem KysF.kp0 {W W' : World} {v : Value} {vs : List Value} {ks : List KeyD} (h : KysF W v vs ks) (k : Kp [] W W') : KysF W' v vs ks := ⟨rd_old h.1 k, fun i hi => by obtain ⟨A, c, h1, h2, h3⟩ := h.2 i hi; exact ⟨A, c, h1, h2, rd_old h3 k⟩⟩
end
/- sign.Right: its loops. -/
section
open Go.RowKit
def dsRt3 : List Nat := [5, 14, 64, 65, 66, 67, 68, 69, 70, 71, 72, 73, 74, 75, 76, 77, 78]
theorem srt_l4 {Q : Exit → Act → World → Prop} {a : Act} {w0 w : World} (gM m : Nat) (f : List UInt8 → Nat) (A : Option Addr) (c : Nat) (l : List SigD) (hok : SgOk l) (hll : l.length < 1000000) (L : List Res) (v0 : Value) (hsz : a.tmps.size = 80)
 (o5 : Sl a 5 v0) (o6 : Sl a 6 (.map (some gM))) (o62 : Sl a 62 (.slice A l.length c)) (o63 : Sl a 63 (.int .i64 ((l.length : Nat) : Int))) (o64 : Sl a 64 (.int .i64 ((0 : Nat) : Int))) (hv : Rd w0 33 (.slice A l.length c) l.length (sgsC l))
 (S : Held w0 w (rowR 9 1 v0 0 [] :: cntR gM m f :: L))
 (hend : ∀ (a' : Act) (W : World) (v : Value) (L2 : List Res), Same a a' dsRt3 → Sl a' 5 v → Held w0 W (rowR 9 1 v ((l.filter fun s => decide (0 < f s.1)).map (·.1)).length (((l.filter fun s => decide (0 < f s.1)).map (·.1)).map strV) :: L2) → Q .normal a' W) :
 (Code.block 4 (blockOf 4 Tryd.f27)).wp Tryd.prog Q a w := by
 refine wp_block ?_
 (conv => arg 2; whnf)
 refine wp_loop (fun a' w' => ∃ (k : Nat) (v : Value) (L2 : List Res), k ≤ l.length ∧ Same a a' dsRt3 ∧ Sl a' 64 (.int .i64 ((k : Nat) : Int)) ∧ Sl a' 5 v ∧ Held w0 w' (rowR 9 1 v (((l.take k).filter fun s => decide (0 < f s.1)).map (·.1)).length ((((l.take k).filter fun s => decide (0 < f s.1)).map (·.1)).map strV) :: cntR gM m f :: L2)) (fun a' _ => l.length - (intOf (a'.eval (.tmp 64))).toNat) ⟨0, v0, L, Nat.zero_le _, Same.refl _ _, o64, o5, S⟩ ?_
 clear o64 o5 S
 rintro a1 w1 ⟨k, v, L2, hk, T, o64, o5, S⟩
 have hz1 := T.size.trans hsz
 have o6 := T.keep 6 _ (by decide) o6
 have o62 := T.keep 62 _ (by decide) o62
 have o63 := T.keep 63 _ (by decide) o63
 have e64 := o64.eval (by rw [hz1]; decide)
 refine wp_seq (srt_r18 k l.length hz1 o63 o64 (fun a2 hs2 o65 => ?_))
 have hz2 := hs2.size.trans hz1; have o5 := hs2.k o5; have o6 := hs2.k o6; have o62 := hs2.k o62; have o64 := hs2.k o64
 have T := T.trans hs2
 by_cases hlt : k < l.length
 · refine wp_seq (wp_cond_true ((o65.eval (by rw [hz2]; decide)).trans (by rw [decide_eq_true hlt])) (wp_skip ?_))
   have hv1 := rd_old hv S.k
   obtain ⟨ad, rfl⟩ := sgs_addr hv1 (by omega)
   obtain ⟨s, hs⟩ : ∃ s, l[k]? = some s := ⟨_, List.getElem?_eq_getElem hlt⟩
   have hsk := hok s (List.mem_of_getElem? hs)
   obtain ⟨ns, hns, hnl, hnz, hnd⟩ := str_of s.1
   have htk : l.take (k + 1) = l.take k ++ [s] := by rw [List.take_add_one, hs]; rfl
   refine wp_seq (wp_block ?_)
   refine wp_seq (srt_r19 w0 ad k l.length c hlt s hsk.1 (sgs_at hv1 hok hs) _ S hz2 o62 o64 (fun a3 w3 hs3 h => ?_))
   obtain ⟨g, o14, S⟩ := h
   have hz3 := hs3.size.trans hz2; have o5 := hs3.k o5; have o6 := hs3.k o6; have o64 := hs3.k o64
   have T := T.trans hs3
   have S := S.perm (show List.Perm _ (cntR gM m f :: blkR g 81 (sgA s) :: rowR 9 1 v (((l.take k).filter fun s => decide (0 < f s.1)).map (·.1)).length ((((l.take k).filter fun s => decide (0 < f s.1)).map (·.1)).map strV) :: L2) from (List.perm_append_comm (l₁ := [_, _]) (l₂ := [_])).append_right L2)
   refine wp_seq (srt_r20 w0 gM g m f s ns hns.out (by rw [hnz]; unfold maxLen; omega) _ S hz3 o6 o14 (fun a4 hs4 o72 => ?_))
   have hz4 := hs4.size.trans hz3; have o5 := hs4.k o5; have o14 := hs4.k o14; have o64 := hs4.k o64
   have T := T.trans hs4
   rw [hnd.out] at o72
   have hlen : (((l.take k).filter fun s => decide (0 < f s.1)).map (·.1)).length ≤ k := by
    rw [List.length_map]
    exact Nat.le_trans (List.length_filter_le ..) (by rw [List.length_take]; omega)
   by_cases hp : 0 < f s.1
   · refine wp_cond_true ((o72.eval (by rw [hz4]; decide)).trans (by rw [decide_eq_true hp])) ?_
     have S := S.perm (show List.Perm _ (rowR 9 1 v (((l.take k).filter fun s => decide (0 < f s.1)).map (·.1)).length ((((l.take k).filter fun s => decide (0 < f s.1)).map (·.1)).map strV) :: blkR g 81 (sgA s) :: cntR gM m f :: L2) from (List.Perm.cons _ (List.Perm.swap _ _ _)).trans ((List.Perm.swap _ _ _).trans (List.Perm.cons _ (List.Perm.swap _ _ _))))
     refine srt_r21 w0 g _ (by omega) s ns hns.out v _ _ S hz4 o5 o14 (fun a5 w5 hs5 h => ?_)
     obtain ⟨v', o5, S⟩ := h
     have hz5 := hs5.size.trans hz4; have o64 := hs5.k o64
     have T := T.trans hs5
     simp only [Exit.inBlock, Exit.then]
     refine srt_r22 k (by omega) hz5 o64 (fun a6 hs6 o64' => ?_)
     have hz6 := hs6.size.trans hz5; have o5 := hs6.k o5
     have T := T.trans hs6
     have hf : (((l.take k).filter fun s => decide (0 < f s.1)).map (·.1)) ++ [s.1] = (((l.take (k + 1)).filter fun s => decide (0 < f s.1)).map (·.1)) := by
      rw [htk, List.filter_append, List.map_append]
      simp [hp]
     have S := S.perm (show List.Perm _ (rowR 9 1 v' ((((l.take k).filter fun s => decide (0 < f s.1)).map (·.1)).length + 1) (((((l.take k).filter fun s => decide (0 < f s.1)).map (·.1)).map strV) ++ [.string ns]) :: cntR gM m f :: blkR g 81 (sgA s) :: L2) from List.Perm.cons _ (List.Perm.swap _ _ _))
     have e1 : ((((l.take k).filter fun s => decide (0 < f s.1)).map (·.1)).map strV) ++ [.string ns] = (((l.take (k + 1)).filter fun s => decide (0 < f s.1)).map (·.1)).map strV := by rw [← hf, List.map_append, ← hns.out]; rfl
     have e2 : (((l.take k).filter fun s => decide (0 < f s.1)).map (·.1)).length + 1 = (((l.take (k + 1)).filter fun s => decide (0 < f s.1)).map (·.1)).length := by rw [← hf, List.length_append]; rfl
     rw [e1, e2] at S
     refine ⟨⟨k + 1, v', _, by omega, T.more (by decide +kernel), o64', o5, S⟩, ?_⟩
     show l.length - (intOf _).toNat < l.length - (intOf _).toNat
     rw [e64, o64'.eval (by rw [hz6]; decide)]
     simp only [intOf]; omega
   · refine wp_cond_false ((o72.eval (by rw [hz4]; decide)).trans (by rw [decide_eq_false hp])) (wp_skip ?_)
     simp only [Exit.inBlock, Exit.then]
     refine srt_r22 k (by omega) hz4 o64 (fun a6 hs6 o64' => ?_)
     have hz6 := hs6.size.trans hz4; have o5 := hs6.k o5
     have T := T.trans hs6
     have hf : (((l.take k).filter fun s => decide (0 < f s.1)).map (·.1)) = (((l.take (k + 1)).filter fun s => decide (0 < f s.1)).map (·.1)) := by
      rw [htk, List.filter_append, List.map_append]
      simp [hp]
     have S := S.perm (show List.Perm _ (rowR 9 1 v (((l.take k).filter fun s => decide (0 < f s.1)).map (·.1)).length ((((l.take k).filter fun s => decide (0 < f s.1)).map (·.1)).map strV) :: cntR gM m f :: blkR g 81 (sgA s) :: L2) from (List.perm_append_comm (l₁ := [_, _]) (l₂ := [_])).append_right L2)
     rw [hf] at S
     refine ⟨⟨k + 1, v, _, by omega, T.more (by decide +kernel), o64', o5, S⟩, ?_⟩
     show l.length - (intOf _).toNat < l.length - (intOf _).toNat
     rw [e64, o64'.eval (by rw [hz6]; decide)]
     simp only [intOf]; omega
 · refine wp_seq (wp_cond_false ((o65.eval (by rw [hz2]; decide)).trans (by rw [decide_eq_false hlt])) (wp_exit ?_))
   obtain rfl : k = l.length := by omega
   rw [List.take_length] at S
   exact hend _ _ v _ (T.more (by decide +kernel)) o5 S
end
/- sign.Right: its ordered region with guards. -/
section
open Go.RowKit
theorem wpList_skipG {P : Program} {ops : Array Oper} {rest : List Oper} {o : Oper} {a : Act} {w : World} {Q : Exit → Act → World → Prop} (j d : Nat) (b : Bool) (hg : o.guard = some (j, b)) (hj : (ops[j]?).bind (·.dst) = some d) (hd : a.tmps[d]?.getD undef = .bool (!b)) (h : wpList P ops Q rest (a.put o.dst undef) w) : wpList P ops Q (o :: rest) a w :=
 wpList_step fun K hK => by
  rw [if_neg (by cases b <;> simp [Region.wanted, hg, yielded_of hj hd])]
  exact hK _ _ h
theorem srt_r13N {Q : Exit → Act → World → Prop} {a : Act} {w : World} (se : Int) (hse : (se == 0) = false) (hsz : a.tmps.size = 80) (o12 : Sl a 12 (.int .i64 se))
 (hend : ∀ a', Same a a' [46, 47, 48, 49, 50, 51, 52, 53] → Sl a' 53 (.bool false) → Q .normal a' w) : (Code.region 13 (opsOf 13 Tryd.f27).toArray false).wp Tryd.prog Q a w := by
 refine wp_region_lit ?_
 have hj : (((opsOf 13 Tryd.f27).toArray)[2]?).bind (·.dst) = some 48 := by kernel_rfl
 generalize (opsOf 13 Tryd.f27).toArray = OPS at *
 (conv => arg 4; whnf)
 unfold Sl at o12
 go_wp2_with (refine wpList_skipG 2 48 true rfl hj (by simp [Act.put, hsz]) ?_)
 try simp only [Act.put]
 exact hend _ sS sP
theorem srt_r13Y {Q : Exit → Act → World → Prop} {a : Act} {w : World} (w0 : World) (gS gs : Nat) (sv : List UInt8) (hsv : sv.length = 32) (s : SigD) (hs : s.2.length = 32) (L : List Res) (S : Held w0 w (blkR gS 25 (hashA sv) :: blkR gs 81 (sgA s) :: L)) (hsz : a.tmps.size = 80) (o12 : Sl a 12 (.int .i64 0)) (o11 : Sl a 11 (.pointer (some ⟨gS, 0, none⟩))) (o10 : Sl a 10 (.pointer (some ⟨gs, 0, none⟩)))
 (hend : ∀ a' W, Same a a' [46, 47, 48, 49, 50, 51, 52, 53] → Sl a' 53 (.bool (sv == s.2)) → Held w0 W (blkR gS 25 (hashA sv) :: blkR gs 81 (sgA s) :: L) → Q .normal a' W) : (Code.region 13 (opsOf 13 Tryd.f27).toArray false).wp Tryd.prog Q a w := by
 refine wp_region_lit ?_
 have hj : (((opsOf 13 Tryd.f27).toArray)[2]?).bind (·.dst) = some 48 := by kernel_rfl
 generalize (opsOf 13 Tryd.f27).toArray = OPS at *
 (conv => arg 4; whnf)
 unfold Sl at o12 o11 o10
 have S := Lib.hid S
 have HE := Lib.hid (fun V => sgeq_any sv s.2 hsv hs V)
 have hz1 : Hid ((hashA sv).size = 32) := Lib.hid (by rw [hashA_size, hsv])
 have hz2 : Hid ((hashA s.2).size = 32) := Lib.hid (by rw [hashA_size, hs])
 have HC := Lib.hid (sig_sum (S.out.at_ (l1 := [_])))
 generalize hashA sv = ca at *
 generalize hashA s.2 = cb at *
 generalize sgA s = cs at *
 go_wp2_with (first
  | (refine wpList_load_blkG 2 48 true rfl hj (by simp [Act.eval, Act.put, hsz]) 25 (.tmp 11) rfl gS (by simp [Act.eval, Act.put, hsz, o11]) 25 _ (S.out.at_ (l1 := [])) _ Tryd.underlying25 rfl (by rw [hz1.out]; exact Tryd.infoHashP) ?_)
  | (refine wpList_load_aggG 2 48 true rfl hj (by simp [Act.eval, Act.put, hsz]) 25 (.tmp 50) rfl ⟨gs, 1, none⟩ (by simp [Act.eval, Act.put, hsz]) cb.toList _ HC.out Tryd.underlying25 rfl (by rw [Array.length_toList, hz2.out]; exact Tryd.infoHashP) ?_)
  | (refine wpList_met 2 48 true rfl hj (by simp [Act.put, hsz]) ?_; intro K hK))
 refine (HE.out _).mono ?_
 rintro e w1 ⟨rfl, k1⟩
 have S1 := Lib.hid (S.out.kp k1)
 clear k1
 refine hK _ _ ?_
 go_wp2_with fail
 try simp only [Act.put]
 exact hend _ _ sS sP S1.out
end
end Go.Proofs.YtapboamjpilckaaDoor
