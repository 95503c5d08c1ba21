/- Several texts in one: ShaI, PtN, PtE, PtF, PtG, ShaJ, ShaK, ShaL, ShaO, ShaP, CrcF, CrcG, CrcH, CrcI, CrcM2, WireT, RecA, RecB, WireU, Conv, WireV, PtK, PtJ, WireW, WireX, WireY, WireZ, WireAA, WireAB, WireBA, WireBB, WireBC, WireBD, WireBE, WireBF, WireBG, WireBH, EntM, EntA, EntB, WList, EntC, EntD, EntE, EntR, PtR, Keep, Full, PtL, WireBI, Guard, PtS, PtH, PtEq, PtP, PtReads, PtPuts, RecV, RecW, PtTurned, PtCmp, PtCmq, PtCmr, PtLast, SigM, SigA, SigB. -/
import Derived.Laws.CopyOwn
import Derived.Lib.ItoaNum
import Derived.Lib.ParseIntB
import Derived.Lib.Bytealg
import Derived.WalkKit
import Derived.Test.YtapboamjpilckaaDoorShelf
import Derived.Lib.SmallJoins
import Derived.Lib.AtoiErrMem
import Derived.Laws.Bits128
import Derived.Lib.SlBytesConst
import Derived.Laws.Tables
import Derived.Laws.Cover3
import Derived.DeepKeys
import Derived.Laws.StructEq
import Derived.Test.YtapboamjpilckaaDoorP2
set_option maxRecDepth 100000
set_option maxHeartbeats 8000000
namespace Go.Proofs.YtapboamjpilckaaDoor
/- A sum under way in memory; copy into a block; parts of a block. -/
section
open Go.RowKit
def shaL (st : List Nat) (blk : List UInt8) (n : Nat) : List Value := u32L st ++ (bv blk ++ [.int .i64 (n : Int), .bool true])
def shaC (st : List Nat) (blk : List UInt8) (n : Nat) : Array Value := (shaL st blk n).toArray
section
variable {st : List Nat} {blk : List UInt8} {n : Nat}
theorem shaL_length (hs : st.length = 8) (hb : blk.length = 64) : (shaL st blk n).length = 74 := by
 unfold shaL
 simp only [List.length_append, u32L_length, bv_length, List.length_cons, List.length_nil]
 omega
theorem shaC_size (hs : st.length = 8) (hb : blk.length = 64) : (shaC st blk n).size = 74 := by
 simp only [shaC, List.size_toArray]; exact shaL_length hs hb
theorem shaL_drop8 (hs : st.length = 8) : (shaL st blk n).drop 8 = bv blk ++ [.int .i64 (n : Int), .bool true] := by
 unfold shaL; rw [List.drop_left' (by rw [u32L_length, hs])]
theorem shaC_len (hs : st.length = 8) (hb : blk.length = 64) : (shaC st blk n)[72]? = some (.int .i64 (n : Int)) := by
 simp only [shaC, List.getElem?_toArray, shaL]
 rw [List.getElem?_append_right (by rw [u32L_length]; omega), u32L_length, List.getElem?_append_right (by rw [bv_length]; omega), bv_length, hs, hb]
 rfl
theorem shaC_made (hs : st.length = 8) (hb : blk.length = 64) : (shaC st blk n)[73]? = some (.bool true) := by
 simp only [shaC, List.getElem?_toArray, shaL]
 rw [List.getElem?_append_right (by rw [u32L_length]; omega), u32L_length, List.getElem?_append_right (by rw [bv_length]; omega), bv_length, hs, hb]
 rfl
theorem shaC_setLen (hs : st.length = 8) (hb : blk.length = 64) (m : Nat) : (shaC st blk n).setIfInBounds 72 (.int .i64 (m : Int)) = shaC st blk m := by
 unfold shaC shaL
 rw [List.setIfInBounds_toArray, List.set_append_right _ _ (by rw [u32L_length]; omega), u32L_length, List.set_append_right _ _ (by rw [bv_length]; omega), bv_length, hs, hb]
 rfl
theorem shaC_splice (hs : st.length = 8) (hb : blk.length = 64) (k : Nat) (x : List UInt8) (h : k + x.length ≤ 64) : (splice (shaC st blk n).toList (8 + k) (bv x)).toArray = shaC st (lay blk k x) n := by
 unfold splice shaC shaL lay
 rw [List.toList_toArray]
 congr 1
 rw [List.take_append, List.take_of_length_le (l := u32L st) (by rw [u32L_length]; omega), u32L_length, hs, show 8 + k - 8 = k from by omega, List.take_append_of_le_length (by rw [bv_length]; omega),
  List.drop_append, List.drop_of_length_le (l := u32L st) (by rw [u32L_length]; omega), u32L_length, hs, bv_length, show 8 + k + x.length - 8 = k + x.length from by omega, List.drop_append_of_le_length (by rw [bv_length]; omega)]
 simp only [List.append_assoc, List.nil_append, bv, List.map_append, List.map_take, List.map_drop]
theorem shaC_state (hs : st.length = 8) (st' : List Nat) (hs' : st'.length = 8) : ((shaC st blk n).toList.take 0 ++ (u32A st').toList ++ (shaC st blk n).toList.drop (0 + (u32A st').size)).toArray = shaC st' blk n := by
 rw [u32A_size, hs']
 unfold shaC
 rw [List.toList_toArray, List.take_zero, List.nil_append, Nat.zero_add, shaL_drop8 hs]
 rfl
theorem sha_stateAt {w : World} {g : Nat} {t : TypeId} (h : Blk w g t (shaC st blk n)) (hs : st.length = 8) : ∀ j u, (u32A st).toList[j]? = some u → w.cell? ((⟨g, 0, none⟩ : Addr).add j) = some u := by
 intro j u hu
 have hj : j < 8 := by
  have := (List.getElem?_eq_some_iff.1 hu).1
  simpa [u32A, u32L, hs] using this
 refine h.agg j u ?_
 simp only [shaC, List.toList_toArray, shaL]
 rw [List.getElem?_append_left (by rw [u32L_length]; omega)]
 exact hu
theorem sha_blockAt {w : World} {g : Nat} {t : TypeId} (h : Blk w g t (shaC st blk n)) (hs : st.length = 8) (hb : blk.length = 64) : ∀ j u, (hashA blk).toList[j]? = some u → w.cell? ((⟨g, 8, none⟩ : Addr).add j) = some u := by
 intro j u hu
 have hj : j < 64 := by
  have := (List.getElem?_eq_some_iff.1 hu).1
  rw [hashA_list, bv_length] at this
  omega
 have h1 := h.agg (8 + j) u (by
  simp only [shaC, List.toList_toArray, shaL]
  rw [List.getElem?_append_right (by rw [u32L_length]; omega), u32L_length, hs, show 8 + j - 8 = j from by omega, List.getElem?_append_left (by rw [bv_length]; omega)]
  exact hu)
 rw [← h1, ← add_of_add]
 congr 2
theorem shaC_one (st : List Nat) (blk : List UInt8) (n : Nat) : ∀ u, u ∈ (shaC st blk n).toList → u.oneCell' = true := by
 intro u hu
 simp only [shaC, List.toList_toArray, shaL, List.mem_append, List.mem_cons, List.not_mem_nil, or_false] at hu
 rcases hu with hu | hu | rfl | rfl
 · exact u32L_one st u hu
 · exact bv_one blk u hu
 · rfl
 · rfl
end
theorem Tryd.infoSha : (Tryd.prog.info? 134).map (·.size) = some 74 := by kernel_rfl
theorem Tryd.info64u8s : (Tryd.prog.info? 76).map (·.size) = some 64 := by kernel_rfl
theorem Tryd.slice64at (g b : Nat) (w : World) (k : Nat) (z : Int) (hz : z = k) (hk : k < 64) : (Instr.sliceAt 76 (.pointer (some ⟨g, b, none⟩)) (some (.int .i64 z)) none none).run Tryd.prog w = .ok (.slice (some ⟨g, b + k, none⟩) (64 - k) (64 - k)) w := by
 subst hz
 obtain ⟨i0, hi, hz0, hz1, hz2⟩ := info_parts Tryd.infoU8
 rw [run_sliceAt_array_l w 76 ⟨g, b, none⟩ (by kernel_rfl) .i64 (k : Int) (by omega) (by rw [Tryd.len64u8]; omega), Tryd.len64u8, show Tryd.prog.elem 76 = 5 from by kernel_rfl]
 have e : (⟨g, b, none⟩ : Addr).add (k * 1) = ⟨g, b + k, none⟩ := by unfold Addr.add; split <;> simp <;> omega
 simp only [sizeOf, typeInfo, hi, hz1, Sem.run_bind, Sem.run_pure, Result.andThen, run_program, slicedAt, Int.toNat_natCast, e]
 rw [if_neg (by omega)]
theorem wpList_copy_blk {P : Program} {w : World} {ops : Array Oper} {rest : List Oper} {o : Oper} {a : Act} {Q : Exit → Act → World → Prop} (hgd : o.guard = none) (d s : Operand) (dT sT : TypeId)
 (ho : o.op = .call { callee := .builtin .copy, args := #[d, s], argTypes := #[dT, sT] }) (elem : TypeId) (hu : P.underlying dT = some (.slice elem)) (hsz : (P.info? elem).map (·.size) = some 1)
 (g off dLen dCap : Nat) (hd : a.eval d = .slice (some ⟨g, off, none⟩) dLen dCap) (y : Value) (hs : a.eval s = y) (n : Nat) (xs : List Value) (hr : Rd w 1 y n xs)
 (t : TypeId) (cur : Array Value) (hb : Blk w g t cur) (hfit : off + dLen ≤ cur.size) (h1 : ∀ v ∈ xs, v.oneCell' = true) (m : Nat) (hm : min n dLen = m)
 (h : ∀ w', Blk w' g t (splice cur.toList off (xs.take dLen)).toArray → Kp [g] w w' → wpList P ops Q rest (a.put o.dst (goInt (m : Int))) w') : wpList P ops Q (o :: rest) a w := by
 subst hm
 obtain ⟨hl, A, c, rfl, h2, h3, hA, hc⟩ := hr
 by_cases h0 : min n dLen = 0
 · refine wpList_copy_nothing hgd d s dT sT ho elem hu hsz (some ⟨g, off, none⟩) A dLen dCap n c hd hs h0 ?_
   have e : xs.take dLen = [] := by
    apply List.eq_nil_of_length_eq_zero
    rw [List.length_take]; omega
   have := h w (by rw [e]; simpa [splice] using hb) kR
   rwa [h0] at this
 · rcases A with _ | ad
   · have := hA rfl; omega
   · have hcl : (xs.take dLen).length = min n dLen := by rw [List.length_take]; omega
     refine wpList_copy_own hgd d s dT sT ho elem hu hsz g off dLen dCap ad n c hd hs cur t hb (xs.take dLen) (by rw [hcl]) ?_ (by rw [hcl]; omega) (fun v hv => h1 v (List.mem_of_mem_take hv)) ?_
     · intro j v hv
       refine hc ad rfl j v ?_
       rw [List.getElem?_take] at hv
       split at hv
       · exact hv
       · cases hv
     · rw [hcl]
       refine h _ ?_ (setRow_blk hb).2
       have := (setRow_blk (cs := (cur.toList.take off ++ (xs.take dLen ++ cur.toList.drop (off + min n dLen))).toArray) hb).1
       unfold splice
       rw [hcl]
       exact this
end
/- A point's text: the plain mathematics. -/
section
open Go.RowKit
def dec (n : Nat) : List UInt8 := Lib.decDigits n
theorem dec_small {n : Nat} (h : n < 10) : dec n = [UInt8.ofNat (48 + n)] := by unfold dec; rw [Lib.decDigits, dif_pos h]
theorem dec_big {n : Nat} (h : ¬ n < 10) : dec n = dec (n / 10) ++ [UInt8.ofNat (48 + n % 10)] := by
 unfold dec
 conv => lhs; rw [Lib.decDigits, dif_neg h]
theorem dec_length_le : ∀ (k n : Nat), n < 10 ^ (k + 1) → (dec n).length ≤ k + 1
 | 0, n, h => by rw [dec_small (by simpa using h)]; simp
 | k + 1, n, h => by
  by_cases h2 : n < 10
  · rw [dec_small h2]; simp
  · rw [dec_big h2, List.length_append]
    have := dec_length_le k (n / 10) (by rw [Nat.pow_succ] at h; omega)
    simp; omega
theorem dec_19 {n : Nat} (h : n < 9223372036854775808) : (dec n).length ≤ 19 := dec_length_le 18 n (by omega)
def titleL : List UInt8 := [110, 111, 116, 97, 114, 121]
def told (n : Nat) (h : List UInt8) : List UInt8 := titleL ++ 10 :: (dec n ++ 10 :: (hexS h ++ [10]))
theorem told_length (n : Nat) (h : List UInt8) : (told n h).length = 9 + (dec n).length + (hexS h).length := by
 simp [told, titleL]; omega
end
/- Numbers in decimal digits; cuts; what the listed variables hold. -/
section
open Go.RowKit Go.Shelf
structure LD (w : World) : Prop where
 tab : Lib.TabIs Tryd.prog w "internal/strconv.uint64pow10" .u64 Lib.pow10Tab
theorem Tryd.named1 : (Tryd.prog.globalNamed "internal/strconv.uint64pow10").isSome = true := by kernel_rfl
theorem LD.kp {w w' : World} (h : LD w) (k : Kp [] w w') : LD w' := by
 have hb : Below w.heap.size w w' := k.below (Nat.le_refl _) (by simp)
 obtain ⟨g1, h1⟩ := Option.isSome_iff_exists.1 Tryd.named1
 exact ⟨Joins.tab_stays h1 h.tab hb (Nat.le_refl _)⟩
theorem Kp.grew {w : World} (n : Nat) (os : Array Obj) : Kp [] w (Sort.grow (w.drewN n) os) :=
 ⟨rfl, rfl, rfl, by simp [Sort.grow], fun k hk _ => by
  show ((w.drewN n).heap ++ os)[k]? = _
  rw [Array.getElem?_append_left (by simpa using hk)]; rfl⟩
theorem fmt_any (n : Nat) (hn : n < 9223372036854775808) (w : World) (h : LD w) : Calls Tryd.prog 72 #[.int .i64 n, .int .i64 10] w fun e w' => e = .returned (.string ⟨(dec n).toArray⟩) ∧ Kp [] w w' := by
 refine (Tryd.strconv_FormatInt_10 n (by omega) (by omega) w h.tab).mono ?_
 rintro e w' ⟨rfl, k, os, rfl⟩
 refine ⟨?_, Kp.grew k os⟩
 unfold dec Lib.itoa
 rw [if_neg (by omega), Int.toNat_natCast]
theorem str_add (a b : List UInt8) : (ByteArray.mk a.toArray) ++ (ByteArray.mk b.toArray) = ⟨(a ++ b).toArray⟩ := by
 apply ByteArray.ext
 rw [ByteArray.data_append]
 simp
theorem rdigits_any (n : Nat) (hn : n < 9223372036854775808) (w : World) : Calls Tryd.prog 92 #[.int .i64 n] w fun e w' => e = .returned (.string ⟨(dec n).toArray⟩) ∧ Kp [] w w' := by
 go_enter Tryd.func92, Tryd.ntmps92
 go_wp2
 go_loopw [0, 3] (fun a s wr => ∃ (m : Nat) (t : List UInt8), a = .int .i64 m ∧ s = .string ⟨t.toArray⟩ ∧ m ≤ n ∧ dec m ++ t = dec n ∧ Kp [] w wr) (fun a _ _ => (intOf a).toNat)
 case atStart => exact ⟨n, [], rfl, rfl, Nat.le_refl _, by simp, Kp.refl _ _⟩
 case round =>
  obtain ⟨m, t, rfl, rfl, hm, ht, kw⟩ := hrel
  have HT := Lib.hid ht
  have KW := Lib.hid kw
  clear ht kw
  by_cases h9 : 9 < m
  · have h9' : (9 : Int) < m := by omega
    obtain ⟨c, hc⟩ : ∃ c : UInt8, c.toNat = 48 + m % 10 := ⟨UInt8.ofNat (48 + m % 10), by rw [UInt8.toNat_ofNat']; omega⟩
    have kv := strB (rd_lit wr 5 #[.int .u8 (48 + (m : Int) % 10)] [c] (by simp [bv, hc]) (by simp))
    simp only [List.length_cons, List.length_nil] at kv
    have Hc := Lib.hid hc
    clear hc
    have htl : t.length ≤ 19 := by
     have h1 := congrArg List.length HT.out
     have h2 := dec_19 hn
     rw [List.length_append] at h1
     omega
    have K2 := Lib.hid (KW.out.alloc (.cells #[.int .u8 (48 + (m : Int) % 10)] 5))
    go_wp2
    go_roundw
    case rel =>
     refine ⟨m / 10, c :: t, by go_num, ?_, by omega, ?_, K2.out⟩
     · have := str_add [c] t
       rw [show ({ data := #[c] } : ByteArray) ++ { data := t.toArray } = ⟨(c :: t).toArray⟩ from this]
     · have h9'' : ¬ m < 10 := by omega
       have hcc : c = UInt8.ofNat (48 + m % 10) := UInt8.toNat_inj.1 (by rw [Hc.out, UInt8.toNat_ofNat']; omega)
       have h1 := HT.out
       rw [dec_big h9'', ← hcc, List.append_assoc] at h1
       exact h1
    case measure => simp [intOf]; omega
  · have h9' : ¬ (9 : Int) < m := by omega
    obtain ⟨c, hc⟩ : ∃ c : UInt8, c.toNat = 48 + m := ⟨UInt8.ofNat (48 + m), by rw [UInt8.toNat_ofNat']; omega⟩
    have kv := strB (rd_lit wr 5 #[.int .u8 (48 + (m : Int))] [c] (by simp [bv, hc]) (by simp))
    simp only [List.length_cons, List.length_nil] at kv
    have Hc := Lib.hid hc
    clear hc
    have htl : t.length ≤ 19 := by
     have h1 := congrArg List.length HT.out
     have h2 := dec_19 hn
     rw [List.length_append] at h1
     omega
    have K2 := Lib.hid (KW.out.alloc (.cells #[.int .u8 (48 + (m : Int))] 5))
    have HE : Hid (({ data := #[c] } : ByteArray) ++ { data := t.toArray } = ⟨(dec n).toArray⟩) := Lib.hid (by
     have h9'' : m < 10 := by omega
     have hcc : c = UInt8.ofNat (48 + m) := UInt8.toNat_inj.1 (by rw [Hc.out, UInt8.toNat_ofNat']; omega)
     have h1 := HT.out
     rw [dec_small h9'', ← hcc] at h1
     rw [← h1]
     exact str_add [c] t)
    go_wp2
    go_ret
    exact ⟨by rw [← HE.out]; rfl, K2.out⟩
end
/- Text of point and of the reference. -/
section
open Go.RowKit
def ptA (s : Int) (h : List UInt8) : Array Value := (Value.int .i64 s :: bv h).toArray
theorem ptA_size {s : Int} {h : List UInt8} (hh : h.length = 32) : (ptA s h).size = 33 := by simp [ptA, bv_length, hh]
theorem pt_c0 {w : World} {g : Nat} {t : TypeId} {s : Int} {h : List UInt8} (b : Blk w g t (ptA s h)) : w.cell? ⟨g, 0, none⟩ = some (.int .i64 s) := b.cell 0
theorem pt_root {w : World} {g : Nat} {t : TypeId} {s : Int} {h : List UInt8} (b : Blk w g t (ptA s h)) : ∀ j u, (bv h)[j]? = some u → w.cell? ((⟨g, 1, none⟩ : Addr).add j) = some u := by
 intro j u hu
 have h1 := b.cell (1 + j)
 have h2 : (ptA s h)[1 + j]? = some u := by
  unfold ptA
  rw [List.getElem?_toArray, Nat.add_comm, List.getElem?_cons_succ]
  exact hu
 rw [h2] at h1
 by_cases hj : j = 0
 · subst hj; exact h1
 · simpa [Addr.add, hj] using h1
theorem run_pt_root {w : World} {g : Nat} {t : TypeId} {s : Int} {h : List UInt8} (b : Blk w g t (ptA s h)) (hh : h.length = 32) : (Instr.loadAt 25 (.pointer (some ⟨g, 1, none⟩))).run Tryd.prog w = .ok (.agg (hashA h)) w :=
 run_loadAt_agg w ⟨g, 1, none⟩ 25 (bv h) _ (pt_root b) Tryd.underlying25 rfl (by rw [bv_length, hh]; exact Tryd.infoHashP)
def txt (s : Int) (h : List UInt8) : List UInt8 := if s < 0 then [] else told s.toNat h
def txE (s : Int) : Int := if s < 0 then 2 else 0
def TextPost (s : Int) (h : List UInt8) (w : World) (e : Ending) (w' : World) : Prop := e = .returned (.tuple #[.string ⟨(txt s h).toArray⟩, .int .i64 (txE s)]) ∧ Kp [] w w'
theorem told_str (n : Nat) (h : List UInt8) : ((({ data := #[110, 111, 116, 97, 114, 121, 10] } : ByteArray) ++ ⟨(dec n).toArray⟩ ++ { data := #[10] }) ++ ⟨(hexS h).toArray⟩ ++ { data := #[10] }) = ⟨(told n h).toArray⟩ := by
 rw [show ({ data := #[110, 111, 116, 97, 114, 121, 10] } : ByteArray) = ⟨([110, 111, 116, 97, 114, 121, 10] : List UInt8).toArray⟩ from rfl, show ({ data := #[10] } : ByteArray) = ⟨([10] : List UInt8).toArray⟩ from rfl]
 rw [str_add, str_add, str_add, str_add]
 congr 2
 simp [told, titleL]
theorem ptext_any (s : Int) (hs : -9223372036854775808 ≤ s ∧ s ≤ 9223372036854775807) (h : List UInt8) (hh : h.length = 32) (w : World) (L : LD w) : Calls Tryd.prog 47 #[.agg (ptA s h)] w (TextPost s h w) := by
 have B0 := Lib.hid (Blk.new w 33 (ptA s h))
 have K0 := Lib.hid ((Kp.refl [] w).alloc (.cells (ptA s h) 33))
 have HL := Lib.hid L
 have HH := Lib.hid hh
 clear L hh
 by_cases h0 : s < 0
 · have HT : Hid (txt s h = [] ∧ txE s = 2) := Lib.hid ⟨if_pos h0, if_pos h0⟩
   have c0 := pt_c0 B0.out
   obtain ⟨cs, HC⟩ : ∃ cs, Hid (ptA s h = cs) := ⟨_, Lib.hid rfl⟩
   rw [HC.out] at B0 K0 c0 ⊢
   go_enter Tryd.func47, Tryd.ntmps47
   go_wp2
   go_ret2
   exact ⟨by rw [HT.out.1, HT.out.2]; rfl, K0.out⟩
 · obtain ⟨n, rfl⟩ : ∃ n : Nat, s = n := ⟨s.toNat, by omega⟩
   have HT : Hid (txt n h = told n h ∧ txE n = 0) := Lib.hid ⟨by unfold txt; rw [if_neg h0, Int.toNat_natCast], if_neg h0⟩
   have hl1 : (dec n).length ≤ 19 := dec_19 (by omega)
   have hl2 : (hexS h).length ≤ 64 := by rw [hexS_length, HH.out]; omega
   have c0 := pt_c0 B0.out
   have T0 := Lib.hid ((K0.out).drew)
   have BF := Lib.hid (fun V (kk : Kp [] (w.alloc (.cells (ptA n h) 33)) V) => B0.out.kp kk (by simp))
   have HF := Lib.hid (fun V (LV : LD V) => fmt_any n (by omega) V LV)
   have HX := Lib.hid (fun V => hex_any h HH.out V)
   have HLD := Lib.hid (fun V (kk : Kp [] (w.alloc (.cells (ptA n h) 33)) V) => HL.out.kp (K0.out.trans kk (by simp)))
   obtain ⟨cs, HC⟩ : ∃ cs, Hid (ptA n h = cs) := ⟨_, Lib.hid rfl⟩
   rw [HC.out] at B0 K0 c0 BF T0 HLD ⊢
   go_enter Tryd.func47, Tryd.ntmps47
   go_wp2
   generalize hW1 : w.alloc (.cells cs 33) = w1 at *
   generalize hg1 : w.heap.size = g1 at *
   have T1 := Lib.hid ((Kp.refl [] w1).drew)
   refine wp_region_lexf [2, 7] [] (fun V : World => Kp [] w1 V) (by kernel_rfl) (by kernel_rfl) T1.out (fun σ hne fw hf hsur => ?_); have Hsur := Lib.hid hsur; clear hsur
   have q0 := fun y => pt_c0 (HC.out ▸ BF.out _ (hf y))
   clear hf
   have hld : ∀ V, Kp [] w1 V → (Instr.loadAt 25 (.pointer (some ⟨g1, 1, none⟩))).run Tryd.prog V = .ok (.agg (hashA h)) V := fun V kk => run_pt_root (HC.out ▸ BF.out V kk) HH.out
   have HLoad := Lib.hid hld
   clear hld
   go_wp2_with (first
    | (refine lex_qk (.agg (hashA h)) rfl rfl (fun V hV => exec_load rfl rfl (HLoad.out V hV)) ?_; intro K hK; go_simp; refine hK _ _ ?_; clear hK K)
    | (refine lex_qq Hsur.out rfl rfl rfl ?_; intro K hK; go_big_quiet_op; go_big_quiet_on) | (refine lex_skipk rfl ?_; intro K hK; go_simp; refine hK _ _ ?_; clear hK K) | (refine lex_e rfl rfl ?_; intro K hK; go_step) | (refine lex_nil ?_)
    | (go_at_call 72; ((with_reducible refine (HF.out _ (HLD.out _ T1.out)).mono ?_); rintro r w2 ⟨rfl, k2⟩; have T2 := Lib.hid (T1.out.trans k2 (by simp)); clear k2))
    | (go_at_call 55; ((with_reducible refine (HX.out _).mono ?_); rintro r w3 ⟨rfl, k3⟩; have T3 := Lib.hid (T2.out.trans k3 (by simp)); clear k3))
    | ((with_reducible apply And.intro); · (intro hl; first | (exact ls_absurd hl rfl) | exact T3.out))
    | ((with_reducible apply And.intro); · (intro hl; first | (exact ls_absurd hl rfl) | exact T2.out)))
   go_ret2
   exact ⟨by rw [HT.out.1, HT.out.2, ← told_str]; rfl, K0.out.trans T3.out (by simp)⟩
theorem rtold_any (n : Nat) (hn : n < 9223372036854775808) (h : List UInt8) (hh : h.length = 32) (w : World) : Calls Tryd.prog 74 #[.agg (ptA n h)] w fun e w' => e = .returned (.string ⟨(told n h).toArray⟩) ∧ Kp [] w w' := by
 have B0 := Lib.hid (Blk.new w 33 (ptA n h))
 have K0 := Lib.hid ((Kp.refl [] w).alloc (.cells (ptA n h) 33))
 have HH := Lib.hid hh
 clear hh
 have hl1 : (dec n).length ≤ 19 := dec_19 (by omega)
 have hl2 : (hexS h).length ≤ 64 := by rw [hexS_length, HH.out]; omega
 have T0 := Lib.hid ((K0.out).drew)
 have BF := Lib.hid (fun V (kk : Kp [] (w.alloc (.cells (ptA n h) 33)) V) => B0.out.kp kk (by simp))
 have HF := Lib.hid (fun V => rdigits_any n (by omega) V)
 have HX := Lib.hid (fun V => rhex_any h HH.out V)
 obtain ⟨cs, HC⟩ : ∃ cs, Hid (ptA n h = cs) := ⟨_, Lib.hid rfl⟩
 rw [HC.out] at B0 K0 BF T0 ⊢
 go_enter Tryd.func74, Tryd.ntmps74
 go_wp2
 generalize hW1 : w.alloc (.cells cs 33) = w1 at *
 generalize hg1 : w.heap.size = g1 at *
 have T1 := Lib.hid ((Kp.refl [] w1).drew)
 refine wp_region_lexf [2, 7] [] (fun V : World => Kp [] w1 V) (by kernel_rfl) (by kernel_rfl) T1.out (fun σ hne fw hf hsur => ?_); have Hsur := Lib.hid hsur; clear hsur
 have q0 := fun y => pt_c0 (HC.out ▸ BF.out _ (hf y))
 clear hf
 have hld : ∀ V, Kp [] w1 V → (Instr.loadAt 25 (.pointer (some ⟨g1, 1, none⟩))).run Tryd.prog V = .ok (.agg (hashA h)) V := fun V kk => run_pt_root (HC.out ▸ BF.out V kk) HH.out
 have HLoad := Lib.hid hld
 clear hld
 go_wp2_with (first
  | (refine lex_qk (.agg (hashA h)) rfl rfl (fun V hV => exec_load rfl rfl (HLoad.out V hV)) ?_; intro K hK; go_simp; refine hK _ _ ?_; clear hK K)
  | (refine lex_qq Hsur.out rfl rfl rfl ?_; intro K hK; go_big_quiet_op; go_big_quiet_on) | (refine lex_skipk rfl ?_; intro K hK; go_simp; refine hK _ _ ?_; clear hK K) | (refine lex_e rfl rfl ?_; intro K hK; go_step) | (refine lex_nil ?_)
  | (go_at_call 92; ((with_reducible refine (HF.out _).mono ?_); rintro r w2 ⟨rfl, k2⟩; have T2 := Lib.hid (T1.out.trans k2 (by simp)); clear k2))
  | (go_at_call 76; ((with_reducible refine (HX.out _).mono ?_); rintro r w3 ⟨rfl, k3⟩; have T3 := Lib.hid (T2.out.trans k3 (by simp)); clear k3))
  | ((with_reducible apply And.intro); · (intro hl; first | (exact ls_absurd hl rfl) | exact T3.out))
  | ((with_reducible apply And.intro); · (intro hl; first | (exact ls_absurd hl rfl) | exact T2.out)))
 go_ret
 exact ⟨by rw [← told_str]; rfl, K0.out.trans T3.out (by simp)⟩
end
/- Parse of point. -/
section
open Go.RowKit
theorem op_store_part {P : Program} {o : Oper} {a : Act} {w : World} {K : Act → World → Prop} {Q : Exit → Act → World → Prop} (x y : Operand) (ty : TypeId) (ho : o.op = .store ty x y) (g off : Nat) (hx : a.eval x = .pointer (some ⟨g, off, none⟩)) (xs : Array Value) (hy : a.eval y = .agg xs)
 (t : TypeId) (cur : Array Value) (hb : Blk w g t cur) (hi : (P.info? ty).map (·.size) = some xs.size) (hfit : off + xs.size ≤ cur.size) (h1 : ∀ u, u ∈ xs.toList → u.oneCell' = true)
 (hK : ∀ w', Blk w' g t (cur.toList.take off ++ xs.toList ++ cur.toList.drop (off + xs.size)).toArray → Kp [g] w w' → K (a.put o.dst undef) w') : o.wp P a w K Q := by
 unfold Oper.wp
 rw [exec_store ho hx hy (run_storeAt_agg w g off t ty xs cur hb hi hfit h1)]
 exact hK _ (setRow_blk hb).1 (setRow_blk hb).2
end
/- (*Sha).take. -/
section
variable {Q : Exit → Act → World → Prop} {a : Act} {w : World}
open Go.RowKit
theorem stk_r0 (A : Option Addr) (n c : Nat) (hsz : a.tmps.size = 48) (o1 : Sl a 1 (.slice A n c))
 (hend : ∀ a', Same a a' [6, 7, 8] → Sl a' 8 (.bool (decide (0 < n))) → Q .normal a' (w)) : (Code.region 0 (opsOf 0 Tryd.f63).toArray false).wp Tryd.prog Q a w := by
 refine wp_region_lit ?_
 (conv => arg 4; whnf)
 unfold Sl at o1
 go_wp2_with fail
 try simp only [Act.put]
 exact hend _ sS sP
theorem stk_r1 (w0 : World) (g n : Nat) (st : List Nat) (blk : List UInt8) (hs : st.length = 8) (hb : blk.length = 64) (L : List Res) (S : Held w0 w (blkR g 134 (shaC st blk n) :: L)) (hsz : a.tmps.size = 48) (o0 : Sl a 0 (.pointer (some ⟨g, 0, none⟩)))
 (hend : ∀ a', Same a a' [9, 10, 11, 12, 13, 4] → Sl a' 4 (.int .i64 ((n % 64 : Nat) : Int)) → Q .normal a' (w)) : (Code.region 1 (opsOf 1 Tryd.f63).toArray false).wp Tryd.prog Q a w := by
 refine wp_region_lit ?_
 (conv => arg 4; whnf)
 unfold Sl at o0
 have c1 : w.cell? ⟨g, 72, none⟩ = some (.int .i64 (n : Int)) := by rw [(S.at_ (l1 := [])).cell]; exact shaC_len hs hb
 have ht : Int.tmod (n : Int) 64 = ((n % 64 : Nat) : Int) := rfl
 clear S hs hb
 go_wp2_with fail
 try simp only [Act.put]
 exact hend _ sS sP
theorem stk_r2 (w0 : World) (g n : Nat) (st : List Nat) (blk : List UInt8) (hs : st.length = 8) (hb : blk.length = 64) (L : List Res) (S : Held w0 w (blkR g 134 (shaC st blk n) :: L)) (k : Nat) (hk : k < 64) (y : Value) (l : List UInt8) (hy : Rd w 1 y l.length (bv l)) (A : Option Addr) (c : Nat) (hyf : y = .slice A l.length c) (hsz : a.tmps.size = 48) (o0 : Sl a 0 (.pointer (some ⟨g, 0, none⟩))) (o1 : Sl a 1 (.slice A l.length c)) (o4 : Sl a 4 (.int .i64 (k : Int)))
 (hend : ∀ a' W, Same a a' [14, 15, 16, 17, 18, 19, 20, 5] → Sl a' 5 (.int .i64 ((min l.length (64 - k) : Nat) : Int)) → (Kp [g] w W) → (Held w0 W (blkR g 134 (shaC st (lay blk k (l.take (64 - k))) n) :: L)) → Q .normal a' W) : (Code.region 2 (opsOf 2 Tryd.f63).toArray false).wp Tryd.prog Q a w := by
 refine wp_region_lit ?_
 (conv => arg 4; whnf)
 unfold Sl at o0 o1 o4
 subst hyf
 have hsl := Tryd.slice64at g 8 w k (k : Int) rfl hk
 have HB := Lib.hid hb
 have HS := Lib.hid hs
 have S := Lib.hid S
 have Hy := Lib.hid hy
 clear hb hs hy
 obtain ⟨ll, hll⟩ : ∃ ll, l.length = ll := ⟨_, rfl⟩
 have HLL := Lib.hid hll
 rw [hll] at o1 Hy
 clear hll
 obtain ⟨mm, hmm⟩ : ∃ mm, min ll (64 - k) = mm := ⟨_, rfl⟩
 have HM := Lib.hid hmm
 clear hmm
 go_wp2_with (refine wpList_copy_blk rfl (.tmp 18) (.tmp 19) 22 22 rfl 5 Tryd.underlying22 (by kernel_rfl) g (8 + k) (64 - k) (64 - k) (by simp [Act.eval, Act.put, hsz]) _ (by simp [Act.eval, Act.put, hsz]) ll (bv l) Hy.out 134 _ (S.out.at_ (l1 := [])) (by rw [shaC_size HS.out HB.out]; omega) (bv_one l) mm HM.out ?_; intro w2 b2 k2; have S2 := Lib.hid (Held.setBlk (l1 := []) S.out b2 k2); have K2 := Lib.hid k2; clear b2 k2)
 rw [show (bv l).take (64 - k) = bv (l.take (64 - k)) from by simp [bv, List.map_take], shaC_splice HS.out HB.out k _ (by rw [List.length_take]; omega)] at S2
 have e5 : min l.length (64 - k) = mm := by rw [HLL.out]; exact HM.out
 rw [e5] at hend
 try simp only [Act.put]
 exact hend _ _ sS sP (K2.out) (S2.out)
theorem stk_r3 (A A1 : Option Addr) (n m c c1 k : Nat) (hr : ∀ w, (Instr.sliceAt 22 (.slice A n c) (some (.int .i64 (k : Int))) none none).run Tryd.prog w = .ok (.slice A1 m c1) w) (hsz : a.tmps.size = 48) (o1 : Sl a 1 (.slice A n c)) (o5 : Sl a 5 (.int .i64 (k : Int)))
 (hend : ∀ a', Same a a' [21, 22, 23, 1] → Sl a' 1 (.slice A1 m c1) → Q .normal a' (w)) : (Code.region 3 (opsOf 3 Tryd.f63).toArray false).wp Tryd.prog Q a w := by
 refine wp_region_lit ?_
 (conv => arg 4; whnf)
 unfold Sl at o1 o5
 go_wp2_with fail
 try simp only [Act.put]
 exact hend _ sS sP
theorem stk_r4 (w0 : World) (g n : Nat) (st : List Nat) (blk : List UInt8) (hs : st.length = 8) (hb : blk.length = 64) (L : List Res) (S : Held w0 w (blkR g 134 (shaC st blk n) :: L)) (k : Nat) (hn : n + k < 9223372036854775808) (hsz : a.tmps.size = 48) (o0 : Sl a 0 (.pointer (some ⟨g, 0, none⟩))) (o5 : Sl a 5 (.int .i64 (k : Int)))
 (hend : ∀ a' W, Same a a' [24, 25, 26, 27, 28, 29, 30, 31] → (Kp [g] w W) → (Held w0 W (blkR g 134 (shaC st blk (n + k)) :: L)) → Q .normal a' W) : (Code.region 4 (opsOf 4 Tryd.f63).toArray false).wp Tryd.prog Q a w := by
 refine wp_region_lit ?_
 (conv => arg 4; whnf)
 unfold Sl at o0 o5
 have c1 : w.cell? ⟨g, 72, none⟩ = some (.int .i64 (n : Int)) := by rw [(S.at_ (l1 := [])).cell]; exact shaC_len hs hb
 have c2 := (S.at_ (l1 := [])).frozen 72
 have S2 : Hid (Held w0 (w.setCell ⟨g, 72, none⟩ (.int .i64 ((n + k : Nat) : Int))) _) := Lib.hid (S.set (l1 := []) 72 (.int .i64 ((n + k : Nat) : Int)))
 rw [shaC_setLen hs hb] at S2
 have hw := Lib.hid (show wrap64 ((n : Int) + (k : Int)) = ((n + k : Nat) : Int) from by unfold wrap64; omega)
 have K2 := Lib.hid ((Kp.refl [g] w).setCell (p := ⟨g, 72, none⟩) (.inl (by simp)) (.int .i64 ((n + k : Nat) : Int)))
 clear S hs hb hn
 go_wp2
 rw [hw.out]
 try simp only [Act.put]
 exact hend _ _ sS (K2.out) (S2.out)
theorem stk_r5 (k j : Nat) (hk : k + j ≤ 64) (hsz : a.tmps.size = 48) (o4 : Sl a 4 (.int .i64 (k : Int))) (o5 : Sl a 5 (.int .i64 (j : Int)))
 (hend : ∀ a', Same a a' [32, 33, 34, 35] → Sl a' 35 (.bool ((k : Int) + (j : Int) == 64)) → Q .normal a' (w)) : (Code.region 5 (opsOf 5 Tryd.f63).toArray false).wp Tryd.prog Q a w := by
 refine wp_region_lit ?_
 (conv => arg 4; whnf)
 unfold Sl at o4 o5
 have hw : wrap64 ((k : Int) + (j : Int)) = ((k + j : Nat) : Int) := by unfold wrap64; omega
 go_wp2_with fail
 try simp only [Act.put]
 exact hend _ sS sP
theorem stk_r6 (w0 : World) (g n : Nat) (st : List Nat) (blk : List UInt8) (hs : st.length = 8) (hst : Ws st) (hb : blk.length = 64) (L : List Res) (hsz : a.tmps.size = 48) (o0 : Sl a 0 (.pointer (some ⟨g, 0, none⟩)))
 (S0 : Held w0 w (blkR g 134 (shaC st blk n) :: L))
 (hend : ∀ a' W, Same a a' [36, 37, 38, 39, 40, 41, 42, 43, 44, 45, 46, 47] → Held w0 W (blkR g 134 (shaC (blkF st blk) blk n) :: L) → Q .normal a' W) : (Code.region 6 (opsOf 6 Tryd.f63).toArray true).wp Tryd.prog Q a w := by
 have hap : apartB (opsOf 6 Tryd.f63) = true := by kernel_rfl
 refine wp_region_sep (Γ := Unit) (l := (opsOf 6 Tryd.f63)) 2 [0, 1, 2, 3, 4, 5, 6, 7, 8, 9, 10, 11, 12, 14]
  (fun i vs gs => match i with | 0 => vs 0 = .pointer (some ⟨g, 0, none⟩) | 1 => vs 1 = .pointer (some ⟨g, 0, none⟩) | 2 => vs 2 = .pointer (some ⟨g, 0, none⟩) | 3 => vs 3 = .pointer (some ⟨g, 0, none⟩) | 4 => vs 4 = .agg (u32A st) | 5 => vs 5 = .pointer (some ⟨g, 0, none⟩) | 6 => vs 6 = .pointer (some ⟨g, 0, none⟩) | 7 => vs 7 = .pointer (some ⟨g, 8, none⟩) | 8 => vs 8 = .agg (hashA blk) | 9 => vs 9 = .agg (u32A (blkF st blk)) | 10 => vs 10 = .pointer (some ⟨g, 0, none⟩) | 11 => vs 11 = .pointer (some ⟨g, 0, none⟩) | _ => True)
  (fun i vs gs => match i with | 12 => [blkR g 134 (shaC (blkF st blk) blk n)] | 13 => [blkR g 134 (shaC st blk n)] | 14 => L | _ => [])
  (fun i => match i with | 12 => [13] | _ => []) (fun i => match i with | 4 => [13] | 8 => [13] | _ => []) S0 (by kernel_rfl) hap (by kernel_rfl) (by kernel_rfl) (fun i => match i with | 0 => [0] | 1 => [1] | 2 => [2] | 3 => [3] | 4 => [4] | 5 => [5] | 6 => [6] | 7 => [7] | 8 => [8] | 9 => [9] | 10 => [10] | 11 => [11] | _ => []) (by kernel_rfl) ?_ (by kernel_rfl) ?_ ?_ ?_
 · intro s vs vs' gs gs' h
   iterate 15 (rcases s with _ | s; · (first | exact ⟨rfl, id⟩ | (simp only [List.mem_cons, List.not_mem_nil, or_false, forall_eq] at h; simp [h])))
   exact ⟨rfl, id⟩
 · simp only [List.range, List.range.loop, List.flatMap_cons, List.flatMap_nil, List.append_nil]
   exact List.Perm.refl _
 · clear S0 hend
   refine ⟨?_, ?_, ?_, ?_, ?_, ?_, ?_, ?_, ?_, ?_, ?_, ?_, ?_, trivial⟩
   · intro vs gs A' W LF hA S hR hd hu K hK; replace hK := hK default; have e0 := sO 0 o0 hA hap hsz; clear hA o0; go_step; exact hK _ _ S rfl
   · intro vs gs A' W LF hA S hR hd hu K hK; replace hK := hK default; have e0 := sO 0 o0 hA hap hsz; clear hA o0; go_step; exact hK _ _ S rfl
   · intro vs gs A' W LF hA S hR hd hu K hK; replace hK := hK default; have e37 := sV 37 (hd 1 (by kernel_rfl)) hA hap hsz; clear hA o0; go_step; exact hK _ _ S rfl
   · intro vs gs A' W LF hA S hR hd hu K hK; replace hK := hK default; have e38 := sV 38 (hd 2 (by kernel_rfl)) hA hap hsz; clear hA o0; go_step; exact hK _ _ S rfl
   · intro vs gs A' W LF hA S hR hd hu K hK; replace hK := hK default; have e39 := sV 39 (hd 3 (by kernel_rfl)) hA hap hsz; clear hA o0
     refine op_runs (v := .agg (u32A st)) (w' := W) (exec_load rfl (by simpa [Act.eval] using e39) (run_loadAt_agg W ⟨g, 0, none⟩ 111 (u32A st).toList _ (sha_stateAt (show Blk W g 134 (shaC st blk n) from S.ok (blkR g 134 (shaC st blk n)) (hR 13 (List.mem_singleton.2 rfl) _ (List.mem_singleton.2 rfl))) hs) Tryd.underlying111 rfl (by rw [Array.length_toList, u32A_size, hs]; exact Tryd.info8w))) ?_
     exact hK _ _ S rfl
   · intro vs gs A' W LF hA S hR hd hu K hK; replace hK := hK default; have e0 := sO 0 o0 hA hap hsz; clear hA o0; go_step; exact hK _ _ S rfl
   · intro vs gs A' W LF hA S hR hd hu K hK; replace hK := hK default; have e41 := sV 41 (hd 5 (by kernel_rfl)) hA hap hsz; clear hA o0; go_step; exact hK _ _ S rfl
   · intro vs gs A' W LF hA S hR hd hu K hK; replace hK := hK default; have e42 := sV 42 (hd 6 (by kernel_rfl)) hA hap hsz; clear hA o0; go_step; exact hK _ _ S rfl
   · intro vs gs A' W LF hA S hR hd hu K hK; replace hK := hK default; have e43 := sV 43 (hd 7 (by kernel_rfl)) hA hap hsz; clear hA o0
     refine op_runs (v := .agg (hashA blk)) (w' := W) (exec_load rfl (by simpa [Act.eval] using e43) (run_loadAt_agg W ⟨g, 8, none⟩ 76 (hashA blk).toList _ (sha_blockAt (show Blk W g 134 (shaC st blk n) from S.ok (blkR g 134 (shaC st blk n)) (hR 13 (List.mem_singleton.2 rfl) _ (List.mem_singleton.2 rfl))) hs hb) Tryd.underlying76 rfl (by rw [Array.length_toList, hashA_size, hb]; exact Tryd.info64u8s))) ?_
     exact hK _ _ S rfl
   · intro vs gs A' W LF hA S hR hd hu K hK; replace hK := hK default; have e40 := sV 40 (hd 4 (by kernel_rfl)) hA hap hsz; have e44 := sV 44 (hd 8 (by kernel_rfl)) hA hap hsz; clear hA o0
     generalize hca : u32A st = ca at *
     generalize hcb : hashA blk = cb at *
     go_step
     rw [← hca, ← hcb]
     refine (sblock_any st hst hs blk hb _).mono ?_
     rintro e w' ⟨rfl, kq⟩
     exact hK _ _ (S.kp kq) rfl
   · intro vs gs A' W LF hA S hR hd hu K hK; replace hK := hK default; have e36 := sV 36 (hd 0 (by kernel_rfl)) hA hap hsz; clear hA o0; go_step; exact hK _ _ S rfl
   · intro vs gs A' W LF hA S hR hd hu K hK; replace hK := hK default; have e46 := sV 46 (hd 10 (by kernel_rfl)) hA hap hsz; clear hA o0; go_step; exact hK _ _ S rfl
   · intro vs gs A' W LF hA S hR hd hu K hK; replace hK := hK default; have e47 := sV 47 (hd 11 (by kernel_rfl)) hA hap hsz; have e45 := sV 45 (hd 9 (by kernel_rfl)) hA hap hsz; clear hA o0
     have S1 : Held w0 W (blkR g 134 (shaC st blk n) :: LF) := S
     refine op_store_part (.tmp 47) (.tmp 45) 111 rfl g 0 (by simpa [Act.eval] using e47) (u32A (blkF st blk)) (by simpa [Act.eval] using e45) 134 _ (S1.at_ (l1 := [])) (by rw [u32A_size, blkF_length, hs]; exact Tryd.info8w) (by rw [u32A_size, blkF_length, hs, shaC_size hs hb]; omega) (u32A_one _) (fun w' hbk k => hK undef _ ?_ trivial)
     rw [shaC_state hs _ ((blkF_length _ _).trans hs)] at hbk
     exact Held.setBlk (l1 := []) S1 hbk k
 · intro vs gs W S hp
   have S : Held w0 W (blkR g 134 (shaC (blkF st blk) blk n) :: L) := by simpa only [List.flatMap_cons, List.flatMap_nil, List.append_nil, List.nil_append, List.cons_append, List.append_assoc] using S
   rw [putAll_eq]
   exact hend _ W sQ  S
end
/- (*Sha).take, whole. -/
section
open Go.RowKit
def dsTk : List Nat := [1, 4, 5, 6, 7, 8, 9, 10, 11, 12, 13, 14, 15, 16, 17, 18, 19, 20, 21, 22, 23, 24, 25, 26, 27, 28, 29, 30, 31, 32, 33, 34, 35, 36, 37, 38, 39, 40, 41, 42, 43, 44, 45, 46, 47]
def lenV : Value → Nat
 | .slice _ n _ => n
 | _ => 0
theorem Und.len8 {m : List UInt8} {st : List Nat} {blk : List UInt8} (h : Und m st blk) : st.length = 8 := by rw [h.st]; exact shaN_length _ _
theorem Und.ws {m : List UInt8} {st : List Nat} {blk : List UInt8} (h : Und m st blk) : Ws st := by rw [h.st]; exact shaN_lt _ _
theorem take_any (w0 : World) (g : Nat) (m l : List UInt8) (st : List Nat) (blk : List UInt8) (hU : Und m st blk) (hml : m.length + l.length < 4611686018427387904) (x : Value) (L : List Res) (w : World) (HB : ∀ V cs, Held w0 V (blkR g 134 cs :: L) → Rd V 1 x l.length (bv l))
 (S : Held w0 w (blkR g 134 (shaC st blk m.length) :: L)) :
 Calls Tryd.prog 63 #[.pointer (some ⟨g, 0, none⟩), x] w fun e w' => e = .returned (.tuple #[]) ∧ ∃ st' blk', Und (m ++ l) st' blk' ∧ Held w0 w' (blkR g 134 (shaC st' blk' (m ++ l).length) :: L) := by
 obtain ⟨A0, c0, rfl⟩ := rd_form (HB w _ S)
 refine calls_fr Tryd.func63 rfl 48 rfl (fun a hsz hdf hAr => ?_)
 have hsz : a.tmps.size = 48 := hsz
 have o0 := hAr 0 _ rfl
 have o1 := hAr 1 _ rfl
 refine wp_block ?_
 refine wp_loop (fun a' w' => ∃ (pre suf : List UInt8) (st : List Nat) (blk : List UInt8) (A : Option Addr) (c : Nat), pre ++ suf = l ∧ Und (m ++ pre) st blk ∧ Same a a' dsTk ∧ Sl a' 1 (.slice A suf.length c) ∧ (∀ V cs, Held w0 V (blkR g 134 cs :: L) → Rd V 1 (.slice A suf.length c) suf.length (bv suf)) ∧ Held w0 w' (blkR g 134 (shaC st blk (m ++ pre).length) :: L))
  (fun a' _ => lenV (a'.eval (.tmp 1))) ⟨[], l, st, blk, A0, c0, rfl, by rw [List.append_nil]; exact hU, Same.refl _ _, o1, HB, by rw [List.append_nil]; exact S⟩ ?_
 clear hU S HB o1
 rintro a1 w1 ⟨pre, suf, st, blk, A, c, hps, hU, T, o1, HB, S⟩
 have hz1 := T.size.trans hsz
 have o0 := T.keep 0 _ (by decide) o0
 have h8 := hU.len8
 have h64 := hU.len
 have hlen : (m ++ pre).length + suf.length = m.length + l.length := by rw [← hps]; simp only [List.length_append]; omega
 have eCtr := o1.eval (by rw [hz1]; decide)
 refine wp_seq (wp_seq (stk_r0 A suf.length c hz1 o1 (fun a2 hs2 o8 => ?_)))
 have hz2 := hs2.size.trans hz1; have o0 := hs2.k o0; have o1 := hs2.k o1
 have T := T.trans hs2
 by_cases hlt : 0 < suf.length
 · refine wp_cond_true ((o8.eval (by rw [hz2]; decide)).trans (by rw [decide_eq_true hlt])) (wp_skip ?_)
   generalize hnn : (m ++ pre).length = n at *
   refine wp_block ?_
   refine wp_seq (stk_r1 w0 g n st blk h8 h64 L S hz2 o0 (fun a3 hs3 o4 => ?_))
   have hz3 := hs3.size.trans hz2; have o0 := hs3.k o0; have o1 := hs3.k o1; have o8 := hs3.k o8
   have T := T.trans hs3
   have hk : n % 64 < 64 := Nat.mod_lt _ (by decide)
   refine wp_seq (stk_r2 w0 g n st blk h8 h64 L S (n % 64) hk _ suf (HB w1 _ S) A c rfl hz3 o0 o1 o4 (fun a4 w2 hs4 o5 K2 S => ?_))
   have hz4 := hs4.size.trans hz3; have o0 := hs4.k o0; have o1 := hs4.k o1; have o8 := hs4.k o8; have o4 := hs4.k o4
   have T := T.trans hs4
   have hb2 : (lay blk (n % 64) (suf.take (64 - n % 64))).length = 64 := by rw [lay_length (by rw [List.length_take]; omega)]; exact h64
   obtain ⟨q, hq⟩ : ∃ q, min suf.length (64 - n % 64) = q := ⟨_, rfl⟩
   rw [hq] at o5
   have hxl : (suf.take (64 - n % 64)).length = q := by rw [List.length_take, Nat.min_comm]; exact hq
   obtain ⟨A1, c1, run1, rd1, -⟩ := cut_lo A suf.length c q (suf.length - q) (q : Int) rfl (by omega)
   refine wp_seq (stk_r3 A A1 suf.length (suf.length - q) c c1 q run1 hz4 o1 o5 (fun a5 hs5 o1 => ?_))
   have hz5 := hs5.size.trans hz4; have o0 := hs5.k o0; have o8 := hs5.k o8; have o4 := hs5.k o4; have o5 := hs5.k o5
   have T := T.trans hs5
   refine wp_seq (stk_r4 w0 g n st _ h8 hb2 L S q (by omega) hz5 o0 o5 (fun a6 w3 hs6 K3 S => ?_))
   have hz6 := hs6.size.trans hz5; have o0 := hs6.k o0; have o1 := hs6.k o1; have o8 := hs6.k o8; have o4 := hs6.k o4; have o5 := hs6.k o5
   have T := T.trans hs6
   refine wp_seq (stk_r5 (n % 64) q (by omega) hz6 o4 o5 (fun a7 hs7 o35 => ?_))
   have hz7 := hs7.size.trans hz6; have o0 := hs7.k o0; have o1 := hs7.k o1; have o8 := hs7.k o8; have o4 := hs7.k o4; have o5 := hs7.k o5
   have T := T.trans hs7
   have hsuf : suf.take (64 - n % 64) ++ suf.drop q = suf := by
    by_cases hc : suf.length ≤ 64 - n % 64
    · rw [List.take_of_length_le hc, List.drop_of_length_le (by omega), List.append_nil]
    · rw [show q = 64 - n % 64 from by omega, List.take_append_drop]
   have hdl : (suf.drop q).length = suf.length - q := List.length_drop
   have HB1 : ∀ V cs, Held w0 V (blkR g 134 cs :: L) → Rd V 1 (.slice A1 (suf.drop q).length c1) (suf.drop q).length (bv (suf.drop q)) := fun V cs kv => by
    have := rd1 V suf (HB V cs kv)
    rw [List.take_of_length_le (by omega)] at this
    rw [hdl]; exact this
   have hpl : (m ++ (pre ++ suf.take (64 - n % 64))).length = n + q := by rw [← List.append_assoc, List.length_append, hnn, hxl]
   have hmu : ∀ (a' : Act), a'.tmps.size = 48 → Sl a' 1 (.slice A1 (suf.length - q) c1) → lenV (a'.eval (.tmp 1)) < lenV (a1.eval (.tmp 1)) := fun a' hz' h => by
    rw [eCtr, h.eval (by rw [hz']; decide)]
    show suf.length - q < suf.length
    omega
   rw [← hdl] at o1
   have hU0 := hU
   by_cases hfull : n % 64 + q = 64
   · refine wp_cond_true ((o35.eval (by rw [hz7]; decide)).trans (by rw [show ((((n % 64 : Nat) : Int) + (q : Int)) == 64) = true from by rw [beq_iff_eq]; omega])) ?_
     refine stk_r6 w0 g (n + q) st _ h8 hU.ws hb2 L hz7 o0 S (fun a8 w4 hs8 S => ?_)
     have hz8 := hs8.size.trans hz7; have o0 := hs8.k o0; have o1 := hs8.k o1; have o8 := hs8.k o8; have o4 := hs8.k o4; have o5 := hs8.k o5; have o35 := hs8.k o35
     have T := T.trans hs8
     have hU := hU.full (x := suf.take (64 - n % 64)) (by rw [hnn, hxl]; exact hfull)
     rw [hnn, List.append_assoc] at hU
     exact ⟨⟨pre ++ suf.take (64 - n % 64), suf.drop q, _, _, A1, c1, by rw [List.append_assoc, hsuf, hps], hU, T.more (by decide +kernel), o1, HB1, by rw [hpl]; exact S⟩, hmu _ hz8 (by rw [← hdl]; exact o1)⟩
   · refine wp_cond_false ((o35.eval (by rw [hz7]; decide)).trans (by rw [show ((((n % 64 : Nat) : Int) + (q : Int)) == 64) = false from by rw [beq_eq_false_iff_ne]; omega])) (wp_skip ?_)
     have hU := hU.part (x := suf.take (64 - n % 64)) (by rw [hnn, hxl]; omega)
     rw [hnn, List.append_assoc] at hU
     exact ⟨⟨pre ++ suf.take (64 - n % 64), suf.drop q, _, _, A1, c1, by rw [List.append_assoc, hsuf, hps], hU, T.more (by decide +kernel), o1, HB1, by rw [hpl]; exact S⟩, hmu _ hz7 (by rw [← hdl]; exact o1)⟩
 · obtain rfl : suf = [] := List.eq_nil_of_length_eq_zero (by omega)
   refine wp_cond_false ((o8.eval (by rw [hz2]; decide)).trans (by rw [decide_eq_false hlt])) (wp_exit ?_)
   rw [List.append_nil] at hps
   subst hps
   exact ⟨T.defers.trans hdf, .tuple #[], results_none rfl _ _ _, rfl, st, blk, hU, S⟩
end
/- sha: New, none, Write, put. -/
section
open Go.RowKit
theorem none_any (g : Nat) (cs : Array Value) (hc : cs[73]? = some (.bool true)) (w : World) (hb : Blk w g 134 cs) : Calls Tryd.prog 83 #[.pointer (some ⟨g, 0, none⟩)] w fun e w' => e = .returned (.bool false) ∧ w = w' := by
 have c1 : w.cell? ⟨g, 73, none⟩ = some (.bool true) := by rw [hb.cell]; exact hc
 clear hb hc
 go_enter Tryd.func83, Tryd.ntmps83
 go_wp2
 go_ret
 exact ⟨rfl, rfl⟩
theorem Tryd.built_sha : Tryd.prog.built 134 [(0, .agg (u32A hF)), (3, .bool true)] = some (shaC hF (List.replicate 64 0) 0) := by kernel_rfl
theorem snew_any (w0 w : World) (L : List Res) (S : Held w0 w L) : Calls Tryd.prog 62 #[] w fun e w' => ∃ g, e = .returned (.pointer (some ⟨g, 0, none⟩)) ∧ Held w0 w' (blkR g 134 (shaC hF (List.replicate 64 0) 0) :: L) := by
 have S := Lib.hid S
 have HB := Lib.hid Tryd.built_sha
 obtain ⟨cs, hcs⟩ : ∃ cs, Hid (shaC hF (List.replicate 64 0) 0 = cs) := ⟨_, Lib.hid rfl⟩
 rw [hcs.out] at HB ⊢
 go_enter Tryd.func62, Tryd.ntmps62
 go_wp2_with fail
 refine (sfirst_any _).mono ?_
 rintro e w' ⟨rfl, k1⟩
 have S1 := Lib.hid ((S.out.kp k1).newBlk 134 cs)
 clear k1
 obtain ⟨ca, hca⟩ : ∃ ca, Hid (u32A hF = ca) := ⟨_, Lib.hid rfl⟩
 rw [hca.out] at HB ⊢
 go_wp2_with (refine wpList_buildC rfl 134 _ rfl [(0, .agg ca), (3, .bool true)] (by simp [Act.eval]) _ HB.out ?_)
 go_ret
 exact ⟨_, rfl, S1.out⟩
theorem lay_snoc {cs x : List UInt8} {o : Nat} (c : UInt8) (h : o + x.length < cs.length) : (lay cs o x).set (o + x.length) c = lay cs o (x ++ [c]) := by
 unfold lay
 have h1 : (cs.take o ++ x).length = o + x.length := by rw [List.length_append, List.length_take]; omega
 rw [List.set_append_right _ _ (by omega), h1, Nat.sub_self, List.drop_eq_getElem_cons h, List.set_cons_zero, List.length_append, List.length_singleton]
 simp [Nat.add_assoc]
theorem be4_take (W k : Nat) (h : k < 4) : (be 4 W).take (k + 1) = (be 4 W).take k ++ [UInt8.ofNat (W / 2 ^ (24 - 8 * k))] := by
 rcases (by omega : k = 0 ∨ k = 1 ∨ k = 2 ∨ k = 3) with rfl | rfl | rfl | rfl <;> rfl
theorem put_any (w0 : World) (g : Nat) (t : TypeId) (cs : List UInt8) (o n c W : Nat) (hn : 4 ≤ n) (ho : o + 4 ≤ cs.length) (L : List Res) (w : World) (S : Held w0 w (blkR g t (hashA cs) :: L)) :
 Calls Tryd.prog 84 #[.slice (some ⟨g, o, none⟩) n c, .int .u32 (W : Int)] w fun e w' => e = .returned (.tuple #[]) ∧ Held w0 w' (blkR g t (hashA (lay cs o (be 4 W))) :: L) := by
 have S := Lib.hid S
 go_enter Tryd.func84, Tryd.ntmps84
 go_wp2
 go_loopw [4, 5] (fun _ i wr => ∃ k : Nat, k ≤ 4 ∧ i = .int .i64 (k : Int) ∧ Held w0 wr (blkR g t (hashA (lay cs o ((be 4 W).take k))) :: L)) (fun _ i _ => 4 - (intOf i).toNat)
 case atStart =>
  refine ⟨0, by omega, rfl, ?_⟩
  have e : lay cs o ((be 4 W).take 0) = cs := by unfold lay; simp
  rw [e]
  exact S.out
 case round =>
  clear S
  obtain ⟨k, hk, rfl, S⟩ := hrel
  have S := Lib.hid S
  have hxl : ((be 4 W).take k).length = k := by rw [List.length_take, be_length]; omega
  by_cases hlt : k < 4
  · have hw : (lay cs o ((be 4 W).take k)).length = cs.length := lay_length (by omega)
    have hb : (lay cs o ((be 4 W).take k))[o + k]? = some ((lay cs o ((be 4 W).take k)).getD (o + k) 0) := by
     rw [List.getD_eq_getElem?_getD, List.getElem?_eq_getElem (by omega)]; rfl
    have q1 : wr.cell? ⟨g, o + k, none⟩ = some (.int .u8 (((lay cs o ((be 4 W).take k)).getD (o + k) 0).toNat : Int)) := by
     rw [(S.out.at_ (l1 := [])).cell]
     simp only [hashA, List.getElem?_toArray]
     rw [bv_get, hb]
     rfl
    have q2 := (S.out.at_ (l1 := [])).frozen (o + k)
    have S2 : Hid (Held w0 (wr.setCell ⟨g, o + k, none⟩ (.int .u8 ((UInt8.ofNat (W / 2 ^ (24 - 8 * k))).toNat : Int))) _) := Lib.hid (S.out.set (l1 := []) (o + k) (.int .u8 ((UInt8.ofNat (W / 2 ^ (24 - 8 * k))).toNat : Int)))
    rw [hashA_set, show o + k = o + ((be 4 W).take k).length from by rw [hxl], lay_snoc _ (by omega), ← be4_take W k hlt, hxl] at S2
    generalize (lay cs o ((be 4 W).take k)).getD (o + k) 0 = old at *
    clear hw hb hxl S
    have hki : (k : Int) < n := by omega
    generalize hv : (UInt8.ofNat (W / 2 ^ (24 - 8 * k))).toNat = v at *
    have hv2 : Hid (v = W / 2 ^ (24 - 8 * k) % 256) := Lib.hid (by rw [← hv]; simp)
    clear hv
    have add0 : ((⟨g, o, none⟩ : Addr).add k) = ⟨g, o + k, none⟩ := by unfold Addr.add; split <;> simp_all
    have h0 : 0 ≤ (24 : Int) - 8 * (k : Int) := by omega
    rcases (by omega : k = 0 ∨ k = 1 ∨ k = 2 ∨ k = 3) with rfl | rfl | rfl | rfl
    all_goals
     simp only [Nat.add_zero, Nat.mul_zero, Nat.mul_one, Nat.reduceMul, Nat.reduceSub, Nat.reducePow, Nat.sub_self, Nat.pow_zero, Nat.div_one, Nat.sub_zero] at q1 q2 hv2 S2
     go_wp2
     first
      | rw [show (W : Int) / 16777216 % 256 = (v : Int) from by have := hv2.out; omega]
      | rw [show (W : Int) / 65536 % 256 = (v : Int) from by have := hv2.out; omega]
      | rw [show (W : Int) / 256 % 256 = (v : Int) from by have := hv2.out; omega]
      | rw [show (W : Int) % 256 = (v : Int) from by have := hv2.out; omega]
     go_roundw
     case rel => exact ⟨_, (by omega : _ + 1 ≤ 4), by go_num, S2.out⟩
     case measure => simp [intOf]
  · obtain rfl : k = 4 := by omega
    go_wp2
    go_end0
    refine ⟨rfl, ?_⟩
    have := S.out
    rwa [List.take_of_length_le (by simp)] at this
end
/- (*Sha).Sum: its regions. -/
section
variable {Q : Exit → Act → World → Prop} {a : Act} {w : World}
open Go.RowKit
theorem run_index_u32 {P : Program} (w : World) (t e : TypeId) (n : Nat) (h : List Nat) (kd : IntKind) (z : Int) (k x : Nat) (hz : z = k) (hx : h[k]? = some x) (hn : h.length = n) (hu : P.underlying t = some (.array n e)) (he : P.underlying e = some (.int .u32)) (hc : (P.info? e).map (·.size) = some 1) :
 (Instr.index t (.agg (u32A h)) (.int kd z)).run P w = .ok (.int .u32 (x : Int)) w := by
 subst hz
 have hk := (List.getElem?_eq_some_iff.1 hx).1
 have hag : (isAgg e).run P w = .ok false w := by
  unfold isAgg
  rw [Sem.run_bind, run_underlying he w]
  rfl
 cases hq : P.info? e with
 | none => simp [hq] at hc
 | some i =>
  have hs : i.size = 1 := by simpa [hq] using hc
  have hg : (u32A h)[k]? = some (.int .u32 (x : Int)) := by rw [show (u32A h)[k]? = (u32L h)[k]? from by simp [u32A], u32L_get, hx]; rfl
  have hb : ¬ ((k : Int) < 0 ∨ (n : Int) ≤ k) := by omega
  have hb2 : 0 ≤ (k : Int) ∧ (k : Int) < n := by omega
  simp [Instr.index, Sem.run_bind, run_underlying hu w, asIntOf, part, hag, sizeOf, typeInfo, hq, hs, hg]
  intro; omega
theorem Tryd.len32u8 : Tryd.prog.arrayLen 25 = 32 := by kernel_rfl
theorem Tryd.slice32at (g : Nat) (w : World) (k : Nat) (z : Int) (hz : z = k) (hk : k < 32) : (Instr.sliceAt 25 (.pointer (some ⟨g, 0, none⟩)) (some (.int .i64 z)) none none).run Tryd.prog w = .ok (.slice (some ⟨g, k, none⟩) (32 - k) (32 - k)) w := by
 subst hz
 obtain ⟨i0, hi, hz0, hz1, hz2⟩ := info_parts Tryd.infoU8
 rw [run_sliceAt_array_l w 25 ⟨g, 0, none⟩ (by kernel_rfl) .i64 (k : Int) (by omega) (by rw [Tryd.len32u8]; omega), Tryd.len32u8, show Tryd.prog.elem 25 = 5 from by kernel_rfl]
 have e : (⟨g, 0, none⟩ : Addr).add (k * 1) = ⟨g, k, none⟩ := by unfold Addr.add; split <;> simp <;> omega
 simp only [sizeOf, typeInfo, hi, hz1, Sem.run_bind, Sem.run_pure, Result.andThen, run_program, slicedAt, Int.toNat_natCast, e]
 rw [if_neg (by omega)]
theorem ssm_r0 (w0 : World) (L : List Res) (S : Held w0 w L) (hsz : a.tmps.size = 52) 
 (hend : ∀ a' W, Same a a' [2] → (∃ g, Sl a' 2 (.pointer (some ⟨g, 0, none⟩)) ∧ Held w0 W (blkR g 25 (hashA (List.replicate 32 0)) :: L)) → Q .normal a' W) : (Code.region 0 (opsOf 0 Tryd.f64).toArray false).wp Tryd.prog Q a w := by
 refine wp_region_lit ?_
 (conv => arg 4; whnf)
 have S0 := Lib.hid (S.newBlk 25 (hashA (List.replicate 32 0)))
 go_wp2
 try simp only [Act.put]
 exact hend _ _ sS (⟨w.heap.size, sP0, S0.out⟩)
theorem ssm_r1 (w0 : World) (L : List Res) (S : Held w0 w L) (hsz : a.tmps.size = 52) 
 (hend : ∀ a' W, Same a a' [3] → (∃ g, Sl a' 3 (.pointer (some ⟨g, 0, none⟩)) ∧ Held w0 W (blkR g 25 (hashA (List.replicate 32 0)) :: L)) → Q .normal a' W) : (Code.region 1 (opsOf 1 Tryd.f64).toArray false).wp Tryd.prog Q a w := by
 refine wp_region_lit ?_
 (conv => arg 4; whnf)
 have S0 := Lib.hid (S.newBlk 25 (hashA (List.replicate 32 0)))
 go_wp2
 try simp only [Act.put]
 exact hend _ _ sS (⟨w.heap.size, sP0, S0.out⟩)
theorem ssm_r2 (g : Nat) (cs : Array Value) (hc : cs[73]? = some (.bool true)) (hb : Blk w g 134 cs) (hsz : a.tmps.size = 52) (o0 : Sl a 0 (.pointer (some ⟨g, 0, none⟩)))
 (hend : ∀ a', Same a a' [9, 10] → Sl a' 10 (.bool false) → Q .normal a' (w)) : (Code.region 2 (opsOf 2 Tryd.f64).toArray false).wp Tryd.prog Q a w := by
 refine wp_region_lit ?_
 (conv => arg 4; whnf)
 unfold Sl at o0
 have HR := Lib.hid (none_any g cs hc w hb)
 clear hb hc
 go_wp2_with fail
 refine HR.out.mono ?_
 rintro e w' ⟨rfl, rfl⟩
 go_wp2
 try simp only [Act.put]
 exact hend _ sS sP
theorem ssm_r4 (w0 : World) (g n : Nat) (st : List Nat) (blk : List UInt8) (hs : st.length = 8) (hb : blk.length = 64) (L1 L2 : List Res) (S : Held w0 w (L1 ++ blkR g 134 (shaC st blk n) :: L2)) (hsz : a.tmps.size = 52) (o0 : Sl a 0 (.pointer (some ⟨g, 0, none⟩)))
 (hend : ∀ a' W, Same a a' [12, 13, 14, 4] → (∃ g4, Sl a' 4 (.pointer (some ⟨g4, 0, none⟩)) ∧ Held w0 W (blkR g4 134 (shaC st blk n) :: (L1 ++ blkR g 134 (shaC st blk n) :: L2))) → Q .normal a' W) : (Code.region 4 (opsOf 4 Tryd.f64).toArray false).wp Tryd.prog Q a w := by
 refine wp_region_lit ?_
 (conv => arg 4; whnf)
 unfold Sl at o0
 have S := Lib.hid S
 have HS := Lib.hid hs
 have HB := Lib.hid hb
 clear hs hb
 obtain ⟨cs, hcs⟩ : ∃ cs, Hid (shaC st blk n = cs) := ⟨_, Lib.hid rfl⟩
 have hz := Lib.hid (shaC_size (n := n) HS.out HB.out)
 have h1 := Lib.hid (shaC_one st blk n)
 rw [hcs.out] at S hz h1
 go_wp2_with (first
  | (refine wpList_load_blk rfl 134 (.tmp 13) rfl g (by simp [Act.eval, Act.put, hsz, o0]) 134 _ S.out.at_ _ Tryd.underlying134 rfl (by rw [hz.out]; exact Tryd.infoSha) ?_)
  | (refine wpList_store_blk rfl 134 (.tmp 4) (.tmp 14) rfl w.heap.size (by simp [Act.eval, Act.put, hsz]) cs (by simp [Act.eval, Act.put, hsz]) 134 _ (Blk.new w 134 _) (by rw [hz.out]; exact Tryd.infoSha) (by rw [hz.out]; rfl) h1.out ?_; intro w7 b7 k7; have S7 := Lib.hid (Held.setBlk (l1 := []) (S.out.newBlk 134 _) b7 k7); clear b7 k7))
 rw [← hcs.out] at S7
 try simp only [Act.put]
 exact hend _ _ sS (⟨_, sP0, S7.out⟩)
theorem ssm_r5 (g n : Nat) (cs : Array Value) (hc : cs[72]? = some (.int .i64 (n : Int))) (hb : Blk w g 134 cs) (hn : n < 1152921504606846976) (hsz : a.tmps.size = 52) (o0 : Sl a 0 (.pointer (some ⟨g, 0, none⟩)))
 (hend : ∀ a', Same a a' [15, 16, 17, 18, 19, 20, 5] → Sl a' 5 (.int .u64 ((8 * n : Nat) : Int)) → Q .normal a' (w)) : (Code.region 5 (opsOf 5 Tryd.f64).toArray false).wp Tryd.prog Q a w := by
 refine wp_region_lit ?_
 (conv => arg 4; whnf)
 unfold Sl at o0
 have c1 : w.cell? ⟨g, 72, none⟩ = some (.int .i64 (n : Int)) := by rw [hb.cell]; exact hc
 have hw := Lib.hid (show ((n : Int) * 8) % 18446744073709551616 = ((8 * n : Nat) : Int) from by omega)
 have hn := Lib.hid hn
 clear hb hc
 go_wp2
 first | rw [hw.out] | skip
 try simp only [Act.put]
 exact hend _ sS sP
theorem ssm_r6 (w0 : World) (g4 : Nat) (m : List UInt8) (st : List Nat) (blk : List UInt8) (hU : Und m st blk) (hm : m.length + 1 < 4611686018427387904) (L : List Res) (S : Held w0 w (blkR g4 134 (shaC st blk m.length) :: L)) (hsz : a.tmps.size = 52) (o4 : Sl a 4 (.pointer (some ⟨g4, 0, none⟩)))
 (hend : ∀ a' W, Same a a' [21, 22] → (∃ st' blk', Und (m ++ [128]) st' blk' ∧ Held w0 W (blkR g4 134 (shaC st' blk' (m ++ [128]).length) :: L)) → Q .normal a' W) : (Code.region 6 (opsOf 6 Tryd.f64).toArray false).wp Tryd.prog Q a w := by
 refine wp_region_lit ?_
 (conv => arg 4; whnf)
 unfold Sl at o4
 have S := Lib.hid S
 have hU := Lib.hid hU
 have Hm := Lib.hid hm
 clear hm
 go_wp2_with fail
 refine (take_any w0 g4 m [128] st blk hU.out (by simp; exact Hm.out) _ (rowR 5 1 (.slice (some ⟨w.heap.size, 0, none⟩) 1 1) 1 (bv [128]) :: L) _ (fun V cs SV => Rd.of_own (SV.at_ (l1 := [_]))) ?_).mono ?_
 · refine (Held.perm ?_ (List.Perm.swap _ _ _))
   exact S.out.rownew (ow_new w 5 1 1 #[.int .u8 128] rfl (by decide)) ((Kp.refl [] w).alloc _) (fun g hg => Nat.le_of_eq (Option.some.inj hg))
 rintro e w2 ⟨rfl, st2, blk2, U2, S2⟩
 have S2 := Lib.hid (S2.dropAt (l1 := [_]))
 go_wp2
 try simp only [Act.put]
 exact hend _ _ sS (⟨st2, blk2, U2, S2.out⟩)
theorem ssm_r8 (w0 : World) (g4 : Nat) (m : List UInt8) (st : List Nat) (blk : List UInt8) (hU : Und m st blk) (hm : m.length + 1 < 4611686018427387904) (L : List Res) (S : Held w0 w (blkR g4 134 (shaC st blk m.length) :: L)) (hsz : a.tmps.size = 52) (o4 : Sl a 4 (.pointer (some ⟨g4, 0, none⟩)))
 (hend : ∀ a' W, Same a a' [27, 28] → (∃ st' blk', Und (m ++ [0]) st' blk' ∧ Held w0 W (blkR g4 134 (shaC st' blk' (m ++ [0]).length) :: L)) → Q .normal a' W) : (Code.region 8 (opsOf 8 Tryd.f64).toArray false).wp Tryd.prog Q a w := by
 refine wp_region_lit ?_
 (conv => arg 4; whnf)
 unfold Sl at o4
 have S := Lib.hid S
 have hU := Lib.hid hU
 have Hm := Lib.hid hm
 clear hm
 go_wp2_with fail
 refine (take_any w0 g4 m [0] st blk hU.out (by simp; exact Hm.out) _ (rowR 5 1 (.slice (some ⟨w.heap.size, 0, none⟩) 1 1) 1 (bv [0]) :: L) _ (fun V cs SV => Rd.of_own (SV.at_ (l1 := [_]))) ?_).mono ?_
 · refine (Held.perm ?_ (List.Perm.swap _ _ _))
   exact S.out.rownew (ow_new w 5 1 1 #[.int .u8 0] rfl (by decide)) ((Kp.refl [] w).alloc _) (fun g hg => Nat.le_of_eq (Option.some.inj hg))
 rintro e w2 ⟨rfl, st2, blk2, U2, S2⟩
 have S2 := Lib.hid (S2.dropAt (l1 := [_]))
 go_wp2
 try simp only [Act.put]
 exact hend _ _ sS (⟨st2, blk2, U2, S2.out⟩)
theorem ssm_r12 (w0 : World) (g4 : Nat) (m : List UInt8) (st : List Nat) (blk : List UInt8) (b : UInt8) (hU : Und m st blk) (hm : m.length + 1 < 4611686018427387904) (L : List Res) (S : Held w0 w (blkR g4 134 (shaC st blk m.length) :: L)) (N i : Nat) (hi : i ≤ 56) (hb : b = UInt8.ofNat (N / 2 ^ i)) (hsz : a.tmps.size = 52) (o4 : Sl a 4 (.pointer (some ⟨g4, 0, none⟩))) (o5 : Sl a 5 (.int .u64 (N : Int))) (o6 : Sl a 6 (.int .i64 (i : Int)))
 (hend : ∀ a' W, Same a a' [33, 34, 35, 36, 37, 38] → (∃ st' blk', Und (m ++ [b]) st' blk' ∧ Held w0 W (blkR g4 134 (shaC st' blk' (m ++ [b]).length) :: L)) → Q .normal a' W) : (Code.region 12 (opsOf 12 Tryd.f64).toArray false).wp Tryd.prog Q a w := by
 refine wp_region_lit ?_
 (conv => arg 4; whnf)
 unfold Sl at o4 o5 o6
 have S := Lib.hid S
 have hU := Lib.hid hU
 have Hm := Lib.hid hm
 clear hm
 have hbv : Hid (((N : Int) / 2 ^ i) % 256 = (b.toNat : Int)) := Lib.hid (by rw [hb, UInt8.toNat_ofNat', Int.natCast_emod, Int.natCast_ediv, Int.natCast_pow]; rfl)
 clear hb
 go_wp2_with fail
 rw [hbv.out]
 refine (take_any w0 g4 m [b] st blk hU.out (by simp; exact Hm.out) _ (rowR 5 1 (.slice (some ⟨w.heap.size, 0, none⟩) 1 1) 1 (bv [b]) :: L) _ (fun V cs SV => Rd.of_own (SV.at_ (l1 := [_]))) ?_).mono ?_
 · refine (Held.perm ?_ (List.Perm.swap _ _ _))
   exact S.out.rownew (ow_new w 5 1 1 #[.int .u8 (b.toNat : Int)] rfl (by decide)) ((Kp.refl [] w).alloc _) (fun g hg => Nat.le_of_eq (Option.some.inj hg))
 rintro e w2 ⟨rfl, st2, blk2, U2, S2⟩
 have S2 := Lib.hid (S2.dropAt (l1 := [_]))
 go_wp2
 try simp only [Act.put]
 exact hend _ _ sS (⟨st2, blk2, U2, S2.out⟩)
theorem ssm_r7 (g4 n : Nat) (cs : Array Value) (hc : cs[72]? = some (.int .i64 (n : Int))) (hb : Blk w g4 134 cs) (hsz : a.tmps.size = 52) (o4 : Sl a 4 (.pointer (some ⟨g4, 0, none⟩)))
 (hend : ∀ a', Same a a' [23, 24, 25, 26] → Sl a' 26 (.bool (((n % 64 : Nat) : Int) != 56)) → Q .normal a' (w)) : (Code.region 7 (opsOf 7 Tryd.f64).toArray false).wp Tryd.prog Q a w := by
 refine wp_region_lit ?_
 (conv => arg 4; whnf)
 unfold Sl at o4
 have c1 : w.cell? ⟨g4, 72, none⟩ = some (.int .i64 (n : Int)) := by rw [hb.cell]; exact hc
 have ht : Int.tmod (n : Int) 64 = ((n % 64 : Nat) : Int) := rfl
 have hd : (((n % 64 : Nat) : Int) == 56) = decide (n % 64 = 56) := by rw [Bool.eq_iff_iff, beq_iff_eq, decide_eq_true_iff]; omega
 obtain ⟨q, hq⟩ : ∃ q, n % 64 = q := ⟨_, rfl⟩
 rw [hq] at ht hd hend
 have hq := Lib.hid hq
 clear hb hc
 go_wp2_with fail
 try simp only [Act.put]
 exact hend _ sS sP
theorem ssm_r9  (hsz : a.tmps.size = 52) 
 (hend : ∀ a', Same a a' [6] → Sl a' 6 (.int .i64 ((56 : Nat) : Int)) → Q .normal a' (w)) : (Code.region 9 (opsOf 9 Tryd.f64).toArray false).wp Tryd.prog Q a w := by
 refine wp_region_lit ?_
 (conv => arg 4; whnf)
 go_wp2_with fail
 try simp only [Act.put]
 exact hend _ sS sP
theorem ssm_r10 (z : Int) (hsz : a.tmps.size = 52) (o6 : Sl a 6 (.int .i64 z))
 (hend : ∀ a', Same a a' [29, 30] → Sl a' 30 (.bool (decide (0 ≤ z))) → Q .normal a' (w)) : (Code.region 10 (opsOf 10 Tryd.f64).toArray false).wp Tryd.prog Q a w := by
 refine wp_region_lit ?_
 (conv => arg 4; whnf)
 unfold Sl at o6
 go_wp2_with fail
 try simp only [Act.put]
 exact hend _ sS sP
theorem ssm_r11 (z : Int) (hz : -100 ≤ z ∧ z ≤ 100) (hsz : a.tmps.size = 52) (o6 : Sl a 6 (.int .i64 z))
 (hend : ∀ a', Same a a' [31, 32, 6] → Sl a' 6 (.int .i64 (z - 8)) → Q .normal a' (w)) : (Code.region 11 (opsOf 11 Tryd.f64).toArray false).wp Tryd.prog Q a w := by
 refine wp_region_lit ?_
 (conv => arg 4; whnf)
 unfold Sl at o6
 have hw : wrap64 (z - 8) = z - 8 := by unfold wrap64; omega
 go_wp2_with fail
 try simp only [Act.put]
 exact hend _ sS sP
theorem ssm_r13 (w0 : World) (g n : Nat) (st : List Nat) (blk : List UInt8) (hs : st.length = 8) (hb : blk.length = 64) (L : List Res) (S : Held w0 w (blkR g 134 (shaC st blk n) :: L)) (hsz : a.tmps.size = 52) (o4 : Sl a 4 (.pointer (some ⟨g, 0, none⟩)))
 (hend : ∀ a', Same a a' [39, 40, 41] → Sl a' 40 (.agg (u32A st)) → Sl a' 41 (.int .i64 ((0 : Nat) : Int)) → Q .normal a' (w)) : (Code.region 13 (opsOf 13 Tryd.f64).toArray false).wp Tryd.prog Q a w := by
 refine wp_region_lit ?_
 (conv => arg 4; whnf)
 unfold Sl at o4
 have S := Lib.hid S
 have HS := Lib.hid hs
 clear hs hb
 go_wp2_with (refine wpList_load_agg rfl 111 (.tmp 39) rfl ⟨g, 0, none⟩ (by simp [Act.eval, Act.put, hsz]) (u32A st).toList _ (sha_stateAt (S.out.at_ (l1 := [])) HS.out) Tryd.underlying111 rfl (by rw [Array.length_toList, u32A_size, HS.out]; exact Tryd.info8w) ?_)
 try simp only [Act.put]
 exact hend _ sS sP sP
theorem ssm_r14 (k : Nat) (hsz : a.tmps.size = 52) (o41 : Sl a 41 (.int .i64 (k : Int)))
 (hend : ∀ a', Same a a' [42] → Sl a' 42 (.bool (decide ((k : Int) < 8))) → Q .normal a' (w)) : (Code.region 14 (opsOf 14 Tryd.f64).toArray false).wp Tryd.prog Q a w := by
 refine wp_region_lit ?_
 (conv => arg 4; whnf)
 unfold Sl at o41
 go_wp2_with fail
 try simp only [Act.put]
 exact hend _ sS sP
theorem ssm_r15 (k x : Nat) (st : List Nat) (hk : k < 8) (hs : st.length = 8) (hx : st[k]? = some x) (hsz : a.tmps.size = 52) (o40 : Sl a 40 (.agg (u32A st))) (o41 : Sl a 41 (.int .i64 (k : Int)))
 (hend : ∀ a', Same a a' [43, 44, 7, 8] → Sl a' 7 (.int .i64 (k : Int)) → Sl a' 8 (.int .u32 (x : Int)) → Q .normal a' (w)) : (Code.region 15 (opsOf 15 Tryd.f64).toArray false).wp Tryd.prog Q a w := by
 refine wp_region_lit ?_
 (conv => arg 4; whnf)
 unfold Sl at o40 o41
 have hr : (Instr.index 111 (.agg (u32A st)) (.int .i64 (k : Int))).run Tryd.prog w = .ok (.int .u32 (x : Int)) w := run_index_u32 w 111 110 8 st .i64 (k : Int) k x rfl hx hs Tryd.underlying111 Tryd.underlying110 (by kernel_rfl)
 obtain ⟨ca, hca⟩ : ∃ ca, u32A st = ca := ⟨_, rfl⟩
 rw [hca] at hr o40
 clear hca
 go_wp2_with fail
 try simp only [Act.put]
 exact hend _ sS sP sP
theorem ssm_r16 (w0 : World) (g3 : Nat) (cs : List UInt8) (hl : cs.length = 32) (k x : Nat) (hk : k < 8) (L1 L : List Res) (S : Held w0 w (L1 ++ blkR g3 25 (hashA cs) :: L)) (hsz : a.tmps.size = 52) (o3 : Sl a 3 (.pointer (some ⟨g3, 0, none⟩))) (o7 : Sl a 7 (.int .i64 (k : Int))) (o8 : Sl a 8 (.int .u32 (x : Int)))
 (hend : ∀ a' W, Same a a' [45, 46, 47, 48, 49] → (Held w0 W (L1 ++ blkR g3 25 (hashA (lay cs (4 * k) (be 4 x))) :: L)) → Q .normal a' W) : (Code.region 16 (opsOf 16 Tryd.f64).toArray false).wp Tryd.prog Q a w := by
 refine wp_region_lit ?_
 (conv => arg 4; whnf)
 unfold Sl at o3 o7 o8
 have hsl := Tryd.slice32at g3 w (4 * k) (4 * (k : Int)) (by omega) (by omega)
 have HR := Lib.hid (put_any w0 g3 25 cs (4 * k) (32 - 4 * k) (32 - 4 * k) x (by omega) (by omega) (L1 ++ L) w (S.perm List.perm_middle))
 clear S
 go_wp2_with fail
 refine HR.out.mono ?_
 rintro e w2 ⟨rfl, S2⟩
 have S2 := Lib.hid (S2.perm List.perm_middle.symm)
 go_wp2
 try simp only [Act.put]
 exact hend _ _ sS (S2.out)
theorem ssm_r17 (k : Nat) (hk : k < 8) (hsz : a.tmps.size = 52) (o41 : Sl a 41 (.int .i64 (k : Int)))
 (hend : ∀ a', Same a a' [50, 41] → Sl a' 41 (.int .i64 ((k + 1 : Nat) : Int)) → Q .normal a' (w)) : (Code.region 17 (opsOf 17 Tryd.f64).toArray false).wp Tryd.prog Q a w := by
 refine wp_region_lit ?_
 (conv => arg 4; whnf)
 unfold Sl at o41
 go_wp2_with fail
 try simp only [Act.put]
 exact hend _ sS sP
theorem ssm_r18 (w0 : World) (g3 g2 : Nat) (cs c2 : List UInt8) (hl : cs.length = 32) (h2 : c2.length = 32) (L1 L2 L3 : List Res) (S : Held w0 w (L1 ++ blkR g3 25 (hashA cs) :: (L2 ++ blkR g2 25 (hashA c2) :: L3))) (hsz : a.tmps.size = 52) (o2 : Sl a 2 (.pointer (some ⟨g2, 0, none⟩))) (o3 : Sl a 3 (.pointer (some ⟨g3, 0, none⟩)))
 (hend : ∀ a' W, Same a a' [51] → (Held w0 W ((L1 ++ blkR g3 25 (hashA cs) :: L2) ++ blkR g2 25 (hashA cs) :: L3)) → Q .normal a' W) : (Code.region 18 (opsOf 18 Tryd.f64).toArray false).wp Tryd.prog Q a w := by
 refine wp_region_lit ?_
 (conv => arg 4; whnf)
 unfold Sl at o2 o3
 have S := Lib.hid S
 have HL := Lib.hid hl
 have H2 := Lib.hid h2
 clear hl h2
 have S' : Hid (Held w0 w ((L1 ++ blkR g3 25 (hashA cs) :: L2) ++ blkR g2 25 (hashA c2) :: L3)) := Lib.hid (by have := S.out; simpa [List.append_assoc] using this)
 go_wp2_with (first
  | (refine wpList_load_blk rfl 25 (.tmp 3) rfl g3 (by simp [Act.eval, Act.put, hsz, o3]) 25 _ S.out.at_ _ Tryd.underlying25 rfl (by rw [hashA_size, HL.out]; exact Tryd.infoHashP) ?_)
  | (refine wpList_store_blk rfl 25 (.tmp 2) (.tmp 51) rfl g2 (by simp [Act.eval, Act.put, hsz, o2]) (hashA cs) (by simp [Act.eval, Act.put, hsz]) 25 _ S'.out.at_ (by rw [hashA_size, HL.out]; exact Tryd.infoHashP) (by rw [hashA_size, hashA_size, HL.out, H2.out]) (hashA_one cs) ?_; intro w7 b7 k7; have S7 := Lib.hid (Held.setBlk S'.out b7 k7); clear b7 k7))
 try simp only [Act.put]
 exact hend _ _ sS (S7.out)
end
/- (*Sha).Sum, whole; sha.Sum. -/
section
open Go.RowKit
def dsSm0 : List Nat := [23, 24, 25, 26, 27, 28]
def dsSm1 : List Nat := [6, 29, 30, 31, 32, 33, 34, 35, 36, 37, 38]
def dsSm2 : List Nat := [7, 8, 41, 42, 43, 44, 45, 46, 47, 48, 49, 50]
theorem padZ_le (n j : Nat) (h : (n + 1 + j) % 64 ≠ 56) (hj : j ≤ padZ n) : j < padZ n := by
 unfold padZ at *
 omega
theorem padZ_end (n j : Nat) (h : (n + 1 + j) % 64 = 56) (hj : j ≤ padZ n) : j = padZ n := by
 unfold padZ at *
 omega
theorem ssm_l0 {Q : Exit → Act → World → Prop} {a : Act} {w0 w : World} (g4 : Nat) (m : List UInt8) (st : List Nat) (blk : List UInt8) (hU : Und (m ++ [128]) st blk) (hm : m.length < 1152921504606846976) (L : List Res) (hsz : a.tmps.size = 52) (o4 : Sl a 4 (.pointer (some ⟨g4, 0, none⟩)))
 (S : Held w0 w (blkR g4 134 (shaC st blk (m ++ [128]).length) :: L))
 (hend : ∀ (a' : Act) (W : World) (st : List Nat) (blk : List UInt8), Same a a' dsSm0 → Und (m ++ [128] ++ List.replicate (padZ m.length) 0) st blk → Held w0 W (blkR g4 134 (shaC st blk (m ++ [128] ++ List.replicate (padZ m.length) 0).length) :: L) → Q .normal a' W) :
 (Code.block 0 (blockOf 0 Tryd.f64)).wp Tryd.prog Q a w := by
 refine wp_block ?_
 (conv => arg 2; whnf)
 obtain ⟨M, hM⟩ : ∃ M : Act → World → Nat, M = fun _ w' => padZ m.length - (match w'.cell? ⟨g4, 72, none⟩ with | some v => (intOf v).toNat - (m.length + 1) | none => 0) := ⟨_, rfl⟩
 refine wp_loop (fun a' w' => ∃ (j : Nat) (st : List Nat) (blk : List UInt8), j ≤ padZ m.length ∧ Same a a' dsSm0 ∧ Und (m ++ [128] ++ List.replicate j 0) st blk ∧ Held w0 w' (blkR g4 134 (shaC st blk (m ++ [128] ++ List.replicate j 0).length) :: L)) M ⟨0, st, blk, Nat.zero_le _, Same.refl _ _, by rw [List.replicate_zero, List.append_nil]; exact hU, by rw [List.replicate_zero, List.append_nil]; exact S⟩ ?_
 clear hU S
 rintro a1 w1 ⟨j, st, blk, hj, T, hU, S⟩
 have o4 := T.keep 4 _ (by decide) o4
 have hz1 := T.size.trans hsz
 have hpz := (padZ_spec m.length).2
 have hl : (m ++ [128] ++ List.replicate j 0).length = m.length + 1 + j := by simp; omega
 have hM1 : ∀ (a' : Act) (W : World) (st : List Nat) (blk : List UInt8) (j : Nat), st.length = 8 → blk.length = 64 → Held w0 W (blkR g4 134 (shaC st blk (m ++ [128] ++ List.replicate j 0).length) :: L) → M a' W = padZ m.length - j := by
  intro a' W st blk j h8 h64 S
  rw [hM]
  show padZ m.length - (match W.cell? ⟨g4, 72, none⟩ with | some v => (intOf v).toNat - (m.length + 1) | none => 0) = _
  rw [(S.at_ (l1 := [])).cell, shaC_len h8 h64]
  simp [intOf]
  omega
 refine wp_seq (wp_seq (ssm_r7 g4 _ _ (shaC_len hU.len8 hU.len) (S.at_ (l1 := [])) hz1 o4 (fun a2 hs2 o26 => ?_)))
 have hz2 := hs2.size.trans hz1; have o4 := hs2.k o4
 have T := T.trans hs2
 rw [hl] at o26
 by_cases hlt : (m.length + 1 + j) % 64 = 56
 · refine wp_cond_false ((o26.eval (by rw [hz2]; decide)).trans (by rw [hlt]; rfl)) (wp_exit ?_)
   obtain rfl := padZ_end _ _ hlt hj
   exact hend _ _ st blk (T.more (by decide +kernel)) hU S
 · refine wp_cond_true ((o26.eval (by rw [hz2]; decide)).trans (by rw [show ((((m.length + 1 + j) % 64 : Nat) : Int) != 56) = true from by rw [bne_iff_ne]; omega])) (wp_skip ?_)
   have hjl := padZ_le _ _ hlt hj
   refine wp_block ?_
   refine ssm_r8 w0 g4 _ st blk hU (by rw [hl]; omega) L S hz2 o4 (fun a3 w2 hs3 h => ?_)
   have hz3 := hs3.size.trans hz2; have o4 := hs3.k o4; have o26 := hs3.k o26
   have T := T.trans hs3
   obtain ⟨st2, blk2, U2, S2⟩ := h
   have e : m ++ [128] ++ List.replicate j 0 ++ [0] = m ++ [128] ++ List.replicate (j + 1) 0 := by rw [List.append_assoc, ← List.replicate_succ']
   rw [e] at U2 S2
   refine ⟨⟨j + 1, st2, blk2, hjl, T.more (by decide +kernel), U2, S2⟩, ?_⟩
   show M _ _ < M _ _
   rw [hM1 _ _ _ _ _ U2.len8 U2.len S2, hM1 a1 w1 _ _ _ hU.len8 hU.len S]
   omega
theorem be8_take (N r : Nat) (h : r < 8) : (be 8 N).take (r + 1) = (be 8 N).take r ++ [UInt8.ofNat (N / 2 ^ (56 - 8 * r))] := by
 rcases (by omega : r = 0 ∨ r = 1 ∨ r = 2 ∨ r = 3 ∨ r = 4 ∨ r = 5 ∨ r = 6 ∨ r = 7) with rfl | rfl | rfl | rfl | rfl | rfl | rfl | rfl <;> rfl
theorem ssm_l1 {Q : Exit → Act → World → Prop} {a : Act} {w0 w : World} (g4 : Nat) (m : List UInt8) (N : Nat) (st : List Nat) (blk : List UInt8) (hU : Und m st blk) (hm : m.length + 8 < 4611686018427387904) (L : List Res) (hsz : a.tmps.size = 52) (o4 : Sl a 4 (.pointer (some ⟨g4, 0, none⟩))) (o5 : Sl a 5 (.int .u64 (N : Int))) (o6 : Sl a 6 (.int .i64 ((56 : Nat) : Int)))
 (S : Held w0 w (blkR g4 134 (shaC st blk m.length) :: L))
 (hend : ∀ (a' : Act) (W : World) (st : List Nat) (blk : List UInt8), Same a a' dsSm1 → Und (m ++ be 8 N) st blk → Held w0 W (blkR g4 134 (shaC st blk (m ++ be 8 N).length) :: L) → Q .normal a' W) :
 (Code.block 2 (blockOf 2 Tryd.f64)).wp Tryd.prog Q a w := by
 refine wp_block ?_
 (conv => arg 2; whnf)
 refine wp_loop (fun a' w' => ∃ (r : Nat) (st : List Nat) (blk : List UInt8), r ≤ 8 ∧ Same a a' dsSm1 ∧ Sl a' 6 (.int .i64 (56 - 8 * (r : Int))) ∧ Und (m ++ (be 8 N).take r) st blk ∧ Held w0 w' (blkR g4 134 (shaC st blk (m ++ (be 8 N).take r).length) :: L)) (fun a' _ => (intOf (a'.eval (.tmp 6)) + 8).toNat) ⟨0, st, blk, Nat.zero_le _, Same.refl _ _, o6, by rw [List.take_zero, List.append_nil]; exact hU, by rw [List.take_zero, List.append_nil]; exact S⟩ ?_
 clear hU S o6
 rintro a1 w1 ⟨r, st, blk, hr, T, o6, hU, S⟩
 have o4 := T.keep 4 _ (by decide) o4
 have o5 := T.keep 5 _ (by decide) o5
 have hz1 := T.size.trans hsz
 have eCtr := o6.eval (by rw [hz1]; decide)
 have hl : (m ++ (be 8 N).take r).length = m.length + r := by rw [List.length_append, List.length_take, be_length]; omega
 refine wp_seq (wp_seq (ssm_r10 _ hz1 o6 (fun a2 hs2 o30 => ?_)))
 have hz2 := hs2.size.trans hz1; have o4 := hs2.k o4; have o5 := hs2.k o5; have o6 := hs2.k o6
 have T := T.trans hs2
 by_cases hlt : r < 8
 · refine wp_cond_true ((o30.eval (by rw [hz2]; decide)).trans (by rw [decide_eq_true (by omega)])) (wp_skip ?_)
   have e6 : (56 - 8 * (r : Int)) = (((56 - 8 * r : Nat)) : Int) := by omega
   have o6' := o6
   rw [e6] at o6'
   refine wp_seq (wp_block ?_)
   refine ssm_r12 w0 g4 _ st blk _ hU (by rw [hl]; omega) L S N (56 - 8 * r) (by omega) rfl hz2 o4 o5 o6' (fun a3 w2 hs3 h => ?_)
   have hz3 := hs3.size.trans hz2; have o4 := hs3.k o4; have o5 := hs3.k o5; have o6 := hs3.k o6; have o30 := hs3.k o30
   have T := T.trans hs3
   obtain ⟨st2, blk2, U2, S2⟩ := h
   rw [List.append_assoc, ← be8_take N r hlt] at U2 S2
   refine ssm_r11 _ (by omega) hz3 o6 (fun a4 hs4 o6 => ?_)
   have hz4 := hs4.size.trans hz3; have o4 := hs4.k o4; have o5 := hs4.k o5; have o30 := hs4.k o30
   have T := T.trans hs4
   have e7 : (56 - 8 * (r : Int)) - 8 = 56 - 8 * ((r + 1 : Nat) : Int) := by omega
   rw [e7] at o6
   refine ⟨⟨r + 1, st2, blk2, by omega, T.more (by decide +kernel), o6, U2, S2⟩, ?_⟩
   show (intOf (_) + 8).toNat < (intOf (_) + 8).toNat
   rw [eCtr, o6.eval (by rw [hz4]; decide)]
   show (56 - 8 * ((r + 1 : Nat) : Int) + 8).toNat < (56 - 8 * (r : Int) + 8).toNat
   omega
 · obtain rfl : r = 8 := by omega
   refine wp_cond_false ((o30.eval (by rw [hz2]; decide)).trans (by rw [decide_eq_false (by omega)])) (wp_exit ?_)
   rw [List.take_of_length_le (by simp)] at hU S
   exact hend _ _ st blk (T.more (by decide +kernel)) hU S
def layW (st : List Nat) (k : Nat) : List UInt8 := (st.take k).flatMap (be 4) ++ List.replicate (32 - 4 * k) 0
theorem flat4 (l : List Nat) : (l.flatMap (be 4)).length = 4 * l.length := by
 induction l with
 | nil => rfl
 | cons a l ih => rw [List.flatMap_cons, List.length_append, ih, be_length, List.length_cons]; omega
theorem layW_length {st : List Nat} (hs : st.length = 8) {k : Nat} (hk : k ≤ 8) : (layW st k).length = 32 := by
 unfold layW
 rw [List.length_append, flat4, List.length_take, List.length_replicate]; omega
theorem layW_next {st : List Nat} (hs : st.length = 8) {k x : Nat} (hk : k < 8) (hx : st[k]? = some x) : lay (layW st k) (4 * k) (be 4 x) = layW st (k + 1) := by
 have h1 : ((st.take k).flatMap (be 4)).length = 4 * k := by rw [flat4, List.length_take]; omega
 unfold lay layW
 rw [List.take_left' h1, List.drop_append, List.drop_of_length_le (by rw [h1, be_length]; omega), List.nil_append, h1, be_length, List.drop_replicate, List.take_add_one, hx]
 simp only [Option.toList_some, List.flatMap_append, List.flatMap_cons, List.flatMap_nil, List.append_nil]
 congr 2
 omega
theorem ssm_l2 {Q : Exit → Act → World → Prop} {a : Act} {w0 w : World} (g3 : Nat) (st : List Nat) (hs : st.length = 8) (L1 L : List Res) (hsz : a.tmps.size = 52) (o3 : Sl a 3 (.pointer (some ⟨g3, 0, none⟩))) (o40 : Sl a 40 (.agg (u32A st))) (o41 : Sl a 41 (.int .i64 ((0 : Nat) : Int)))
 (S : Held w0 w (L1 ++ blkR g3 25 (hashA (List.replicate 32 0)) :: L))
 (hend : ∀ a' W, Same a a' dsSm2 → Held w0 W (L1 ++ blkR g3 25 (hashA (st.flatMap (be 4))) :: L) → Q .normal a' W) :
 (Code.block 4 (blockOf 4 Tryd.f64)).wp Tryd.prog Q a w := by
 refine wp_block ?_
 (conv => arg 2; whnf)
 refine wp_loop (fun a' w' => ∃ k : Nat, k ≤ 8 ∧ Same a a' dsSm2 ∧ Sl a' 41 (.int .i64 (k : Int)) ∧ Held w0 w' (L1 ++ blkR g3 25 (hashA (layW st k)) :: L)) (fun a' _ => 8 - (intOf (a'.eval (.tmp 41))).toNat) ⟨0, Nat.zero_le _, Same.refl _ _, o41, S⟩ ?_
 clear S o41
 rintro a1 w1 ⟨k, hk, T, o41, S⟩
 have o3 := T.keep 3 _ (by decide) o3
 have o40 := T.keep 40 _ (by decide) o40
 have hz1 := T.size.trans hsz
 have eCtr := o41.eval (by rw [hz1]; decide)
 refine wp_seq (ssm_r14 k hz1 o41 (fun a2 hs2 o42 => ?_))
 have hz2 := hs2.size.trans hz1; have o3 := hs2.k o3; have o40 := hs2.k o40; have o41 := hs2.k o41
 have T := T.trans hs2
 by_cases hlt : k < 8
 · refine wp_seq (wp_cond_true ((o42.eval (by rw [hz2]; decide)).trans (by rw [decide_eq_true (by omega)])) (wp_skip ?_))
   obtain ⟨x, hx⟩ : ∃ x, st[k]? = some x := ⟨_, List.getElem?_eq_getElem (by omega)⟩
   refine wp_seq (wp_block ?_)
   refine wp_seq (ssm_r15 k x st hlt hs hx hz2 o40 o41 (fun a3 hs3 o7 o8 => ?_))
   have hz3 := hs3.size.trans hz2; have o3 := hs3.k o3; have o40 := hs3.k o40; have o41 := hs3.k o41; have o42 := hs3.k o42
   have T := T.trans hs3
   refine ssm_r16 w0 g3 _ (layW_length hs hk) k x hlt L1 L S hz3 o3 o7 o8 (fun a4 w2 hs4 S => ?_)
   have hz4 := hs4.size.trans hz3; have o3 := hs4.k o3; have o40 := hs4.k o40; have o41 := hs4.k o41; have o42 := hs4.k o42; have o7 := hs4.k o7; have o8 := hs4.k o8
   have T := T.trans hs4
   rw [layW_next hs hlt hx] at S
   refine ssm_r17 k hlt hz4 o41 (fun a5 hs5 o41 => ?_)
   have hz5 := hs5.size.trans hz4; have o3 := hs5.k o3; have o40 := hs5.k o40; have o42 := hs5.k o42; have o7 := hs5.k o7; have o8 := hs5.k o8
   have T := T.trans hs5
   refine ⟨⟨k + 1, by omega, T.more (by decide +kernel), o41, S⟩, ?_⟩
   show 8 - (intOf _).toNat < 8 - (intOf _).toNat
   rw [eCtr, o41.eval (by rw [hz5]; decide)]
   simp [intOf]; omega
 · obtain rfl : k = 8 := by omega
   refine wp_seq (wp_cond_false ((o42.eval (by rw [hz2]; decide)).trans (by rw [decide_eq_false (by omega)])) (wp_exit ?_))
   have e : layW st 8 = st.flatMap (be 4) := by unfold layW; rw [List.take_of_length_le (by omega)]; simp
   rw [e] at S
   exact hend _ _ (T.more (by decide +kernel)) S
theorem ssum_any (w0 : World) (g : Nat) (m : List UInt8) (st : List Nat) (blk : List UInt8) (hU : Und m st blk) (hm : m.length < 1152921504606846976) (L : List Res) (w : World) (S : Held w0 w (blkR g 134 (shaC st blk m.length) :: L)) :
 Calls Tryd.prog 64 #[.pointer (some ⟨g, 0, none⟩)] w fun e w' => e = .returned (.agg (hashA (shaF m))) ∧ Held w0 w' (blkR g 134 (shaC st blk m.length) :: L) := by
 refine calls_fr Tryd.func64 rfl 52 rfl (fun a0 hsz hdf hAr => ?_)
 have hz0 : a0.tmps.size = 52 := hsz
 have D := hdf
 have o0 := hAr 0 _ rfl
 refine wp_seq (ssm_r0 w0 _ S hz0 (fun a1 w1 hs1 h => ?_))
 have hz1 := hs1.size.trans hz0; have o0 := hs1.k o0; have D := hs1.defers.trans D
 obtain ⟨g2, o2, S⟩ := h
 refine wp_seq (ssm_r1 w0 _ S hz1 (fun a2 w2 hs2 h => ?_))
 have hz2 := hs2.size.trans hz1; have o0 := hs2.k o0; have o2 := hs2.k o2; have D := hs2.defers.trans D
 obtain ⟨g3, o3, S⟩ := h
 refine wp_seq (wp_seq (ssm_r2 g _ (shaC_made hU.len8 hU.len) (S.at_ (l1 := [_, _])) hz2 o0 (fun a3 hs3 o10 => ?_)))
 have hz3 := hs3.size.trans hz2; have o0 := hs3.k o0; have o2 := hs3.k o2; have o3 := hs3.k o3; have D := hs3.defers.trans D
 refine wp_cond_false (o10.eval (by rw [hz3]; decide)) (wp_skip ?_)
 refine wp_seq (ssm_r4 w0 g _ st blk hU.len8 hU.len [_, _] _ S hz3 o0 (fun a4 w4 hs4 h => ?_))
 have hz4 := hs4.size.trans hz3; have o0 := hs4.k o0; have o2 := hs4.k o2; have o3 := hs4.k o3; have D := hs4.defers.trans D
 obtain ⟨g4, o4, S⟩ := h
 refine wp_seq (ssm_r5 g _ _ (shaC_len hU.len8 hU.len) (S.at_ (l1 := [_, _, _])) hm hz4 o0 (fun a5 hs5 o5 => ?_))
 have hz5 := hs5.size.trans hz4; have o0 := hs5.k o0; have o2 := hs5.k o2; have o3 := hs5.k o3; have o4 := hs5.k o4; have D := hs5.defers.trans D
 refine wp_seq (ssm_r6 w0 g4 m st blk hU (by omega) _ S hz5 o4 (fun a6 w6 hs6 h => ?_))
 have hz6 := hs6.size.trans hz5; have o0 := hs6.k o0; have o2 := hs6.k o2; have o3 := hs6.k o3; have o4 := hs6.k o4; have o5 := hs6.k o5; have D := hs6.defers.trans D
 obtain ⟨st1, blk1, U1, S⟩ := h
 refine wp_seq (ssm_l0 g4 m st1 blk1 U1 hm _ hz6 o4 S (fun a7 w7 st2 blk2 hs7 U2 S => ?_))
 have hz7 := hs7.size.trans hz6; have o0 := hs7.k o0; have o2 := hs7.k o2; have o3 := hs7.k o3; have o4 := hs7.k o4; have o5 := hs7.k o5; have D := hs7.defers.trans D
 have hpz := (padZ_spec m.length).2
 have hl2 : (m ++ [128] ++ List.replicate (padZ m.length) 0).length = m.length + 1 + padZ m.length := by simp; omega
 refine wp_seq (wp_seq (ssm_r9 hz7 (fun a8 hs8 o6 => ?_)))
 have hz8 := hs8.size.trans hz7; have o0 := hs8.k o0; have o2 := hs8.k o2; have o3 := hs8.k o3; have o4 := hs8.k o4; have o5 := hs8.k o5; have D := hs8.defers.trans D
 refine ssm_l1 g4 _ (8 * m.length) st2 blk2 U2 (by omega) _ hz8 o4 o5 o6 S (fun a9 w9 st3 blk3 hs9 U3 S => ?_)
 have hz9 := hs9.size.trans hz8; have o0 := hs9.k o0; have o2 := hs9.k o2; have o3 := hs9.k o3; have o4 := hs9.k o4; have o5 := hs9.k o5; have D := hs9.defers.trans D
 have ep : m ++ [128] ++ List.replicate (padZ m.length) 0 ++ be 8 (8 * m.length) = pad m := by unfold pad; simp only [List.append_assoc, List.cons_append, List.nil_append]
 rw [ep] at U3 S
 have h8 := U3.len8
 have h64 := U3.len
 refine wp_seq (wp_seq (ssm_r13 w0 g4 _ st3 blk3 h8 h64 _ S hz9 o4 (fun a10 hs10 o40 o41 => ?_)))
 have hz10 := hs10.size.trans hz9; have o0 := hs10.k o0; have o2 := hs10.k o2; have o3 := hs10.k o3; have o4 := hs10.k o4; have o5 := hs10.k o5; have D := hs10.defers.trans D
 refine ssm_l2 g3 st3 h8 [_] _ hz10 o3 o40 o41 S (fun a11 w11 hs11 S => ?_)
 have hz11 := hs11.size.trans hz10; have o0 := hs11.k o0; have o2 := hs11.k o2; have o3 := hs11.k o3; have o4 := hs11.k o4; have o5 := hs11.k o5; have o40 := hs11.k o40; have D := hs11.defers.trans D
 have ef : st3.flatMap (be 4) = shaF m := by unfold shaF; rw [U3.st]
 rw [ef] at S
 refine wp_seq (ssm_r18 w0 g3 g2 _ (List.replicate 32 0) (shaF_length m) rfl [_] [] _ S hz11 o2 o3 (fun a12 w12 hs12 S => ?_))
 have hz12 := hs12.size.trans hz11; have o0 := hs12.k o0; have o2 := hs12.k o2; have o3 := hs12.k o3; have o4 := hs12.k o4; have o5 := hs12.k o5; have o40 := hs12.k o40; have D := hs12.defers.trans D
 refine wp_ret (bodyPost_ret (results_cell1 (by rfl) (o2.eval (by rw [hz12]; decide)) (S.at_ (l1 := [_, _])) Tryd.underlying25 rfl (by rw [hashA_size, shaF_length]; exact Tryd.infoHashP)) D ⟨rfl, ?_⟩)
 exact S.drop.drop.drop
end
/- Walks of package crc: numbers carried. -/
section
open Go.RowKit
end
/- Walks: joined, parted, patched; and the reference's. -/
section
open Go.RowKit
end
/- Walks of package crc: Sums. -/
section
open Go.RowKit
end
/- Walks: lists of texts: their sum, are they long; Append, New. -/
section
open Go.RowKit
end
/- Crc: the plain mathematics: texts xored; four bytes. -/
section
/-! ### Four bytes -/
def le4 (y : Nat) : List UInt8 := [UInt8.ofNat y, UInt8.ofNat (y / 256), UInt8.ofNat (y / 65536), UInt8.ofNat (y / 16777216)]
end
/- Walks of package wire: a reader is made, its end; the law's 'known'. -/
section
open Go.RowKit
end
/- Walks of package record and of its reference: sizes, the sum's bytes. -/
section
open Go.RowKit
end
/- The reference's Ends; Frame. -/
section
open Go.RowKit
end
/- WireOrders: the walk. -/
section
open Go.RowKit
end
/- '[]byte("..")' of a constant: what it yields, and that it reads. -/
section
open Go.RowKit
theorem rd_txt (w : World) (e : TypeId) (cs : Array Value) (l : List UInt8) (fr : Nat × Nat) (h : cs.toList = bv l) (hn : l.length ≤ 4096) {g : Nat} (hg : g = w.heap.size) : Rd (w.alloc (.cells cs e fr)) 1 (.slice (some ⟨g, 0, none⟩) l.length l.length) l.length (bv l) := by
 subst hg
 refine ⟨by rw [bv_length]; omega, _, _, rfl, Nat.le_refl _, by unfold maxLen; omega, (fun h => by cases h), fun ad had j u hu => ?_⟩
 cases had
 have h1 := World.cell?_alloc_mark w cs e fr j
 rw [← h, Array.getElem?_toList] at hu
 rw [hu] at h1
 by_cases hj : j = 0
 · subst hj; simpa [Addr.add] using h1
 · simpa [Addr.add, hj] using h1
theorem conv_txt (w : World) (C : Array Value) (n c g : Nat) (hg : g = w.heap.size) : (convert 22 22 (.slice (some ⟨g, 0, none⟩) n c)).run Tryd.prog (w.alloc (.cells C 5)) = .ok (.slice (some ⟨g, 0, none⟩) n c) (w.alloc (.cells C 5 (C.size, C.size + 1))) := by
 subst hg
 exact Lib.run_convert_bytes_const (P := Tryd.prog) w 22 5 C n c Tryd.underlying22 Tryd.underlying5
def rdR (v : Value) (n : Nat) (xs : List Value) : Res where
 fp := v.ownBlock.toList
 ok := fun w => Rd w 1 v n xs ∧ ∀ g, v.ownBlock = some g → g < w.heap.size
 keep := fun _ _ _ h hk hn => ⟨h.1.kp hk (fun g hg => hn g (by simp [hg])), fun g hg => Nat.lt_of_lt_of_le (h.2 g hg) hk.size⟩
 lt := fun _ h b hb => h.2 b (by simpa using hb)
end
/- Walks of the reference for layer 1, and of the law's helpers: Number, Eight, List; lent, left, spoil. -/
section
open Go.RowKit
end
/- Bytes of point. -/
section
open Go.RowKit
def ntry : List UInt8 := [78, 84, 82, 89]
def headL (s : Int) (h : List UInt8) : List UInt8 := ntry ++ be 8 (tou64 s) ++ h
def formL (s : Int) (h : List UInt8) : List UInt8 := headL s h ++ le4 (crc (headL s h))
end
/- A point put together from its number and its root. -/
section
open Go.RowKit
theorem foldl_place (off : Nat) : ∀ (xs : List Value) (k : Nat) (cs : Array Value), (xs.zipIdx k).foldl (fun cs (x : Value × Nat) => cs.setIfInBounds (off + x.2) x.1) cs = (cs.toList.take (off + k) ++ (xs.take (cs.size - (off + k))) ++ cs.toList.drop (off + k + xs.length)).toArray
 | [], k, cs => by simp
 | x :: xs, k, cs => by
  rw [List.zipIdx_cons, List.foldl_cons, foldl_place off xs (k + 1)]
  congr 1
  simp only [Array.toList_setIfInBounds, Array.size_setIfInBounds]
  by_cases h : off + k < cs.size
  · have e1 : (cs.toList.set (off + k) x).take (off + (k + 1)) = cs.toList.take (off + k) ++ [x] := by
     rw [List.set_eq_take_append_cons_drop, if_pos (by simpa using h), List.take_append, List.take_take, List.length_take]
     simp [show min (off + k) cs.size = off + k from by omega, show off + (k + 1) - (off + k) = 1 from by omega]
    have e2 : (cs.toList.set (off + k) x).drop (off + (k + 1) + xs.length) = cs.toList.drop (off + k + (x :: xs).length) := by
     rw [List.drop_set, if_pos (by omega)]
     congr 1
     simp only [List.length_cons]
     omega
    rw [e1, e2, show cs.size - (off + k) = (cs.size - (off + (k + 1))) + 1 from by omega, List.take_succ_cons]
    simp
  · rw [List.set_eq_of_length_le (by simpa using h)]
    rw [show cs.size - (off + (k + 1)) = 0 from by omega, show cs.size - (off + k) = 0 from by omega]
    have hl : cs.toList.length ≤ off + k := by simpa using h
    rw [List.take_of_length_le (by omega), List.take_of_length_le hl, List.drop_of_length_le (by omega), List.drop_of_length_le (by omega)]
    simp
end
/- Walks for layer 1's laws: the reference's List; 'puts'. -/
section
open Go.RowKit
end
/- 'puts': what is written, by the program and by the document. -/
section
open Go.RowKit
end
/- 'puts', the other kinds. -/
section
open Go.RowKit
end
/- 'puts', the kinds that lend. -/
section
open Go.RowKit
end
/- 'puts', all kinds; its loop. -/
section
open Go.RowKit
end
/- WireWrites: what comes in; what the call holds. -/
section
open Go.RowKit
end
/- WireReads: the reference's reader. -/
section
open Go.RowKit
end
/- WireReads: Raw, List. -/
section
open Go.RowKit
end
/- WireReads: the reference's Raw; List. -/
section
open Go.RowKit
end
/- WireReads: List. -/
section
open Go.RowKit
end
/- WireReads: the reader's List. -/
section
open Go.RowKit
end
/- WireReads: the reference's List. -/
section
open Go.RowKit
end
/- WireReads: Hash. -/
section
open Go.RowKit
end
/- WireReads: Hash, of both. -/
section
open Go.RowKit
end
/- Batches and entries as bytes: the plain mathematics. -/
section
open Go.RowKit
end
/- Check of entry and of the reference. -/
section
open Go.RowKit
theorem Txs.len_le {w : World} {v : Value} {L : List (List UInt8)} (h : Txs w v L) : L.length ≤ 9223372036854775807 := by
 obtain ⟨vs, ⟨_, A', c', _, h1, h2, _⟩, _⟩ := h
 unfold maxLen at h2
 omega
end
/- The reference's Put and One for layer 15. -/
section
open Go.RowKit
end
/- A fellow of w_list (XWireC): an empty list may share the writer's block. -/
section
open Go.RowKit
end
/- Put and One of entry. -/
section
open Go.RowKit
end
/- The law's lent: texts in memory of their own, with marks behind. -/
section
open Go.RowKit
theorem cut_u8c (A : Option Addr) (n c k : Nat) (h : Int) (hh : h = k) (hk : k ≤ c) (w : World) : (Instr.sliceAt 22 (.slice A n c) none (some (.int .i64 h)) none).run Tryd.prog w = .ok (.slice A k c) w := by
 subst hh
 rw [cut_at, run_slice_h w 22 A n c und_u8 .i64 k (by omega) (by omega), elem_u8, run_size_u8]
 simp only [Result.andThen_ok, Int.toNat_natCast]
 congr 1
 by_cases e : c = 0
 · simp [sliced, e]
 · cases A with
   | none => simp [sliced, e]
   | some ad => simp [sliced, e, Addr.add]
end
/- The reference's Same of layer 15; the law's kept. -/
section
open Go.RowKit
end
/- Same of entry: slices.EqualFunc over bytes.Equal. -/
section
open Go.RowKit
end
/- Read of point. -/
section
open Go.RowKit
def rdS (bs : List UInt8) : Int := wrap64 (num ((bs.drop 4).take 8))
def rdH (bs : List UInt8) : List UInt8 := (bs.drop 12).take 32
def RVok (bs : List UInt8) : Prop := bs.length = 48 ∧ 0 ≤ rdS bs ∧ formL (rdS bs) (rdH bs) = bs
instance (bs : List UInt8) : Decidable (RVok bs) := by unfold RVok; exact inferInstance
end
/- Appending onto a row of the call's own whose shorter slice is read afterwards. -/
section
open Go.RowKit
theorem Held.grown {w0 w w' : World} {l1 l2 : List Res} {e : TypeId} {s n n' : Nat} {v v' : Value} {xs xs' : List Value} (h : Held w0 w (l1 ++ rowR e s v n xs :: l2)) (ho : Ow w' e s v' n' xs') (hg : Kp v.ownBlock.toList w w') (hv : v'.ownBlock = v.ownBlock ∨ v'.ownBlock = some w.heap.size) :
 Held w0 w' (l1 ++ rowR e s v' n' xs' :: l2) :=
 h.turnAt (rowR e s v' n' xs') hg ho (fun b hb => by
  rcases hv with e | e
  · exact .inl (by simpa [rowR, e] using hb)
  · simp only [rowR, e, Option.toList_some, List.mem_singleton] at hb; exact .inr (by omega))
section
variable {ops : Array Oper} {rest : List Oper} {o : Oper} {a : Act} {w : World} {Q : Exit → Act → World → Prop}
theorem app_held (l1 : List Res) {w0 : World} {l2 : List Res} (hgd : o.guard = none) (s x : Operand)
 (ho : o.op = .call { callee := .builtin .append, args := #[s, x], argTypes := #[22, 22] })
 (v : Value) (xs : List UInt8) (hs : a.eval s = v) (S : Held w0 w (l1 ++ rowR 5 1 v xs.length (bv xs) :: l2))
 (y : Value) (ys : List UInt8) (hx : a.eval x = y) (hr : Rd w 1 y ys.length (bv ys)) (hb : xs.length + ys.length ≤ 140737488355328)
 (h : ∀ v' w', Held w0 w' (l1 ++ rowR 5 1 v' (xs ++ ys).length (bv (xs ++ ys)) :: l2) → wpList Tryd.prog ops Q rest (a.put o.dst v') w') : wpList Tryd.prog ops Q (o :: rest) a w :=
 app_bytes hgd s x ho v xs hs (S.at_) y ys hx hr w0 S.k (fun g hg => S.base (rowR 5 1 v xs.length (bv xs)) (by simp) g (by simp [rowR, hg])) hb (fun v' w' o' _ k' _ h' => h v' w' (S.grown o' k' h'))
theorem app_new {w0 : World} {L : List Res} (hgd : o.guard = none) (s x : Operand)
 (ho : o.op = .call { callee := .builtin .append, args := #[s, x], argTypes := #[22, 22] })
 (hs : a.eval s = .slice none 0 0) (S : Held w0 w L)
 (y : Value) (ys : List UInt8) (hx : a.eval x = y) (hr : Rd w 1 y ys.length (bv ys)) (hb : ys.length ≤ 140737488355328)
 (h : ∀ v' w', Held w0 w' (rowR 5 1 v' ys.length (bv ys) :: L) → wpList Tryd.prog ops Q rest (a.put o.dst v') w') : wpList Tryd.prog ops Q (o :: rest) a w :=
 app_bytes hgd s x ho (.slice none 0 0) [] hs (World.ownsRow_nil _ _ _ _) y ys hx hr w0 S.k (by simp [Value.ownBlock]) (by simpa using hb) (fun v' w' o' _ k' _ h' => h v' w' (S.rownew (by simpa using o') (by simpa [Value.ownBlock] using k') (fun g hg => by
  rcases h' with e | e
  · rw [e] at hg; simp [Value.ownBlock] at hg
  · rw [e] at hg; cases hg; exact Nat.le_refl _)))
end
end
/- 'append(x, y...)' for bytes where x has no room (a constant's bytes: frozen): a new row. -/
section
open Go.RowKit
end
/- The reference's Form, Bytes. -/
section
open Go.RowKit
end
/- WireReads: the reference's Hash. -/
section
open Go.RowKit
end
/- Laws for operations whose guard says: go. -/
section
open Go.RowKit
section
variable {P : Program} {ops : Array Oper} {rest : List Oper} {o : Oper} {a : Act} {w : World} {Q : Exit → Act → World → Prop}
theorem wpList_met (j d : Nat) (b : Bool) (hg : o.guard = some (j, b)) (hj : (ops[j]?).bind (·.dst) = some d) (hd : a.tmps[d]?.getD undef = .bool b)
 (h : ∀ K : Act → World → Prop, (∀ a w, wpList P ops Q rest a w → K a w) → o.wp P a w K Q) : wpList P ops Q (o :: rest) a w :=
 wpList_step fun K hK => by
  rw [if_pos (by simp [Region.wanted, hg, yielded_of hj hd])]
  exact h K hK
theorem wpList_load_blkG (j d : Nat) (b : Bool) (hg : o.guard = some (j, b)) (hj : (ops[j]?).bind (·.dst) = some d) (hd : a.tmps[d]?.getD undef = .bool b)
 (ty : TypeId) (x : Operand) (ho : o.op = .load ty x) (g : Nat) (hx : a.eval x = .pointer (some ⟨g, 0, none⟩))
 (t : TypeId) (cs : Array Value) (hb : Blk w g t cs) (ds : TypeDesc) (hu : P.underlying ty = some ds) (hds : aggB ds = true) (hi : (P.info? ty).map (·.size) = some cs.size)
 (h : wpList P ops Q rest (a.put o.dst (.agg cs)) w) : wpList P ops Q (o :: rest) a w :=
 wpList_met j d b hg hj hd fun K hK => by
  unfold Oper.wp
  rw [exec_load ho hx (run_loadAt_agg w ⟨g, 0, none⟩ ty cs.toList ds hb.agg hu hds (by rw [hi, Array.length_toList]))]
  exact hK _ _ h
end
end
/- Read of the reference. -/
section
open Go.RowKit
end
/- Parse of point: the walk. -/
section
open Go.RowKit
end
/- Comparing hashes and points. -/
section
open Go.RowKit
theorem items_eq (w : World) (d : Nat) (a b : List UInt8) : ∀ (m k : Nat), a.length = k + m → b.length = k + m →
 (Op.eqItems (d + 1) 5 1 (hashA a) (hashA b) (List.range' k m)).run Tryd.prog w = .ok (a.drop k == b.drop k) w
 | 0, k, ha, hb => by
  rw [List.drop_of_length_le (by omega), List.drop_of_length_le (by omega)]
  simp [Op.eqItems]
 | m + 1, k, ha, hb => by
  have h1 : k < a.length := by omega
  have h2 : k < b.length := by omega
  have p1 : (part 5 (hashA a) (k * 1)).run Tryd.prog w = .ok (.int .u8 (a[k].toNat : Int)) w := run_part_plain w (by kernel_rfl) (by
   rw [Nat.mul_one]; simp [hashA, bv, h1])
  have p2 : (part 5 (hashA b) (k * 1)).run Tryd.prog w = .ok (.int .u8 (b[k].toNat : Int)) w := run_part_plain w (by kernel_rfl) (by
   rw [Nat.mul_one]; simp [hashA, bv, h2])
  have p3 := run_equalIn_int (P := Tryd.prog) w d 5 .u8 .u8 (a[k].toNat : Int) (b[k].toNat : Int) Tryd.underlying5
  rw [List.range'_succ, List.drop_eq_getElem_cons h1, List.drop_eq_getElem_cons h2, List.cons_beq_cons]
  simp only [Op.eqItems, Sem.run_bind, p1, p2, p3, Result.andThen_ok]
  by_cases e : a[k] = b[k]
  · rw [e]
    simp only [beq_self_eq_true, Bool.not_true, Bool.false_eq_true, if_false]
    rw [items_eq w d a b m (k + 1) (by omega) (by omega), Bool.true_and]
  · have e1 : ((a[k].toNat : Int) == (b[k].toNat : Int)) = false := beq_false_of_ne (fun h => e (UInt8.toNat.inj (by omega)))
    rw [e1, beq_false_of_ne e]
    rfl
theorem run_hash_eq (w : World) (d : Nat) (a b : List UInt8) (ha : a.length = 32) (hb : b.length = 32) : (Op.equalIn (d + 2) 25 (.agg (hashA a)) (.agg (hashA b))).run Tryd.prog w = .ok (a == b) w := by
 obtain ⟨i0, hi, -, -, -⟩ := info_parts Tryd.infoU8
 rw [run_equalIn_array w (d + 1) (hashA a) (hashA b) Tryd.underlying25 hi, show Tryd.prog.cellsOf 5 = 1 from by kernel_rfl, List.range_eq_range', items_eq w d a b 32 0 (by omega) (by omega)]
 rfl
theorem ptA_root (s : Int) (h : List UInt8) (hh : h.length = 32) : (ptA s h).extract 1 33 = hashA h := by
 apply Array.ext'
 rw [Array.toList_extract, List.extract_eq_take_drop]
 show ((Value.int .i64 s :: bv h).drop 1).take 32 = bv h
 rw [List.drop_succ_cons, List.drop_zero, List.take_of_length_le (by rw [bv_length, hh]; omega)]
theorem eq_fields2 {P : Program} (w : World) (D : Nat) (xs ys : Array Value) (f g : Field) (n1 : f.name ≠ "_") (n2 : g.name ≠ "_") (a b c e : Value) (r1 r2 : Bool)
 (h1 : (part f.type xs f.offset).run P w = .ok a w) (h2 : (part f.type ys f.offset).run P w = .ok b w) (h3 : (Op.equalIn D f.type a b).run P w = .ok r1 w)
 (h4 : (part g.type xs g.offset).run P w = .ok c w) (h5 : (part g.type ys g.offset).run P w = .ok e w) (h6 : (Op.equalIn D g.type c e).run P w = .ok r2 w) : (Op.eqFields D xs ys [f, g]).run P w = .ok (r1 && r2) w := by
 simp only [Op.eqFields, n1, n2, ne_eq, not_false_eq_true, if_true, Sem.run_bind, h1, h2, h3, Result.andThen_ok]
 cases r1
 · simp
 · simp only [Bool.not_true, Bool.false_eq_true, if_false, Sem.run_bind, h4, h5, h6, Result.andThen_ok]
   cases r2 <;> simp
theorem run_pt_eq (w : World) (d : Nat) (s t : Int) (a b : List UInt8) (ha : a.length = 32) (hb : b.length = 32) : (Op.equalIn (d + 3) 33 (.agg (ptA s a)) (.agg (ptA t b))).run Tryd.prog w = .ok (decide (s = t) && (a == b)) w := by
 have hu : ∃ f g : Field, Tryd.prog.underlying 33 = some (.struct #[f, g]) ∧ f.name = "Size" ∧ f.type = 2 ∧ f.offset = 0 ∧ g.name = "Root" ∧ g.type = 25 ∧ g.offset = 1 := ⟨_, _, Tryd.underlying33, rfl, rfl, rfl, rfl, rfl, rfl⟩
 obtain ⟨f, g, hu, f1, f2, f3, g1, g2, g3⟩ := hu
 have hf : Tryd.prog.fieldsOf 33 = #[f, g] := by unfold Program.fieldsOf; rw [hu]
 rw [run_equalIn_agg (P := Tryd.prog) w (d + 2) 33 (ptA s a) (ptA t b) (by rw [hf]; exact hu) Tryd.stoodInHeld33, hf]
 have n1 : ¬ ("Size" = "_") := by decide
 have n2 : ¬ ("Root" = "_") := by decide
 have p1 : (part 2 (ptA s a) 0).run Tryd.prog w = .ok (.int .i64 s) w := run_part_plain w (by kernel_rfl) rfl
 have p2 : (part 2 (ptA t b) 0).run Tryd.prog w = .ok (.int .i64 t) w := run_part_plain w (by kernel_rfl) rfl
 have p3 := run_equalIn_int (P := Tryd.prog) w (d + 1) 2 .i64 .i64 s t Tryd.underlying2
 have q : ∀ s a, a.length = 32 → (part 25 (ptA s a) 1).run Tryd.prog w = .ok (.agg (hashA a)) w := by
  intro s a ha
  obtain ⟨i0, hi, hz⟩ : ∃ i, Tryd.prog.info? 25 = some i ∧ i.size = 32 := by
   have := Tryd.infoHashP
   cases h : Tryd.prog.info? 25 with
   | none => rw [h] at this; cases this
   | some i => rw [h] at this; exact ⟨i, rfl, Option.some.inj this⟩
  have hS : (sizeOf 25).run Tryd.prog w = .ok 32 w := by rw [← hz]; simp only [sizeOf, typeInfo]; simp [hi, go_sem]
  have hA : (isAgg 25).run Tryd.prog w = .ok true w := by simp [isAgg, run_underlying Tryd.underlying25]
  simp only [part, Sem.run_bind, hA, hS, Result.andThen_ok, if_true, Sem.run_pure]
  rw [show 1 + 32 = 33 from rfl, ptA_root s a ha]
 have q3 := run_hash_eq w d a b ha hb
 have e1 : decide (s = t) = (s == t) := by by_cases e : s = t <;> simp [e]
 rw [e1]
 exact eq_fields2 w (d + 2) _ _ f g (by rw [f1]; exact n1) (by rw [g1]; exact n2) (.int .i64 s) (.int .i64 t) (.agg (hashA a)) (.agg (hashA b)) _ _ (by rw [f2, f3]; exact p1) (by rw [f2, f3]; exact p2) (by rw [f2]; exact p3) (by rw [g2, g3]; exact q s a ha) (by rw [g2, g3]; exact q t b hb) (by rw [g2]; exact q3)
theorem hash_eq_top (w : World) (a b : List UInt8) (ha : a.length = 32) (hb : b.length = 32) : (Op.equalIn 10000 25 (.agg (hashA a)) (.agg (hashA b))).run Tryd.prog w = .ok (a == b) w := by
 have h := fun n (e : n + 2 = 10000) => e ▸ run_hash_eq w n a b ha hb
 exact h 9998 (by decide)
theorem pt_eq_top (w : World) (s t : Int) (a b : List UInt8) (ha : a.length = 32) (hb : b.length = 32) : (Op.equalIn 10000 33 (.agg (ptA s a)) (.agg (ptA t b))).run Tryd.prog w = .ok (decide (s = t) && (a == b)) w := by
 have h := fun n (e : n + 3 = 10000) => e ▸ run_pt_eq w n s t a b ha hb
 exact h 9997 (by decide)
theorem eql_hash (w : World) (a b : List UInt8) (ha : a.length = 32) (hb : b.length = 32) : (binOp .eql 25 (.agg (hashA a)) (.agg (hashA b))).run Tryd.prog w = .ok (.bool (a == b)) w := by
 rw [run_eql_struct, hash_eq_top w a b ha hb, Result.andThen_ok]
theorem neq_hash (w : World) (a b : List UInt8) (ha : a.length = 32) (hb : b.length = 32) : (binOp .neq 25 (.agg (hashA a)) (.agg (hashA b))).run Tryd.prog w = .ok (.bool (!(a == b))) w := by
 rw [run_neq_struct, hash_eq_top w a b ha hb, Result.andThen_ok]
theorem neq_pt (w : World) (s t : Int) (a b : List UInt8) (ha : a.length = 32) (hb : b.length = 32) : (binOp .neq 33 (.agg (ptA s a)) (.agg (ptA t b))).run Tryd.prog w = .ok (.bool (!(decide (s = t) && (a == b)))) w := by
 rw [run_neq_struct, pt_eq_top w s t a b ha hb, Result.andThen_ok]
end
/- The chapter's rows: known. -/
section
open Go.RowKit
end
/- PointReads: the walk of the law. -/
section
open Go.RowKit
end
/- PointPuts: the walk of the law. -/
section
open Go.RowKit
section
variable {P : Program} {ops : Array Oper} {rest : List Oper} {o : Oper} {a : Act} {w w' : World} {Q : Exit → Act → World → Prop} {v : Value}
end
end
/- A frame in which bits are turned: mathematics. -/
section
open Go.RowKit
end
/- The reference's Turn. -/
section
open Go.RowKit
theorem u8_xor_nat' (a b : Nat) (ha : a < 256) (hb : b < 256) : bits .xor .u8 (a : Int) (b : Int) = ((a ^^^ b : Nat) : Int) := by
 show IntKind.u8.wrap ((BitVec.ofInt 8 (a : Int) ^^^ BitVec.ofInt 8 (b : Int)).toNat : Int) = _
 have h : ∀ x : Nat, x < 256 → (BitVec.ofInt 8 (x : Int)).toNat = x := fun x hx => by rw [BitVec.ofInt_natCast, BitVec.toNat_ofNat]; exact Nat.mod_eq_of_lt (by omega)
 rw [BitVec.toNat_xor, h a ha, h b hb, wrap_u8_nat, Nat.mod_eq_of_lt (show a ^^^ b < 256 from Nat.xor_lt_two_pow (n := 8) ha hb)]
end
/- PointTurned: the walk of the law. -/
section
open Go.RowKit
theorem exec_bin_agg {P : Program} {w : World} {ρ : Operand → Value} {o : Oper} {op : BinOp} {t t2 : TypeId} {x y : Operand} {xs ys : Array Value} {r : Value} (ho : o.op = .binOp op t x y t2) (hx : ρ x = .agg xs) (hy : ρ y = .agg ys) (hm : P.eqGuardType P.depth t = false) (h : (binOp op t (.agg xs) (.agg ys)).run P w = .ok r w) : (execOp ρ o).run P w = .ok (.value r) w := by
 unfold execOp
 simp only [ho, hx, hy, Sem.run_bind, run_eqGuard_agg w op t x y xs ys hm, h, Result.andThen_ok, Sem.run_pure]
end
/- Compare of point and of the reference. -/
section
open Go.RowKit
/-! ### The order -/
def cmpB (a b : List UInt8) : Int := Lib.compareBytes a b
theorem cmpB_cons (x y : UInt8) (a b : List UInt8) : cmpB (x :: a) (y :: b) = if x.toNat < y.toNat then -1 else if y.toNat < x.toNat then 1 else cmpB a b := by
 simp only [cmpB, Lib.compareBytes, UInt8.lt_iff_toNat_lt]
theorem cmpB_range : ∀ (a b : List UInt8), -1 ≤ cmpB a b ∧ cmpB a b ≤ 1
 | [], [] => by simp [cmpB, Lib.compareBytes]
 | [], _ :: _ => by simp [cmpB, Lib.compareBytes]
 | _ :: _, [] => by simp [cmpB, Lib.compareBytes]
 | x :: a, y :: b => by
  rw [cmpB_cons]
  have := cmpB_range a b
  split
  · omega
  · split <;> omega
theorem cmpB_neg : ∀ (a b : List UInt8), cmpB b a = - cmpB a b
 | [], [] => rfl
 | [], _ :: _ => rfl
 | _ :: _, [] => rfl
 | x :: a, y :: b => by
  rw [cmpB_cons, cmpB_cons, cmpB_neg a b]
  split <;> split <;> omega
theorem cmpB_zero : ∀ {a b : List UInt8}, cmpB a b = 0 → a = b
 | [], [], _ => rfl
 | [], _ :: _, h => by simp [cmpB, Lib.compareBytes] at h
 | _ :: _, [], h => by simp [cmpB, Lib.compareBytes] at h
 | x :: a, y :: b, h => by
  rw [cmpB_cons] at h
  split at h
  · omega
  · split at h
    · omega
    · rw [cmpB_zero h, UInt8.toNat_inj.1 (by omega : x.toNat = y.toNat)]
theorem cmpB_self : ∀ (a : List UInt8), cmpB a a = 0
 | [] => rfl
 | x :: a => by rw [cmpB_cons, cmpB_self a]; split <;> omega
end
/- Compare of point and of the reference: the walks. -/
section
open Go.RowKit
end
/- Compare of the reference: the walk. -/
section
open Go.RowKit
end
/- Lists of points in memory; Last of the reference. -/
section
open Go.RowKit
end
/- Names, lists of signatures: mathematics. -/
section
def nmOk (s : List UInt8) : Bool := decide (0 < s.length) && decide (s.length ≤ 64) && s.all fun c => decide (33 ≤ c.toNat) && decide (c.toNat ≤ 126)
abbrev SigD := List UInt8 × List UInt8
def rising : List UInt8 → List SigD → Bool
 | _, [] => true
 | last, s :: l => nmOk s.1 && decide (0 < cmpB s.1 last) && rising s.1 l
def mayN (z : Int) (l : List SigD) : Bool := decide (0 ≤ z) && decide (l.length ≤ 64) && rising [] l
def keyOk (nm sec : List UInt8) : Bool := nmOk nm && decide (0 < sec.length) && decide (sec.length ≤ 256)
def key64 (sec : List UInt8) : List UInt8 := (if 64 < sec.length then shaF sec else sec) ++ List.replicate (64 - (if 64 < sec.length then shaF sec else sec).length) 0
def turned (k : List UInt8) (t : UInt8) : List UInt8 := k.map (· ^^^ t)
def macF (sec msg : List UInt8) : List UInt8 := shaF (turned (key64 sec) 92 ++ shaF (turned (key64 sec) 54 ++ msg))
theorem key64_length (sec : List UInt8) : (key64 sec).length = 64 := by
 unfold key64
 rw [List.length_append, List.length_replicate]
 split
 · rw [shaF_length]
 · omega
theorem macF_length (sec msg : List UInt8) : (macF sec msg).length = 32 := shaF_length _
end
/- Walks of package sign: the keyed sum. -/
section
open Go.RowKit
theorem swrite_any (w0 : World) (g : Nat) (m l : List UInt8) (st : List Nat) (blk : List UInt8) (hU : Und m st blk) (hml : m.length + l.length ≤ 1152921504606846976) (x : Value) (L : List Res) (w : World) (HB : ∀ V cs, Held w0 V (blkR g 134 cs :: L) → Rd V 1 x l.length (bv l))
 (S : Held w0 w (blkR g 134 (shaC st blk m.length) :: L)) :
 Calls Tryd.prog 65 #[.pointer (some ⟨g, 0, none⟩), x] w fun e w' => e = .returned (.int .i64 0) ∧ ∃ st' blk', Und (m ++ l) st' blk' ∧ Held w0 w' (blkR g 134 (shaC st' blk' (m ++ l).length) :: L) := by
 obtain ⟨A, c, rfl⟩ := rd_form (HB w _ S)
 have HR := Lib.hid (take_any w0 g m l st blk hU (by omega) _ L w HB S)
 have HN := Lib.hid (none_any g _ (shaC_made hU.len8 hU.len) w (S.at_ (l1 := [])))
 have c1 : w.cell? ⟨g, 72, none⟩ = some (.int .i64 (m.length : Int)) := by rw [(S.at_ (l1 := [])).cell]; exact shaC_len hU.len8 hU.len
 generalize l.length = ll at *
 generalize m.length = ml at *
 have hw : wrap64 (1152921504606846976 - (ml : Int)) = 1152921504606846976 - (ml : Int) := by unfold wrap64; omega
 have hd : decide (1152921504606846976 - (ml : Int) < (ll : Int)) = false := by rw [decide_eq_false_iff_not]; omega
 clear hU HB S hml
 go_enter Tryd.func65, Tryd.ntmps65
 go_wp2_with fail
 refine HN.out.mono ?_
 rintro e w' ⟨rfl, rfl⟩
 go_wp2_with fail
 refine HR.out.mono ?_
 rintro e w2 ⟨rfl, h⟩
 have h := Lib.hid h
 go_wp2
 go_ret
 exact ⟨rfl, h.out⟩
theorem xor_byte (a b : UInt8) : bits .xor .u8 (a.toNat : Int) (b.toNat : Int) = ((a ^^^ b).toNat : Int) := by
 rw [UInt8.toNat_xor]
 exact u8_xor_nat' _ _ a.toNat_lt b.toNat_lt
def turnK (key : List UInt8) (t : UInt8) (k : Nat) : List UInt8 := turned (key.take k) t ++ key.drop k
theorem turnK_at {key : List UInt8} {t : UInt8} {k : Nat} (h : k < key.length) : (turnK key t k)[k]? = some key[k] := by
 unfold turnK turned
 rw [List.getElem?_append_right (by simp; omega)]
 simp [Nat.min_eq_left (Nat.le_of_lt h)]
theorem turnK_next {key : List UInt8} {t : UInt8} {k : Nat} (h : k < key.length) : (turnK key t k).set k (key[k] ^^^ t) = turnK key t (k + 1) := by
 unfold turnK turned
 rw [List.set_append_right _ _ (by simp; omega), List.drop_eq_getElem_cons h]
 simp only [List.length_map, List.length_take, Nat.min_eq_left (Nat.le_of_lt h), Nat.sub_self, List.set_cons_zero, List.take_add_one, List.getElem?_eq_getElem h, Option.toList_some, List.map_append, List.map_cons, List.map_nil, List.append_assoc, List.cons_append, List.nil_append]
theorem hash_cell {w : World} {g : Nat} {t : TypeId} {l : List UInt8} (h : Blk w g t (hashA l)) (i : Nat) (c : UInt8) (hx : l[i]? = some c) : w.cell? ⟨g, i, none⟩ = some (.int .u8 (c.toNat : Int)) := by
 rw [h.cell i, show (hashA l)[i]? = (bv l)[i]? from by simp [hashA], bv_get, hx]
 rfl
def TxF (W : World) (v : Value) (vs : List Value) (L : List (List UInt8)) : Prop := Rd W 1 v L.length vs ∧ ∀ i (hi : i < L.length), ∃ u, vs[i]? = some u ∧ Rd W 1 u L[i].length (bv L[i])
theorem TxF.kp0 {W W' : World} {v : Value} {vs : List Value} {L : List (List UInt8)} (h : TxF W v vs L) (k : Kp [] W W') : TxF W' v vs L := ⟨rd_old h.1 k, fun i hi => by obtain ⟨u, h1, h2⟩ := h.2 i hi; exact ⟨u, h1, rd_old h2 k⟩⟩
theorem Txs.f {W : World} {v : Value} {L : List (List UInt8)} (h : Txs W v L) : ∃ vs, TxF W v vs L := h
theorem TxF.at_ {W : World} {ad : Addr} {n c : Nat} {vs : List Value} {L : List (List UInt8)} (h : TxF W (.slice (some ad) n c) vs L) {k : Nat} {u : Value} (hu : vs[k]? = some u) : W.cell? (ad.add k) = some u := by
 obtain ⟨-, A', c', he, -, -, -, hc⟩ := h.1
 cases he
 exact hc ad rfl k u hu
end
/- sign.hashed: its second loop. -/
section
variable {Q : Exit → Act → World → Prop} {a : Act} {w : World}
open Go.RowKit
theorem shd_r10 (k n : Nat) (hsz : a.tmps.size = 40) (o29 : Sl a 29 (.int .i64 (n : Int))) (o30 : Sl a 30 (.int .i64 (k : Int)))
 (hend : ∀ a', Same a a' [31] → Sl a' 31 (.bool (decide (k < n))) → Q .normal a' (w)) : (Code.region 10 (opsOf 10 Tryd.f41).toArray false).wp Tryd.prog Q a w := by
 refine wp_region_lit ?_
 (conv => arg 4; whnf)
 unfold Sl at o29 o30
 go_wp2_with fail
 try simp only [Act.put]
 exact hend _ sS sP
theorem shd_r11 (k n c : Nat) (ad : Addr) (u : Value) (hk : k < n) (hc : w.cell? (ad.add k) = some u) (Ax : Option Addr) (nx cx : Nat) (hu : u = .slice Ax nx cx) (hsz : a.tmps.size = 40) (o28 : Sl a 28 (.slice (some ad) n c)) (o30 : Sl a 30 (.int .i64 (k : Int)))
 (hend : ∀ a', Same a a' [32, 33, 11] → Sl a' 11 (.slice Ax nx cx) → Q .normal a' (w)) : (Code.region 11 (opsOf 11 Tryd.f41).toArray false).wp Tryd.prog Q a w := by
 refine wp_region_lit ?_
 (conv => arg 4; whnf)
 unfold Sl at o28 o30
 subst hu
 have hkn : (k : Int) < n := by omega
 go_wp2_with fail
 try simp only [Act.put]
 exact hend _ sS sP
theorem shd_r12 (g : Nat) (y : Value) (Ax : Option Addr) (nx cx : Nat) (hy : y = .slice Ax nx cx) (R : World → Prop) (HR : Hid (Calls Tryd.prog 65 #[.pointer (some ⟨g, 0, none⟩), y] w fun e w' => e = .returned (.int .i64 0) ∧ R w')) (hsz : a.tmps.size = 40) (o9 : Sl a 9 (.func (.func 65) #[.pointer (some ⟨g, 0, none⟩)] #[])) (o11 : Sl a 11 (.slice Ax nx cx))
 (hend : ∀ a' W, Same a a' [34, 35, 36] → (R W) → Q .normal a' W) : (Code.region 12 (opsOf 12 Tryd.f41).toArray false).wp Tryd.prog Q a w := by
 refine wp_region_lit ?_
 (conv => arg 4; whnf)
 unfold Sl at o9 o11
 subst hy
 go_wp2_with fail
 refine HR.out.mono ?_
 rintro e w4 ⟨rfl, S4⟩
 have S4 := Lib.hid S4
 go_wp2
 try simp only [Act.put]
 exact hend _ _ sS (S4.out)
theorem shd_r13 (k : Nat) (hk : k < 9223372036854775807) (hsz : a.tmps.size = 40) (o30 : Sl a 30 (.int .i64 (k : Int)))
 (hend : ∀ a', Same a a' [37, 30] → Sl a' 30 (.int .i64 ((k + 1 : Nat) : Int)) → Q .normal a' (w)) : (Code.region 13 (opsOf 13 Tryd.f41).toArray false).wp Tryd.prog Q a w := by
 refine wp_region_lit ?_
 (conv => arg 4; whnf)
 unfold Sl at o30
 have hw : wrap64 ((k : Int) + 1) = (k : Int) + 1 := by unfold wrap64; omega
 go_wp2_with fail
 try simp only [Act.put]
 exact hend _ sS sP
theorem shd_r14 (w0 : World) (g g6 : Nat) (hh c6 : List UInt8) (hl : hh.length = 32) (h6 : c6.length = 32) (L : List Res) (HR : Hid (Calls Tryd.prog 64 #[.pointer (some ⟨g, 0, none⟩)] w fun e w' => e = .returned (.agg (hashA hh)) ∧ ∃ cs, Held w0 w' (blkR g 134 cs :: blkR g6 25 (hashA c6) :: L))) (hsz : a.tmps.size = 40) (o6 : Sl a 6 (.pointer (some ⟨g6, 0, none⟩))) (o8 : Sl a 8 (.pointer (some ⟨g, 0, none⟩)))
 (hend : ∀ a' W, Same a a' [38, 39] → (∃ cs, Held w0 W (blkR g 134 cs :: blkR g6 25 (hashA hh) :: L)) → Q .normal a' W) : (Code.region 14 (opsOf 14 Tryd.f41).toArray false).wp Tryd.prog Q a w := by
 refine wp_region_lit ?_
 (conv => arg 4; whnf)
 unfold Sl at o6 o8
 have hO := Lib.hid (hashA_one hh)
 have hsz1 : Hid ((hashA hh).size = 32) := Lib.hid (by rw [hashA_size, hl])
 have hsz6 : Hid ((hashA c6).size = 32) := Lib.hid (by rw [hashA_size, h6])
 obtain ⟨ch, hch⟩ : ∃ ch, Hid (hashA hh = ch) := ⟨_, Lib.hid rfl⟩
 rw [hch.out] at HR hO hsz1
 go_wp2_with fail
 refine HR.out.mono ?_
 rintro e w4 ⟨rfl, cs, S4⟩
 have S4 := Lib.hid S4
 go_wp2_with (refine wpList_store_blk rfl 25 (.tmp 6) (.tmp 39) rfl g6 (by simp [Act.eval, Act.put, hsz, o6]) ch (by simp [Act.eval, Act.put, hsz]) 25 _ (S4.out.at_ (l1 := [_])) (by rw [hsz1.out]; exact Tryd.infoHashP) (by rw [hsz1.out, hsz6.out]) hO.out ?_; intro w5 b5 k5; have S5 := Lib.hid (Held.setBlk (l1 := [_]) S4.out b5 k5); clear b5 k5)
 rw [← hch.out] at S5
 try simp only [Act.put]
 exact hend _ _ sS (⟨_, S5.out⟩)
def dsHd : List Nat := [11, 30, 31, 32, 33, 34, 35, 36, 37]
theorem shd_l1 {Q : Exit → Act → World → Prop} {a : Act} {w0 w : World} (g : Nat) (kt : List UInt8) (A : Option Addr) (c : Nat) (vs : List Value) (ls : List (List UInt8)) (hsum : kt.length + ls.flatten.length ≤ 1152921504606846976) (L : List Res) (HX : ∀ V cs, Held w0 V (blkR g 134 cs :: L) → TxF V (.slice A ls.length c) vs ls) (hll : ls.length ≤ 9223372036854775807)
 (st : List Nat) (blk : List UInt8) (hU : Und kt st blk) (hsz : a.tmps.size = 40) (o9 : Sl a 9 (.func (.func 65) #[.pointer (some ⟨g, 0, none⟩)] #[])) (o28 : Sl a 28 (.slice A ls.length c)) (o29 : Sl a 29 (.int .i64 (ls.length : Int))) (o30 : Sl a 30 (.int .i64 0))
 (S : Held w0 w (blkR g 134 (shaC st blk kt.length) :: L))
 (hend : ∀ (a' : Act) (W : World) (st : List Nat) (blk : List UInt8), Same a a' dsHd → Und (kt ++ ls.flatten) st blk → Held w0 W (blkR g 134 (shaC st blk (kt ++ ls.flatten).length) :: L) → Q (.exit 2) a' W) :
 (blockOf 2 Tryd.f41).wp Tryd.prog Q a w := by
 (conv => arg 2; whnf)
 refine wp_loop (fun a' w' => ∃ (k : Nat) (st : List Nat) (blk : List UInt8), k ≤ ls.length ∧ Same a a' dsHd ∧ Sl a' 30 (.int .i64 (k : Int)) ∧ Und (kt ++ (ls.take k).flatten) st blk ∧ Held w0 w' (blkR g 134 (shaC st blk (kt ++ (ls.take k).flatten).length) :: L)) (fun a' _ => ls.length - (intOf (a'.eval (.tmp 30))).toNat) ⟨0, st, blk, Nat.zero_le _, Same.refl _ _, o30, by rw [List.take_zero, List.flatten_nil, List.append_nil]; exact hU, by rw [List.take_zero, List.flatten_nil, List.append_nil]; exact S⟩ ?_
 clear hU S o30
 rintro a1 w1 ⟨k, st, blk, hk, T, o30, hU, S⟩
 have o9 := T.keep 9 _ (by decide) o9
 have o28 := T.keep 28 _ (by decide) o28
 have o29 := T.keep 29 _ (by decide) o29
 have hz1 := T.size.trans hsz
 have eCtr := o30.eval (by rw [hz1]; decide)
 refine wp_seq (shd_r10 k ls.length hz1 o29 o30 (fun a2 hs2 o31 => ?_))
 have hz2 := hs2.size.trans hz1; have o9 := hs2.k o9; have o28 := hs2.k o28; have o29 := hs2.k o29; have o30 := hs2.k o30
 have T := T.trans hs2
 by_cases hlt : k < ls.length
 · refine wp_seq (wp_cond_true ((o31.eval (by rw [hz2]; decide)).trans (by rw [decide_eq_true hlt])) (wp_skip ?_))
   obtain ⟨ad, rfl⟩ : ∃ ad, A = some ad := by
    obtain ⟨A', c', he, h1, -⟩ := (show Txs w1 _ ls from ⟨vs, HX w1 _ S⟩).open_
    cases he
    exact h1 (by omega)
   obtain ⟨u, hu, hru⟩ := (HX w1 _ S).2 k hlt
   have hc := (HX w1 _ S).at_ hu
   obtain ⟨Ax, cx, hform⟩ := rd_form hru
   have HB : ∀ V cs, Held w0 V (blkR g 134 cs :: L) → Rd V 1 u ls[k].length (bv ls[k]) := fun V cs SV => by
    obtain ⟨u', hu', hr'⟩ := (HX V cs SV).2 k hlt
    rw [hu] at hu'
    cases hu'
    exact hr'
   have hfl : (ls.take (k + 1)).flatten = (ls.take k).flatten ++ ls[k] := by rw [List.take_add_one, List.getElem?_eq_getElem hlt]; simp only [Option.toList_some, List.flatten_append, List.flatten_cons, List.flatten_nil, List.append_nil]
   have hle : ((ls.take (k + 1)).flatten).length ≤ ls.flatten.length := by
    conv => rhs; rw [← List.take_append_drop (k + 1) ls, List.flatten_append, List.length_append]
    omega
   have hbd : (kt ++ (ls.take k).flatten).length + ls[k].length ≤ 1152921504606846976 := by
    rw [hfl, List.length_append] at hle
    rw [List.length_append]
    omega
   have HR := Lib.hid (swrite_any w0 g (kt ++ (ls.take k).flatten) ls[k] st blk hU hbd u L w1 HB S)
   rw [List.append_assoc, ← hfl] at HR
   refine wp_seq (wp_block ?_)
   refine wp_seq (shd_r11 k ls.length c ad u hlt hc Ax ls[k].length cx hform hz2 o28 o30 (fun a3 hs3 o11 => ?_))
   have hz3 := hs3.size.trans hz2; have o9 := hs3.k o9; have o28 := hs3.k o28; have o29 := hs3.k o29; have o30 := hs3.k o30; have o31 := hs3.k o31
   have T := T.trans hs3
   refine shd_r12 g u Ax ls[k].length cx hform _ HR hz3 o9 o11 (fun a4 w2 hs4 h => ?_)
   have hz4 := hs4.size.trans hz3; have o9 := hs4.k o9; have o28 := hs4.k o28; have o29 := hs4.k o29; have o30 := hs4.k o30; have o31 := hs4.k o31; have o11 := hs4.k o11
   have T := T.trans hs4
   obtain ⟨st2, blk2, U2, S2⟩ := h
   refine shd_r13 k (by omega) hz4 o30 (fun a5 hs5 o30 => ?_)
   have hz5 := hs5.size.trans hz4; have o9 := hs5.k o9; have o28 := hs5.k o28; have o29 := hs5.k o29; have o31 := hs5.k o31; have o11 := hs5.k o11
   have T := T.trans hs5
   refine ⟨⟨k + 1, st2, blk2, hlt, T.more (by decide +kernel), o30, U2, S2⟩, ?_⟩
   show ls.length - (intOf _).toNat < ls.length - (intOf _).toNat
   rw [eCtr, o30.eval (by rw [hz5]; decide)]
   show ls.length - (k + 1) < ls.length - k
   omega
 · obtain rfl : k = ls.length := by omega
   refine wp_seq (wp_cond_false ((o31.eval (by rw [hz2]; decide)).trans (by rw [decide_eq_false hlt])) (wp_exit ?_))
   rw [List.take_length] at hU S
   exact hend _ _ st blk (T.more (by decide +kernel)) hU S
theorem hashed_any (w0 : World) (L : List Res) (key : List UInt8) (hk : key.length = 64) (t : UInt8) (x : Value) (vs : List Value) (ls : List (List UInt8)) (hsum : 64 + ls.flatten.length < 1152921504606846976) (w : World) (S : Held w0 w L) (HX : ∀ V, Held w0 V L → TxF V x vs ls) :
 Calls Tryd.prog 41 #[.agg (hashA key), .int .u8 (t.toNat : Int), x] w fun e w' => e = .returned (.agg (hashA (shaF (turned key t ++ ls.flatten)))) ∧ Held w0 w' L := by
 obtain ⟨A, c, rfl, -, -⟩ := (show Txs w x ls from ⟨vs, HX w S⟩).open_
 have S0 := Lib.hid ((S.newBlk 76 (hashA key)).newBlk 25 (hashA (List.replicate 32 0)))
 simp only [World.size_alloc] at S0
 have HX := Lib.hid HX
 have Hk := Lib.hid hk
 have hsum := Lib.hid hsum
 obtain ⟨ck, hck⟩ : ∃ ck, Hid (hashA key = ck) := ⟨_, Lib.hid rfl⟩
 rw [hck.out] at S0 ⊢
 clear S hk
 go_enter Tryd.func41, Tryd.ntmps41
 go_wp2
 change Code.wp _ _ _ _ ((w.alloc (.cells ck 76)).alloc (.cells (hashA (List.replicate 32 0)) 25))
 generalize (w.alloc (.cells ck 76)).alloc (.cells (hashA (List.replicate 32 0)) 25) = w1 at *
 generalize w.heap.size = g3 at *
 obtain ⟨g6, hg6⟩ : ∃ g6, g3 + 1 = g6 := ⟨_, rfl⟩
 rw [hg6] at S0 ⊢
 rw [← hck.out] at S0
 clear hg6
 go_loopw [7, 12] (fun _ i wr => ∃ k : Nat, k ≤ 64 ∧ i = .int .i64 (k : Int) ∧ Held w0 wr (blkR g6 25 (hashA (List.replicate 32 0)) :: blkR g3 76 (hashA (turnK key t k)) :: L)) (fun _ i _ => 64 - (intOf i).toNat)
 case atStart => exact ⟨0, by omega, rfl, S0.out⟩
 case round =>
  clear S0
  obtain ⟨k, hk, rfl, S⟩ := hrel
  have S := Lib.hid S
  by_cases hlt : k < 64
  · have hkl : k < key.length := by rw [Hk.out]; exact hlt
    have q1 := hash_cell (S.out.at_ (l1 := [_])) k _ (turnK_at hkl)
    have q2 := (S.out.at_ (l1 := [_])).frozen k
    have hx := xor_byte key[k] t
    have S2 : Hid (Held w0 (wr.setCell ⟨g3, k, none⟩ (.int .u8 ((key[k] ^^^ t).toNat : Int))) _) := Lib.hid (S.out.set (l1 := [_]) k (.int .u8 ((key[k] ^^^ t).toNat : Int)))
    rw [hashA_set, turnK_next hkl] at S2
    generalize key[k] ^^^ t = y at *
    generalize key[k] = z at *
    clear hkl
    go_wp2
    go_roundw
    case rel => exact ⟨k + 1, by omega, by go_num, S2.out⟩
    case measure => simp [intOf]; omega
  · obtain rfl : k = 64 := by omega
    have e : turnK key t 64 = turned key t := by
     unfold turnK
     rw [List.take_of_length_le (by rw [Hk.out]; omega), List.drop_of_length_le (by rw [Hk.out]; omega), List.append_nil]
    rw [e] at S
    obtain ⟨kt, Hkt0⟩ : ∃ kt, Hid (turned key t = kt) := ⟨_, Lib.hid rfl⟩
    have Hkt : Hid (kt.length = 64) := Lib.hid (by rw [← Hkt0.out]; unfold turned; rw [List.length_map]; exact Hk.out)
    rw [Hkt0.out] at S
    clear e
    go_wp2_with fail
    refine (snew_any w0 _ _ S.out).mono ?_
    rintro e w2 ⟨g, rfl, S2⟩
    have S2 := Lib.hid S2
    go_wp2_with fail
    refine (swrite_any w0 g [] kt hF (List.replicate 64 0) Und.new (by rw [Hkt.out]; simp) _ _ w2 (fun V cs SV => ?_) S2.out).mono ?_
    · have := bytes_rd (SV.at_ (l1 := [_, _])) 0 (Nat.zero_le _) (by rw [Hkt.out]; omega)
      rw [Hkt.out] at this ⊢
      exact this
    rintro e w3 ⟨rfl, st, blk, U3, S3⟩
    rw [List.nil_append] at U3 S3
    have U3 := Lib.hid U3
    have S3 := Lib.hid S3
    have hll := Lib.hid (show Txs w3 _ ls from ⟨vs, HX.out w3 S3.out.drop.drop.drop⟩).len_le
    go_wp2_with fail
    have HU3 := U3
    have hsum2 : kt.length + ls.flatten.length ≤ 1152921504606846976 := by have := hsum.out; have := Hkt.out; omega
    refine shd_l1 g kt A c vs ls hsum2 (blkR g6 25 (hashA (List.replicate 32 0)) :: blkR g3 76 (hashA kt) :: L) (fun V cs SV => HX.out V SV.drop.drop.drop) hll.out st blk U3.out rfl (sl_of rfl) (sl_of rfl) (sl_of rfl) (sl_of rfl) S3.out (fun a' w4 st2 blk2 hs4 U4 S4 => ?_)
    simp only [Exit.inBlock, if_true]
    have hz4 : a'.tmps.size = 40 := hs4.size
    have o6 : Sl a' 6 (.pointer (some ⟨g6, 0, none⟩)) := hs4.k (sl_of rfl)
    have o8 : Sl a' 8 (.pointer (some ⟨g, 0, none⟩)) := hs4.k (sl_of rfl)
    have hbd : (kt ++ ls.flatten).length < 1152921504606846976 := by
     have h1 := hsum.out
     have h2 := Hkt.out
     rw [List.length_append]
     omega
    have HR0 := ssum_any w0 g (kt ++ ls.flatten) st2 blk2 U4 hbd _ w4 S4
    go_step; go_step
    refine wp_seq (shd_r14 w0 g g6 _ (List.replicate 32 0) (shaF_length _) rfl _ (Lib.hid (HR0.mono (fun e w' h => ⟨h.1, ⟨_, h.2⟩⟩))) hz4 o6 o8 (fun a5 w5 hs5 h5 => ?_))
    obtain ⟨cs5, S5⟩ := h5
    have hz5 := hs5.size.trans hz4; have o6 := hs5.k o6
    refine wp_ret (bodyPost_ret (results_cell1 (by rfl) (o6.eval (by rw [hz5]; decide)) (S5.at_ (l1 := [_])) Tryd.underlying25 rfl (by rw [hashA_size, shaF_length]; exact Tryd.infoHashP)) (hs5.defers.trans hs4.defers) ?_)
    exact ⟨by rw [Hkt0.out], S5.drop.drop.drop⟩
end
end Go.Proofs.YtapboamjpilckaaDoor
