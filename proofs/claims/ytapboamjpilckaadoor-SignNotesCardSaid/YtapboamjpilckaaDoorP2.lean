/- Several texts in one: Fence, Range, Marks, PtA, ShaB, ShaC, PtD, PtB, PtC, Reg, ShaD, ShaR, ShaF, ShaW, ShaV, ShaE, Cut. -/
import Derived.RangeFuncNested
import Derived.RangeFuncBound
import Derived.RangeFuncCalls
import Derived.RangeFuncLeaves
import Derived.Shelf.Abstract
import Derived.Shelf.RegionOpen
import Derived.WalkKit
import Derived.OwnWalkIn
import Derived.TacticsInMore
import Derived.LoopNIn
import Derived.LoopN
import Derived.LoopIn
import Derived.Laws.Tables
import Derived.Great.BuildSlice
import Derived.Lib.Strings
import Derived.Test.YtapboamjpilckaaDoorP1
set_option maxRecDepth 100000
set_option maxHeartbeats 8000000
namespace Go.Proofs.YtapboamjpilckaaDoor
/- Walking inside a round: a region's walk outside serves inside; one law for 'for .. range f', whose round is told what holds of what it is handed. -/
section
open Go.RowKit Go.Shelf
section bridge
variable {P : Program} {ops : Array Oper} {Q : Exit → Act → World → Prop} {n rl : Nat}
end bridge
end
/- One law for 'for .. range f': the iterator tells, at each round, what holds of what it hands over; it makes memory alone between two rounds. -/
section
open Go.RowKit Go.Shelf
variable {P : Program} {n : Nat}
end
/- Leaving a function that held ranges over functions; what is held stays through such a loop's own steps. -/
section
open Go.RowKit Go.Shelf
theorem Held.join {w0 w1 w2 : World} {L L' : List Res} (S : Held w0 w1 L) (T : Held w1 w2 L') : Held w0 w2 (L ++ L') :=
 ⟨S.k.trans T.k (by simp), fun r hr => (List.mem_append.1 hr).elim (fun h => r.keep w1 w2 [] (S.ok r h) T.k (by simp)) (T.ok r), fun r hr b hb => (List.mem_append.1 hr).elim (fun h => S.base r h b hb) (fun h => Nat.le_trans S.k.size (T.base r h b hb)),
  List.pairwise_append.2 ⟨S.apart, T.apart, fun r hr s hs b hb hb' => by
   have h1 := r.lt w1 (S.ok r hr) b hb
   have h2 := T.base s hs b hb'
   omega⟩⟩
theorem Held.sub {w0 w : World} {L L' : List Res} (S : Held w0 w L) (h : L'.Sublist L) : Held w0 w L' :=
 ⟨S.k, fun r hr => S.ok r (h.subset hr), fun r hr => S.base r (h.subset hr), S.apart.sublist h⟩
end
/- The digits of a hash. -/
section
open Go.RowKit
theorem run_arr_index {P : Program} (w : World) (t e : TypeId) (n : Nat) (h : List UInt8) (kd : IntKind) (z : Int) (k : Nat) (hz : z = k) (hk : k < h.length) (hn : h.length = n) (hu : P.underlying t = some (.array n e)) (he : P.underlying e = some (.int .u8)) (hc : (P.info? e).map (·.size) = some 1) :
 (Instr.index t (.agg (hashA h)) (.int kd z)).run P w = .ok (.int .u8 (h[k].toNat : Int)) w := by
 subst hz
 have hag : (isAgg e).run P w = .ok false w := by
  unfold isAgg
  rw [Sem.run_bind, run_underlying he w]
  rfl
 cases hq : P.info? e with
 | none => simp [hq] at hc
 | some i =>
  have hs : i.size = 1 := by simpa [hq] using hc
  have hg : (hashA h)[k]? = some (.int .u8 (h[k].toNat : Int)) := by simp [hashA, bv, hk]
  have hb : ¬ ((k : Int) < 0 ∨ (n : Int) ≤ k) := by omega
  have hb2 : 0 ≤ (k : Int) ∧ (k : Int) < n := by omega
  simp [Instr.index, Sem.run_bind, run_underlying hu w, asIntOf, part, hag, sizeOf, typeInfo, hq, hs, hg]
  intro; omega
theorem hex_cell {w : World} {g : Nat} (h : Blk w g 122 (hashA digL)) (n : Nat) (hn : n < 16) : w.cell? ⟨g, n, none⟩ = some (.int .u8 ((hx n).toNat : Int)) := by
 rw [h.cell n]
 have := digL_get hn
 simp [hashA, bv_get, this]
theorem wpList_load_blk {P : Program} {ops : Array Oper} {rest : List Oper} {o : Oper} {a : Act} {w : World} {Q : Exit → Act → World → Prop} (hgd : o.guard = none) (ty : TypeId) (x : Operand) (ho : o.op = .load ty x) (g : Nat) (hx : a.eval x = .pointer (some ⟨g, 0, none⟩))
 (t : TypeId) (cs : Array Value) (hb : Blk w g t cs) (d : TypeDesc) (hu : P.underlying ty = some d) (hd : aggB d = true) (hi : (P.info? ty).map (·.size) = some cs.size)
 (h : wpList P ops Q rest (a.put o.dst (.agg cs)) w) : wpList P ops Q (o :: rest) a w :=
 wpList_load_agg hgd ty x ho ⟨g, 0, none⟩ hx cs.toList d hb.agg hu hd (by rw [hi, Array.length_toList]) h
theorem wpList_store_blk {P : Program} {ops : Array Oper} {rest : List Oper} {o : Oper} {a : Act} {w : World} {Q : Exit → Act → World → Prop} (hgd : o.guard = none) (ty : TypeId) (x y : Operand) (ho : o.op = .store ty x y) (g : Nat) (hx : a.eval x = .pointer (some ⟨g, 0, none⟩))
 (xs : Array Value) (hy : a.eval y = .agg xs) (t : TypeId) (cur : Array Value) (hb : Blk w g t cur) (hi : (P.info? ty).map (·.size) = some xs.size) (hsz : cur.size = xs.size) (h1 : ∀ u, u ∈ xs.toList → u.oneCell' = true)
 (h : ∀ w', Blk w' g t xs → Kp [g] w w' → wpList P ops Q rest (a.put o.dst undef) w') : wpList P ops Q (o :: rest) a w :=
 wpList_store_agg hgd ty x y ho g 0 hx xs hy t cur hb hi (by omega) h1 (fun w' h2 k2 => h w' (by rw [set_all _ _ hsz] at h2; exact h2) k2)
theorem Held.setBlk {w0 w w' : World} {l1 l2 : List Res} {g : Nat} {t : TypeId} {cur xs : Array Value} (h : Held w0 w (l1 ++ blkR g t cur :: l2)) (hb : Blk w' g t xs) (k : Kp [g] w w') : Held w0 w' (l1 ++ blkR g t xs :: l2) :=
 h.turnAt (blkR g t xs) k hb (fun _ h => .inl h)
theorem hashA_one (l : List UInt8) : ∀ u, u ∈ (hashA l).toList → u.oneCell' = true := fun u hu => bv_one l u hu
theorem Tryd.infoHashP : (Tryd.prog.info? 25).map (·.size) = some 32 := by kernel_rfl
theorem Tryd.info16P : (Tryd.prog.info? 122).map (·.size) = some 16 := by kernel_rfl
theorem Tryd.infoPointP : (Tryd.prog.info? 33).map (·.size) = some 33 := by kernel_rfl
theorem Tryd.sizeU8P : (Tryd.prog.info? 5).map (·.size) = some 1 := by kernel_rfl
end
/- Walks of package sha and of its reference: turns of words, tables. -/
section
open Go.RowKit
theorem srot_any (x n : Nat) (k : Int) (hk : k = n) (hx : x < 4294967296) (hn : rotK n) (w : World) : Calls Tryd.prog 98 #[.int .u32 (x : Int), .int .i64 k] w fun e w' => e = .returned (.int .u32 (rotr x n : Int)) ∧ w = w' := by
 subst hk
 have HR := Lib.hid (fun V => rotl_any x n hx hn V)
 have hw : wrap64 (-(n : Int)) = -(n : Int) := by rcases hn with h | h | h | h | h | h | h | h | h | h <;> (unfold wrap64; omega)
 go_enter Tryd.func98, Tryd.ntmps98
 go_wp2_with fail
 refine (HR.out _).mono ?_
 rintro e w' ⟨rfl, rfl⟩
 go_wp2
 go_ret
 exact ⟨rfl, rfl⟩
theorem rrot_any (x n : Nat) (k : Int) (hk : k = n) (hx : x < 4294967296) (hn : rotK n) (w : World) : Calls Tryd.prog 100 #[.int .u32 (x : Int), .int .i64 k] w fun e w' => e = .returned (.int .u32 (rotr x n : Int)) ∧ Kp [] w w' := by
 subst hk
 have HR := Lib.hid (rot_int hx n)
 rcases hn with rfl | rfl | rfl | rfl | rfl | rfl | rfl | rfl | rfl | rfl
 all_goals
  go_enter Tryd.func100, Tryd.ntmps100
  go_wp2_with fail
  go_quiet (fail)
  go_wp2
  go_ret
  exact ⟨by rw [← HR.out]; rfl, (Kp.refl [] _).drewN _⟩
def u32L (l : List Nat) : List Value := l.map fun x : Nat => Value.int .u32 (x : Int)
theorem u32L_length (l : List Nat) : (u32L l).length = l.length := List.length_map ..
theorem u32L_get (l : List Nat) (i : Nat) : (u32L l)[i]? = l[i]?.map fun x : Nat => Value.int .u32 (x : Int) := List.getElem?_map ..
theorem u32L_one (l : List Nat) : ∀ u, u ∈ u32L l → u.oneCell' = true := by
 intro u hu
 obtain ⟨_, _, rfl⟩ := List.mem_map.1 hu
 rfl
def u32A (l : List Nat) : Array Value := (u32L l).toArray
theorem u32A_size (l : List Nat) : (u32A l).size = l.length := by simp [u32A, u32L]
theorem u32A_one (l : List Nat) : ∀ u, u ∈ (u32A l).toList → u.oneCell' = true := u32L_one l
theorem u32A_set (l : List Nat) (i x : Nat) : (u32A l).setIfInBounds i (.int .u32 (x : Int)) = u32A (l.set i x) := by
 unfold u32A u32L
 rw [List.setIfInBounds_toArray, List.map_set]
theorem wpList_buildC {P : Program} {ops : Array Oper} {rest : List Oper} {o : Oper} {a : Act} {w : World} {Q : Exit → Act → World → Prop} (hg : o.guard = none) (t : TypeId) (parts : Array (Nat × Operand)) (ho : o.op = .build t parts) (ps : List (Nat × Value)) (hp : (parts.map fun (i, x) => (i, a.eval x)).toList = ps)
 (cells : Array Value) (hb : P.built t ps = some cells) (h : wpList P ops Q rest (a.put o.dst (.agg cells)) w) : wpList P ops Q (o :: rest) a w := by
 refine wpList_build hg t parts ho (by rw [hp, hb]; rfl) ?_
 rw [hp, hb]
 exact h
def at0N : List Value → Nat → List (Nat × Value)
 | [], _ => []
 | v :: l, k => (k, v) :: at0N l (k + 1)
theorem Tryd.info64w : (Tryd.prog.info? 144).map (·.size) = some 64 := by kernel_rfl
theorem Tryd.info8w : (Tryd.prog.info? 111).map (·.size) = some 8 := by kernel_rfl
theorem Tryd.built_kT : Tryd.prog.built 144 (at0N (u32L kT) 0) = some (u32A kT) := by kernel_rfl
theorem Tryd.built_hF : Tryd.prog.built 111 (at0N (u32L hF) 0) = some (u32A hF) := by kernel_rfl
theorem stable_any (w : World) : Calls Tryd.prog 99 #[] w fun e w' => e = .returned (.agg (u32A kT)) ∧ Kp [] w w' := by
 have S0 := Lib.hid ((Held.start w).newBlk 144 (u32A (List.replicate 64 0)))
 have HO := Lib.hid (u32A_one kT)
 have HB := Lib.hid Tryd.built_kT
 go_enter Tryd.func99, Tryd.ntmps99
 go_wp2_with (first
  | (refine wpList_buildC rfl 144 _ rfl (at0N (u32L kT) 0) (by kernel_rfl) _ HB.out ?_)
  | (refine wpList_store_blk rfl 144 (.tmp 0) (.tmp 1) rfl w.heap.size rfl (u32A kT) rfl 144 _ (S0.out.at_ (l1 := [])) (by rw [u32A_size]; exact Tryd.info64w) (by rw [u32A_size, u32A_size]; rfl) HO.out ?_; intro w1 b1 k1; have S1 := Lib.hid (Held.setBlk (l1 := []) S0.out b1 k1); clear b1 k1))
 refine bodyPost_ret (results_cell1 (by rfl) rfl (S1.out.at_ (l1 := [])) Tryd.underlying144 rfl (by rw [u32A_size]; exact Tryd.info64w)) rfl ?_
 exact ⟨rfl, S1.out.k⟩
theorem sfirst_any (w : World) : Calls Tryd.prog 81 #[] w fun e w' => e = .returned (.agg (u32A hF)) ∧ Kp [] w w' := by
 have S0 := Lib.hid ((Held.start w).newBlk 111 (u32A (List.replicate 8 0)))
 have HO := Lib.hid (u32A_one hF)
 have HB := Lib.hid Tryd.built_hF
 go_enter Tryd.func81, Tryd.ntmps81
 go_wp2_with (first
  | (refine wpList_buildC rfl 111 _ rfl (at0N (u32L hF) 0) (by kernel_rfl) _ HB.out ?_)
  | (refine wpList_store_blk rfl 111 (.tmp 0) (.tmp 1) rfl w.heap.size rfl (u32A hF) rfl 111 _ (S0.out.at_ (l1 := [])) (by rw [u32A_size]; exact Tryd.info8w) (by rw [u32A_size, u32A_size]; rfl) HO.out ?_; intro w1 b1 k1; have S1 := Lib.hid (Held.setBlk (l1 := []) S0.out b1 k1); clear b1 k1))
 refine bodyPost_ret (results_cell1 (by rfl) rfl (S1.out.at_ (l1 := [])) Tryd.underlying111 rfl (by rw [u32A_size]; exact Tryd.info8w)) rfl ?_
 exact ⟨rfl, S1.out.k⟩
theorem rfirst_any (w : World) : Calls Tryd.prog 85 #[] w fun e w' => e = .returned (.agg (u32A hF)) ∧ Kp [] w w' := by
 have S0 := Lib.hid ((Held.start w).newBlk 111 (u32A (List.replicate 8 0)))
 have HO := Lib.hid (u32A_one hF)
 have HB := Lib.hid Tryd.built_hF
 go_enter Tryd.func85, Tryd.ntmps85
 go_wp2_with (first
  | (refine wpList_buildC rfl 111 _ rfl (at0N (u32L hF) 0) (by kernel_rfl) _ HB.out ?_)
  | (refine wpList_store_blk rfl 111 (.tmp 0) (.tmp 1) rfl w.heap.size rfl (u32A hF) rfl 111 _ (S0.out.at_ (l1 := [])) (by rw [u32A_size]; exact Tryd.info8w) (by rw [u32A_size, u32A_size]; rfl) HO.out ?_; intro w1 b1 k1; have S1 := Lib.hid (Held.setBlk (l1 := []) S0.out b1 k1); clear b1 k1))
 refine bodyPost_ret (results_cell1 (by rfl) rfl (S1.out.at_ (l1 := [])) Tryd.underlying111 rfl (by rw [u32A_size]; exact Tryd.info8w)) rfl ?_
 exact ⟨rfl, S1.out.k⟩
end
/- Walks of package sha and of its reference: a constant, a word of four bytes. -/
section
open Go.RowKit
theorem Tryd.infoU32z : (Tryd.prog.info? 110).map (fun i => (i.zero, i.size, i.bytes)) = some (some (.int .u32 0), 1, 4) := by kernel_rfl
theorem fill_kT : Instr.fill (fun i => some (i * 1, 1)) ((Array.range (64 * 1)).map ((Value.int .u32 0).cells[· % (Value.int .u32 0).cells.size]!)) (at0N (u32L kT) 0) = some (u32A kT) := by kernel_rfl
theorem kT_get {t : Nat} (h : t < 64) : (u32L kT)[t]? = some (.int .u32 ((kT.getD t 0 : Nat) : Int)) := by
 have : t < kT.length := h
 rw [u32L_get, List.getElem?_eq_getElem this, List.getD_eq_getElem?_getD, List.getElem?_eq_getElem this]
 rfl
theorem wpList_buildSC {P : Program} {ops : Array Oper} {rest : List Oper} {o : Oper} {a : Act} {w : World} {Q : Exit → Act → World → Prop} (hg : o.guard = none) (t e : TypeId) (len : Nat) (parts : Array (Nat × Operand)) (ho : o.op = .buildSlice t len parts) (ps : List (Nat × Value)) (hp : (parts.map fun (i, x) => (i, a.eval x)).toList = ps)
 (cells : Array Value) (ie : TypeInfo) (z : Value) (hu : P.underlying t = some (.slice e)) (hie : P.info? e = some ie) (hz : ie.zero = some z) (k : Nat) (hk : ie.size = k) (hsmall : ¬ len * k > 2 ^ 24) (hpos : ¬ len * k = 0)
 (hf : Instr.fill (fun i => some (i * k, k)) ((Array.range (len * k)).map (z.cells[· % z.cells.size]!)) ps = some cells)
 (h : wpList P ops Q rest (a.put o.dst (.slice (some ⟨w.heap.size, 0, none⟩) len len)) (w.alloc (.cells cells e))) : wpList P ops Q (o :: rest) a w := by
 subst hk
 refine wpList_buildSlice hg t e len parts ho cells ie z hu hie hz hsmall hpos (by rw [hp]; exact hf) h
theorem rk_any (t : Nat) (ht : t < 64) (w : World) : Calls Tryd.prog 101 #[.int .i64 (t : Int)] w fun e w' => e = .returned (.int .u32 ((kT.getD t 0 : Nat) : Int)) ∧ Kp [] w w' := by
 obtain ⟨i0, hi, hz0, hz1, hz2⟩ := info_parts Tryd.infoU32z
 have K1 := Lib.hid ((Kp.refl [] w).alloc (.cells (u32A kT) 110))
 have hc : (w.alloc (.cells (u32A kT) 110)).cell? ⟨w.heap.size, t, none⟩ = some (.int .u32 ((kT.getD t 0 : Nat) : Int)) := by
  rw [(Blk.new w 110 (u32A kT)).cell t, show (u32A kT)[t]? = (u32L kT)[t]? from by simp [u32A], kT_get ht]
 have HF := Lib.hid fill_kT
 obtain ⟨x, hx⟩ : ∃ x, kT.getD t 0 = x := ⟨_, rfl⟩
 rw [hx] at hc ⊢
 clear hx
 obtain ⟨ka, hka⟩ : ∃ ka, Hid (u32A kT = ka) := ⟨_, Lib.hid rfl⟩
 rw [hka.out] at hc K1
 go_enter Tryd.func101, Tryd.ntmps101
 go_wp2_with (refine wpList_buildSC rfl 164 110 64 _ rfl (at0N (u32L kT) 0) (by kernel_rfl) ka i0 (.int .u32 0) Tryd.underlying164 hi hz0 1 hz1 (by decide) (by decide) (by rw [← hka.out]; exact HF.out) ?_)
 go_ret
 exact ⟨rfl, K1.out⟩
theorem word_any (x : Value) (bs : List UInt8) (n : Nat) (hn : 4 ≤ n) (w : World) (hx : Rd w 1 x n (bv bs)) : Calls Tryd.prog 97 #[x] w fun e w' => e = .returned (.int .u32 ((num (bs.take 4) : Nat) : Int)) ∧ w = w' := by
 obtain ⟨hl, A, c, rfl, h1, h2, hA, hc⟩ := hx
 rw [bv_length] at hl
 unfold maxLen at h2
 rcases A with _ | ad
 · have := hA rfl; omega
 have HC := Lib.hid (hc ad rfl)
 have Hl := Lib.hid hl
 clear hA hc hl
 go_enter Tryd.func97, Tryd.ntmps97
 go_wp2
 go_loopw [3, 5, 9] (fun acc _ t wr => ∃ k : Nat, k ≤ 4 ∧ t = .int .i64 (k : Int) ∧ acc = .int .u32 ((num (bs.take k) : Nat) : Int) ∧ w = wr) (fun _ _ t _ => 4 - (intOf t).toNat)
 case atStart => exact ⟨0, by omega, rfl, rfl, rfl⟩
 case round =>
  obtain ⟨k, hk, rfl, rfl, rfl⟩ := hrel
  by_cases hlt : k < 4
  · obtain ⟨b, hb⟩ : ∃ b, bs[k]? = some b := ⟨_, List.getElem?_eq_getElem (by have := Hl.out; omega)⟩
    have hcell := HC.out k _ (by rw [bv_get, hb]; rfl)
    have hnum : num (bs.take (k + 1)) = 256 * num (bs.take k) + b.toNat := by rw [List.take_add_one, hb]; exact num_snoc _ _
    have hlt2 : num (bs.take k) < 16777216 := by
     have h3 : ∀ j, j ≤ 3 → num (bs.take j) < 256 ^ j := by
      intro j
      induction j with
      | zero => intro _; simp [num]
      | succ j ih =>
       intro hj
       have hjl : j < bs.length := by have := Hl.out; omega
       have := ih (by omega)
       have hb := (bs[j]).toNat_lt
       rw [List.take_add_one, List.getElem?_eq_getElem hjl, show (some bs[j]).toList = [bs[j]] from rfl, num_snoc, Nat.pow_succ]
       omega
     have := h3 k (by omega)
     have h4 : 256 ^ k ≤ 256 ^ 3 := Nat.pow_le_pow_right (by decide) (by omega)
     omega
    have hor : bits .or .u32 (((num (bs.take k) : Nat) : Int) * 256) (b.toNat : Int) = ((num (bs.take (k + 1)) : Nat) : Int) := by
     rw [hnum, ← or_byte hlt2 b.toNat_lt, ← u32_or_nat _ _ (Nat.mod_lt _ (by decide)) (by have := b.toNat_lt; omega), Nat.mod_eq_of_lt (by omega), Int.natCast_mul]
     rfl
    have Hor := Lib.hid hor
    have HN := Lib.hid hnum
    have hblt := b.toNat_lt
    clear hnum hor hb
    generalize num (bs.take k) = a at *
    go_wp2
    go_roundw
    case rel => exact ⟨k + 1, by omega, by go_num, by rw [Hor.out], trivial⟩
    case measure => simp [intOf]; omega
  · obtain rfl : k = 4 := by omega
    go_wp2
    go_ret
    exact ⟨rfl, rfl⟩
end
/- point.digits. -/
section
open Go.RowKit
theorem digits_any (w : World) : Calls Tryd.prog 75 #[] w fun e w' => e = .returned (.agg (hashA digL)) ∧ Kp [] w w' := by
 have HO := Lib.hid (hashA_one digL)
 go_enter Tryd.func75, Tryd.ntmps75
 go_wp2_with (refine wpList_store_blk rfl 122 (.tmp 0) (.tmp 1) rfl w.heap.size rfl (hashA digL) rfl 122 _ (Blk.new w 122 _) (by exact Tryd.info16P) (by rfl) HO.out ?_; intro w2 b2 k2)
 exact bodyPost_ret (results_cell1 (by rfl) rfl b2 Tryd.underlying122 rfl (by exact Tryd.info16P)) rfl ⟨rfl, ((Kp.refl [] w).alloc _).trans k2 (fun g hg => by simp at hg; exact .inr (by omega))⟩
end
/- Hex of point and of the reference. -/
section
open Go.RowKit
theorem pdigit_any (n : Nat) (hn : n < 16) (w : World) : Calls Tryd.prog 93 #[.int .u8 (n : Int)] w fun e w' => e = .returned (.int .u8 ((hx n).toNat : Int)) ∧ w = w' := by
 by_cases h : n < 10
 · have HP : Hid (((hx n).toNat : Int) = 48 + n) := Lib.hid (by unfold hx; rw [if_pos h, UInt8.toNat_ofNat']; omega)
   have h' : (n : Int) < 10 := by omega
   go_enter Tryd.func93, Tryd.ntmps93
   go_wp2
   go_ret
   exact ⟨by rw [HP.out]; rfl, rfl⟩
 · have HP : Hid (((hx n).toNat : Int) = 87 + n) := Lib.hid (by unfold hx; rw [if_neg h, UInt8.toNat_ofNat']; omega)
   have h' : ¬ (n : Int) < 10 := by omega
   go_enter Tryd.func93, Tryd.ntmps93
   go_wp2
   go_ret
   exact ⟨by rw [HP.out, show (87 : Int) + n = 97 + n - 10 by omega]; rfl, rfl⟩
theorem hex_any (h : List UInt8) (hh : h.length = 32) (w : World) : Calls Tryd.prog 55 #[.agg (hashA h)] w fun e w' => e = .returned (.string ⟨(hexS h).toArray⟩) ∧ Kp [] w w' := by
 have HH := Lib.hid hh
 have S0 := Lib.hid ((Held.start w).newBlk 25 (hashA h))
 have HS32 : Hid ((hashA h).size = 32) := Lib.hid (by rw [hashA_size, hh])
 have H16 : Hid ((hashA digL).size = 16) := Lib.hid rfl
 clear hh
 obtain ⟨dg, HD⟩ : ∃ dg, Hid (hashA digL = dg) := ⟨_, Lib.hid rfl⟩
 obtain ⟨hs, HHS⟩ : ∃ hs, Hid (hashA h = hs) := ⟨_, Lib.hid rfl⟩
 rw [HHS.out] at S0 ⊢
 rw [HD.out] at H16
 go_enter Tryd.func55, Tryd.ntmps55
 go_wp2_with fail
 refine (digits_any _).mono ?_
 rw [HD.out]
 rintro e w1 ⟨rfl, k1⟩
 have S1 := Lib.hid (S0.out.kp k1)
 clear k1
 have HO := Lib.hid (fun u hu => by rw [← HD.out] at hu; exact hashA_one digL u hu : ∀ u, u ∈ dg.toList → u.oneCell' = true)
 go_wp2_with (first
  | (refine wpList_store_blk rfl 122 (.tmp 3) (.tmp 7) rfl w1.heap.size rfl dg rfl 122 _ (Blk.new w1 122 _) (by rw [H16.out]; exact Tryd.info16P) (by rw [H16.out]; rfl) HO.out ?_; intro w2 b2 k2; have S2 := Lib.hid (Held.setBlk (l1 := []) (S1.out.newBlk 122 _) b2 k2); clear b2 k2; have S3 := Lib.hid (S2.out.rownew (ow_new w2 5 1 0 #[] rfl (by decide)) ((Kp.refl [] w2).alloc _) (fun g hg => Nat.le_of_eq (Option.some.inj hg))))
  | (refine wpList_load_blk rfl 25 (.tmp 1) rfl w.heap.size rfl 25 hs (S3.out.at_ (l1 := [_, _])) _ Tryd.underlying25 rfl (by rw [← HHS.out, HS32.out]; exact Tryd.infoHashP) ?_))
 obtain ⟨g3, hg3⟩ : ∃ g3, w1.heap.size = g3 := ⟨_, rfl⟩
 rw [hg3] at S3 ⊢
 clear S0 S1 S2 hg3
 go_loopw [4, 6, 10] (fun b _ i wr => ∃ k : Nat, k ≤ 32 ∧ i = .int .i64 k ∧ ∃ A c, b = .slice A (hexS (h.take k)).length c ∧ Held w wr [rowR 5 1 (.slice A (hexS (h.take k)).length c) (hexS (h.take k)).length (bv (hexS (h.take k))), blkR g3 122 (hashA digL)]) (fun _ _ i _ => 32 - (intOf i).toNat)
 case atStart => exact ⟨0, by omega, rfl, _, _, rfl, by rw [HD.out]; exact S3.out.sub (.cons_cons _ (.cons_cons _ (.cons _ (List.Sublist.refl _))))⟩
 case round =>
  clear S3
  obtain ⟨k, hk, rfl, Ao, co, rfl, S⟩ := hrel
  have HS := Lib.hid S
  clear S
  have hol : (hexS (h.take k)).length ≤ 64 := by
   rw [hexS_length, List.length_take]; omega
  by_cases hlt : k < 32
  · have hlt' : k < h.length := by have := HH.out; omega
    have q := fun V => run_arr_index (P := Tryd.prog) V 25 5 32 h .i64 (k : Int) k rfl hlt' HH.out Tryd.underlying25 Tryd.underlying5 Tryd.sizeU8P
    rw [HHS.out] at q
    have he : h[k]? = some h[k] := List.getElem?_eq_getElem hlt'
    obtain ⟨o', HO2⟩ : ∃ o', Hid (hexS (h.take (k + 1)) = o') := ⟨_, Lib.hid rfl⟩
    have HO1 : Hid (hexS (h.take k) ++ hex2 h[k] = o') := Lib.hid (by rw [← HO2.out, hexS_take_succ he])
    clear he
    generalize hexS (h.take k) = o at *
    generalize h[k] = ch at *
    have hlc := ch.toNat_lt
    have HO' : Hid (o ++ [hx (ch.toNat / 16), hx (ch.toNat % 16)] = o' ∧ o.length + 2 = o'.length) := Lib.hid ⟨HO1.out, by rw [← HO1.out]; simp [hex2]⟩
    clear HO1
    generalize ch.toNat = n at *
    go_wp2_with fail
    refine wp_region_sep (Γ := Unit) 2 [0, 1, 2, 3, 4, 5, 6, 7, 8, 9, 10, 11, 13]
     (fun i vs gs => match i with | 0 => vs 0 = .slice Ao o.length co | 1 => vs 1 = .int .u8 (n : Int) | 2 => vs 2 = .int .u8 ((n : Int) / 16) | 3 => vs 3 = .pointer (some ⟨g3, n / 16, none⟩) | 4 => vs 4 = .int .u8 ((hx (n / 16)).toNat : Int) | 5 => vs 5 = .int .u8 (n : Int) | 6 => vs 6 = .int .u8 ((n : Int) % 16) | 7 => vs 7 = .pointer (some ⟨g3, n % 16, none⟩) | 8 => vs 8 = .int .u8 ((hx (n % 16)).toNat : Int) | 10 => ∃ A c, vs 10 = .slice A o'.length c | 11 => vs 11 = vs 10 | _ => True)
     (fun i vs gs => match i with | 9 => [rowR 5 1 (vs 9) 2 (bv [hx (n / 16), hx (n % 16)])] | 10 => [rowR 5 1 (vs 10) o'.length (bv o')] | 12 => [rowR 5 1 (.slice Ao o.length co) o.length (bv o)] | 13 => [blkR g3 122 (hashA digL)] | _ => [])
     (fun i => match i with | 10 => [12] | _ => []) (fun i => match i with | 4 => [13] | 8 => [13] | 10 => [9] | _ => []) HS.out (by kernel_rfl) (by kernel_rfl) (by kernel_rfl) (by kernel_rfl) (fun i => match i with | 0 => [0] | 1 => [1] | 2 => [2] | 3 => [3] | 4 => [4] | 5 => [5] | 6 => [6] | 7 => [7] | 8 => [8] | 9 => [9] | 10 => [10] | 11 => [10, 11] | _ => []) (by kernel_rfl) ?_ (by kernel_rfl) ?_ ?_ ?_
    · intro s vs vs' gs gs' h
      iterate 14 (rcases s with _ | s; · (first | exact ⟨rfl, id⟩ | (simp only [List.mem_cons, List.not_mem_nil, or_false, forall_eq_or_imp, forall_eq] at h; simp [h])))
      exact ⟨rfl, id⟩
    · simp only [List.range, List.range.loop, List.flatMap_cons, List.flatMap_nil, List.append_nil]
      exact List.Perm.refl _
    · refine ⟨?_, ?_, ?_, ?_, ?_, ?_, ?_, ?_, ?_, ?_, ?_, ?_, trivial⟩
      · intro vs gs A' W LF hA S hR hd hu K hK
        replace hK := hK default
        have e4 : A'.tmps[4]?.getD undef = vs 11 := slot_is hA (by kernel_rfl) (Nat.le_of_ble_eq_true (by kernel_rfl)) (by kernel_rfl)
        rw [show vs 11 = .slice Ao o.length co from hu 11 _ rfl (by kernel_rfl)] at e4
        go_step
        exact hK _ _ S rfl
      · intro vs gs A' W LF hA S hR hd hu K hK
        replace hK := hK default
        have e6 : A'.tmps[6]?.getD undef = .int .u8 (n : Int) := slot_is hA (by kernel_rfl) (Nat.le_of_ble_eq_true (by kernel_rfl)) (by kernel_rfl)
        go_step
        exact hK _ _ S rfl
      · intro vs gs A' W LF hA S hR hd hu K hK
        replace hK := hK default
        have f1 : vs 1 = .int .u8 (n : Int) := hd 1 (by kernel_rfl)
        have e14 : A'.tmps[14]?.getD undef = vs 1 := slot_is hA (by kernel_rfl) (Nat.le_of_ble_eq_true (by kernel_rfl)) (by kernel_rfl)
        rw [f1] at e14
        go_step
        exact hK _ _ S rfl
      · intro vs gs A' W LF hA S hR hd hu K hK
        replace hK := hK default
        have e3 : A'.tmps[3]?.getD undef = .pointer (some ⟨g3, 0, none⟩) := slot_is hA (by kernel_rfl) (Nat.le_of_ble_eq_true (by kernel_rfl)) (by kernel_rfl)
        have f2 : vs 2 = .int .u8 ((n : Int) / 16) := hd 2 (by kernel_rfl)
        have e15 : A'.tmps[15]?.getD undef = vs 2 := slot_is hA (by kernel_rfl) (Nat.le_of_ble_eq_true (by kernel_rfl)) (by kernel_rfl)
        rw [f2] at e15
        have h0 : 0 ≤ (n : Int) / 16 := by omega
        have h1 : (n : Int) / 16 < 16 := by omega
        have h2 : ((n : Int) / 16).toNat = n / 16 := by omega
        go_step
        exact hK _ _ S rfl
      · intro vs gs A' W LF hA S hR hd hu K hK
        replace hK := hK default
        have f3 : vs 3 = .pointer (some ⟨g3, n / 16, none⟩) := hd 3 (by kernel_rfl)
        have e16 : A'.tmps[16]?.getD undef = vs 3 := slot_is hA (by kernel_rfl) (Nat.le_of_ble_eq_true (by kernel_rfl)) (by kernel_rfl)
        rw [f3] at e16
        have q := hex_cell (S.ok (blkR g3 122 (hashA digL)) (hR 13 (List.mem_singleton.2 rfl) _ (List.mem_singleton.2 rfl))) (n / 16) (by omega)
        go_step
        exact hK _ _ S rfl
      · intro vs gs A' W LF hA S hR hd hu K hK
        replace hK := hK default
        have e6 : A'.tmps[6]?.getD undef = .int .u8 (n : Int) := slot_is hA (by kernel_rfl) (Nat.le_of_ble_eq_true (by kernel_rfl)) (by kernel_rfl)
        go_step
        exact hK _ _ S rfl
      · intro vs gs A' W LF hA S hR hd hu K hK
        replace hK := hK default
        have f5 : vs 5 = .int .u8 (n : Int) := hd 5 (by kernel_rfl)
        have e18 : A'.tmps[18]?.getD undef = vs 5 := slot_is hA (by kernel_rfl) (Nat.le_of_ble_eq_true (by kernel_rfl)) (by kernel_rfl)
        rw [f5] at e18
        go_step
        exact hK _ _ S rfl
      · intro vs gs A' W LF hA S hR hd hu K hK
        replace hK := hK default
        have e3 : A'.tmps[3]?.getD undef = .pointer (some ⟨g3, 0, none⟩) := slot_is hA (by kernel_rfl) (Nat.le_of_ble_eq_true (by kernel_rfl)) (by kernel_rfl)
        have f6 : vs 6 = .int .u8 ((n : Int) % 16) := hd 6 (by kernel_rfl)
        have e19 : A'.tmps[19]?.getD undef = vs 6 := slot_is hA (by kernel_rfl) (Nat.le_of_ble_eq_true (by kernel_rfl)) (by kernel_rfl)
        rw [f6] at e19
        have h0 : 0 ≤ (n : Int) % 16 := by omega
        have h1 : (n : Int) % 16 < 16 := by omega
        have h2 : ((n : Int) % 16).toNat = n % 16 := by omega
        go_step
        exact hK _ _ S rfl
      · intro vs gs A' W LF hA S hR hd hu K hK
        replace hK := hK default
        have f7 : vs 7 = .pointer (some ⟨g3, n % 16, none⟩) := hd 7 (by kernel_rfl)
        have e20 : A'.tmps[20]?.getD undef = vs 7 := slot_is hA (by kernel_rfl) (Nat.le_of_ble_eq_true (by kernel_rfl)) (by kernel_rfl)
        rw [f7] at e20
        have q := hex_cell (S.ok (blkR g3 122 (hashA digL)) (hR 13 (List.mem_singleton.2 rfl) _ (List.mem_singleton.2 rfl))) (n % 16) (by omega)
        go_step
        exact hK _ _ S rfl
      · intro vs gs A' W LF hA S hR hd hu K hK
        replace hK := hK default
        have f4 : vs 4 = .int .u8 ((hx (n / 16)).toNat : Int) := hd 4 (by kernel_rfl)
        have e17 : A'.tmps[17]?.getD undef = vs 4 := slot_is hA (by kernel_rfl) (Nat.le_of_ble_eq_true (by kernel_rfl)) (by kernel_rfl)
        rw [f4] at e17
        have f8 : vs 8 = .int .u8 ((hx (n % 16)).toNat : Int) := hd 8 (by kernel_rfl)
        have e21 : A'.tmps[21]?.getD undef = vs 8 := slot_is hA (by kernel_rfl) (Nat.le_of_ble_eq_true (by kernel_rfl)) (by kernel_rfl)
        rw [f8] at e21
        go_step
        exact hK _ _ (S.rownew (ow_new W 5 1 2 #[.int .u8 ((hx (n / 16)).toNat : Int), .int .u8 ((hx (n % 16)).toNat : Int)] rfl (by decide)) ((Kp.refl [] W).alloc _) (fun g hg => Nat.le_of_eq (Option.some.inj hg))) trivial
      · intro vs gs A' W LF hA S hR hd hu K hK
        replace hK := hK default
        have f0 : vs 0 = .slice Ao o.length co := hd 0 (by kernel_rfl)
        have e13 : A'.tmps[13]?.getD undef = vs 0 := slot_is hA (by kernel_rfl) (Nat.le_of_ble_eq_true (by kernel_rfl)) (by kernel_rfl)
        rw [f0] at e13
        have e22 : A'.tmps[22]?.getD undef = vs 9 := slot_is hA (by kernel_rfl) (Nat.le_of_ble_eq_true (by kernel_rfl)) (by kernel_rfl)
        refine op_app (.tmp 13) (.tmp 22) 22 5 rfl Tryd.infoU8 Tryd.underlying22 rfl (by decide) (.slice Ao o.length co) o.length (bv o) (by simpa [Act.eval] using e13) S (vs 9) 2 (bv [hx (n / 16), hx (n % 16)]) (by simpa [Act.eval] using e22) (rd_of_row (e := 5) S (List.mem_cons_of_mem _ (hR 9 (List.mem_singleton.2 rfl) _ (List.mem_singleton.2 rfl)))) (bv_one _) (by unfold maxLen; omega) (by omega) (fun v' w' S' => ?_)
        rw [← bv_append, HO'.out.1, HO'.out.2] at S'
        obtain ⟨A1, c1, h1, _⟩ := ow_form (S'.at_ (l1 := []))
        exact hK v' w' S' ⟨A1, c1, h1⟩
      · intro vs gs A' W LF hA S hR hd hu K hK
        replace hK := hK default
        have f10 : ∃ A c, vs 10 = .slice A o'.length c := hd 10 (by kernel_rfl)
        have e23 : A'.tmps[23]?.getD undef = vs 10 := slot_is hA (by kernel_rfl) (Nat.le_of_ble_eq_true (by kernel_rfl)) (by kernel_rfl)
        go_step
        exact hK _ _ S rfl
    · intro vs gs W S hp
      have S : Held w W (rowR 5 1 (vs 9) 2 (bv [hx (n / 16), hx (n % 16)]) :: rowR 5 1 (vs 10) o'.length (bv o') :: blkR g3 122 (hashA digL) :: []) := by simpa only [List.flatMap_cons, List.flatMap_nil, List.append_nil, List.nil_append, List.cons_append, List.append_assoc] using S
      have p0 : vs 0 = .slice Ao o.length co := hp 0 (Nat.le_of_ble_eq_true rfl)
      have p1 : vs 1 = .int .u8 (n : Int) := hp 1 (Nat.le_of_ble_eq_true rfl)
      have p2 : vs 2 = .int .u8 ((n : Int) / 16) := hp 2 (Nat.le_of_ble_eq_true rfl)
      have p3 : vs 3 = .pointer (some ⟨g3, n / 16, none⟩) := hp 3 (Nat.le_of_ble_eq_true rfl)
      have p4 : vs 4 = .int .u8 ((hx (n / 16)).toNat : Int) := hp 4 (Nat.le_of_ble_eq_true rfl)
      have p5 : vs 5 = .int .u8 (n : Int) := hp 5 (Nat.le_of_ble_eq_true rfl)
      have p6 : vs 6 = .int .u8 ((n : Int) % 16) := hp 6 (Nat.le_of_ble_eq_true rfl)
      have p7 : vs 7 = .pointer (some ⟨g3, n % 16, none⟩) := hp 7 (Nat.le_of_ble_eq_true rfl)
      have p8 : vs 8 = .int .u8 ((hx (n % 16)).toNat : Int) := hp 8 (Nat.le_of_ble_eq_true rfl)
      have p11 : vs 11 = vs 10 := hp 11 (Nat.le_of_ble_eq_true rfl)
      obtain ⟨A8, c8, h8⟩ := hp 10 (Nat.le_of_ble_eq_true rfl)
      rw [h8] at p11 S
      have S2 := Lib.hid S.drop
      clear hp
      simp only [putAll, p0, p1, p2, p3, p4, p5, p6, p7, p8, p11, h8, Act.put, List.setIfInBounds_toArray, List.set_cons_succ, List.set_cons_zero]
      clear p0 p1 p2 p3 p4 p5 p6 p7 p8 p11 h8
      go_wp2
      go_roundw
      case rel => exact ⟨k + 1, by omega, by go_num, by rw [HO2.out]; exact ⟨_, _, rfl, S2.out⟩⟩
      case measure => simp [intOf]; omega
  · obtain rfl : k = 32 := by omega
    have HR : Hid (hexS (h.take 32) = hexS h) := Lib.hid (by rw [List.take_of_length_le (by have := HH.out; omega)])
    rw [HR.out] at HS ⊢
    have kv := strB (Rd.of_own (HS.out.at_ (l1 := [])))
    go_wp2
    go_ret
    exact ⟨rfl, HS.out.k⟩
theorem rhex_any (h : List UInt8) (hh : h.length = 32) (w : World) : Calls Tryd.prog 76 #[.agg (hashA h)] w fun e w' => e = .returned (.string ⟨(hexS h).toArray⟩) ∧ Kp [] w w' := by
 have HH := Lib.hid hh
 have S0 := Lib.hid (((Held.start w).newBlk 25 (hashA h)).rownew (World.ownsRow_nil _ 0 5 1) (Kp.refl [] _) (by simp [Value.ownBlock]))
 clear hh
 go_enter Tryd.func76, Tryd.ntmps76
 go_wp2
 obtain ⟨g1, hg1⟩ : ∃ g1, w.heap.size = g1 := ⟨_, rfl⟩
 rw [hg1] at S0 ⊢
 clear hg1
 go_loopw [3, 4] (fun b i wr => ∃ k : Nat, k ≤ 32 ∧ i = .int .i64 k ∧ ∃ A c, b = .slice A (hexS (h.take k)).length c ∧ Held w wr [rowR 5 1 (.slice A (hexS (h.take k)).length c) (hexS (h.take k)).length (bv (hexS (h.take k))), blkR g1 25 (hashA h)]) (fun _ i _ => 32 - (intOf i).toNat)
 case atStart => exact ⟨0, by omega, rfl, _, _, rfl, S0.out⟩
 case round =>
  clear S0
  obtain ⟨k, hk, rfl, Ao, co, rfl, S⟩ := hrel
  have HS := Lib.hid S
  clear S
  have hol : (hexS (h.take k)).length ≤ 64 := by
   rw [hexS_length, List.length_take]; omega
  by_cases hlt : k < 32
  · have hlt' : k < h.length := by have := HH.out; omega
    have he : h[k]? = some h[k] := List.getElem?_eq_getElem hlt'
    have hg : (hashA h)[k]? = some (.int .u8 (h[k].toNat : Int)) := by simp [hashA, bv, hlt']
    obtain ⟨o', HO2⟩ : ∃ o', Hid (hexS (h.take (k + 1)) = o') := ⟨_, Lib.hid rfl⟩
    have HO1 : Hid (hexS (h.take k) ++ hex2 h[k] = o') := Lib.hid (by rw [← HO2.out, hexS_take_succ he])
    clear he
    generalize hexS (h.take k) = o at *
    generalize h[k] = ch at *
    have hlc := ch.toNat_lt
    have HO' : Hid (o ++ [hx (ch.toNat / 16), hx (ch.toNat % 16)] = o' ∧ o.length + 2 = o'.length) := Lib.hid ⟨HO1.out, by rw [← HO1.out]; simp [hex2]⟩
    clear HO1
    generalize ch.toNat = n at *
    have HG := Lib.hid hg
    clear hg
    have cd1 : Hid (∀ V, Calls Tryd.prog 93 #[.int .u8 ((n : Int) / 16)] V fun e w' => e = .returned (.int .u8 ((hx (n / 16)).toNat : Int)) ∧ V = w') := Lib.hid (fun V => by
     have := pdigit_any (n / 16) (by omega) V
     rwa [show ((n / 16 : Nat) : Int) = (n : Int) / 16 from by omega] at this)
    have cd2 : Hid (∀ V, Calls Tryd.prog 93 #[.int .u8 ((n : Int) % 16)] V fun e w' => e = .returned (.int .u8 ((hx (n % 16)).toNat : Int)) ∧ V = w') := Lib.hid (fun V => by
     have := pdigit_any (n % 16) (by omega) V
     rwa [show ((n % 16 : Nat) : Int) = (n : Int) % 16 from by omega] at this)
    go_wp2_with fail
    refine wp_region_sep (Γ := Unit) 2 [0, 1, 2, 3, 4, 5, 6, 7, 8, 9, 10, 11, 12, 13, 15]
     (fun i vs gs => match i with | 0 => vs 0 = .slice Ao o.length co | 1 => vs 1 = .int .i64 (k : Int) | 2 => vs 2 = .pointer (some ⟨g1, k, none⟩) | 3 => vs 3 = .int .u8 (n : Int) | 4 => vs 4 = .int .u8 ((n : Int) / 16) | 5 => vs 5 = .int .u8 ((hx (n / 16)).toNat : Int) | 6 => vs 6 = .int .i64 (k : Int) | 7 => vs 7 = .pointer (some ⟨g1, k, none⟩) | 8 => vs 8 = .int .u8 (n : Int) | 9 => vs 9 = .int .u8 ((n : Int) % 16) | 10 => vs 10 = .int .u8 ((hx (n % 16)).toNat : Int) | 12 => ∃ A c, vs 12 = .slice A o'.length c | 13 => vs 13 = vs 12 | _ => True)
     (fun i vs gs => match i with | 11 => [rowR 5 1 (vs 11) 2 (bv [hx (n / 16), hx (n % 16)])] | 12 => [rowR 5 1 (vs 12) o'.length (bv o')] | 14 => [rowR 5 1 (.slice Ao o.length co) o.length (bv o)] | 15 => [blkR g1 25 (hashA h)] | _ => [])
     (fun i => match i with | 12 => [14] | _ => []) (fun i => match i with | 3 => [15] | 8 => [15] | 12 => [11] | _ => []) HS.out (by kernel_rfl) (by kernel_rfl) (by kernel_rfl) (by kernel_rfl) (fun i => match i with | 0 => [0] | 1 => [1] | 2 => [2] | 3 => [3] | 4 => [4] | 5 => [5] | 6 => [6] | 7 => [7] | 8 => [8] | 9 => [9] | 10 => [10] | 11 => [11] | 12 => [12] | 13 => [12, 13] | _ => []) (by kernel_rfl) ?_ (by kernel_rfl) ?_ ?_ ?_
    · intro s vs vs' gs gs' h
      iterate 16 (rcases s with _ | s; · (first | exact ⟨rfl, id⟩ | (simp only [List.mem_cons, List.not_mem_nil, or_false, forall_eq_or_imp, forall_eq] at h; simp [h])))
      exact ⟨rfl, id⟩
    · simp only [List.range, List.range.loop, List.flatMap_cons, List.flatMap_nil, List.append_nil]
      exact List.Perm.refl _
    · refine ⟨?_, ?_, ?_, ?_, ?_, ?_, ?_, ?_, ?_, ?_, ?_, ?_, ?_, ?_, trivial⟩
      · intro vs gs A' W LF hA S hR hd hu K hK
        replace hK := hK default
        have e3 : A'.tmps[3]?.getD undef = vs 13 := slot_is hA (by kernel_rfl) (Nat.le_of_ble_eq_true (by kernel_rfl)) (by kernel_rfl)
        rw [show vs 13 = .slice Ao o.length co from hu 13 _ rfl (by kernel_rfl)] at e3
        go_step
        exact hK _ _ S rfl
      · intro vs gs A' W LF hA S hR hd hu K hK
        replace hK := hK default
        have e4 : A'.tmps[4]?.getD undef = .int .i64 (k : Int) := slot_is hA (by kernel_rfl) (Nat.le_of_ble_eq_true (by kernel_rfl)) (by kernel_rfl)
        go_step
        exact hK _ _ S rfl
      · intro vs gs A' W LF hA S hR hd hu K hK
        replace hK := hK default
        have e1 : A'.tmps[1]?.getD undef = .pointer (some ⟨g1, 0, none⟩) := slot_is hA (by kernel_rfl) (Nat.le_of_ble_eq_true (by kernel_rfl)) (by kernel_rfl)
        have f1 : vs 1 = .int .i64 (k : Int) := hd 1 (by kernel_rfl)
        have e10 : A'.tmps[10]?.getD undef = vs 1 := slot_is hA (by kernel_rfl) (Nat.le_of_ble_eq_true (by kernel_rfl)) (by kernel_rfl)
        rw [f1] at e10
        go_step
        exact hK _ _ S rfl
      · intro vs gs A' W LF hA S hR hd hu K hK
        replace hK := hK default
        have f2 : vs 2 = .pointer (some ⟨g1, k, none⟩) := hd 2 (by kernel_rfl)
        have e11 : A'.tmps[11]?.getD undef = vs 2 := slot_is hA (by kernel_rfl) (Nat.le_of_ble_eq_true (by kernel_rfl)) (by kernel_rfl)
        rw [f2] at e11
        have q : W.cell? ⟨g1, k, none⟩ = some (.int .u8 (n : Int)) := by rw [(show Blk W g1 25 (hashA h) from S.ok (blkR g1 25 (hashA h)) (hR 15 (List.mem_singleton.2 rfl) _ (List.mem_singleton.2 rfl))).cell k]; exact HG.out
        go_step
        exact hK _ _ S rfl
      · intro vs gs A' W LF hA S hR hd hu K hK
        replace hK := hK default
        have f3 : vs 3 = .int .u8 (n : Int) := hd 3 (by kernel_rfl)
        have e12 : A'.tmps[12]?.getD undef = vs 3 := slot_is hA (by kernel_rfl) (Nat.le_of_ble_eq_true (by kernel_rfl)) (by kernel_rfl)
        rw [f3] at e12
        go_step
        exact hK _ _ S rfl
      · intro vs gs A' W LF hA S hR hd hu K hK
        replace hK := hK default
        have f4 : vs 4 = .int .u8 ((n : Int) / 16) := hd 4 (by kernel_rfl)
        have e13 : A'.tmps[13]?.getD undef = vs 4 := slot_is hA (by kernel_rfl) (Nat.le_of_ble_eq_true (by kernel_rfl)) (by kernel_rfl)
        rw [f4] at e13
        go_step
        refine (cd1.out _).mono ?_
        rintro e w' ⟨rfl, rfl⟩
        exact hK _ _ S rfl
      · intro vs gs A' W LF hA S hR hd hu K hK
        replace hK := hK default
        have e4 : A'.tmps[4]?.getD undef = .int .i64 (k : Int) := slot_is hA (by kernel_rfl) (Nat.le_of_ble_eq_true (by kernel_rfl)) (by kernel_rfl)
        go_step
        exact hK _ _ S rfl
      · intro vs gs A' W LF hA S hR hd hu K hK
        replace hK := hK default
        have e1 : A'.tmps[1]?.getD undef = .pointer (some ⟨g1, 0, none⟩) := slot_is hA (by kernel_rfl) (Nat.le_of_ble_eq_true (by kernel_rfl)) (by kernel_rfl)
        have f6 : vs 6 = .int .i64 (k : Int) := hd 6 (by kernel_rfl)
        have e15 : A'.tmps[15]?.getD undef = vs 6 := slot_is hA (by kernel_rfl) (Nat.le_of_ble_eq_true (by kernel_rfl)) (by kernel_rfl)
        rw [f6] at e15
        go_step
        exact hK _ _ S rfl
      · intro vs gs A' W LF hA S hR hd hu K hK
        replace hK := hK default
        have f7 : vs 7 = .pointer (some ⟨g1, k, none⟩) := hd 7 (by kernel_rfl)
        have e16 : A'.tmps[16]?.getD undef = vs 7 := slot_is hA (by kernel_rfl) (Nat.le_of_ble_eq_true (by kernel_rfl)) (by kernel_rfl)
        rw [f7] at e16
        have q : W.cell? ⟨g1, k, none⟩ = some (.int .u8 (n : Int)) := by rw [(show Blk W g1 25 (hashA h) from S.ok (blkR g1 25 (hashA h)) (hR 15 (List.mem_singleton.2 rfl) _ (List.mem_singleton.2 rfl))).cell k]; exact HG.out
        go_step
        exact hK _ _ S rfl
      · intro vs gs A' W LF hA S hR hd hu K hK
        replace hK := hK default
        have f8 : vs 8 = .int .u8 (n : Int) := hd 8 (by kernel_rfl)
        have e17 : A'.tmps[17]?.getD undef = vs 8 := slot_is hA (by kernel_rfl) (Nat.le_of_ble_eq_true (by kernel_rfl)) (by kernel_rfl)
        rw [f8] at e17
        go_step
        exact hK _ _ S rfl
      · intro vs gs A' W LF hA S hR hd hu K hK
        replace hK := hK default
        have f9 : vs 9 = .int .u8 ((n : Int) % 16) := hd 9 (by kernel_rfl)
        have e18 : A'.tmps[18]?.getD undef = vs 9 := slot_is hA (by kernel_rfl) (Nat.le_of_ble_eq_true (by kernel_rfl)) (by kernel_rfl)
        rw [f9] at e18
        go_step
        refine (cd2.out _).mono ?_
        rintro e w' ⟨rfl, rfl⟩
        exact hK _ _ S rfl
      · intro vs gs A' W LF hA S hR hd hu K hK
        replace hK := hK default
        have f5 : vs 5 = .int .u8 ((hx (n / 16)).toNat : Int) := hd 5 (by kernel_rfl)
        have e14 : A'.tmps[14]?.getD undef = vs 5 := slot_is hA (by kernel_rfl) (Nat.le_of_ble_eq_true (by kernel_rfl)) (by kernel_rfl)
        rw [f5] at e14
        have f10 : vs 10 = .int .u8 ((hx (n % 16)).toNat : Int) := hd 10 (by kernel_rfl)
        have e19 : A'.tmps[19]?.getD undef = vs 10 := slot_is hA (by kernel_rfl) (Nat.le_of_ble_eq_true (by kernel_rfl)) (by kernel_rfl)
        rw [f10] at e19
        go_step
        exact hK _ _ (S.rownew (ow_new W 5 1 2 #[.int .u8 ((hx (n / 16)).toNat : Int), .int .u8 ((hx (n % 16)).toNat : Int)] rfl (by decide)) ((Kp.refl [] W).alloc _) (fun g hg => Nat.le_of_eq (Option.some.inj hg))) trivial
      · intro vs gs A' W LF hA S hR hd hu K hK
        replace hK := hK default
        have f0 : vs 0 = .slice Ao o.length co := hd 0 (by kernel_rfl)
        have e9 : A'.tmps[9]?.getD undef = vs 0 := slot_is hA (by kernel_rfl) (Nat.le_of_ble_eq_true (by kernel_rfl)) (by kernel_rfl)
        rw [f0] at e9
        have e20 : A'.tmps[20]?.getD undef = vs 11 := slot_is hA (by kernel_rfl) (Nat.le_of_ble_eq_true (by kernel_rfl)) (by kernel_rfl)
        refine op_app (.tmp 9) (.tmp 20) 22 5 rfl Tryd.infoU8 Tryd.underlying22 rfl (by decide) (.slice Ao o.length co) o.length (bv o) (by simpa [Act.eval] using e9) S (vs 11) 2 (bv [hx (n / 16), hx (n % 16)]) (by simpa [Act.eval] using e20) (rd_of_row (e := 5) S (List.mem_cons_of_mem _ (hR 11 (List.mem_singleton.2 rfl) _ (List.mem_singleton.2 rfl)))) (bv_one _) (by unfold maxLen; omega) (by omega) (fun v' w' S' => ?_)
        rw [← bv_append, HO'.out.1, HO'.out.2] at S'
        obtain ⟨A1, c1, h1, _⟩ := ow_form (S'.at_ (l1 := []))
        exact hK v' w' S' ⟨A1, c1, h1⟩
      · intro vs gs A' W LF hA S hR hd hu K hK
        replace hK := hK default
        have f12 : ∃ A c, vs 12 = .slice A o'.length c := hd 12 (by kernel_rfl)
        have e21 : A'.tmps[21]?.getD undef = vs 12 := slot_is hA (by kernel_rfl) (Nat.le_of_ble_eq_true (by kernel_rfl)) (by kernel_rfl)
        go_step
        exact hK _ _ S rfl
    · intro vs gs W S hp
      have S : Held w W (rowR 5 1 (vs 11) 2 (bv [hx (n / 16), hx (n % 16)]) :: rowR 5 1 (vs 12) o'.length (bv o') :: blkR g1 25 (hashA h) :: []) := by simpa only [List.flatMap_cons, List.flatMap_nil, List.append_nil, List.nil_append, List.cons_append, List.append_assoc] using S
      have p0 : vs 0 = .slice Ao o.length co := hp 0 (Nat.le_of_ble_eq_true rfl)
      have p1 : vs 1 = .int .i64 (k : Int) := hp 1 (Nat.le_of_ble_eq_true rfl)
      have p2 : vs 2 = .pointer (some ⟨g1, k, none⟩) := hp 2 (Nat.le_of_ble_eq_true rfl)
      have p3 : vs 3 = .int .u8 (n : Int) := hp 3 (Nat.le_of_ble_eq_true rfl)
      have p4 : vs 4 = .int .u8 ((n : Int) / 16) := hp 4 (Nat.le_of_ble_eq_true rfl)
      have p5 : vs 5 = .int .u8 ((hx (n / 16)).toNat : Int) := hp 5 (Nat.le_of_ble_eq_true rfl)
      have p6 : vs 6 = .int .i64 (k : Int) := hp 6 (Nat.le_of_ble_eq_true rfl)
      have p7 : vs 7 = .pointer (some ⟨g1, k, none⟩) := hp 7 (Nat.le_of_ble_eq_true rfl)
      have p8 : vs 8 = .int .u8 (n : Int) := hp 8 (Nat.le_of_ble_eq_true rfl)
      have p9 : vs 9 = .int .u8 ((n : Int) % 16) := hp 9 (Nat.le_of_ble_eq_true rfl)
      have p10 : vs 10 = .int .u8 ((hx (n % 16)).toNat : Int) := hp 10 (Nat.le_of_ble_eq_true rfl)
      have p13 : vs 13 = vs 12 := hp 13 (Nat.le_of_ble_eq_true rfl)
      obtain ⟨A8, c8, h8⟩ := hp 12 (Nat.le_of_ble_eq_true rfl)
      rw [h8] at p13 S
      have S2 := Lib.hid S.drop
      clear hp
      simp only [putAll, p0, p1, p2, p3, p4, p5, p6, p7, p8, p9, p10, p13, h8, Act.put, List.setIfInBounds_toArray, List.set_cons_succ, List.set_cons_zero]
      clear p0 p1 p2 p3 p4 p5 p6 p7 p8 p9 p10 p13 h8
      go_wp2
      go_roundw
      case rel => exact ⟨k + 1, by omega, by go_num, by rw [HO2.out]; exact ⟨_, _, rfl, S2.out⟩⟩
      case measure => simp [intOf]; omega
  · obtain rfl : k = 32 := by omega
    have HR : Hid (hexS (h.take 32) = hexS h) := Lib.hid (by rw [List.take_of_length_le (by have := HH.out; omega)])
    rw [HR.out] at HS ⊢
    have kv := strB (Rd.of_own (HS.out.at_ (l1 := [])))
    go_wp2
    go_ret
    exact ⟨rfl, HS.out.k⟩
end
/- Unhex of point and of the reference. -/
section
open Go.RowKit
theorem hashA_set (l : List UInt8) (i : Nat) (c : UInt8) : (hashA l).setIfInBounds i (.int .u8 (c.toNat : Int)) = hashA (l.set i c) := by
 apply Array.ext'
 simp [hashA, bv, List.map_set]
theorem run_str_indexP (s : ByteArray) (k : Nat) (hk : k < s.size) (w : World) : (Instr.index 9 (.string s) (.int .i64 (k : Int))).run Tryd.prog w = .ok (.int .u8 (s[k].toNat : Int)) w := by
 simp [Instr.index, run_underlying Tryd.underlying9, hk, go_sem]
end
/- Regions and loops as theorems of their own, over an ABSTRACT frame 'a': code is taken out of the function by its number; what the frame holds is told slot by slot ('Sl'), what a region leaves alone by 'Same'. -/
section
def regOf (n : Nat) : Code → Option (Array Oper)
 | .region id ops _ => if id = n then some ops else none
 | .seq a b => match regOf n a with
  | some x => some x
  | none => regOf n b
 | .cond _ a b => match regOf n a with
  | some x => some x
  | none => regOf n b
 | .block _ c => regOf n c
 | .loop c => regOf n c
 | .scope c => regOf n c
 | .rangeFunc _ _ a b => match regOf n a with
  | some x => some x
  | none => regOf n b
 | _ => none
def opsOf (n : Nat) (f : Func) : List Oper := match f.body with
 | some c => match regOf n c with
  | some x => x.toList
  | none => []
 | none => []
def blkOf (n : Nat) : Code → Option Code
 | .block id c => if id = n then some c else blkOf n c
 | .seq a b => match blkOf n a with
  | some x => some x
  | none => blkOf n b
 | .cond _ a b => match blkOf n a with
  | some x => some x
  | none => blkOf n b
 | .loop c => blkOf n c
 | .scope c => blkOf n c
 | .rangeFunc _ _ a b => match blkOf n a with
  | some x => some x
  | none => blkOf n b
 | _ => none
def blockOf (n : Nat) (f : Func) : Code := match f.body with
 | some c => (blkOf n c).getD .skip
 | none => .skip
def hasReg (n : Nat) : Code → Bool
 | .region id _ _ => id == n
 | .seq a b => hasReg n a || hasReg n b
 | .cond _ a b => hasReg n a || hasReg n b
 | .block _ c => hasReg n c
 | .loop c => hasReg n c
 | .scope c => hasReg n c
 | .rangeFunc _ _ a b => hasReg n a || hasReg n b
 | _ => false
def tailIn (n : Nat) : Code → Code
 | .seq a b => if hasReg n a then b else tailIn n b
 | c => c
def tailOf (n : Nat) (f : Func) : Code := match f.body with
 | some c => tailIn n c
 | none => .skip
def putD : List (Nat × Value) → Act → Act
 | [], a => a
 | (d, v) :: l, a => putD l (a.put (some d) v)
def Sl (a : Act) (d : Nat) (v : Value) : Prop := ∀ h : d < a.tmps.size, a.tmps[d]'h = v
structure Same (a a' : Act) (ds : List Nat) : Prop where
 size : a'.tmps.size = a.tmps.size
 defers : a'.defers = a.defers
 keep : ∀ d v, (ds.contains d) = false → Sl a d v → Sl a' d v
def lastD : List (Nat × Value) → Nat → Option Value
 | [], _ => none
 | (e, v) :: l, d => match lastD l d with
  | some u => some u
  | none => if e = d then some v else none
theorem sl_of {a : Act} {d : Nat} {v : Value} (h : a.tmps[d]? = some v) : Sl a d v := by
 intro hd
 rw [Array.getElem?_eq_getElem hd] at h
 exact Option.some.inj h
theorem Sl.some {a : Act} {d : Nat} {v : Value} (h : Sl a d v) (hd : d < a.tmps.size) : a.tmps[d]? = some v := by
 rw [Array.getElem?_eq_getElem hd, h hd]
theorem sl_put1 {a : Act} {d e : Nat} {v u : Value} (h : Sl a d v) (hne : e ≠ d) : Sl (a.put (some e) u) d v := by
 by_cases hd : d < a.tmps.size
 · refine sl_of ?_
   show (a.tmps.setIfInBounds e u)[d]? = _
   rw [Array.getElem?_setIfInBounds_ne hne]
   exact h.some hd
 · intro hd'
   exact absurd (by simpa [Act.put] using hd') hd
theorem putD_size : ∀ (l : List (Nat × Value)) (a : Act), (putD l a).tmps.size = a.tmps.size
 | [], _ => rfl
 | (d, v) :: l, a => by
  show (putD l (a.put (some d) v)).tmps.size = _
  rw [putD_size l]
  simp [Act.put]
theorem putD_defers : ∀ (l : List (Nat × Value)) (a : Act), (putD l a).defers = a.defers
 | [], _ => rfl
 | (d, v) :: l, a => by
  show (putD l (a.put (some d) v)).defers = _
  rw [putD_defers l]
  rfl
theorem sl_putD_out : ∀ (l : List (Nat × Value)) (a : Act) (d : Nat) (v : Value), (l.map (·.1)).contains d = false → Sl a d v → Sl (putD l a) d v
 | [], _, _, _, _, h => h
 | (e, u) :: l, a, d, v, hn, h => by
  simp only [List.map_cons, List.contains_cons, Bool.or_eq_false_iff] at hn
  exact sl_putD_out l _ d v hn.2 (sl_put1 h (fun e => by simp [e] at hn))
theorem same_putD (l : List (Nat × Value)) (a : Act) : Same a (putD l a) (l.map (·.1)) :=
 ⟨putD_size l a, putD_defers l a, fun d v hn h => sl_putD_out l a d v hn h⟩
theorem same_nil {a : Act} {ds : List Nat} : Same a { tmps := a.tmps, defers := a.defers } ds := ⟨rfl, rfl, fun _ _ _ h => h⟩
theorem same_set {a : Act} {t : Array Value} {D : List Deferred} {ds : List Nat} {d : Nat} {v : Value} (hd : ds.contains d = true) (h : Same a { tmps := t, defers := D } ds) : Same a { tmps := t.setIfInBounds d v, defers := D } ds := by
 refine ⟨by rw [← h.size]; simp, h.defers, fun e u hn hs => ?_⟩
 have h1 := h.keep e u hn hs
 have hne : d ≠ e := by
  rintro rfl
  rw [hd] at hn
  cases hn
 have := sl_put1 (u := v) h1 hne
 exact this
theorem lastD_none : ∀ (l : List (Nat × Value)) (d : Nat), lastD l d = none → (l.map (·.1)).contains d = false
 | [], _, _ => rfl
 | (e, u) :: l, d, h => by
  unfold lastD at h
  cases hl : lastD l d with
  | some x => rw [hl] at h; cases h
  | none =>
   rw [hl] at h
   simp only at h
   by_cases he : e = d
   · rw [if_pos he] at h; cases h
   · simp only [List.map_cons, List.contains_cons, Bool.or_eq_false_iff]
     exact ⟨by simpa using fun h => he h.symm, lastD_none l d hl⟩
theorem sl_putD : ∀ (l : List (Nat × Value)) (a : Act) (d : Nat) (v : Value), lastD l d = some v → Sl (putD l a) d v
 | [], _, _, _, h => by cases h
 | (e, u) :: l, a, d, v, h => by
  unfold lastD at h
  cases hl : lastD l d with
  | some x =>
   rw [hl] at h
   cases h
   exact sl_putD l _ d v hl
  | none =>
   rw [hl] at h
   simp only at h
   by_cases he : e = d
   · rw [if_pos he] at h
     cases h
     subst he
     refine sl_putD_out l _ e _ (lastD_none l e hl) ?_
     intro hd
     simp [Act.put]
   · rw [if_neg he] at h; cases h
theorem Same.trans {a b c : Act} {d1 d2 : List Nat} (h : Same a b d1) (k : Same b c d2) : Same a c (d1 ++ d2) :=
 ⟨k.size.trans h.size, k.defers.trans h.defers, fun d v hn hs => by
  rw [List.contains_eq_any_beq, List.any_append, Bool.or_eq_false_iff] at hn
  exact k.keep d v (by rw [List.contains_eq_any_beq]; exact hn.2) (h.keep d v (by rw [List.contains_eq_any_beq]; exact hn.1) hs)⟩
theorem Same.more {a b : Act} {d1 d2 : List Nat} (h : Same a b d1) (hd : (d1.all fun d => d2.contains d) = true) : Same a b d2 :=
 ⟨h.size, h.defers, fun d v hn hs => h.keep d v (by
  cases hc : d1.contains d with
  | false => rfl
  | true =>
   have := List.all_eq_true.1 hd d (by simpa using hc)
   rw [hn] at this
   cases this) hs⟩
theorem Same.refl (a : Act) (ds : List Nat) : Same a a ds := ⟨rfl, rfl, fun _ _ _ h => h⟩
theorem Sl.eval {a : Act} {d : Nat} {v : Value} (h : Sl a d v) (hd : d < a.tmps.size) : a.eval (.tmp d) = v := by
 simp only [Act.eval]
 rw [Array.getD_eq_getD_getElem?, Array.getElem?_eq_getElem hd]
 exact h hd
theorem calls_fr {P : Program} {f : FuncId} {fn : Func} {c : Code} {args : Array Value} {w : World} {R : Ending → World → Prop} (hf : P.funcs[f]? = some fn) (hb : fn.body = some c) (N : Nat) (hN : args.size + (fn.ntmps - args.size) = N)
 (h : ∀ a : Act, a.tmps.size = N → a.defers = [] → (∀ i v, args[i]? = some v → Sl a i v) → c.wp P (bodyPost P fn R) a w) : Calls P f args w R :=
 calls_of_wp hf hb (h _ (by simp only [Array.size_append, Array.size_replicate]; exact hN) rfl (fun i v hi => sl_of (by
  rw [Array.getElem?_append_left (Array.getElem?_eq_some_iff.1 hi).1]; exact hi)))
section
variable {vs : Nat → Value} {l : List Oper} {a A : Act} {d j : Nat}
theorem slot_in (hA : (fun vs => putAll vs l 0 a) vs = A) (hB : apartB l = true) (hd : d < a.tmps.size) (h : evA vs l 0 d = some (vs j)) : A.tmps[d]?.getD undef = vs j :=
 slot_is hA hB hd (by rw [h]; rfl)
theorem slot_out {v : Value} (hA : (fun vs => putAll vs l 0 a) vs = A) (hB : apartB l = true) (hd : d < a.tmps.size) (h : evA vs l 0 d = none) (o : Sl a d v) : A.tmps[d]?.getD undef = v :=
 slot_is hA hB hd (by rw [h]; exact o.eval hd)
end
theorem sH {n N : Nat} (d : Nat) (h : n = N) (hd : Nat.ble (d + 1) N = true) : d < n := Nat.lt_of_lt_of_eq (Nat.le_of_ble_eq_true hd) h.symm
theorem sV {vs : Nat → Value} {l : List Oper} {a A : Act} {N j : Nat} {v : Value} (d : Nat) (f : vs j = v) (hA : (fun vs => putAll vs l 0 a) vs = A) (hB : apartB l = true) (h : a.tmps.size = N) (hd : Nat.ble (d + 1) N = true := by rfl) (e : evA vs l 0 d = some (vs j) := by kernel_rfl) : A.tmps[d]?.getD undef = v :=
 (slot_in hA hB (sH d h hd) e).trans f
theorem sO {vs : Nat → Value} {l : List Oper} {a A : Act} {N : Nat} {v : Value} (d : Nat) (o : Sl a d v) (hA : (fun vs => putAll vs l 0 a) vs = A) (hB : apartB l = true) (h : a.tmps.size = N) (hd : Nat.ble (d + 1) N = true := by rfl) (e : evA vs l 0 d = none := by kernel_rfl) : A.tmps[d]?.getD undef = v :=
 slot_out hA hB (sH d h hd) e o
theorem Same.k {a a' : Act} {ds : List Nat} {d : Nat} {v : Value} (hs : Same a a' ds) (o : Sl a d v) (h : ds.contains d = false := by decide) : Sl a' d v := hs.keep d v h o
theorem sS {a a' : Act} {ds : List Nat} (h : Same a a' ds := by repeat (first | (with_reducible refine same_set (by decide) ?_) | (with_reducible exact same_nil))) : Same a a' ds := h
theorem sP {a : Act} {d : Nat} {v : Value} (h : Sl a d v := by unfold Sl; first | (simp [hsz]; done) | (simp [hsz]; omega)) : Sl a d v := h
theorem sP0 {a : Act} {d : Nat} {v : Value} (h : Sl a d v := by unfold Sl; simp [hsz]) : Sl a d v := h
theorem sU {vs : Nat → Value} {l : List Oper} {a A : Act} {N : Nat} (d j : Nat) (hA : (fun vs => putAll vs l 0 a) vs = A) (hB : apartB l = true) (h : a.tmps.size = N) (hd : Nat.ble (d + 1) N = true := by rfl) (e : evA vs l 0 d = some (vs j) := by kernel_rfl) : A.tmps[d]?.getD undef = vs j :=
 slot_in hA hB (sH d h hd) e
def dstL (vs : Nat → Value) : List Oper → Nat → List (Nat × Value)
 | [], _ => []
 | o :: l, k => match o.dst with
  | some d => (d, vs k) :: dstL vs l (k + 1)
  | none => dstL vs l (k + 1)
theorem putAll_eq (vs : Nat → Value) : ∀ (l : List Oper) (k : Nat) (a : Act), putAll vs l k a = putD (dstL vs l k) a
 | [], _, _ => rfl
 | o :: l, k, a => by
  unfold putAll dstL
  rw [putAll_eq vs l (k + 1)]
  cases h : o.dst <;> rfl
theorem sQ {vs : Nat → Value} {l : List Oper} {a : Act} {ds : List Nat} (h : (dstL vs l 0).map (·.1) = ds := by kernel_rfl) : Same a (putD (dstL vs l 0) a) ds := h ▸ same_putD _ a
theorem sX {vs : Nat → Value} {l : List Oper} {a : Act} {d : Nat} {v : Value} (h : lastD (dstL vs l 0) d = some v := by kernel_rfl) : Sl (putD (dstL vs l 0) a) d v := sl_putD _ a d v h
theorem sW {vs : Nat → Value} {l : List Oper} {a : Act} {d j : Nat} {v : Value} (e : vs j = v) (h : lastD (dstL vs l 0) d = some (vs j) := by kernel_rfl) : Sl (putD (dstL vs l 0) a) d v := sl_putD _ a d v (h.trans (congrArg some e))
theorem sB {a b : Nat} (h : Nat.ble a b = true := by kernel_rfl) : a ≤ b := Nat.le_of_ble_eq_true h
theorem kR {S : List Nat} {w : World} : Kp S w w := Kp.refl S w
end
/- Block of sha: the words. -/
section
open Go.RowKit
theorem u32_cell {w : World} {g : Nat} {t : TypeId} {l : List Nat} (h : Blk w g t (u32A l)) (i x : Nat) (hx : l[i]? = some x) : w.cell? ⟨g, i, none⟩ = some (.int .u32 (x : Int)) := by
 rw [h.cell i, show (u32A l)[i]? = (u32L l)[i]? from by simp [u32A], u32L_get, hx]
 rfl
def pz (l : List Nat) : List Nat := l ++ List.replicate (64 - l.length) 0
theorem pz_length {l : List Nat} (h : l.length ≤ 64) : (pz l).length = 64 := by unfold pz; rw [List.length_append, List.length_replicate]; omega
theorem pz_at {l : List Nat} {i x : Nat} (h : l[i]? = some x) : (pz l)[i]? = some x := by
 unfold pz
 rw [List.getElem?_append_left (List.getElem?_eq_some_iff.1 h).1]; exact h
theorem pz_next {l : List Nat} (h : l.length < 64) (x : Nat) : (pz l).set l.length x = pz (l ++ [x]) := by
 unfold pz
 rw [List.set_append_right _ _ (Nat.le_refl _), Nat.sub_self, show 64 - l.length = (64 - (l ++ [x]).length) + 1 from by simp; omega, List.replicate_succ, List.set_cons_zero]
 simp
theorem bytes_rd {w : World} {g : Nat} {t : TypeId} {b : List UInt8} (h : Blk w g t (hashA b)) (k : Nat) (hk : k ≤ b.length) (hb : b.length ≤ 1000) : Rd w 1 (.slice (some ⟨g, k, none⟩) (b.length - k) (b.length - k)) (b.length - k) (bv (b.drop k)) := by
 refine ⟨by rw [bv_length, List.length_drop]; omega, _, _, rfl, Nat.le_refl _, by unfold maxLen; omega, (fun h => by cases h), fun ad had j u hu => ?_⟩
 cases had
 have h2 : (bv b)[k + j]? = some u := by
  rw [bv_get] at hu ⊢
  rw [List.getElem?_drop] at hu
  exact hu
 rw [show ((⟨g, k, none⟩ : Addr).add j) = ⟨g, k + j, none⟩ from by unfold Addr.add; split <;> simp <;> omega, h.cell, show (hashA b)[k + j]? = (bv b)[k + j]? from by simp [hashA]]
 exact h2
theorem wsN_next16 (b : List UInt8) {k : Nat} (hk : k < 16) : wsN b (k + 1) = wsN b k ++ [num ((b.drop (4 * k)).take 4)] := by
 show wsN b k ++ [if k < 16 then _ else _] = _
 rw [if_pos hk]
theorem wsN_next48 (b : List UInt8) (j : Nat) : wsN b (j + 16 + 1) = wsN b (j + 16) ++ [((wsN b (j + 16)).getD j 0 + sg0 ((wsN b (j + 16)).getD (j + 1) 0) + (wsN b (j + 16)).getD (j + 9) 0 + sg1 ((wsN b (j + 16)).getD (j + 14) 0)) % 4294967296] := by
 show wsN b (j + 16) ++ [if j + 16 < 16 then _ else _] = _
 rw [if_neg (by omega), show j + 16 - 16 = j from by omega, show j + 16 - 15 = j + 1 from by omega, show j + 16 - 7 = j + 9 from by omega, show j + 16 - 2 = j + 14 from by omega]
theorem getD_at {l : List Nat} {i : Nat} (h : i < l.length) : l[i]? = some (l.getD i 0) := by
 rw [List.getD_eq_getElem?_getD, List.getElem?_eq_getElem h]
 rfl
theorem Tryd.len64u8 : Tryd.prog.arrayLen 76 = 64 := by kernel_rfl
theorem Tryd.slice64 (g : Nat) (w : World) (k : Nat) (z : Int) (hz : z = k) (hk : k < 64) : (Instr.sliceAt 76 (.pointer (some ⟨g, 0, none⟩)) (some (.int .i64 z)) none none).run Tryd.prog w = .ok (.slice (some ⟨g, k, none⟩) (64 - k) (64 - k)) w := by
 subst hz
 obtain ⟨i0, hi, hz0, hz1, hz2⟩ := info_parts Tryd.infoU8
 rw [run_sliceAt_array_l w 76 ⟨g, 0, none⟩ (by kernel_rfl) .i64 (k : Int) (by omega) (by rw [Tryd.len64u8]; omega), Tryd.len64u8, show Tryd.prog.elem 76 = 5 from by kernel_rfl]
 have e : (⟨g, 0, none⟩ : Addr).add (k * 1) = ⟨g, k, none⟩ := by unfold Addr.add; split <;> simp <;> omega
 simp only [sizeOf, typeInfo, hi, hz1, Sem.run_bind, Sem.run_pure, Result.andThen, run_program, slicedAt, Int.toNat_natCast, e]
 rw [if_neg (by omega)]
theorem list8 {l : List Nat} (h : l.length = 8) : ∃ a b c d e f g i, l = [a, b, c, d, e, f, g, i] := by
 match l, h with
 | [a, b, c, d, e, f, g, i], _ => exact ⟨a, b, c, d, e, f, g, i, rfl⟩
theorem Tryd.built8 (a b c d e f g h : Nat) : Tryd.prog.built 111 (at0N (u32L [a, b, c, d, e, f, g, h]) 0) = some (u32A [a, b, c, d, e, f, g, h]) := by
 unfold Program.built
 kernel_rfl
theorem pz_full {l : List Nat} (h : l.length = 64) : pz l = l := by unfold pz; rw [h]; simp
theorem and_lt {x y : Nat} (h : x < 4294967296) : x &&& y < 4294967296 := Nat.lt_of_le_of_lt Nat.and_le_left h
theorem not32_lt' (x : Nat) : not32 x < 4294967296 := by unfold not32; omega
end
/- Block of sha: the rounds' regions, each a theorem. -/
section
variable {Q : Exit → Act → World → Prop} {a : Act} {w : World}
open Go.RowKit
theorem sblk_r19 (g11 v0 v1 v2 v3 v4 v5 v6 v7 : Nat) (HV : Hid (∀ V, Kp [] w V → ∀ i x : Nat, [v0, v1, v2, v3, v4, v5, v6, v7][i]? = some x → V.cell? ⟨g11, i, none⟩ = some (.int .u32 (x : Int)))) (hsz : a.tmps.size = 172) (o11 : Sl a 11 (.pointer (some ⟨g11, 0, none⟩)))
 (hend : ∀ a' W, Same a a' [82, 83, 84, 85, 13, 14] → Kp [] w.drew W → Sl a' 13 (.int .u32 ((v0 : Nat) : Int)) → Sl a' 14 (.int .u32 ((v4 : Nat) : Int)) → Q .normal a' W) : (Code.region 19 (opsOf 19 Tryd.f82).toArray true).wp Tryd.prog Q a w := by
 have hap : apartB (opsOf 19 Tryd.f82) = true := by kernel_rfl
 refine wp_region_inv (l := (opsOf 19 Tryd.f82)) (fun i v W => match i with | 0 => v = .pointer (some ⟨g11, 0, none⟩) | 1 => v = .int .u32 ((v0 : Nat) : Int) | 2 => v = .pointer (some ⟨g11, 4, none⟩) | 3 => v = .int .u32 ((v4 : Nat) : Int) | 4 => v = .int .u32 ((v0 : Nat) : Int) | 5 => v = .int .u32 ((v4 : Nat) : Int) | _ => True) (by kernel_rfl) hap (by kernel_rfl) ?_ ?_ ?_
 · intro i v W W' h _
   iterate 6 (rcases i with _ | i; · exact h)
   exact h
 · refine ⟨?_, ?_, ?_, ?_, ?_, ?_, trivial⟩
   · intro vs A' W hA hW hd K hK; have e11 := sO 11 o11 hA hap hsz; clear hA hd o11; go_step; exact hK _ _ kR rfl
   · intro vs A' W hA hW hd K hK; have e82 := sV 82 (hd 0 (by kernel_rfl)) hA hap hsz; clear hA hd o11
     have c0 := HV.out W ((Kp.refl [] _).drew.trans hW (by simp)) 0 v0 rfl
     go_step; exact hK _ _ kR rfl
   · intro vs A' W hA hW hd K hK; have e11 := sO 11 o11 hA hap hsz; clear hA hd o11; go_step; exact hK _ _ kR rfl
   · intro vs A' W hA hW hd K hK; have e84 := sV 84 (hd 2 (by kernel_rfl)) hA hap hsz; clear hA hd o11
     have c0 := HV.out W ((Kp.refl [] _).drew.trans hW (by simp)) 4 v4 rfl
     go_step; exact hK _ _ kR rfl
   · intro vs A' W hA hW hd K hK; have e83 := sV 83 (hd 1 (by kernel_rfl)) hA hap hsz; clear hA hd o11; go_step; exact hK _ _ kR rfl
   · intro vs A' W hA hW hd K hK; have e85 := sV 85 (hd 3 (by kernel_rfl)) hA hap hsz; clear hA hd o11; go_step; exact hK _ _ kR rfl
 · intro vs W hW hp
   rw [putAll_eq]
   exact hend _ W sQ hW (sW (hp 4 sB)) (sW (hp 5 sB))
theorem sblk_r20 (g5 g10 g11 k v0 v1 v2 v3 v4 v5 v6 v7 kk wk : Nat) (hk : k < 64) (HV4 : Hid (v4 < 4294967296)) (HV5 : Hid (v5 < 4294967296)) (HV6 : Hid (v6 < 4294967296)) (HV : Hid (∀ V, Kp [] w V → ∀ i x : Nat, [v0, v1, v2, v3, v4, v5, v6, v7][i]? = some x → V.cell? ⟨g11, i, none⟩ = some (.int .u32 (x : Int)))) (HKt : Hid (∀ V, Kp [] w V → V.cell? ⟨g10, k, none⟩ = some (.int .u32 (kk : Int)))) (HWt : Hid (∀ V, Kp [] w V → V.cell? ⟨g5, k, none⟩ = some (.int .u32 (wk : Int)))) (hsz : a.tmps.size = 172) (o5 : Sl a 5 (.pointer (some ⟨g5, 0, none⟩))) (o10 : Sl a 10 (.pointer (some ⟨g10, 0, none⟩))) (o11 : Sl a 11 (.pointer (some ⟨g11, 0, none⟩))) (o12 : Sl a 12 (.int .i64 (k : Int))) (o14 : Sl a 14 (.int .u32 ((v4 : Nat) : Int)))
 (hend : ∀ a' W, Same a a' [86, 87, 88, 89, 90, 91, 92, 93, 94, 95, 96, 97, 98, 99, 100, 101, 102, 103, 104, 105, 106, 107, 108, 109, 110, 111, 112, 113, 114, 115, 15] → Kp [] w.drew W → Sl a' 15 (.int .u32 ((rX v4 v5 v6 v7 kk wk : Nat) : Int)) → Q .normal a' W) : (Code.region 20 (opsOf 20 Tryd.f82).toArray true).wp Tryd.prog Q a w := by
 have hap : apartB (opsOf 20 Tryd.f82) = true := by kernel_rfl
 refine wp_region_inv (l := (opsOf 20 Tryd.f82)) (fun i v W => match i with | 0 => v = .pointer (some ⟨g11, 7, none⟩) | 1 => v = .int .u32 ((v7 : Nat) : Int) | 2 => v = .int .u32 ((v4 : Nat) : Int) | 3 => v = .int .u32 ((rotr v4 6 : Nat) : Int) | 4 => v = .int .u32 ((v4 : Nat) : Int) | 5 => v = .int .u32 ((rotr v4 11 : Nat) : Int) | 6 => v = .int .u32 ((rotr v4 6 ^^^ rotr v4 11 : Nat) : Int) | 7 => v = .int .u32 ((v4 : Nat) : Int) | 8 => v = .int .u32 ((rotr v4 25 : Nat) : Int) | 9 => v = .int .u32 ((bS1 v4 : Nat) : Int) | 10 => v = .int .u32 (((v7 + bS1 v4) % 4294967296 : Nat) : Int) | 11 => v = .int .u32 ((v4 : Nat) : Int) | 12 => v = .pointer (some ⟨g11, 5, none⟩) | 13 => v = .int .u32 ((v5 : Nat) : Int) | 14 => v = .int .u32 ((v4 &&& v5 : Nat) : Int) | 15 => v = .int .u32 ((v4 : Nat) : Int) | 16 => v = .int .u32 ((not32 v4 : Nat) : Int) | 17 => v = .pointer (some ⟨g11, 6, none⟩) | 18 => v = .int .u32 ((v6 : Nat) : Int) | 19 => v = .int .u32 ((not32 v4 &&& v6 : Nat) : Int) | 20 => v = .int .u32 ((cho v4 v5 v6 : Nat) : Int) | 21 => v = .int .u32 (((v7 + bS1 v4 + cho v4 v5 v6) % 4294967296 : Nat) : Int) | 22 => v = .int .i64 (k : Int) | 23 => v = .pointer (some ⟨g10, k, none⟩) | 24 => v = .int .u32 ((kk : Nat) : Int) | 25 => v = .int .u32 (((v7 + bS1 v4 + cho v4 v5 v6 + kk) % 4294967296 : Nat) : Int) | 26 => v = .int .i64 (k : Int) | 27 => v = .pointer (some ⟨g5, k, none⟩) | 28 => v = .int .u32 ((wk : Nat) : Int) | 29 => v = .int .u32 ((rX v4 v5 v6 v7 kk wk : Nat) : Int) | 30 => v = .int .u32 ((rX v4 v5 v6 v7 kk wk : Nat) : Int) | _ => True) (by kernel_rfl) hap (by kernel_rfl) ?_ ?_ ?_
 · intro i v W W' h _
   iterate 31 (rcases i with _ | i; · exact h)
   exact h
 · refine ⟨?_, ?_, ?_, ?_, ?_, ?_, ?_, ?_, ?_, ?_, ?_, ?_, ?_, ?_, ?_, ?_, ?_, ?_, ?_, ?_, ?_, ?_, ?_, ?_, ?_, ?_, ?_, ?_, ?_, ?_, ?_, trivial⟩
   · intro vs A' W hA hW hd K hK; have e11 := sO 11 o11 hA hap hsz; clear hA hd o5 o10 o11 o12 o14; go_step; exact hK _ _ kR rfl
   · intro vs A' W hA hW hd K hK; have e86 := sV 86 (hd 0 (by kernel_rfl)) hA hap hsz; clear hA hd o5 o10 o11 o12 o14
     have c0 := HV.out W ((Kp.refl [] _).drew.trans hW (by simp)) 7 v7 rfl
     go_step; exact hK _ _ kR rfl
   · intro vs A' W hA hW hd K hK; have e14 := sO 14 o14 hA hap hsz; clear hA hd o5 o10 o11 o12 o14; go_step; exact hK _ _ kR rfl
   · intro vs A' W hA hW hd K hK; have e88 := sV 88 (hd 2 (by kernel_rfl)) hA hap hsz; clear hA hd o5 o10 o11 o12 o14; go_step
     refine (srot_any v4 6 6 rfl HV4.out (by unfold rotK; omega) W).mono ?_
     rintro e w' ⟨rfl, rfl⟩
     exact hK _ _ kR rfl
   · intro vs A' W hA hW hd K hK; have e14 := sO 14 o14 hA hap hsz; clear hA hd o5 o10 o11 o12 o14; go_step; exact hK _ _ kR rfl
   · intro vs A' W hA hW hd K hK; have e90 := sV 90 (hd 4 (by kernel_rfl)) hA hap hsz; clear hA hd o5 o10 o11 o12 o14; go_step
     refine (srot_any v4 11 11 rfl HV4.out (by unfold rotK; omega) W).mono ?_
     rintro e w' ⟨rfl, rfl⟩
     exact hK _ _ kR rfl
   · intro vs A' W hA hW hd K hK; have e89 := sV 89 (hd 3 (by kernel_rfl)) hA hap hsz; have e91 := sV 91 (hd 5 (by kernel_rfl)) hA hap hsz; clear hA hd o5 o10 o11 o12 o14; go_step
     exact hK _ _ kR (congrArg (Value.int .u32) (u32_x _ _ (rotr_lt HV4.out) (rotr_lt HV4.out)))
   · intro vs A' W hA hW hd K hK; have e14 := sO 14 o14 hA hap hsz; clear hA hd o5 o10 o11 o12 o14; go_step; exact hK _ _ kR rfl
   · intro vs A' W hA hW hd K hK; have e93 := sV 93 (hd 7 (by kernel_rfl)) hA hap hsz; clear hA hd o5 o10 o11 o12 o14; go_step
     refine (srot_any v4 25 25 rfl HV4.out (by unfold rotK; omega) W).mono ?_
     rintro e w' ⟨rfl, rfl⟩
     exact hK _ _ kR rfl
   · intro vs A' W hA hW hd K hK; have e92 := sV 92 (hd 6 (by kernel_rfl)) hA hap hsz; have e94 := sV 94 (hd 8 (by kernel_rfl)) hA hap hsz; clear hA hd o5 o10 o11 o12 o14; go_step
     exact hK _ _ kR (congrArg (Value.int .u32) (u32_x _ _ (xor_lt (rotr_lt HV4.out) (rotr_lt HV4.out)) (rotr_lt HV4.out)))
   · intro vs A' W hA hW hd K hK; have e87 := sV 87 (hd 1 (by kernel_rfl)) hA hap hsz; have e95 := sV 95 (hd 9 (by kernel_rfl)) hA hap hsz; clear hA hd o5 o10 o11 o12 o14; go_step
     exact hK _ _ kR (congrArg (Value.int .u32) (by first | omega | rfl))
   · intro vs A' W hA hW hd K hK; have e14 := sO 14 o14 hA hap hsz; clear hA hd o5 o10 o11 o12 o14; go_step; exact hK _ _ kR rfl
   · intro vs A' W hA hW hd K hK; have e11 := sO 11 o11 hA hap hsz; clear hA hd o5 o10 o11 o12 o14; go_step; exact hK _ _ kR rfl
   · intro vs A' W hA hW hd K hK; have e98 := sV 98 (hd 12 (by kernel_rfl)) hA hap hsz; clear hA hd o5 o10 o11 o12 o14
     have c0 := HV.out W ((Kp.refl [] _).drew.trans hW (by simp)) 5 v5 rfl
     go_step; exact hK _ _ kR rfl
   · intro vs A' W hA hW hd K hK; have e97 := sV 97 (hd 11 (by kernel_rfl)) hA hap hsz; have e99 := sV 99 (hd 13 (by kernel_rfl)) hA hap hsz; clear hA hd o5 o10 o11 o12 o14; go_step
     exact hK _ _ kR (congrArg (Value.int .u32) (u32_and_nat _ _ HV4.out HV5.out))
   · intro vs A' W hA hW hd K hK; have e14 := sO 14 o14 hA hap hsz; clear hA hd o5 o10 o11 o12 o14; go_step; exact hK _ _ kR rfl
   · intro vs A' W hA hW hd K hK; have e101 := sV 101 (hd 15 (by kernel_rfl)) hA hap hsz; clear hA hd o5 o10 o11 o12 o14; go_step
     exact hK _ _ kR (congrArg (Value.int .u32) (u32_not v4 HV4.out))
   · intro vs A' W hA hW hd K hK; have e11 := sO 11 o11 hA hap hsz; clear hA hd o5 o10 o11 o12 o14; go_step; exact hK _ _ kR rfl
   · intro vs A' W hA hW hd K hK; have e103 := sV 103 (hd 17 (by kernel_rfl)) hA hap hsz; clear hA hd o5 o10 o11 o12 o14
     have c0 := HV.out W ((Kp.refl [] _).drew.trans hW (by simp)) 6 v6 rfl
     go_step; exact hK _ _ kR rfl
   · intro vs A' W hA hW hd K hK; have e102 := sV 102 (hd 16 (by kernel_rfl)) hA hap hsz; have e104 := sV 104 (hd 18 (by kernel_rfl)) hA hap hsz; clear hA hd o5 o10 o11 o12 o14; go_step
     exact hK _ _ kR (congrArg (Value.int .u32) (u32_and_nat _ _ (not32_lt' v4) HV6.out))
   · intro vs A' W hA hW hd K hK; have e100 := sV 100 (hd 14 (by kernel_rfl)) hA hap hsz; have e105 := sV 105 (hd 19 (by kernel_rfl)) hA hap hsz; clear hA hd o5 o10 o11 o12 o14; go_step
     exact hK _ _ kR (congrArg (Value.int .u32) (u32_x _ _ (and_lt HV4.out) (and_lt (not32_lt' v4))))
   · intro vs A' W hA hW hd K hK; have e96 := sV 96 (hd 10 (by kernel_rfl)) hA hap hsz; have e106 := sV 106 (hd 20 (by kernel_rfl)) hA hap hsz; clear hA hd o5 o10 o11 o12 o14; go_step
     exact hK _ _ kR (congrArg (Value.int .u32) (by first | omega | rfl))
   · intro vs A' W hA hW hd K hK; have e12 := sO 12 o12 hA hap hsz; clear hA hd o5 o10 o11 o12 o14; go_step; exact hK _ _ kR rfl
   · intro vs A' W hA hW hd K hK; have e10 := sO 10 o10 hA hap hsz; have e108 := sV 108 (hd 22 (by kernel_rfl)) hA hap hsz; clear hA hd o5 o10 o11 o12 o14
     have h0 : 0 ≤ (k : Int) := by omega
     have h1 : (k : Int) < 64 := by omega
     go_step; exact hK _ _ kR rfl
   · intro vs A' W hA hW hd K hK; have e109 := sV 109 (hd 23 (by kernel_rfl)) hA hap hsz; clear hA hd o5 o10 o11 o12 o14
     have c0 := HKt.out W ((Kp.refl [] _).drew.trans hW (by simp))
     go_step; exact hK _ _ kR rfl
   · intro vs A' W hA hW hd K hK; have e107 := sV 107 (hd 21 (by kernel_rfl)) hA hap hsz; have e110 := sV 110 (hd 24 (by kernel_rfl)) hA hap hsz; clear hA hd o5 o10 o11 o12 o14; go_step
     exact hK _ _ kR (congrArg (Value.int .u32) (by first | omega | rfl))
   · intro vs A' W hA hW hd K hK; have e12 := sO 12 o12 hA hap hsz; clear hA hd o5 o10 o11 o12 o14; go_step; exact hK _ _ kR rfl
   · intro vs A' W hA hW hd K hK; have e5 := sO 5 o5 hA hap hsz; have e112 := sV 112 (hd 26 (by kernel_rfl)) hA hap hsz; clear hA hd o5 o10 o11 o12 o14
     have h0 : 0 ≤ (k : Int) := by omega
     have h1 : (k : Int) < 64 := by omega
     go_step; exact hK _ _ kR rfl
   · intro vs A' W hA hW hd K hK; have e113 := sV 113 (hd 27 (by kernel_rfl)) hA hap hsz; clear hA hd o5 o10 o11 o12 o14
     have c0 := HWt.out W ((Kp.refl [] _).drew.trans hW (by simp))
     go_step; exact hK _ _ kR rfl
   · intro vs A' W hA hW hd K hK; have e111 := sV 111 (hd 25 (by kernel_rfl)) hA hap hsz; have e114 := sV 114 (hd 28 (by kernel_rfl)) hA hap hsz; clear hA hd o5 o10 o11 o12 o14; go_step
     exact hK _ _ kR (congrArg (Value.int .u32) (by unfold rX; omega))
   · intro vs A' W hA hW hd K hK; have e115 := sV 115 (hd 29 (by kernel_rfl)) hA hap hsz; clear hA hd o5 o10 o11 o12 o14; go_step; exact hK _ _ kR rfl
 · intro vs W hW hp
   rw [putAll_eq]
   exact hend _ W sQ hW (sW (hp 30 sB))
theorem sblk_r21 (g11 v0 v1 v2 v3 v4 v5 v6 v7 : Nat) (HV0 : Hid (v0 < 4294967296)) (HV1 : Hid (v1 < 4294967296)) (HV2 : Hid (v2 < 4294967296)) (HV : Hid (∀ V, Kp [] w V → ∀ i x : Nat, [v0, v1, v2, v3, v4, v5, v6, v7][i]? = some x → V.cell? ⟨g11, i, none⟩ = some (.int .u32 (x : Int)))) (hsz : a.tmps.size = 172) (o11 : Sl a 11 (.pointer (some ⟨g11, 0, none⟩))) (o13 : Sl a 13 (.int .u32 ((v0 : Nat) : Int)))
 (hend : ∀ a' W, Same a a' [116, 117, 118, 119, 120, 121, 122, 123, 124, 125, 126, 127, 128, 129, 130, 131, 132, 133, 134, 135, 136, 137, 138, 139, 16] → Kp [] w.drew W → Sl a' 16 (.int .u32 ((rY v0 v1 v2 : Nat) : Int)) → Q .normal a' W) : (Code.region 21 (opsOf 21 Tryd.f82).toArray true).wp Tryd.prog Q a w := by
 have hap : apartB (opsOf 21 Tryd.f82) = true := by kernel_rfl
 refine wp_region_inv (l := (opsOf 21 Tryd.f82)) (fun i v W => match i with | 0 => v = .int .u32 ((v0 : Nat) : Int) | 1 => v = .int .u32 ((rotr v0 2 : Nat) : Int) | 2 => v = .int .u32 ((v0 : Nat) : Int) | 3 => v = .int .u32 ((rotr v0 13 : Nat) : Int) | 4 => v = .int .u32 ((rotr v0 2 ^^^ rotr v0 13 : Nat) : Int) | 5 => v = .int .u32 ((v0 : Nat) : Int) | 6 => v = .int .u32 ((rotr v0 22 : Nat) : Int) | 7 => v = .int .u32 ((bS0 v0 : Nat) : Int) | 8 => v = .int .u32 ((v0 : Nat) : Int) | 9 => v = .pointer (some ⟨g11, 1, none⟩) | 10 => v = .int .u32 ((v1 : Nat) : Int) | 11 => v = .int .u32 ((v0 &&& v1 : Nat) : Int) | 12 => v = .int .u32 ((v0 : Nat) : Int) | 13 => v = .pointer (some ⟨g11, 2, none⟩) | 14 => v = .int .u32 ((v2 : Nat) : Int) | 15 => v = .int .u32 ((v0 &&& v2 : Nat) : Int) | 16 => v = .int .u32 (((v0 &&& v1) ^^^ (v0 &&& v2) : Nat) : Int) | 17 => v = .pointer (some ⟨g11, 1, none⟩) | 18 => v = .int .u32 ((v1 : Nat) : Int) | 19 => v = .pointer (some ⟨g11, 2, none⟩) | 20 => v = .int .u32 ((v2 : Nat) : Int) | 21 => v = .int .u32 ((v1 &&& v2 : Nat) : Int) | 22 => v = .int .u32 ((maj v0 v1 v2 : Nat) : Int) | 23 => v = .int .u32 ((rY v0 v1 v2 : Nat) : Int) | 24 => v = .int .u32 ((rY v0 v1 v2 : Nat) : Int) | _ => True) (by kernel_rfl) hap (by kernel_rfl) ?_ ?_ ?_
 · intro i v W W' h _
   iterate 25 (rcases i with _ | i; · exact h)
   exact h
 · refine ⟨?_, ?_, ?_, ?_, ?_, ?_, ?_, ?_, ?_, ?_, ?_, ?_, ?_, ?_, ?_, ?_, ?_, ?_, ?_, ?_, ?_, ?_, ?_, ?_, ?_, trivial⟩
   · intro vs A' W hA hW hd K hK; have e13 := sO 13 o13 hA hap hsz; clear hA hd o11 o13; go_step; exact hK _ _ kR rfl
   · intro vs A' W hA hW hd K hK; have e116 := sV 116 (hd 0 (by kernel_rfl)) hA hap hsz; clear hA hd o11 o13; go_step
     refine (srot_any v0 2 2 rfl HV0.out (by unfold rotK; omega) W).mono ?_
     rintro e w' ⟨rfl, rfl⟩
     exact hK _ _ kR rfl
   · intro vs A' W hA hW hd K hK; have e13 := sO 13 o13 hA hap hsz; clear hA hd o11 o13; go_step; exact hK _ _ kR rfl
   · intro vs A' W hA hW hd K hK; have e118 := sV 118 (hd 2 (by kernel_rfl)) hA hap hsz; clear hA hd o11 o13; go_step
     refine (srot_any v0 13 13 rfl HV0.out (by unfold rotK; omega) W).mono ?_
     rintro e w' ⟨rfl, rfl⟩
     exact hK _ _ kR rfl
   · intro vs A' W hA hW hd K hK; have e117 := sV 117 (hd 1 (by kernel_rfl)) hA hap hsz; have e119 := sV 119 (hd 3 (by kernel_rfl)) hA hap hsz; clear hA hd o11 o13; go_step
     exact hK _ _ kR (congrArg (Value.int .u32) (u32_x _ _ (rotr_lt HV0.out) (rotr_lt HV0.out)))
   · intro vs A' W hA hW hd K hK; have e13 := sO 13 o13 hA hap hsz; clear hA hd o11 o13; go_step; exact hK _ _ kR rfl
   · intro vs A' W hA hW hd K hK; have e121 := sV 121 (hd 5 (by kernel_rfl)) hA hap hsz; clear hA hd o11 o13; go_step
     refine (srot_any v0 22 22 rfl HV0.out (by unfold rotK; omega) W).mono ?_
     rintro e w' ⟨rfl, rfl⟩
     exact hK _ _ kR rfl
   · intro vs A' W hA hW hd K hK; have e120 := sV 120 (hd 4 (by kernel_rfl)) hA hap hsz; have e122 := sV 122 (hd 6 (by kernel_rfl)) hA hap hsz; clear hA hd o11 o13; go_step
     exact hK _ _ kR (congrArg (Value.int .u32) (u32_x _ _ (xor_lt (rotr_lt HV0.out) (rotr_lt HV0.out)) (rotr_lt HV0.out)))
   · intro vs A' W hA hW hd K hK; have e13 := sO 13 o13 hA hap hsz; clear hA hd o11 o13; go_step; exact hK _ _ kR rfl
   · intro vs A' W hA hW hd K hK; have e11 := sO 11 o11 hA hap hsz; clear hA hd o11 o13; go_step; exact hK _ _ kR rfl
   · intro vs A' W hA hW hd K hK; have e125 := sV 125 (hd 9 (by kernel_rfl)) hA hap hsz; clear hA hd o11 o13
     have c0 := HV.out W ((Kp.refl [] _).drew.trans hW (by simp)) 1 v1 rfl
     go_step; exact hK _ _ kR rfl
   · intro vs A' W hA hW hd K hK; have e124 := sV 124 (hd 8 (by kernel_rfl)) hA hap hsz; have e126 := sV 126 (hd 10 (by kernel_rfl)) hA hap hsz; clear hA hd o11 o13; go_step
     exact hK _ _ kR (congrArg (Value.int .u32) (u32_and_nat _ _ HV0.out HV1.out))
   · intro vs A' W hA hW hd K hK; have e13 := sO 13 o13 hA hap hsz; clear hA hd o11 o13; go_step; exact hK _ _ kR rfl
   · intro vs A' W hA hW hd K hK; have e11 := sO 11 o11 hA hap hsz; clear hA hd o11 o13; go_step; exact hK _ _ kR rfl
   · intro vs A' W hA hW hd K hK; have e129 := sV 129 (hd 13 (by kernel_rfl)) hA hap hsz; clear hA hd o11 o13
     have c0 := HV.out W ((Kp.refl [] _).drew.trans hW (by simp)) 2 v2 rfl
     go_step; exact hK _ _ kR rfl
   · intro vs A' W hA hW hd K hK; have e128 := sV 128 (hd 12 (by kernel_rfl)) hA hap hsz; have e130 := sV 130 (hd 14 (by kernel_rfl)) hA hap hsz; clear hA hd o11 o13; go_step
     exact hK _ _ kR (congrArg (Value.int .u32) (u32_and_nat _ _ HV0.out HV2.out))
   · intro vs A' W hA hW hd K hK; have e127 := sV 127 (hd 11 (by kernel_rfl)) hA hap hsz; have e131 := sV 131 (hd 15 (by kernel_rfl)) hA hap hsz; clear hA hd o11 o13; go_step
     exact hK _ _ kR (congrArg (Value.int .u32) (u32_x _ _ (and_lt HV0.out) (and_lt HV0.out)))
   · intro vs A' W hA hW hd K hK; have e11 := sO 11 o11 hA hap hsz; clear hA hd o11 o13; go_step; exact hK _ _ kR rfl
   · intro vs A' W hA hW hd K hK; have e133 := sV 133 (hd 17 (by kernel_rfl)) hA hap hsz; clear hA hd o11 o13
     have c0 := HV.out W ((Kp.refl [] _).drew.trans hW (by simp)) 1 v1 rfl
     go_step; exact hK _ _ kR rfl
   · intro vs A' W hA hW hd K hK; have e11 := sO 11 o11 hA hap hsz; clear hA hd o11 o13; go_step; exact hK _ _ kR rfl
   · intro vs A' W hA hW hd K hK; have e135 := sV 135 (hd 19 (by kernel_rfl)) hA hap hsz; clear hA hd o11 o13
     have c0 := HV.out W ((Kp.refl [] _).drew.trans hW (by simp)) 2 v2 rfl
     go_step; exact hK _ _ kR rfl
   · intro vs A' W hA hW hd K hK; have e134 := sV 134 (hd 18 (by kernel_rfl)) hA hap hsz; have e136 := sV 136 (hd 20 (by kernel_rfl)) hA hap hsz; clear hA hd o11 o13; go_step
     exact hK _ _ kR (congrArg (Value.int .u32) (u32_and_nat _ _ HV1.out HV2.out))
   · intro vs A' W hA hW hd K hK; have e132 := sV 132 (hd 16 (by kernel_rfl)) hA hap hsz; have e137 := sV 137 (hd 21 (by kernel_rfl)) hA hap hsz; clear hA hd o11 o13; go_step
     exact hK _ _ kR (congrArg (Value.int .u32) (u32_x _ _ (xor_lt (and_lt HV0.out) (and_lt HV0.out)) (and_lt HV1.out)))
   · intro vs A' W hA hW hd K hK; have e123 := sV 123 (hd 7 (by kernel_rfl)) hA hap hsz; have e138 := sV 138 (hd 22 (by kernel_rfl)) hA hap hsz; clear hA hd o11 o13; go_step
     exact hK _ _ kR (congrArg (Value.int .u32) (by unfold rY; omega))
   · intro vs A' W hA hW hd K hK; have e139 := sV 139 (hd 23 (by kernel_rfl)) hA hap hsz; clear hA hd o11 o13; go_step; exact hK _ _ kR rfl
 · intro vs W hW hp
   rw [putAll_eq]
   exact hend _ W sQ hW (sW (hp 24 sB))
theorem sblk_r17 (k : Nat) (hsz : a.tmps.size = 172) (o79 : Sl a 79 (.int .i64 (k : Int)))
 (hend : ∀ a', Same a a' [80] → Sl a' 80 (.bool (decide ((k : Int) < 64))) → Q .normal a' (w)) : (Code.region 17 (opsOf 17 Tryd.f82).toArray false).wp Tryd.prog Q a w := by
 refine wp_region_lit ?_
 (conv => arg 4; whnf)
 unfold Sl at o79
 go_wp2_with fail
 try simp only [Act.put]
 exact hend _ sS sP
theorem sblk_r18 (k : Nat) (hsz : a.tmps.size = 172) (o79 : Sl a 79 (.int .i64 (k : Int)))
 (hend : ∀ a', Same a a' [81, 12] → Sl a' 12 (.int .i64 (k : Int)) → Q .normal a' (w)) : (Code.region 18 (opsOf 18 Tryd.f82).toArray false).wp Tryd.prog Q a w := by
 refine wp_region_lit ?_
 (conv => arg 4; whnf)
 unfold Sl at o79
 go_wp2_with fail
 try simp only [Act.put]
 exact hend _ sS sP
theorem sblk_r22 (w0 : World) (g11 v0 v1 v2 v3 v4 v5 v6 v7 x y : Nat) (L : List Res) (S : Held w0 w (blkR g11 111 (u32A [v0, v1, v2, v3, v4, v5, v6, v7]) :: L)) (hsz : a.tmps.size = 172) (o11 : Sl a 11 (.pointer (some ⟨g11, 0, none⟩))) (o13 : Sl a 13 (.int .u32 (v0 : Int))) (o14 : Sl a 14 (.int .u32 (v4 : Int))) (o15 : Sl a 15 (.int .u32 (x : Int))) (o16 : Sl a 16 (.int .u32 (y : Int)))
 (hend : ∀ a' W, Same a a' [140, 141, 142, 143, 144, 145, 146, 147, 148, 149, 150, 151, 152, 153, 154, 155, 156, 157] → (Held w0 W (blkR g11 111 (u32A [(x + y) % 4294967296, v0, v1, v2, (v3 + x) % 4294967296, v4, v5, v6]) :: L)) → Q .normal a' W) : (Code.region 22 (opsOf 22 Tryd.f82).toArray false).wp Tryd.prog Q a w := by
 refine wp_region_lit ?_
 (conv => arg 4; whnf)
 unfold Sl at o11 o13 o14 o15 o16
 have S := Lib.hid S
 have c1 := u32_cell (S.out.at_ (l1 := [])) 1 v1 rfl
 have c2 := u32_cell (S.out.at_ (l1 := [])) 2 v2 rfl
 have c3 := u32_cell (S.out.at_ (l1 := [])) 3 v3 rfl
 have c5 := u32_cell (S.out.at_ (l1 := [])) 5 v5 rfl
 have c6 := u32_cell (S.out.at_ (l1 := [])) 6 v6 rfl
 go_wp2_with (first
  | (refine wpList_buildC rfl 111 _ rfl (at0N (u32L [(x + y) % 4294967296, v0, v1, v2, (v3 + x) % 4294967296, v4, v5, v6]) 0) ?_ _ (Tryd.built8 _ _ _ _ _ _ _ _) ?_; simp [Act.eval, Act.put, hsz, at0N, u32L, o13, o14, o15, o16])
  | (refine wpList_store_blk rfl 111 (.tmp 11) (.tmp 157) rfl g11 (by simp [Act.eval, Act.put, hsz, o11]) (u32A [(x + y) % 4294967296, v0, v1, v2, (v3 + x) % 4294967296, v4, v5, v6]) (by simp [Act.eval, Act.put, hsz]) 111 _ (S.out.at_ (l1 := [])) (by rw [u32A_size]; exact Tryd.info8w) (by rw [u32A_size, u32A_size]; rfl) (u32A_one _) ?_; intro w2 b2 k2; have S2 := Lib.hid (Held.setBlk (l1 := []) S.out b2 k2); clear b2 k2))
 try simp only [Act.put]
 exact hend _ _ sS (S2.out)
theorem sblk_r23 (k : Nat) (hk : k < 64) (hsz : a.tmps.size = 172) (o79 : Sl a 79 (.int .i64 (k : Int)))
 (hend : ∀ a', Same a a' [158, 79] → Sl a' 79 (.int .i64 ((k + 1 : Nat) : Int)) → Q .normal a' (w)) : (Code.region 23 (opsOf 23 Tryd.f82).toArray false).wp Tryd.prog Q a w := by
 refine wp_region_lit ?_
 (conv => arg 4; whnf)
 unfold Sl at o79
 go_wp2_with fail
 try simp only [Act.put]
 exact hend _ sS sP
end
/- Block of sha: the rounds. -/
section
open Go.RowKit
def dsL3 : List Nat := [12, 13, 14, 15, 16, 79, 80, 81, 82, 83, 84, 85, 86, 87, 88, 89, 90, 91, 92, 93, 94, 95, 96, 97, 98, 99, 100, 101, 102, 103, 104, 105, 106, 107, 108, 109, 110, 111, 112, 113, 114, 115, 116, 117, 118, 119, 120, 121, 122, 123, 124, 125, 126, 127, 128, 129, 130, 131, 132, 133, 134, 135, 136, 137, 138, 139, 140, 141, 142, 143, 144, 145, 146, 147, 148, 149, 150, 151, 152, 153, 154, 155, 156, 157, 158]
theorem sblk_l3 {Q : Exit → Act → World → Prop} {a : Act} {w0 w : World} (st ws : List Nat) (hst : Ws st) (hsl : st.length = 8) (hwl : ws.length = 64) (g5 g10 g11 : Nat) (L : List Res) (hsz : a.tmps.size = 172)
 (o5 : Sl a 5 (.pointer (some ⟨g5, 0, none⟩))) (o10 : Sl a 10 (.pointer (some ⟨g10, 0, none⟩))) (o11 : Sl a 11 (.pointer (some ⟨g11, 0, none⟩))) (o79 : Sl a 79 (.int .i64 0))
 (S : Held w0 w (blkR g11 111 (u32A st) :: blkR g10 144 (u32A kT) :: blkR g5 144 (u32A ws) :: L))
 (hend : ∀ a' W, Same a a' dsL3 → Held w0 W (blkR g11 111 (u32A (rnds st ws 64)) :: blkR g10 144 (u32A kT) :: blkR g5 144 (u32A ws) :: L) → Q .normal a' W) :
 (Code.block 4 (blockOf 4 Tryd.f82)).wp Tryd.prog Q a w := by
 refine wp_block ?_
 (conv => arg 2; whnf)
 refine wp_loop (fun a' w' => ∃ k : Nat, k ≤ 64 ∧ Same a a' dsL3 ∧ Sl a' 79 (.int .i64 (k : Int)) ∧ Held w0 w' (blkR g11 111 (u32A (rnds st ws k)) :: blkR g10 144 (u32A kT) :: blkR g5 144 (u32A ws) :: L)) (fun a' _ => 64 - (intOf (a'.eval (.tmp 79))).toNat) ⟨0, by omega, Same.refl _ _, o79, S⟩ ?_
 clear o79 S
 rintro a1 w1 ⟨k, hk, hs, o79, S⟩
 have o5 := hs.keep 5 _ (by decide) o5
 have o10 := hs.keep 10 _ (by decide) o10
 have o11 := hs.keep 11 _ (by decide) o11
 have hz := hs.size.trans hsz
 refine wp_seq (sblk_r17 k hz o79 (fun a2 hs2 o80 => ?_))
 have e79 := o79.eval (by rw [hz]; decide)
 have hz2 := hs2.size.trans hz
 by_cases hlt : k < 64
 · refine wp_seq (wp_cond_true ((o80.eval (by rw [hz2]; decide)).trans (by rw [decide_eq_true (by omega)])) (wp_skip ?_))
   have o79 := hs2.k o79
   refine wp_seq (wp_block ?_)
   refine wp_seq (sblk_r18 k hz2 o79 (fun a3 hs3 o12 => ?_))
   have T := (hs.trans hs2).trans hs3
   have hz3 := hs3.size.trans hz2; have o79 := hs3.k o79
   have o5 := (hs2.trans hs3).keep 5 _ (by decide) o5
   have o10 := (hs2.trans hs3).keep 10 _ (by decide) o10
   have o11 := (hs2.trans hs3).keep 11 _ (by decide) o11
   have hv := rnds_length st ws k
   have hvl := rnds_lt hst ws k
   have Hnext : rnds st ws (k + 1) = rnd (rnds st ws k) (kT.getD k 0) (ws.getD k 0) := rfl
   obtain ⟨v0, v1, v2, v3, v4, v5, v6, v7, hvv⟩ := list8 (hv.trans hsl)
   rw [hvv] at hvl S Hnext
   have HV0 := Lib.hid (hvl v0 (by simp))
   have HV1 := Lib.hid (hvl v1 (by simp))
   have HV2 := Lib.hid (hvl v2 (by simp))
   have HV4 := Lib.hid (hvl v4 (by simp))
   have HV5 := Lib.hid (hvl v5 (by simp))
   have HV6 := Lib.hid (hvl v6 (by simp))
   have HV : ∀ W, Kp [] w1 W → ∀ V, Kp [] W V → ∀ i x : Nat, [v0, v1, v2, v3, v4, v5, v6, v7][i]? = some x → V.cell? ⟨g11, i, none⟩ = some (.int .u32 (x : Int)) := fun W k1 V k2 i x h => u32_cell ((S.at_ (l1 := [])).kp (k1.trans k2 (by simp)) (by simp)) i x h
   have HKt : ∀ W, Kp [] w1 W → ∀ V, Kp [] W V → V.cell? ⟨g10, k, none⟩ = some (.int .u32 ((kT.getD k 0 : Nat) : Int)) := fun W k1 V k2 => u32_cell ((S.at_ (l1 := [_])).kp (k1.trans k2 (by simp)) (by simp)) k _ (getD_at hlt)
   have HWt : ∀ W, Kp [] w1 W → ∀ V, Kp [] W V → V.cell? ⟨g5, k, none⟩ = some (.int .u32 ((ws.getD k 0 : Nat) : Int)) := fun W k1 V k2 => u32_cell ((S.at_ (l1 := [_, _])).kp (k1.trans k2 (by simp)) (by simp)) k _ (getD_at (by rw [hwl]; exact hlt))
   generalize kT.getD k 0 = kk at *
   generalize ws.getD k 0 = wk at *
   refine wp_seq (sblk_r19 g11 v0 v1 v2 v3 v4 v5 v6 v7 (Lib.hid (HV w1 kR)) hz3 o11 (fun a4 W4 hs4 k4 o13 o14 => ?_))
   have K4 : Kp [] w1 W4 := (Kp.refl [] _).drew.trans k4 (by simp)
   have hz4 := hs4.size.trans hz3; have o79 := hs4.k o79; have o12 := hs4.k o12; have o5 := hs4.k o5; have o10 := hs4.k o10; have o11 := hs4.k o11
   refine wp_seq (sblk_r20 g5 g10 g11 k v0 v1 v2 v3 v4 v5 v6 v7 kk wk hlt HV4 HV5 HV6 (Lib.hid (HV W4 K4)) (Lib.hid (HKt W4 K4)) (Lib.hid (HWt W4 K4)) hz4 o5 o10 o11 o12 o14 (fun a5 W5 hs5 k5 o15 => ?_))
   have K5 : Kp [] w1 W5 := (K4.trans (Kp.refl [] _).drew (by simp)).trans k5 (by simp)
   have hz5 := hs5.size.trans hz4; have o79 := hs5.k o79; have o13 := hs5.k o13; have o14 := hs5.k o14; have o11 := hs5.k o11
   refine wp_seq (sblk_r21 g11 v0 v1 v2 v3 v4 v5 v6 v7 HV0 HV1 HV2 (Lib.hid (HV W5 K5)) hz5 o11 o13 (fun a6 W6 hs6 k6 o16 => ?_))
   have K6 : Kp [] w1 W6 := (K5.trans (Kp.refl [] _).drew (by simp)).trans k6 (by simp)
   have hz6 := hs6.size.trans hz5; have o79 := hs6.k o79; have o13 := hs6.k o13; have o14 := hs6.k o14; have o15 := hs6.k o15; have o11 := hs6.k o11
   refine sblk_r22 w0 g11 v0 v1 v2 v3 v4 v5 v6 v7 _ _ _ (S.kp K6) hz6 o11 o13 o14 o15 o16 (fun a7 W7 hs7 S7 => ?_)
   have hz7 := hs7.size.trans hz6; have o79 := hs7.k o79
   refine sblk_r23 k hlt hz7 o79 (fun a8 hs8 o79 => ?_)
   have hz8 := hs8.size.trans hz7
   refine ⟨⟨k + 1, by omega, ?_, o79, ?_⟩, ?_⟩
   · refine ((((((T.trans hs4).trans hs5).trans hs6).trans hs7).trans hs8)).more ?_
     decide +kernel
   · rw [Hnext]
     exact S7
   · show 64 - (intOf (a8.eval (.tmp 79))).toNat < 64 - (intOf (a1.eval (.tmp 79))).toNat
     rw [e79, o79.eval (by rw [hz8]; decide)]
     simp [intOf]; omega
 · obtain rfl : k = 64 := by omega
   refine wp_seq (wp_cond_false ((o80.eval (by rw [hz2]; decide)).trans (by rw [decide_eq_false (by omega)])) (wp_exit ?_))
   refine hend _ _ ((hs.trans hs2).more (by decide +kernel)) S
end
/- Block of sha: the words' regions, each a theorem. -/
section
variable {Q : Exit → Act → World → Prop} {a : Act} {w : World}
open Go.RowKit
theorem sblk_r3 (k : Nat) (hsz : a.tmps.size = 172) (o18 : Sl a 18 (.int .i64 (k : Int)))
 (hend : ∀ a', Same a a' [19] → Sl a' 19 (.bool (decide ((k : Int) < 16))) → Q .normal a' (w)) : (Code.region 3 (opsOf 3 Tryd.f82).toArray false).wp Tryd.prog Q a w := by
 refine wp_region_lit ?_
 (conv => arg 4; whnf)
 unfold Sl at o18
 go_wp2_with fail
 try simp only [Act.put]
 exact hend _ sS sP
theorem sblk_r4 (k : Nat) (hsz : a.tmps.size = 172) (o18 : Sl a 18 (.int .i64 (k : Int)))
 (hend : ∀ a', Same a a' [20, 6] → Sl a' 6 (.int .i64 (k : Int)) → Q .normal a' (w)) : (Code.region 4 (opsOf 4 Tryd.f82).toArray false).wp Tryd.prog Q a w := by
 refine wp_region_lit ?_
 (conv => arg 4; whnf)
 unfold Sl at o18
 go_wp2_with fail
 try simp only [Act.put]
 exact hend _ sS sP
theorem sblk_r5 (w0 : World) (k g5 g3 : Nat) (L : List Nat) (b : List UInt8) (R : List Res) (hlt : k < 16) (hbl : b.length = 64) (hL : L.length = k) (S : Held w0 w (blkR g5 144 (u32A (pz L)) :: blkR g3 76 (hashA b) :: R)) (hsz : a.tmps.size = 172) (o3 : Sl a 3 (.pointer (some ⟨g3, 0, none⟩))) (o5 : Sl a 5 (.pointer (some ⟨g5, 0, none⟩))) (o6 : Sl a 6 (.int .i64 (k : Int)))
 (hend : ∀ a' W, Same a a' [21, 22, 23, 24, 25, 26] → (Held w0 W (blkR g5 144 (u32A (pz (L ++ [num ((b.drop (4 * k)).take 4)]))) :: blkR g3 76 (hashA b) :: R)) → Q .normal a' W) : (Code.region 5 (opsOf 5 Tryd.f82).toArray false).wp Tryd.prog Q a w := by
 refine wp_region_lit ?_
 (conv => arg 4; whnf)
 unfold Sl at o3 o5 o6
 have S := Lib.hid S
 have HBl := Lib.hid hbl
 have HP := Lib.hid (pz_next (l := L) (by omega) (num ((b.drop (4 * k)).take 4)))
 rw [hL] at HP
 have HR : Hid (Calls Tryd.prog 97 #[.slice (some ⟨g3, 4 * k, none⟩) (64 - 4 * k) (64 - 4 * k)] w fun e w' => e = .returned (.int .u32 ((num ((b.drop (4 * k)).take 4) : Nat) : Int)) ∧ w = w') := Lib.hid (by
  have := bytes_rd (S.out.at_ (l1 := [_])) (4 * k) (by rw [hbl]; omega) (by rw [hbl]; omega)
  rw [hbl] at this
  exact word_any _ _ _ (by omega) w this)
 generalize num ((b.drop (4 * k)).take 4) = nw at *
 have hpl : k < (pz L).length := by rw [pz_length (by omega)]; omega
 have q1 := u32_cell (S.out.at_ (l1 := [])) k _ (getD_at hpl)
 have q2 := (S.out.at_ (l1 := [])).frozen k
 have q3 := (S.out.at_ (l1 := [])).lt
 have S2 : Hid (Held w0 (w.setCell ⟨g5, k, none⟩ (.int .u32 (nw : Int))) _) := Lib.hid (S.out.set (l1 := []) k (.int .u32 (nw : Int)))
 rw [u32A_set, HP.out] at S2
 clear hpl hL hbl
 have hs := Tryd.slice64 g3 w (4 * k) (4 * (k : Int)) (by omega) (by omega)
 go_wp2_with fail
 refine HR.out.mono ?_
 rintro e w' ⟨rfl, rfl⟩
 go_wp2
 try simp only [Act.put]
 exact hend _ _ sS (S2.out)
theorem sblk_r6 (k : Nat) (hk : k < 16) (hsz : a.tmps.size = 172) (o18 : Sl a 18 (.int .i64 (k : Int)))
 (hend : ∀ a', Same a a' [27, 18] → Sl a' 18 (.int .i64 ((k + 1 : Nat) : Int)) → Q .normal a' (w)) : (Code.region 6 (opsOf 6 Tryd.f82).toArray false).wp Tryd.prog Q a w := by
 refine wp_region_lit ?_
 (conv => arg 4; whnf)
 unfold Sl at o18
 go_wp2_with fail
 try simp only [Act.put]
 exact hend _ sS sP
theorem sblk_r8 (n : Nat) (hsz : a.tmps.size = 172) (o7 : Sl a 7 (.int .i64 (n : Int)))
 (hend : ∀ a', Same a a' [28, 29] → Sl a' 29 (.bool (decide ((n : Int) < 64))) → Q .normal a' (w)) : (Code.region 8 (opsOf 8 Tryd.f82).toArray false).wp Tryd.prog Q a w := by
 refine wp_region_lit ?_
 (conv => arg 4; whnf)
 unfold Sl at o7
 go_wp2_with fail
 try simp only [Act.put]
 exact hend _ sS sP
theorem sblk_r9 (n : Nat) (hn : n < 64) (hsz : a.tmps.size = 172) (o7 : Sl a 7 (.int .i64 (n : Int)))
 (hend : ∀ a', Same a a' [30, 31, 7] → Sl a' 7 (.int .i64 ((n + 1 : Nat) : Int)) → Q .normal a' (w)) : (Code.region 9 (opsOf 9 Tryd.f82).toArray false).wp Tryd.prog Q a w := by
 refine wp_region_lit ?_
 (conv => arg 4; whnf)
 unfold Sl at o7
 go_wp2_with fail
 try simp only [Act.put]
 exact hend _ sS sP
theorem sblk_r10 (j g5 x y : Nat) (L : List Nat) (hlt : j < 48) (HX : Hid (L[j + 1]? = some x)) (HY : Hid (L[j + 14]? = some y)) (HW : Hid (∀ V, Kp [] w V → ∀ i x : Nat, L[i]? = some x → V.cell? ⟨g5, i, none⟩ = some (.int .u32 (x : Int)))) (hsz : a.tmps.size = 172) (o5 : Sl a 5 (.pointer (some ⟨g5, 0, none⟩))) (o7 : Sl a 7 (.int .i64 ((j + 16 : Nat) : Int)))
 (hend : ∀ a' W, Same a a' [32, 33, 34, 35, 36, 37, 38, 39, 8, 9] → Kp [] w.drew W → Sl a' 8 (.int .u32 (x : Int)) → Sl a' 9 (.int .u32 (y : Int)) → Q .normal a' W) : (Code.region 10 (opsOf 10 Tryd.f82).toArray true).wp Tryd.prog Q a w := by
 have hap : apartB (opsOf 10 Tryd.f82) = true := by kernel_rfl
 refine wp_region_inv (l := (opsOf 10 Tryd.f82)) (fun i v W => match i with | 0 => v = .int .i64 ((j + 16 : Nat) : Int) | 1 => v = .int .i64 ((j + 1 : Nat) : Int) | 2 => v = .pointer (some ⟨g5, j + 1, none⟩) | 3 => v = .int .u32 (x : Int) | 4 => v = .int .i64 ((j + 16 : Nat) : Int) | 5 => v = .int .i64 ((j + 14 : Nat) : Int) | 6 => v = .pointer (some ⟨g5, j + 14, none⟩) | 7 => v = .int .u32 (y : Int) | 8 => v = .int .u32 (x : Int) | 9 => v = .int .u32 (y : Int) | _ => True) (by kernel_rfl) hap (by kernel_rfl) ?_ ?_ ?_
 · intro i v W W' h _
   iterate 10 (rcases i with _ | i; · exact h)
   exact h
 · refine ⟨?_, ?_, ?_, ?_, ?_, ?_, ?_, ?_, ?_, ?_, trivial⟩
   · intro vs A' W hA hW hd K hK; have e7 := sO 7 o7 hA hap hsz; clear hA hd o5 o7; go_step; exact hK _ _ kR rfl
   · intro vs A' W hA hW hd K hK; have e32 := sV 32 (hd 0 (by kernel_rfl)) hA hap hsz; clear hA hd o5 o7; go_step
     exact hK _ _ kR (congrArg (Value.int .i64) (by first | omega | (unfold wrap64; omega)))
   · intro vs A' W hA hW hd K hK; have e5 := sO 5 o5 hA hap hsz; have e33 := sV 33 (hd 1 (by kernel_rfl)) hA hap hsz; clear hA hd o5 o7
     have h0 : 0 ≤ (j : Int) + 1 := by omega
     have h1 : (j : Int) + 1 < 64 := by omega
     go_step; exact hK _ _ kR rfl
   · intro vs A' W hA hW hd K hK; have e34 := sV 34 (hd 2 (by kernel_rfl)) hA hap hsz; clear hA hd o5 o7
     have c0 := HW.out W ((Kp.refl [] _).drew.trans hW (by simp)) (j + 1) x HX.out
     go_step; exact hK _ _ kR rfl
   · intro vs A' W hA hW hd K hK; have e7 := sO 7 o7 hA hap hsz; clear hA hd o5 o7; go_step; exact hK _ _ kR rfl
   · intro vs A' W hA hW hd K hK; have e36 := sV 36 (hd 4 (by kernel_rfl)) hA hap hsz; clear hA hd o5 o7; go_step
     exact hK _ _ kR (congrArg (Value.int .i64) (by first | omega | (unfold wrap64; omega)))
   · intro vs A' W hA hW hd K hK; have e5 := sO 5 o5 hA hap hsz; have e37 := sV 37 (hd 5 (by kernel_rfl)) hA hap hsz; clear hA hd o5 o7
     have h0 : 0 ≤ (j : Int) + 14 := by omega
     have h1 : (j : Int) + 14 < 64 := by omega
     go_step; exact hK _ _ kR rfl
   · intro vs A' W hA hW hd K hK; have e38 := sV 38 (hd 6 (by kernel_rfl)) hA hap hsz; clear hA hd o5 o7
     have c0 := HW.out W ((Kp.refl [] _).drew.trans hW (by simp)) (j + 14) y HY.out
     go_step; exact hK _ _ kR rfl
   · intro vs A' W hA hW hd K hK; have e35 := sV 35 (hd 3 (by kernel_rfl)) hA hap hsz; clear hA hd o5 o7; go_step; exact hK _ _ kR rfl
   · intro vs A' W hA hW hd K hK; have e39 := sV 39 (hd 7 (by kernel_rfl)) hA hap hsz; clear hA hd o5 o7; go_step; exact hK _ _ kR rfl
 · intro vs W hW hp
   rw [putAll_eq]
   exact hend _ W sQ hW (sW (hp 8 sB)) (sW (hp 9 sB))
theorem sblk_r11 (w0 : World) (j g5 : Nat) (L : List Nat) (R : List Res) (hlt : j < 48) (a1 c m : Nat) (HA : L[j]? = some a1) (HC : L[j + 9]? = some c) (HM : L[j + 16]? = some m) (hsz : a.tmps.size = 172) (o5 : Sl a 5 (.pointer (some ⟨g5, 0, none⟩))) (o7 : Sl a 7 (.int .i64 ((j + 16 : Nat) : Int)))
 (S0 : Held w0 w (blkR g5 144 (u32A L) :: R))
 (hend : ∀ a' W, Same a a' [40, 41, 42, 43, 44, 45, 46, 47, 48, 49, 50] → Held w0 W (blkR g5 144 (u32A (L.set (j + 16) ((a1 + c) % 4294967296))) :: R) → Q .normal a' W) : (Code.region 11 (opsOf 11 Tryd.f82).toArray true).wp Tryd.prog Q a w := by
 have hap : apartB (opsOf 11 Tryd.f82) = true := by kernel_rfl
 refine wp_region_sep (Γ := Unit) (l := (opsOf 11 Tryd.f82)) 2 [0, 1, 2, 3, 4, 5, 6, 7, 8, 9, 10, 11, 13]
  (fun i vs gs => match i with | 0 => vs 0 = .int .i64 ((j + 16 : Nat) : Int) | 1 => vs 1 = .int .i64 ((j + 16 : Nat) : Int) | 2 => vs 2 = .int .i64 (j : Int) | 3 => vs 3 = .pointer (some ⟨g5, j, none⟩) | 4 => vs 4 = .int .u32 ((a1 : Nat) : Int) | 5 => vs 5 = .int .i64 ((j + 16 : Nat) : Int) | 6 => vs 6 = .int .i64 ((j + 9 : Nat) : Int) | 7 => vs 7 = .pointer (some ⟨g5, j + 9, none⟩) | 8 => vs 8 = .int .u32 ((c : Nat) : Int) | 9 => vs 9 = .int .u32 (((a1 + c) % 4294967296 : Nat) : Int) | 10 => vs 10 = .pointer (some ⟨g5, j + 16, none⟩) | _ => True)
  (fun i vs gs => match i with | 11 => [blkR g5 144 (u32A (L.set (j + 16) ((a1 + c) % 4294967296)))] | 12 => [blkR g5 144 (u32A (L))] | 13 => R | _ => [])
  (fun i => match i with | 11 => [12] | _ => []) (fun i => match i with | 4 => [12] | 8 => [12] | _ => []) S0 (by kernel_rfl) hap (by kernel_rfl) (by kernel_rfl) (fun i => match i with | 0 => [0] | 1 => [1] | 2 => [2] | 3 => [3] | 4 => [4] | 5 => [5] | 6 => [6] | 7 => [7] | 8 => [8] | 9 => [9] | 10 => [10] | _ => []) (by kernel_rfl) ?_ (by kernel_rfl) ?_ ?_ ?_
 · intro s vs vs' gs gs' h
   iterate 14 (rcases s with _ | s; · (first | exact ⟨rfl, id⟩ | (simp only [List.mem_cons, List.not_mem_nil, or_false, forall_eq] at h; simp [h])))
   exact ⟨rfl, id⟩
 · simp only [List.range, List.range.loop, List.flatMap_cons, List.flatMap_nil, List.append_nil]
   exact List.Perm.refl _
 · clear S0 hend
   refine ⟨?_, ?_, ?_, ?_, ?_, ?_, ?_, ?_, ?_, ?_, ?_, ?_, trivial⟩
   · intro vs gs A' W LF hA S hR hd hu K hK; replace hK := hK default; have e7 := sO 7 o7 hA hap hsz; clear hA o5 o7; go_step; exact hK _ _ S rfl
   · intro vs gs A' W LF hA S hR hd hu K hK; replace hK := hK default; have e7 := sO 7 o7 hA hap hsz; clear hA o5 o7; go_step; exact hK _ _ S rfl
   · intro vs gs A' W LF hA S hR hd hu K hK; replace hK := hK default; have e41 := sV 41 (hd 1 (by kernel_rfl)) hA hap hsz; clear hA o5 o7; go_step
     exact hK _ _ S (congrArg (Value.int .i64) (by first | omega | (unfold wrap64; omega)))
   · intro vs gs A' W LF hA S hR hd hu K hK; replace hK := hK default; have e5 := sO 5 o5 hA hap hsz; have e42 := sV 42 (hd 2 (by kernel_rfl)) hA hap hsz; clear hA o5 o7
     have h0 : 0 ≤ (j : Int) := by omega
     have h1 : (j : Int) < 64 := by omega
     go_step; exact hK _ _ S rfl
   · intro vs gs A' W LF hA S hR hd hu K hK; replace hK := hK default; have e43 := sV 43 (hd 3 (by kernel_rfl)) hA hap hsz; clear hA o5 o7
     have c0 := u32_cell (S.ok (blkR g5 144 (u32A (L))) (hR 12 (List.mem_singleton.2 rfl) _ (List.mem_singleton.2 rfl))) (j) (a1) HA
     go_step; exact hK _ _ S rfl
   · intro vs gs A' W LF hA S hR hd hu K hK; replace hK := hK default; have e7 := sO 7 o7 hA hap hsz; clear hA o5 o7; go_step; exact hK _ _ S rfl
   · intro vs gs A' W LF hA S hR hd hu K hK; replace hK := hK default; have e45 := sV 45 (hd 5 (by kernel_rfl)) hA hap hsz; clear hA o5 o7; go_step
     exact hK _ _ S (congrArg (Value.int .i64) (by first | omega | (unfold wrap64; omega)))
   · intro vs gs A' W LF hA S hR hd hu K hK; replace hK := hK default; have e5 := sO 5 o5 hA hap hsz; have e46 := sV 46 (hd 6 (by kernel_rfl)) hA hap hsz; clear hA o5 o7
     have h0 : 0 ≤ (j : Int) + 9 := by omega
     have h1 : (j : Int) + 9 < 64 := by omega
     go_step; exact hK _ _ S rfl
   · intro vs gs A' W LF hA S hR hd hu K hK; replace hK := hK default; have e47 := sV 47 (hd 7 (by kernel_rfl)) hA hap hsz; clear hA o5 o7
     have c0 := u32_cell (S.ok (blkR g5 144 (u32A (L))) (hR 12 (List.mem_singleton.2 rfl) _ (List.mem_singleton.2 rfl))) (j + 9) (c) HC
     go_step; exact hK _ _ S rfl
   · intro vs gs A' W LF hA S hR hd hu K hK; replace hK := hK default; have e44 := sV 44 (hd 4 (by kernel_rfl)) hA hap hsz; have e48 := sV 48 (hd 8 (by kernel_rfl)) hA hap hsz; clear hA o5 o7; go_step
     exact hK _ _ S (congrArg (Value.int .u32) (by first | omega | rfl))
   · intro vs gs A' W LF hA S hR hd hu K hK; replace hK := hK default; have e5 := sO 5 o5 hA hap hsz; have e40 := sV 40 (hd 0 (by kernel_rfl)) hA hap hsz; clear hA o5 o7
     have h0 : 0 ≤ (j : Int) + 16 := by omega
     have h1 : (j : Int) + 16 < 64 := by omega
     go_step; exact hK _ _ S rfl
   · intro vs gs A' W LF hA S hR hd hu K hK; replace hK := hK default; have e50 := sV 50 (hd 10 (by kernel_rfl)) hA hap hsz; have e49 := sV 49 (hd 9 (by kernel_rfl)) hA hap hsz; clear hA o5 o7
     have S1 : Held w0 W (blkR g5 144 (u32A (L)) :: LF) := S
     have q1 := u32_cell (S1.at_ (l1 := [])) (j + 16) _ (HM)
     have q2 := (S1.at_ (l1 := [])).frozen (j + 16)
     have q3 := (S1.at_ (l1 := [])).lt
     go_step
     have S2 := S1.set (l1 := []) (j + 16) (.int .u32 (((a1 + c) % 4294967296 : Nat) : Int))
     rw [u32A_set] at S2
     exact hK undef _ S2 trivial
 · intro vs gs W S hp
   have S : Held w0 W (blkR g5 144 (u32A (L.set (j + 16) ((a1 + c) % 4294967296))) :: R) := by simpa only [List.flatMap_cons, List.flatMap_nil, List.append_nil, List.nil_append, List.cons_append, List.append_assoc] using S
   rw [putAll_eq]
   exact hend _ W sQ  S
theorem sblk_r12 (w0 : World) (j g5 : Nat) (L : List Nat) (R : List Res) (hlt : j < 48) (m x : Nat) (HM : L[j + 16]? = some m) (HXl : x < 4294967296) (hsz : a.tmps.size = 172) (o5 : Sl a 5 (.pointer (some ⟨g5, 0, none⟩))) (o7 : Sl a 7 (.int .i64 ((j + 16 : Nat) : Int))) (o8 : Sl a 8 (.int .u32 ((x : Nat) : Int)))
 (S0 : Held w0 w (blkR g5 144 (u32A L) :: R))
 (hend : ∀ a' W, Same a a' [51, 52, 53, 54, 55, 56, 57, 58, 59, 60, 61, 62, 63] → Held w0 W (blkR g5 144 (u32A (L.set (j + 16) ((m + sg0 x) % 4294967296))) :: R) → Q .normal a' W) : (Code.region 12 (opsOf 12 Tryd.f82).toArray true).wp Tryd.prog Q a w := by
 have hap : apartB (opsOf 12 Tryd.f82) = true := by kernel_rfl
 refine wp_region_sep (Γ := Unit) (l := (opsOf 12 Tryd.f82)) 2 [0, 1, 2, 3, 4, 5, 6, 7, 8, 9, 10, 11, 12, 13, 15]
  (fun i vs gs => match i with | 0 => vs 0 = .int .i64 ((j + 16 : Nat) : Int) | 1 => vs 1 = .pointer (some ⟨g5, j + 16, none⟩) | 2 => vs 2 = .int .u32 ((m : Nat) : Int) | 3 => vs 3 = .int .u32 ((x : Nat) : Int) | 4 => vs 4 = .int .u32 ((rotr x 7 : Nat) : Int) | 5 => vs 5 = .int .u32 ((x : Nat) : Int) | 6 => vs 6 = .int .u32 ((rotr x 18 : Nat) : Int) | 7 => vs 7 = .int .u32 ((rotr x 7 ^^^ rotr x 18 : Nat) : Int) | 8 => vs 8 = .int .u32 ((x : Nat) : Int) | 9 => vs 9 = .int .u32 ((x / 8 : Nat) : Int) | 10 => vs 10 = .int .u32 ((sg0 x : Nat) : Int) | 11 => vs 11 = .int .u32 (((m + sg0 x) % 4294967296 : Nat) : Int) | 12 => vs 12 = .pointer (some ⟨g5, j + 16, none⟩) | _ => True)
  (fun i vs gs => match i with | 13 => [blkR g5 144 (u32A (L.set (j + 16) ((m + sg0 x) % 4294967296)))] | 14 => [blkR g5 144 (u32A (L))] | 15 => R | _ => [])
  (fun i => match i with | 13 => [14] | _ => []) (fun i => match i with | 2 => [14] | _ => []) S0 (by kernel_rfl) hap (by kernel_rfl) (by kernel_rfl) (fun i => match i with | 0 => [0] | 1 => [1] | 2 => [2] | 3 => [3] | 4 => [4] | 5 => [5] | 6 => [6] | 7 => [7] | 8 => [8] | 9 => [9] | 10 => [10] | 11 => [11] | 12 => [12] | _ => []) (by kernel_rfl) ?_ (by kernel_rfl) ?_ ?_ ?_
 · intro s vs vs' gs gs' h
   iterate 16 (rcases s with _ | s; · (first | exact ⟨rfl, id⟩ | (simp only [List.mem_cons, List.not_mem_nil, or_false, forall_eq] at h; simp [h])))
   exact ⟨rfl, id⟩
 · simp only [List.range, List.range.loop, List.flatMap_cons, List.flatMap_nil, List.append_nil]
   exact List.Perm.refl _
 · clear S0 hend
   refine ⟨?_, ?_, ?_, ?_, ?_, ?_, ?_, ?_, ?_, ?_, ?_, ?_, ?_, ?_, trivial⟩
   · intro vs gs A' W LF hA S hR hd hu K hK; replace hK := hK default; have e7 := sO 7 o7 hA hap hsz; clear hA o5 o7 o8; go_step; exact hK _ _ S rfl
   · intro vs gs A' W LF hA S hR hd hu K hK; replace hK := hK default; have e5 := sO 5 o5 hA hap hsz; have e51 := sV 51 (hd 0 (by kernel_rfl)) hA hap hsz; clear hA o5 o7 o8
     have h0 : 0 ≤ (j : Int) + 16 := by omega
     have h1 : (j : Int) + 16 < 64 := by omega
     go_step; exact hK _ _ S rfl
   · intro vs gs A' W LF hA S hR hd hu K hK; replace hK := hK default; have e52 := sV 52 (hd 1 (by kernel_rfl)) hA hap hsz; clear hA o5 o7 o8
     have c0 := u32_cell (S.ok (blkR g5 144 (u32A (L))) (hR 14 (List.mem_singleton.2 rfl) _ (List.mem_singleton.2 rfl))) (j + 16) (m) HM
     go_step; exact hK _ _ S rfl
   · intro vs gs A' W LF hA S hR hd hu K hK; replace hK := hK default; have e8 := sO 8 o8 hA hap hsz; clear hA o5 o7 o8; go_step; exact hK _ _ S rfl
   · intro vs gs A' W LF hA S hR hd hu K hK; replace hK := hK default; have e54 := sV 54 (hd 3 (by kernel_rfl)) hA hap hsz; clear hA o5 o7 o8; go_step
     refine (srot_any x 7 7 rfl HXl (by unfold rotK; omega) W).mono ?_
     rintro e w' ⟨rfl, rfl⟩
     exact hK _ _ S rfl
   · intro vs gs A' W LF hA S hR hd hu K hK; replace hK := hK default; have e8 := sO 8 o8 hA hap hsz; clear hA o5 o7 o8; go_step; exact hK _ _ S rfl
   · intro vs gs A' W LF hA S hR hd hu K hK; replace hK := hK default; have e56 := sV 56 (hd 5 (by kernel_rfl)) hA hap hsz; clear hA o5 o7 o8; go_step
     refine (srot_any x 18 18 rfl HXl (by unfold rotK; omega) W).mono ?_
     rintro e w' ⟨rfl, rfl⟩
     exact hK _ _ S rfl
   · intro vs gs A' W LF hA S hR hd hu K hK; replace hK := hK default; have e55 := sV 55 (hd 4 (by kernel_rfl)) hA hap hsz; have e57 := sV 57 (hd 6 (by kernel_rfl)) hA hap hsz; clear hA o5 o7 o8; go_step
     exact hK _ _ S (congrArg (Value.int .u32) (u32_x _ _ (rotr_lt HXl) (rotr_lt HXl)))
   · intro vs gs A' W LF hA S hR hd hu K hK; replace hK := hK default; have e8 := sO 8 o8 hA hap hsz; clear hA o5 o7 o8; go_step; exact hK _ _ S rfl
   · intro vs gs A' W LF hA S hR hd hu K hK; replace hK := hK default; have e59 := sV 59 (hd 8 (by kernel_rfl)) hA hap hsz; clear hA o5 o7 o8; go_step
     exact hK _ _ S (congrArg (Value.int .u32) (by first | omega | rfl))
   · intro vs gs A' W LF hA S hR hd hu K hK; replace hK := hK default; have e58 := sV 58 (hd 7 (by kernel_rfl)) hA hap hsz; have e60 := sV 60 (hd 9 (by kernel_rfl)) hA hap hsz; clear hA o5 o7 o8; go_step
     exact hK _ _ S (congrArg (Value.int .u32) (u32_x _ _ (xor_lt (rotr_lt HXl) (rotr_lt HXl)) (div_lt HXl)))
   · intro vs gs A' W LF hA S hR hd hu K hK; replace hK := hK default; have e53 := sV 53 (hd 2 (by kernel_rfl)) hA hap hsz; have e61 := sV 61 (hd 10 (by kernel_rfl)) hA hap hsz; clear hA o5 o7 o8; go_step
     exact hK _ _ S (congrArg (Value.int .u32) (by first | omega | rfl))
   · intro vs gs A' W LF hA S hR hd hu K hK; replace hK := hK default; have e5 := sO 5 o5 hA hap hsz; have e51 := sV 51 (hd 0 (by kernel_rfl)) hA hap hsz; clear hA o5 o7 o8
     have h0 : 0 ≤ (j : Int) + 16 := by omega
     have h1 : (j : Int) + 16 < 64 := by omega
     go_step; exact hK _ _ S rfl
   · intro vs gs A' W LF hA S hR hd hu K hK; replace hK := hK default; have e63 := sV 63 (hd 12 (by kernel_rfl)) hA hap hsz; have e62 := sV 62 (hd 11 (by kernel_rfl)) hA hap hsz; clear hA o5 o7 o8
     have S1 : Held w0 W (blkR g5 144 (u32A (L)) :: LF) := S
     have q1 := u32_cell (S1.at_ (l1 := [])) (j + 16) _ (HM)
     have q2 := (S1.at_ (l1 := [])).frozen (j + 16)
     have q3 := (S1.at_ (l1 := [])).lt
     go_step
     have S2 := S1.set (l1 := []) (j + 16) (.int .u32 (((m + sg0 x) % 4294967296 : Nat) : Int))
     rw [u32A_set] at S2
     exact hK undef _ S2 trivial
 · intro vs gs W S hp
   have S : Held w0 W (blkR g5 144 (u32A (L.set (j + 16) ((m + sg0 x) % 4294967296))) :: R) := by simpa only [List.flatMap_cons, List.flatMap_nil, List.append_nil, List.nil_append, List.cons_append, List.append_assoc] using S
   rw [putAll_eq]
   exact hend _ W sQ  S
theorem sblk_r13 (w0 : World) (j g5 : Nat) (L : List Nat) (R : List Res) (hlt : j < 48) (m y : Nat) (HM : L[j + 16]? = some m) (HYl : y < 4294967296) (hsz : a.tmps.size = 172) (o5 : Sl a 5 (.pointer (some ⟨g5, 0, none⟩))) (o7 : Sl a 7 (.int .i64 ((j + 16 : Nat) : Int))) (o9 : Sl a 9 (.int .u32 ((y : Nat) : Int)))
 (S0 : Held w0 w (blkR g5 144 (u32A L) :: R))
 (hend : ∀ a' W, Same a a' [64, 65, 66, 67, 68, 69, 70, 71, 72, 73, 74, 75, 76] → Held w0 W (blkR g5 144 (u32A (L.set (j + 16) ((m + sg1 y) % 4294967296))) :: R) → Q .normal a' W) : (Code.region 13 (opsOf 13 Tryd.f82).toArray true).wp Tryd.prog Q a w := by
 have hap : apartB (opsOf 13 Tryd.f82) = true := by kernel_rfl
 refine wp_region_sep (Γ := Unit) (l := (opsOf 13 Tryd.f82)) 2 [0, 1, 2, 3, 4, 5, 6, 7, 8, 9, 10, 11, 12, 13, 15]
  (fun i vs gs => match i with | 0 => vs 0 = .int .i64 ((j + 16 : Nat) : Int) | 1 => vs 1 = .pointer (some ⟨g5, j + 16, none⟩) | 2 => vs 2 = .int .u32 ((m : Nat) : Int) | 3 => vs 3 = .int .u32 ((y : Nat) : Int) | 4 => vs 4 = .int .u32 ((rotr y 17 : Nat) : Int) | 5 => vs 5 = .int .u32 ((y : Nat) : Int) | 6 => vs 6 = .int .u32 ((rotr y 19 : Nat) : Int) | 7 => vs 7 = .int .u32 ((rotr y 17 ^^^ rotr y 19 : Nat) : Int) | 8 => vs 8 = .int .u32 ((y : Nat) : Int) | 9 => vs 9 = .int .u32 ((y / 1024 : Nat) : Int) | 10 => vs 10 = .int .u32 ((sg1 y : Nat) : Int) | 11 => vs 11 = .int .u32 (((m + sg1 y) % 4294967296 : Nat) : Int) | 12 => vs 12 = .pointer (some ⟨g5, j + 16, none⟩) | _ => True)
  (fun i vs gs => match i with | 13 => [blkR g5 144 (u32A (L.set (j + 16) ((m + sg1 y) % 4294967296)))] | 14 => [blkR g5 144 (u32A (L))] | 15 => R | _ => [])
  (fun i => match i with | 13 => [14] | _ => []) (fun i => match i with | 2 => [14] | _ => []) S0 (by kernel_rfl) hap (by kernel_rfl) (by kernel_rfl) (fun i => match i with | 0 => [0] | 1 => [1] | 2 => [2] | 3 => [3] | 4 => [4] | 5 => [5] | 6 => [6] | 7 => [7] | 8 => [8] | 9 => [9] | 10 => [10] | 11 => [11] | 12 => [12] | _ => []) (by kernel_rfl) ?_ (by kernel_rfl) ?_ ?_ ?_
 · intro s vs vs' gs gs' h
   iterate 16 (rcases s with _ | s; · (first | exact ⟨rfl, id⟩ | (simp only [List.mem_cons, List.not_mem_nil, or_false, forall_eq] at h; simp [h])))
   exact ⟨rfl, id⟩
 · simp only [List.range, List.range.loop, List.flatMap_cons, List.flatMap_nil, List.append_nil]
   exact List.Perm.refl _
 · clear S0 hend
   refine ⟨?_, ?_, ?_, ?_, ?_, ?_, ?_, ?_, ?_, ?_, ?_, ?_, ?_, ?_, trivial⟩
   · intro vs gs A' W LF hA S hR hd hu K hK; replace hK := hK default; have e7 := sO 7 o7 hA hap hsz; clear hA o5 o7 o9; go_step; exact hK _ _ S rfl
   · intro vs gs A' W LF hA S hR hd hu K hK; replace hK := hK default; have e5 := sO 5 o5 hA hap hsz; have e64 := sV 64 (hd 0 (by kernel_rfl)) hA hap hsz; clear hA o5 o7 o9
     have h0 : 0 ≤ (j : Int) + 16 := by omega
     have h1 : (j : Int) + 16 < 64 := by omega
     go_step; exact hK _ _ S rfl
   · intro vs gs A' W LF hA S hR hd hu K hK; replace hK := hK default; have e65 := sV 65 (hd 1 (by kernel_rfl)) hA hap hsz; clear hA o5 o7 o9
     have c0 := u32_cell (S.ok (blkR g5 144 (u32A (L))) (hR 14 (List.mem_singleton.2 rfl) _ (List.mem_singleton.2 rfl))) (j + 16) (m) HM
     go_step; exact hK _ _ S rfl
   · intro vs gs A' W LF hA S hR hd hu K hK; replace hK := hK default; have e9 := sO 9 o9 hA hap hsz; clear hA o5 o7 o9; go_step; exact hK _ _ S rfl
   · intro vs gs A' W LF hA S hR hd hu K hK; replace hK := hK default; have e67 := sV 67 (hd 3 (by kernel_rfl)) hA hap hsz; clear hA o5 o7 o9; go_step
     refine (srot_any y 17 17 rfl HYl (by unfold rotK; omega) W).mono ?_
     rintro e w' ⟨rfl, rfl⟩
     exact hK _ _ S rfl
   · intro vs gs A' W LF hA S hR hd hu K hK; replace hK := hK default; have e9 := sO 9 o9 hA hap hsz; clear hA o5 o7 o9; go_step; exact hK _ _ S rfl
   · intro vs gs A' W LF hA S hR hd hu K hK; replace hK := hK default; have e69 := sV 69 (hd 5 (by kernel_rfl)) hA hap hsz; clear hA o5 o7 o9; go_step
     refine (srot_any y 19 19 rfl HYl (by unfold rotK; omega) W).mono ?_
     rintro e w' ⟨rfl, rfl⟩
     exact hK _ _ S rfl
   · intro vs gs A' W LF hA S hR hd hu K hK; replace hK := hK default; have e68 := sV 68 (hd 4 (by kernel_rfl)) hA hap hsz; have e70 := sV 70 (hd 6 (by kernel_rfl)) hA hap hsz; clear hA o5 o7 o9; go_step
     exact hK _ _ S (congrArg (Value.int .u32) (u32_x _ _ (rotr_lt HYl) (rotr_lt HYl)))
   · intro vs gs A' W LF hA S hR hd hu K hK; replace hK := hK default; have e9 := sO 9 o9 hA hap hsz; clear hA o5 o7 o9; go_step; exact hK _ _ S rfl
   · intro vs gs A' W LF hA S hR hd hu K hK; replace hK := hK default; have e72 := sV 72 (hd 8 (by kernel_rfl)) hA hap hsz; clear hA o5 o7 o9; go_step
     exact hK _ _ S (congrArg (Value.int .u32) (by first | omega | rfl))
   · intro vs gs A' W LF hA S hR hd hu K hK; replace hK := hK default; have e71 := sV 71 (hd 7 (by kernel_rfl)) hA hap hsz; have e73 := sV 73 (hd 9 (by kernel_rfl)) hA hap hsz; clear hA o5 o7 o9; go_step
     exact hK _ _ S (congrArg (Value.int .u32) (u32_x _ _ (xor_lt (rotr_lt HYl) (rotr_lt HYl)) (div_lt HYl)))
   · intro vs gs A' W LF hA S hR hd hu K hK; replace hK := hK default; have e66 := sV 66 (hd 2 (by kernel_rfl)) hA hap hsz; have e74 := sV 74 (hd 10 (by kernel_rfl)) hA hap hsz; clear hA o5 o7 o9; go_step
     exact hK _ _ S (congrArg (Value.int .u32) (by first | omega | rfl))
   · intro vs gs A' W LF hA S hR hd hu K hK; replace hK := hK default; have e5 := sO 5 o5 hA hap hsz; have e64 := sV 64 (hd 0 (by kernel_rfl)) hA hap hsz; clear hA o5 o7 o9
     have h0 : 0 ≤ (j : Int) + 16 := by omega
     have h1 : (j : Int) + 16 < 64 := by omega
     go_step; exact hK _ _ S rfl
   · intro vs gs A' W LF hA S hR hd hu K hK; replace hK := hK default; have e76 := sV 76 (hd 12 (by kernel_rfl)) hA hap hsz; have e75 := sV 75 (hd 11 (by kernel_rfl)) hA hap hsz; clear hA o5 o7 o9
     have S1 : Held w0 W (blkR g5 144 (u32A (L)) :: LF) := S
     have q1 := u32_cell (S1.at_ (l1 := [])) (j + 16) _ (HM)
     have q2 := (S1.at_ (l1 := [])).frozen (j + 16)
     have q3 := (S1.at_ (l1 := [])).lt
     go_step
     have S2 := S1.set (l1 := []) (j + 16) (.int .u32 (((m + sg1 y) % 4294967296 : Nat) : Int))
     rw [u32A_set] at S2
     exact hK undef _ S2 trivial
 · intro vs gs W S hp
   have S : Held w0 W (blkR g5 144 (u32A (L.set (j + 16) ((m + sg1 y) % 4294967296))) :: R) := by simpa only [List.flatMap_cons, List.flatMap_nil, List.append_nil, List.nil_append, List.cons_append, List.append_assoc] using S
   rw [putAll_eq]
   exact hend _ W sQ  S
end
/- Block of sha: the other regions, each a theorem. -/
section
variable {Q : Exit → Act → World → Prop} {a : Act} {w : World}
open Go.RowKit
theorem sblk_r0 (w0 : World) (st : List Nat) (b : List UInt8) (L : List Res) (S : Held w0 w L) (hsz : a.tmps.size = 172) (o0 : Sl a 0 (.agg (u32A st))) (o1 : Sl a 1 (.agg (hashA b)))
 (hend : ∀ a' W, Same a a' [2, 3, 4] → (∃ g2 g3 g4, Sl a' 2 (.pointer (some ⟨g2, 0, none⟩)) ∧ Sl a' 3 (.pointer (some ⟨g3, 0, none⟩)) ∧ Sl a' 4 (.pointer (some ⟨g4, 0, none⟩)) ∧ Held w0 W (blkR g4 111 (u32A (List.replicate 8 0)) :: blkR g3 76 (hashA b) :: blkR g2 111 (u32A st) :: L)) → Q .normal a' W) : (Code.region 0 (opsOf 0 Tryd.f82).toArray false).wp Tryd.prog Q a w := by
 refine wp_region_lit ?_
 (conv => arg 4; whnf)
 unfold Sl at o0 o1
 have S0 := Lib.hid (((S.newBlk 111 (u32A st)).newBlk 76 (hashA b)).newBlk 111 (u32A (List.replicate 8 0)))
 simp only [World.size_alloc] at S0
 generalize hca : u32A st = ca at *
 generalize hcb : hashA b = cb at *
 go_wp2
 try simp only [Act.put]
 exact hend _ _ sS (⟨w.heap.size, w.heap.size + 1, w.heap.size + 1 + 1, sP0, sP0, sP0, S0.out⟩)
theorem sblk_r1 (w0 : World) (L : List Res) (S : Held w0 w L) (hsz : a.tmps.size = 172) 
 (hend : ∀ a' W, Same a a' [5] → (∃ g5, Sl a' 5 (.pointer (some ⟨g5, 0, none⟩)) ∧ Held w0 W (blkR g5 144 (u32A (List.replicate 64 0)) :: L)) → Q .normal a' W) : (Code.region 1 (opsOf 1 Tryd.f82).toArray false).wp Tryd.prog Q a w := by
 refine wp_region_lit ?_
 (conv => arg 4; whnf)
 have S0 := Lib.hid (S.newBlk 144 (u32A (List.replicate 64 0)))
 go_wp2
 try simp only [Act.put]
 exact hend _ _ sS (⟨w.heap.size, sP0, S0.out⟩)
theorem sblk_r2  (hsz : a.tmps.size = 172) 
 (hend : ∀ a', Same a a' [18] → Sl a' 18 (.int .i64 ((0 : Nat) : Int)) → Q .normal a' (w)) : (Code.region 2 (opsOf 2 Tryd.f82).toArray false).wp Tryd.prog Q a w := by
 refine wp_region_lit ?_
 (conv => arg 4; whnf)
 go_wp2_with fail
 try simp only [Act.put]
 exact hend _ sS sP
theorem sblk_r7  (hsz : a.tmps.size = 172) 
 (hend : ∀ a', Same a a' [7] → Sl a' 7 (.int .i64 ((16 : Nat) : Int)) → Q .normal a' (w)) : (Code.region 7 (opsOf 7 Tryd.f82).toArray false).wp Tryd.prog Q a w := by
 refine wp_region_lit ?_
 (conv => arg 4; whnf)
 go_wp2_with fail
 try simp only [Act.put]
 exact hend _ sS sP
theorem sblk_r14 (w0 : World) (L : List Res) (S : Held w0 w L) (hsz : a.tmps.size = 172) 
 (hend : ∀ a' W, Same a a' [77, 10] → (∃ g10, Sl a' 10 (.pointer (some ⟨g10, 0, none⟩)) ∧ Held w0 W (blkR g10 144 (u32A kT) :: L)) → Q .normal a' W) : (Code.region 14 (opsOf 14 Tryd.f82).toArray false).wp Tryd.prog Q a w := by
 refine wp_region_lit ?_
 (conv => arg 4; whnf)
 have S := Lib.hid S
 go_wp2_with fail
 refine (stable_any _).mono ?_
 rintro e w5 ⟨rfl, k5⟩
 have S5 := Lib.hid (S.out.kp k5)
 clear k5
 go_wp2_with (refine wpList_store_blk rfl 144 (.tmp 10) (.tmp 77) rfl w5.heap.size (by simp [Act.eval, Act.put, hsz]) (u32A kT) (by simp [Act.eval, Act.put, hsz]) 144 _ (Blk.new w5 144 _) (by rw [u32A_size]; exact Tryd.info64w) (by rw [u32A_size]; rfl) (u32A_one kT) ?_; intro w6 b6 k6; have S6 := Lib.hid (Held.setBlk (l1 := []) (S5.out.newBlk 144 _) b6 k6); clear b6 k6)
 try simp only [Act.put]
 exact hend _ _ sS (⟨_, sP0, S6.out⟩)
theorem sblk_r15 (w0 : World) (g2 : Nat) (st : List Nat) (hsl : st.length = 8) (L1 L2 : List Res) (S : Held w0 w (L1 ++ blkR g2 111 (u32A st) :: L2)) (hsz : a.tmps.size = 172) (o2 : Sl a 2 (.pointer (some ⟨g2, 0, none⟩)))
 (hend : ∀ a' W, Same a a' [78, 11] → (∃ g11, Sl a' 11 (.pointer (some ⟨g11, 0, none⟩)) ∧ Held w0 W (blkR g11 111 (u32A st) :: (L1 ++ blkR g2 111 (u32A st) :: L2))) → Q .normal a' W) : (Code.region 15 (opsOf 15 Tryd.f82).toArray false).wp Tryd.prog Q a w := by
 refine wp_region_lit ?_
 (conv => arg 4; whnf)
 unfold Sl at o2
 have S := Lib.hid S
 have HSl := Lib.hid hsl
 clear hsl
 go_wp2_with (first
  | (refine wpList_load_blk rfl 111 (.tmp 2) rfl g2 (by simp [Act.eval, Act.put, hsz, o2]) 111 _ S.out.at_ _ Tryd.underlying111 rfl (by rw [u32A_size, HSl.out]; exact Tryd.info8w) ?_)
  | (refine wpList_store_blk rfl 111 (.tmp 11) (.tmp 78) rfl w.heap.size (by simp [Act.eval, Act.put, hsz]) (u32A st) (by simp [Act.eval, Act.put, hsz]) 111 _ (Blk.new w 111 _) (by rw [u32A_size, HSl.out]; exact Tryd.info8w) (by rw [u32A_size, HSl.out]; rfl) (u32A_one st) ?_; intro w7 b7 k7; have S7 := Lib.hid (Held.setBlk (l1 := []) (S.out.newBlk 111 _) b7 k7); clear b7 k7))
 try simp only [Act.put]
 exact hend _ _ sS (⟨_, sP0, S7.out⟩)
theorem sblk_r16  (hsz : a.tmps.size = 172) 
 (hend : ∀ a', Same a a' [79] → Sl a' 79 (.int .i64 0) → Q .normal a' (w)) : (Code.region 16 (opsOf 16 Tryd.f82).toArray false).wp Tryd.prog Q a w := by
 refine wp_region_lit ?_
 (conv => arg 4; whnf)
 go_wp2_with fail
 try simp only [Act.put]
 exact hend _ sS sP
theorem sblk_r24  (hsz : a.tmps.size = 172) 
 (hend : ∀ a', Same a a' [159] → Sl a' 159 (.int .i64 ((0 : Nat) : Int)) → Q .normal a' (w)) : (Code.region 24 (opsOf 24 Tryd.f82).toArray false).wp Tryd.prog Q a w := by
 refine wp_region_lit ?_
 (conv => arg 4; whnf)
 go_wp2_with fail
 try simp only [Act.put]
 exact hend _ sS sP
theorem sblk_r25 (k : Nat) (hsz : a.tmps.size = 172) (o159 : Sl a 159 (.int .i64 (k : Int)))
 (hend : ∀ a', Same a a' [160] → Sl a' 160 (.bool (decide ((k : Int) < 8))) → Q .normal a' (w)) : (Code.region 25 (opsOf 25 Tryd.f82).toArray false).wp Tryd.prog Q a w := by
 refine wp_region_lit ?_
 (conv => arg 4; whnf)
 unfold Sl at o159
 go_wp2_with fail
 try simp only [Act.put]
 exact hend _ sS sP
theorem sblk_r26 (k : Nat) (hsz : a.tmps.size = 172) (o159 : Sl a 159 (.int .i64 (k : Int)))
 (hend : ∀ a', Same a a' [161, 17] → Sl a' 17 (.int .i64 (k : Int)) → Q .normal a' (w)) : (Code.region 26 (opsOf 26 Tryd.f82).toArray false).wp Tryd.prog Q a w := by
 refine wp_region_lit ?_
 (conv => arg 4; whnf)
 unfold Sl at o159
 go_wp2_with fail
 try simp only [Act.put]
 exact hend _ sS sP
theorem sblk_r28 (k : Nat) (hk : k < 8) (hsz : a.tmps.size = 172) (o159 : Sl a 159 (.int .i64 (k : Int)))
 (hend : ∀ a', Same a a' [170, 159] → Sl a' 159 (.int .i64 ((k + 1 : Nat) : Int)) → Q .normal a' (w)) : (Code.region 28 (opsOf 28 Tryd.f82).toArray false).wp Tryd.prog Q a w := by
 refine wp_region_lit ?_
 (conv => arg 4; whnf)
 unfold Sl at o159
 go_wp2_with fail
 try simp only [Act.put]
 exact hend _ sS sP
theorem sblk_r29 (w0 : World) (g11 g4 : Nat) (v c4 : List Nat) (hvl : v.length = 8) (h4l : c4.length = 8) (L1 L2 : List Res) (S : Held w0 w (blkR g11 111 (u32A v) :: (L1 ++ blkR g4 111 (u32A c4) :: L2))) (hsz : a.tmps.size = 172) (o4 : Sl a 4 (.pointer (some ⟨g4, 0, none⟩))) (o11 : Sl a 11 (.pointer (some ⟨g11, 0, none⟩)))
 (hend : ∀ a' W, Same a a' [171] → (Held w0 W (blkR g11 111 (u32A v) :: (L1 ++ blkR g4 111 (u32A v) :: L2))) → Q .normal a' W) : (Code.region 29 (opsOf 29 Tryd.f82).toArray false).wp Tryd.prog Q a w := by
 refine wp_region_lit ?_
 (conv => arg 4; whnf)
 unfold Sl at o4 o11
 have S := Lib.hid S
 have HV := Lib.hid hvl
 have H4 := Lib.hid h4l
 clear hvl h4l
 go_wp2_with (first
  | (refine wpList_load_blk rfl 111 (.tmp 11) rfl g11 (by simp [Act.eval, Act.put, hsz, o11]) 111 _ (S.out.at_ (l1 := [])) _ Tryd.underlying111 rfl (by rw [u32A_size, HV.out]; exact Tryd.info8w) ?_)
  | (refine wpList_store_blk rfl 111 (.tmp 4) (.tmp 171) rfl g4 (by simp [Act.eval, Act.put, hsz, o4]) (u32A v) (by simp [Act.eval, Act.put, hsz]) 111 _ (S.out.at_ (l1 := _ :: L1)) (by rw [u32A_size, HV.out]; exact Tryd.info8w) (by rw [u32A_size, u32A_size, HV.out, H4.out]) (u32A_one v) ?_; intro w7 b7 k7; have S7 := Lib.hid (Held.setBlk (l1 := _ :: L1) S.out b7 k7); clear b7 k7))
 try simp only [Act.put]
 exact hend _ _ sS (S7.out)
theorem sblk_r27 (w0 : World) (k g11 g2 : Nat) (V st : List Nat) (R1 R2 : List Res) (hlt : k < 8) (x y : Nat) (HX : V[k]? = some x) (HY : st[k]? = some y) (hsz : a.tmps.size = 172) (o2 : Sl a 2 (.pointer (some ⟨g2, 0, none⟩))) (o11 : Sl a 11 (.pointer (some ⟨g11, 0, none⟩))) (o17 : Sl a 17 (.int .i64 (k : Int)))
 (S0 : Held w0 w (blkR g11 111 (u32A V) :: (R1 ++ blkR g2 111 (u32A st) :: R2)))
 (hend : ∀ a' W, Same a a' [162, 163, 164, 165, 166, 167, 168, 169] → Held w0 W (blkR g11 111 (u32A (V.set k ((x + y) % 4294967296))) :: R1 ++ blkR g2 111 (u32A st) :: R2) → Q .normal a' W) : (Code.region 27 (opsOf 27 Tryd.f82).toArray true).wp Tryd.prog Q a w := by
 have hap : apartB (opsOf 27 Tryd.f82) = true := by kernel_rfl
 refine wp_region_sep (Γ := Unit) (l := (opsOf 27 Tryd.f82)) 2 [0, 1, 2, 3, 4, 5, 6, 7, 8, 10]
  (fun i vs gs => match i with | 0 => vs 0 = .int .i64 (k : Int) | 1 => vs 1 = .pointer (some ⟨g11, k, none⟩) | 2 => vs 2 = .int .u32 ((x : Nat) : Int) | 3 => vs 3 = .int .i64 (k : Int) | 4 => vs 4 = .pointer (some ⟨g2, k, none⟩) | 5 => vs 5 = .int .u32 ((y : Nat) : Int) | 6 => vs 6 = .int .u32 (((x + y) % 4294967296 : Nat) : Int) | 7 => vs 7 = .pointer (some ⟨g11, k, none⟩) | _ => True)
  (fun i vs gs => match i with | 8 => [blkR g11 111 (u32A (V.set k ((x + y) % 4294967296)))] | 9 => [blkR g11 111 (u32A V)] | 10 => R1 ++ blkR g2 111 (u32A st) :: R2 | _ => [])
  (fun i => match i with | 8 => [9] | _ => []) (fun i => match i with | 2 => [9] | 5 => [10] | _ => []) S0 (by kernel_rfl) hap (by kernel_rfl) (by kernel_rfl) (fun i => match i with | 0 => [0] | 1 => [1] | 2 => [2] | 3 => [3] | 4 => [4] | 5 => [5] | 6 => [6] | 7 => [7] | _ => []) (by kernel_rfl) ?_ (by kernel_rfl) ?_ ?_ ?_
 · intro s vs vs' gs gs' h
   iterate 11 (rcases s with _ | s; · (first | exact ⟨rfl, id⟩ | (simp only [List.mem_cons, List.not_mem_nil, or_false, forall_eq] at h; simp [h])))
   exact ⟨rfl, id⟩
 · simp only [List.range, List.range.loop, List.flatMap_cons, List.flatMap_nil, List.append_nil]
   exact List.Perm.refl _
 · clear S0 hend
   refine ⟨?_, ?_, ?_, ?_, ?_, ?_, ?_, ?_, ?_, trivial⟩
   · intro vs gs A' W LF hA S hR hd hu K hK; replace hK := hK default; have e17 := sO 17 o17 hA hap hsz; clear hA o2 o11 o17; go_step; exact hK _ _ S rfl
   · intro vs gs A' W LF hA S hR hd hu K hK; replace hK := hK default; have e11 := sO 11 o11 hA hap hsz; have e162 := sV 162 (hd 0 (by kernel_rfl)) hA hap hsz; clear hA o2 o11 o17
     have h0 : 0 ≤ (k : Int) := by omega
     have h1 : (k : Int) < 8 := by omega
     go_step; exact hK _ _ S rfl
   · intro vs gs A' W LF hA S hR hd hu K hK; replace hK := hK default; have e163 := sV 163 (hd 1 (by kernel_rfl)) hA hap hsz; clear hA o2 o11 o17
     have c0 := u32_cell (S.ok (blkR g11 111 (u32A V)) (hR 9 (List.mem_singleton.2 rfl) _ (List.mem_singleton.2 rfl))) k x HX
     go_step; exact hK _ _ S rfl
   · intro vs gs A' W LF hA S hR hd hu K hK; replace hK := hK default; have e17 := sO 17 o17 hA hap hsz; clear hA o2 o11 o17; go_step; exact hK _ _ S rfl
   · intro vs gs A' W LF hA S hR hd hu K hK; replace hK := hK default; have e2 := sO 2 o2 hA hap hsz; have e165 := sV 165 (hd 3 (by kernel_rfl)) hA hap hsz; clear hA o2 o11 o17
     have h0 : 0 ≤ (k : Int) := by omega
     have h1 : (k : Int) < 8 := by omega
     go_step; exact hK _ _ S rfl
   · intro vs gs A' W LF hA S hR hd hu K hK; replace hK := hK default; have e166 := sV 166 (hd 4 (by kernel_rfl)) hA hap hsz; clear hA o2 o11 o17
     have c0 := u32_cell (S.ok (blkR g2 111 (u32A st)) (hR 10 (List.mem_singleton.2 rfl) _ (List.mem_append_right _ (List.mem_cons_self ..)))) k y HY
     go_step; exact hK _ _ S rfl
   · intro vs gs A' W LF hA S hR hd hu K hK; replace hK := hK default; have e164 := sV 164 (hd 2 (by kernel_rfl)) hA hap hsz; have e167 := sV 167 (hd 5 (by kernel_rfl)) hA hap hsz; clear hA o2 o11 o17; go_step
     exact hK _ _ S (congrArg (Value.int .u32) (by first | omega | rfl))
   · intro vs gs A' W LF hA S hR hd hu K hK; replace hK := hK default; have e11 := sO 11 o11 hA hap hsz; have e162 := sV 162 (hd 0 (by kernel_rfl)) hA hap hsz; clear hA o2 o11 o17
     have h0 : 0 ≤ (k : Int) := by omega
     have h1 : (k : Int) < 8 := by omega
     go_step; exact hK _ _ S rfl
   · intro vs gs A' W LF hA S hR hd hu K hK; replace hK := hK default; have e169 := sV 169 (hd 7 (by kernel_rfl)) hA hap hsz; have e168 := sV 168 (hd 6 (by kernel_rfl)) hA hap hsz; clear hA o2 o11 o17
     have S1 : Held w0 W (blkR g11 111 (u32A V) :: LF) := S
     have q1 := u32_cell (S1.at_ (l1 := [])) k _ HX
     have q2 := (S1.at_ (l1 := [])).frozen k
     have q3 := (S1.at_ (l1 := [])).lt
     go_step
     have S2 := S1.set (l1 := []) k (.int .u32 (((x + y) % 4294967296 : Nat) : Int))
     rw [u32A_set] at S2
     exact hK undef _ S2 trivial
 · intro vs gs W S hp
   have S : Held w0 W (blkR g11 111 (u32A (V.set k ((x + y) % 4294967296))) :: R1 ++ blkR g2 111 (u32A st) :: R2) := by simpa only [List.flatMap_cons, List.flatMap_nil, List.append_nil, List.nil_append, List.cons_append, List.append_assoc] using S
   rw [putAll_eq]
   exact hend _ W sQ  S
end
/- Block of sha. -/
section
open Go.RowKit
def dsL1 : List Nat := [6, 18, 19, 20, 21, 22, 23, 24, 25, 26, 27]
def dsL2 : List Nat := [7, 8, 9, 28, 29, 30, 31, 32, 33, 34, 35, 36, 37, 38, 39, 40, 41, 42, 43, 44, 45, 46, 47, 48, 49, 50, 51, 52, 53, 54, 55, 56, 57, 58, 59, 60, 61, 62, 63, 64, 65, 66, 67, 68, 69, 70, 71, 72, 73, 74, 75, 76]
def dsL4 : List Nat := [17, 159, 160, 161, 162, 163, 164, 165, 166, 167, 168, 169, 170]
theorem sblk_l1 {Q : Exit → Act → World → Prop} {a : Act} {w0 w : World} (b : List UInt8) (hbl : b.length = 64) (g5 g3 : Nat) (R : List Res) (hsz : a.tmps.size = 172)
 (o3 : Sl a 3 (.pointer (some ⟨g3, 0, none⟩))) (o5 : Sl a 5 (.pointer (some ⟨g5, 0, none⟩))) (o18 : Sl a 18 (.int .i64 ((0 : Nat) : Int)))
 (S : Held w0 w (blkR g5 144 (u32A (List.replicate 64 0)) :: blkR g3 76 (hashA b) :: R))
 (hend : ∀ a' W, Same a a' dsL1 → Held w0 W (blkR g5 144 (u32A (pz (wsN b 16))) :: blkR g3 76 (hashA b) :: R) → Q .normal a' W) :
 (Code.block 0 (blockOf 0 Tryd.f82)).wp Tryd.prog Q a w := by
 refine wp_block ?_
 (conv => arg 2; whnf)
 refine wp_loop (fun a' w' => ∃ k : Nat, k ≤ 16 ∧ Same a a' dsL1 ∧ Sl a' 18 (.int .i64 (k : Int)) ∧ Held w0 w' (blkR g5 144 (u32A (pz (wsN b k))) :: blkR g3 76 (hashA b) :: R)) (fun a' _ => 16 - (intOf (a'.eval (.tmp 18))).toNat) ⟨0, by omega, Same.refl _ _, o18, S⟩ ?_
 clear o18 S
 rintro a1 w1 ⟨k, hk, hs, o18, S⟩
 have o3 := hs.keep 3 _ (by decide) o3
 have o5 := hs.keep 5 _ (by decide) o5
 have hz := hs.size.trans hsz
 refine wp_seq (sblk_r3 k hz o18 (fun a2 hs2 o19 => ?_))
 have e18 := o18.eval (by rw [hz]; decide)
 have hz2 := hs2.size.trans hz
 by_cases hlt : k < 16
 · refine wp_seq (wp_cond_true ((o19.eval (by rw [hz2]; decide)).trans (by rw [decide_eq_true (by omega)])) (wp_skip ?_))
   have o18 := hs2.k o18
   refine wp_seq (wp_block ?_)
   refine wp_seq (sblk_r4 k hz2 o18 (fun a3 hs3 o6 => ?_))
   have T := (hs.trans hs2).trans hs3
   have hz3 := hs3.size.trans hz2; have o18 := hs3.k o18
   have o3 := (hs2.trans hs3).keep 3 _ (by decide) o3
   have o5 := (hs2.trans hs3).keep 5 _ (by decide) o5
   refine sblk_r5 w0 k g5 g3 (wsN b k) b R hlt hbl (wsN_length b k) S hz3 o3 o5 o6 (fun a4 W4 hs4 S4 => ?_)
   rw [← wsN_next16 b hlt] at S4
   have hz4 := hs4.size.trans hz3; have o18 := hs4.k o18
   refine sblk_r6 k hlt hz4 o18 (fun a5 hs5 o18 => ?_)
   have hz5 := hs5.size.trans hz4
   refine ⟨⟨k + 1, by omega, ((T.trans hs4).trans hs5).more (by decide +kernel), o18, S4⟩, ?_⟩
   show 16 - (intOf (a5.eval (.tmp 18))).toNat < 16 - (intOf (a1.eval (.tmp 18))).toNat
   rw [e18, o18.eval (by rw [hz5]; decide)]
   simp [intOf]; omega
 · obtain rfl : k = 16 := by omega
   refine wp_seq (wp_cond_false ((o19.eval (by rw [hz2]; decide)).trans (by rw [decide_eq_false (by omega)])) (wp_exit ?_))
   exact hend _ _ ((hs.trans hs2).more (by decide +kernel)) S
theorem sblk_l2 {Q : Exit → Act → World → Prop} {a : Act} {w0 w : World} (b : List UInt8) (g5 : Nat) (R : List Res) (hsz : a.tmps.size = 172)
 (o5 : Sl a 5 (.pointer (some ⟨g5, 0, none⟩))) (o7 : Sl a 7 (.int .i64 ((16 : Nat) : Int)))
 (S : Held w0 w (blkR g5 144 (u32A (pz (wsN b 16))) :: R))
 (hend : ∀ a' W, Same a a' dsL2 → Held w0 W (blkR g5 144 (u32A (wsN b 64)) :: R) → Q .normal a' W) :
 (Code.block 2 (blockOf 2 Tryd.f82)).wp Tryd.prog Q a w := by
 refine wp_block ?_
 (conv => arg 2; whnf)
 refine wp_loop (fun a' w' => ∃ k : Nat, 16 ≤ k ∧ k ≤ 64 ∧ Same a a' dsL2 ∧ Sl a' 7 (.int .i64 (k : Int)) ∧ Held w0 w' (blkR g5 144 (u32A (pz (wsN b k))) :: R)) (fun a' _ => 64 - (intOf (a'.eval (.tmp 7))).toNat) ⟨16, by omega, by omega, Same.refl _ _, o7, S⟩ ?_
 clear o7 S
 rintro a1 w1 ⟨n, hn16, hn, hs, o7, S⟩
 have o5 := hs.keep 5 _ (by decide) o5
 have hz := hs.size.trans hsz
 refine wp_seq (wp_seq (sblk_r8 n hz o7 (fun a2 hs2 o29 => ?_)))
 have e7 := o7.eval (by rw [hz]; decide)
 have hz2 := hs2.size.trans hz
 by_cases hlt : n < 64
 · refine wp_cond_true ((o29.eval (by rw [hz2]; decide)).trans (by rw [decide_eq_true (by omega)])) (wp_skip ?_)
   have o7 := hs2.k o7; have o5 := hs2.k o5
   obtain ⟨j, rfl⟩ : ∃ j, n = j + 16 := ⟨n - 16, by omega⟩
   have HWl := wsN_lt b (j + 16)
   have HWn := wsN_length b (j + 16)
   have Hnx := wsN_next48 b j
   generalize hl : wsN b (j + 16) = l at *
   have hpl : (pz l).length = 64 := pz_length (by omega)
   have HA : (pz l)[j]? = some (l.getD j 0) := pz_at (getD_at (by omega))
   have HC : (pz l)[j + 9]? = some (l.getD (j + 9) 0) := pz_at (getD_at (by omega))
   have HX : (pz l)[j + 1]? = some (l.getD (j + 1) 0) := pz_at (getD_at (by omega))
   have HY : (pz l)[j + 14]? = some (l.getD (j + 14) 0) := pz_at (getD_at (by omega))
   have HM : (pz l)[j + 16]? = some ((pz l).getD (j + 16) 0) := getD_at (by omega)
   have HXl := getD_lt HWl (j + 1)
   have HYl := getD_lt HWl (j + 14)
   have HE : ∀ x, (pz l).set (j + 16) x = pz (l ++ [x]) := fun x => by rw [← HWn]; exact pz_next (by omega) x
   generalize l.getD j 0 = v at *
   generalize l.getD (j + 9) 0 = c at *
   generalize l.getD (j + 1) 0 = x at *
   generalize l.getD (j + 14) 0 = y at *
   have hs2i : ∀ m : Nat, ((pz l).set (j + 16) m)[j + 16]? = some m := fun m => by rw [List.getElem?_set_self (by omega)]
   refine wp_seq (wp_block ?_)
   refine wp_seq (sblk_r10 j g5 x y (pz l) (by omega) (Lib.hid HX) (Lib.hid HY) (Lib.hid (fun V kk i x h => u32_cell ((S.at_ (l1 := [])).kp kk (by simp)) i x h)) hz2 o5 o7 (fun a3 W3 hs3 k3 o8 o9 => ?_))
   have S3 := S.kp ((Kp.refl [] _).drew.trans k3 (by simp))
   have T := (hs.trans hs2).trans hs3
   have hz3 := hs3.size.trans hz2; have o7 := hs3.k o7; have o5 := hs3.k o5
   refine wp_seq (sblk_r11 w0 j g5 (pz l) R (by omega) v c _ HA HC HM hz3 o5 o7 S3 (fun a4 W4 hs4 S4 => ?_))
   have hz4 := hs4.size.trans hz3; have o7 := hs4.k o7; have o5 := hs4.k o5; have o8 := hs4.k o8; have o9 := hs4.k o9
   refine wp_seq (sblk_r12 w0 j g5 _ R (by omega) _ x (hs2i _) HXl hz4 o5 o7 o8 S4 (fun a5 W5 hs5 S5 => ?_))
   rw [List.set_set] at S5
   have hz5 := hs5.size.trans hz4; have o7 := hs5.k o7; have o5 := hs5.k o5; have o9 := hs5.k o9
   refine sblk_r13 w0 j g5 _ R (by omega) _ y (hs2i _) HYl hz5 o5 o7 o9 S5 (fun a6 W6 hs6 S6 => ?_)
   rw [List.set_set, HE] at S6
   have hz6 := hs6.size.trans hz5; have o7 := hs6.k o7
   refine sblk_r9 (j + 16) hlt hz6 o7 (fun a7 hs7 o7 => ?_)
   have hz7 := hs7.size.trans hz6
   refine ⟨⟨j + 16 + 1, by omega, by omega, (((((T.trans hs4).trans hs5).trans hs6).trans hs7)).more (by decide +kernel), o7, ?_⟩, ?_⟩
   · rw [Hnx]
     have e : (((v + c) % 4294967296 + sg0 x) % 4294967296 + sg1 y) % 4294967296 = (v + sg0 x + c + sg1 y) % 4294967296 := by omega
     rw [e] at S6
     exact S6
   · show 64 - (intOf (a7.eval (.tmp 7))).toNat < 64 - (intOf (a1.eval (.tmp 7))).toNat
     rw [e7, o7.eval (by rw [hz7]; decide)]
     simp [intOf]; omega
 · obtain rfl : n = 64 := by omega
   refine wp_cond_false ((o29.eval (by rw [hz2]; decide)).trans (by rw [decide_eq_false (by omega)])) (wp_exit ?_)
   rw [pz_full (wsN_length b 64)] at S
   exact hend _ _ ((hs.trans hs2).more (by decide +kernel)) S
def addN (v st : List Nat) (k : Nat) : List Nat := (List.zipWith (fun x y => (x + y) % 4294967296) v st).take k ++ v.drop k
theorem addN_at {v st : List Nat} (hv : v.length = 8) (hst : st.length = 8) {k : Nat} (hk : k < 8) : (addN v st k)[k]? = some (v.getD k 0) := by
 unfold addN
 have h1 : ((List.zipWith (fun x y => (x + y) % 4294967296) v st).take k).length = k := by rw [List.length_take, List.length_zipWith]; omega
 rw [List.getElem?_append_right (by omega), h1, Nat.sub_self, List.getElem?_drop, Nat.add_zero]
 exact getD_at (by omega)
theorem addN_next {v st : List Nat} (hv : v.length = 8) (hst : st.length = 8) {k : Nat} (hk : k < 8) : (addN v st k).set k ((v.getD k 0 + st.getD k 0) % 4294967296) = addN v st (k + 1) := by
 unfold addN
 have h1 : ((List.zipWith (fun x y => (x + y) % 4294967296) v st).take k).length = k := by rw [List.length_take, List.length_zipWith]; omega
 rw [List.set_append_right _ _ (by omega), h1, Nat.sub_self, List.drop_eq_getElem_cons (by omega : k < v.length), List.set_cons_zero]
 rw [List.take_add_one, List.getElem?_zipWith, getD_at (show k < v.length by omega), getD_at (show k < st.length by omega)]
 simp
theorem sblk_l4 {Q : Exit → Act → World → Prop} {a : Act} {w0 w : World} (v st : List Nat) (hv : v.length = 8) (hst : st.length = 8) (g11 g2 : Nat) (R1 R2 : List Res) (hsz : a.tmps.size = 172)
 (o2 : Sl a 2 (.pointer (some ⟨g2, 0, none⟩))) (o11 : Sl a 11 (.pointer (some ⟨g11, 0, none⟩))) (o159 : Sl a 159 (.int .i64 ((0 : Nat) : Int)))
 (S : Held w0 w (blkR g11 111 (u32A v) :: (R1 ++ blkR g2 111 (u32A st) :: R2)))
 (hend : ∀ a' W, Same a a' dsL4 → Held w0 W (blkR g11 111 (u32A (List.zipWith (fun x y => (x + y) % 4294967296) v st)) :: (R1 ++ blkR g2 111 (u32A st) :: R2)) → Q .normal a' W) :
 (Code.block 6 (blockOf 6 Tryd.f82)).wp Tryd.prog Q a w := by
 refine wp_block ?_
 (conv => arg 2; whnf)
 refine wp_loop (fun a' w' => ∃ k : Nat, k ≤ 8 ∧ Same a a' dsL4 ∧ Sl a' 159 (.int .i64 (k : Int)) ∧ Held w0 w' (blkR g11 111 (u32A (addN v st k)) :: (R1 ++ blkR g2 111 (u32A st) :: R2))) (fun a' _ => 8 - (intOf (a'.eval (.tmp 159))).toNat) ⟨0, by omega, Same.refl _ _, o159, S⟩ ?_
 clear o159 S
 rintro a1 w1 ⟨k, hk, hs, o159, S⟩
 have o2 := hs.keep 2 _ (by decide) o2
 have o11 := hs.keep 11 _ (by decide) o11
 have hz := hs.size.trans hsz
 refine wp_seq (sblk_r25 k hz o159 (fun a2 hs2 o160 => ?_))
 have e159 := o159.eval (by rw [hz]; decide)
 have hz2 := hs2.size.trans hz
 by_cases hlt : k < 8
 · refine wp_seq (wp_cond_true ((o160.eval (by rw [hz2]; decide)).trans (by rw [decide_eq_true (by omega)])) (wp_skip ?_))
   have o159 := hs2.k o159
   refine wp_seq (wp_block ?_)
   refine wp_seq (sblk_r26 k hz2 o159 (fun a3 hs3 o17 => ?_))
   have T := (hs.trans hs2).trans hs3
   have hz3 := hs3.size.trans hz2; have o159 := hs3.k o159
   have o2 := (hs2.trans hs3).keep 2 _ (by decide) o2
   have o11 := (hs2.trans hs3).keep 11 _ (by decide) o11
   refine sblk_r27 w0 k g11 g2 _ st R1 R2 hlt _ _ (addN_at hv hst hlt) (getD_at (by omega)) hz3 o2 o11 o17 S (fun a4 W4 hs4 S4 => ?_)
   rw [addN_next hv hst hlt] at S4
   have hz4 := hs4.size.trans hz3; have o159 := hs4.k o159
   refine sblk_r28 k hlt hz4 o159 (fun a5 hs5 o159 => ?_)
   have hz5 := hs5.size.trans hz4
   refine ⟨⟨k + 1, by omega, ((T.trans hs4).trans hs5).more (by decide +kernel), o159, S4⟩, ?_⟩
   show 8 - (intOf (a5.eval (.tmp 159))).toNat < 8 - (intOf (a1.eval (.tmp 159))).toNat
   rw [e159, o159.eval (by rw [hz5]; decide)]
   simp [intOf]; omega
 · obtain rfl : k = 8 := by omega
   refine wp_seq (wp_cond_false ((o160.eval (by rw [hz2]; decide)).trans (by rw [decide_eq_false (by omega)])) (wp_exit ?_))
   have e : addN v st 8 = List.zipWith (fun x y => (x + y) % 4294967296) v st := by
    unfold addN
    rw [List.drop_of_length_le (by omega), List.append_nil, List.take_of_length_le (by rw [List.length_zipWith]; omega)]
   rw [e] at S
   exact hend _ _ ((hs.trans hs2).more (by decide +kernel)) S
theorem sblock_any (st : List Nat) (hst : Ws st) (hsl : st.length = 8) (b : List UInt8) (hbl : b.length = 64) (w : World) : Calls Tryd.prog 82 #[.agg (u32A st), .agg (hashA b)] w fun e w' => e = .returned (.agg (u32A (blkF st b))) ∧ Kp [] w w' := by
 refine calls_fr Tryd.func82 rfl 172 rfl (fun a hsz hdf hA => ?_)
 refine wp_seq (sblk_r0 w st b [] (Held.start w) hsz (hA 0 _ rfl) (hA 1 _ rfl) (fun a1 w1 hs1 h => ?_))
 obtain ⟨g2, g3, g4, o2, o3, o4, S⟩ := h
 have hz1 := hs1.size.trans hsz
 refine wp_seq (sblk_r1 w _ S hz1 (fun a2 w2 hs2 h => ?_))
 obtain ⟨g5, o5, S⟩ := h
 have hz2 := hs2.size.trans hz1; have o2 := hs2.k o2; have o3 := hs2.k o3; have o4 := hs2.k o4
 refine wp_seq (wp_seq (sblk_r2 hz2 (fun a3 hs3 o18 => ?_)))
 have hz3 := hs3.size.trans hz2; have o2 := hs3.k o2; have o3 := hs3.k o3; have o4 := hs3.k o4; have o5 := hs3.k o5
 have D3 := (hs3.defers.trans (hs2.defers.trans hs1.defers)).trans hdf
 refine sblk_l1 b hbl g5 g3 _ hz3 o3 o5 o18 (S.perm (List.Perm.cons _ (List.Perm.swap _ _ _))) (fun a4 w4 hs4 S => ?_)
 have hz4 := hs4.size.trans hz3; have o2 := hs4.k o2; have o3 := hs4.k o3; have o4 := hs4.k o4; have o5 := hs4.k o5
 refine wp_seq (wp_seq (sblk_r7 hz4 (fun a5 hs5 o7 => ?_)))
 have hz5 := hs5.size.trans hz4; have o2 := hs5.k o2; have o4 := hs5.k o4; have o5 := hs5.k o5
 refine sblk_l2 b g5 _ hz5 o5 o7 S (fun a6 w6 hs6 S => ?_)
 have hz6 := hs6.size.trans hz5; have o2 := hs6.k o2; have o4 := hs6.k o4; have o5 := hs6.k o5
 refine wp_seq (sblk_r14 w _ S hz6 (fun a7 w7 hs7 h => ?_))
 obtain ⟨g10, o10, S⟩ := h
 have hz7 := hs7.size.trans hz6; have o2 := hs7.k o2; have o4 := hs7.k o4; have o5 := hs7.k o5
 refine wp_seq (sblk_r15 w g2 st hsl [_, _, _, _] _ S hz7 o2 (fun a8 w8 hs8 h => ?_))
 obtain ⟨g11, o11, S⟩ := h
 have hz8 := hs8.size.trans hz7; have o2 := hs8.k o2; have o4 := hs8.k o4; have o5 := hs8.k o5; have o10 := hs8.k o10
 refine wp_seq (wp_seq (sblk_r16 hz8 (fun a9 hs9 o79 => ?_)))
 have hz9 := hs9.size.trans hz8; have o2 := hs9.k o2; have o4 := hs9.k o4; have o5 := hs9.k o5; have o10 := hs9.k o10; have o11 := hs9.k o11
 refine sblk_l3 st (wsN b 64) hst hsl (wsN_length b 64) g5 g10 g11 _ hz9 o5 o10 o11 o79 S (fun a10 w10 hs10 S => ?_)
 have hz10 := hs10.size.trans hz9; have o2 := hs10.k o2; have o4 := hs10.k o4; have o11 := hs10.k o11
 refine wp_seq (wp_seq (sblk_r24 hz10 (fun a11 hs11 o159 => ?_)))
 have hz11 := hs11.size.trans hz10; have o2 := hs11.k o2; have o4 := hs11.k o4; have o11 := hs11.k o11
 refine sblk_l4 _ st ((rnds_length st _ 64).trans hsl) hsl g11 g2 [_, _, _, _] _ hz11 o2 o11 o159 S (fun a12 w12 hs12 S => ?_)
 have hz12 := hs12.size.trans hz11; have o4 := hs12.k o4; have o11 := hs12.k o11
 have hbl8 := (blkF_length st b).trans hsl
 refine wp_seq (sblk_r29 w g11 g4 _ (List.replicate 8 0) hbl8 rfl [_, _, _] _ S hz12 o4 o11 (fun a13 w13 hs13 S => ?_))
 have hz13 := hs13.size.trans hz12; have o4 := hs13.k o4
 refine wp_ret (bodyPost_ret (results_cell1 (by rfl) (o4.eval (by rw [hz13]; decide)) (S.at_ (l1 := [_, _, _, _])) Tryd.underlying111 rfl (by rw [u32A_size, hbl8]; exact Tryd.info8w)) ?_ ⟨rfl, S.k⟩)
 rw [hs13.defers, hs12.defers, hs11.defers, hs10.defers, hs9.defers, hs8.defers, hs7.defers, hs6.defers, hs5.defers, hs4.defers]
 exact D3
end
/- Slices of bytes, cut: one run equation each, with what the cut reads. -/
section
open Go.RowKit
def CutOf (A : Option Addr) (n c lo m : Nat) (A' : Option Addr) (c' : Nat) : Prop :=
 ∀ (W : World) (bs : List UInt8), Rd W 1 (.slice A n c) n (bv bs) → Rd W 1 (.slice A' m c') m (bv ((bs.drop lo).take m))
theorem cut_of {A : Option Addr} {n c lo m : Nat} (h : lo + m ≤ n) : ∃ A' c', sliced A lo (lo + m) c 1 = .slice A' m c' ∧ CutOf A n c lo m A' c' ∧ ∀ g, (Value.slice A' m c').ownBlock = some g → (Value.slice A n c).ownBlock = some g := by
 by_cases e : c = lo
 · refine ⟨A, c - lo, by simp [sliced, e], fun W bs h1 => ?_, fun g hg => by cases A <;> simp_all [Value.ownBlock]⟩
   have := h1.cut0 (a := lo) (k := m) h e
   rwa [bv_drop] at this
 · refine ⟨A.map (fun x => x.add lo), c - lo, by simp [sliced, e], fun W bs h1 => ?_, fun g hg => ?_⟩
   · have := h1.cut (a := lo) (k := m) h e
     rwa [bv_drop] at this
   · cases A with
     | none => simp [Value.ownBlock] at hg
     | some ad =>
      simp only [Option.map_some, Value.ownBlock] at hg ⊢
      rw [← hg]; simp [block_of_add]
theorem run_size_u8 (w : World) : (sizeOf 5).run Tryd.prog w = .ok 1 w := by
 obtain ⟨i0, hi, hz0, hz1, hz2⟩ := info_parts Tryd.infoU8
 simp [sizeOf, typeInfo, hi, hz1]
theorem cut_at (w : World) (x : Value) (lo hi mx : Option Value) : (Instr.sliceAt 22 x lo hi mx).run Tryd.prog w = (Instr.slice 22 x lo hi mx).run Tryd.prog w := by
 simp [Instr.sliceAt, run_underlying Tryd.underlying22]
theorem elem_u8 : Tryd.prog.elem 22 = 5 := by kernel_rfl
theorem und_u8 : Tryd.prog.underlying 22 = some (.slice (Tryd.prog.elem 22)) := by rw [elem_u8]; exact Tryd.underlying22
theorem cut_hi (A : Option Addr) (n c k : Nat) (h : Int) (hh : h = k) (hk : k ≤ n) (hc : n ≤ c) : ∃ A' c', (∀ w, (Instr.sliceAt 22 (.slice A n c) none (some (.int .i64 h)) none).run Tryd.prog w = .ok (.slice A' k c') w) ∧ CutOf A n c 0 k A' c' ∧ ∀ g, (Value.slice A' k c').ownBlock = some g → (Value.slice A n c).ownBlock = some g := by
 subst hh
 obtain ⟨A', c', e, h1, h2⟩ := cut_of (A := A) (n := n) (c := c) (lo := 0) (m := k) (by omega)
 refine ⟨A', c', fun w => ?_, h1, h2⟩
 rw [cut_at, run_slice_h w 22 A n c und_u8 .i64 k (by omega) (by omega), elem_u8, run_size_u8]
 simp only [Result.andThen_ok, Int.toNat_natCast]
 rw [Nat.zero_add] at e
 rw [e]
theorem cut_lo (A : Option Addr) (n c lo m : Nat) (l : Int) (hl : l = lo) (hm : lo + m = n) : ∃ A' c', (∀ w, (Instr.sliceAt 22 (.slice A n c) (some (.int .i64 l)) none none).run Tryd.prog w = .ok (.slice A' m c') w) ∧ CutOf A n c lo m A' c' ∧ ∀ g, (Value.slice A' m c').ownBlock = some g → (Value.slice A n c).ownBlock = some g := by
 subst hl
 obtain ⟨A', c', e, h1, h2⟩ := cut_of (A := A) (n := n) (c := c) (lo := lo) (m := m) (by omega)
 refine ⟨A', c', fun w => ?_, h1, h2⟩
 rw [cut_at, run_slice_l w 22 A n c und_u8 .i64 lo (by omega) (by omega), elem_u8, run_size_u8]
 simp only [Result.andThen_ok, Int.toNat_natCast]
 rw [← hm, e]
end
end Go.Proofs.YtapboamjpilckaaDoor
