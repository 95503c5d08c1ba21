/- Several texts in one: Equal, WireA, WireB, WireC, WireD, WireR, WireS, Txt, Fence, Range, Marks, PtA, ShaB, ShaC, PtD, PtB, PtC, Reg, ShaD, ShaR, ShaF, ShaW. -/
import Derived.RangeFuncNested
import Derived.RangeFuncBound
import Derived.RangeFuncCalls
import Derived.RangeFuncLeaves
import Derived.Shelf.Abstract
import Derived.Shelf.RegionOpen
import Derived.WalkKit
import Derived.OwnWalkIn
import Derived.TacticsInMore
import Derived.LoopNIn
import Derived.LoopN
import Derived.LoopIn
import Derived.Laws.Tables
import Derived.Great.BuildSlice
import Derived.Lib.Strings
import Derived.Test.YtapboamjpilckaaDoorP1
set_option linter.unusedVariables false
set_option linter.unusedSimpArgs false
set_option maxRecDepth 100000
set_option maxHeartbeats 8000000
namespace Go.Proofs.YtapboamjpilckaaDoor
/- slices.Equal for bytes. -/
section
open Go.RowKit
theorem cell_kept {w w' : World} {p : Addr} {u : Value} (h : w.cell? p = some u) (hk : Kp [] w w') : w'.cell? p = some u :=
 (World.cell?_of_block (hk.block p.block (cell_lt h) (by simp))).trans h
end
/- Walks of package wire: numbers. -/
section
open Go.RowKit
end
/- Walks of package wire: the writer. -/
section
open Go.RowKit
end
/- Walks of package wire: the writer's other methods; slices.Clone; the reference's Same. -/
section
open Go.RowKit
def tou64 (x : Int) : Nat := (x % 18446744073709551616).toNat
end
/- Walks of package wire: a hash is written; the reference's Same. -/
section
open Go.RowKit
end
/- Walks of package wire: the reader. -/
section
open Go.RowKit
end
/- Walks of package wire: what a reader reads. -/
section
open Go.RowKit
end
/- A row of texts of the call's own; one more text appended; two lists of texts held against one another. -/
section
open Go.RowKit
end
/- Walking inside a round: a region's walk outside serves inside; one law for 'for .. range f', whose round is told what holds of what it is handed. -/
section
open Go.RowKit Go.Shelf
section bridge
variable {P : Program} {ops : Array Oper} {Q : Exit → Act → World → Prop} {n rl : Nat}
end bridge
end
/- One law for 'for .. range f': the iterator tells, at each round, what holds of what it hands over; it makes memory alone between two rounds. -/
section
open Go.RowKit Go.Shelf
variable {P : Program} {n : Nat}
end
/- Leaving a function that held ranges over functions; what is held stays through such a loop's own steps. -/
section
open Go.RowKit Go.Shelf
theorem Held.join {w0 w1 w2 : World} {L L' : List Res} (S : Held w0 w1 L) (T : Held w1 w2 L') : Held w0 w2 (L ++ L') :=
 ⟨S.k.trans T.k (by simp), fun r hr => (List.mem_append.1 hr).elim (fun h => r.keep w1 w2 [] (S.ok r h) T.k (by simp)) (T.ok r), fun r hr b hb => (List.mem_append.1 hr).elim (fun h => S.base r h b hb) (fun h => Nat.le_trans S.k.size (T.base r h b hb)),
  List.pairwise_append.2 ⟨S.apart, T.apart, fun r hr s hs b hb hb' => by
   have h1 := r.lt w1 (S.ok r hr) b hb
   have h2 := T.base s hs b hb'
   omega⟩⟩
theorem Held.sub {w0 w : World} {L L' : List Res} (S : Held w0 w L) (h : L'.Sublist L) : Held w0 w L' :=
 ⟨S.k, fun r hr => S.ok r (h.subset hr), fun r hr => S.base r (h.subset hr), S.apart.sublist h⟩
end
/- The digits of a hash. -/
section
open Go.RowKit
theorem run_arr_index {P : Program} (w : World) (t e : TypeId) (n : Nat) (h : List UInt8) (kd : IntKind) (z : Int) (k : Nat) (hz : z = k) (hk : k < h.length) (hn : h.length = n) (hu : P.underlying t = some (.array n e)) (he : P.underlying e = some (.int .u8)) (hc : (P.info? e).map (·.size) = some 1) :
 (Instr.index t (.agg (hashA h)) (.int kd z)).run P w = .ok (.int .u8 (h[k].toNat : Int)) w := by
 subst hz
 have hag : (isAgg e).run P w = .ok false w := by
  unfold isAgg
  rw [Sem.run_bind, run_underlying he w]
  rfl
 cases hq : P.info? e with
 | none => simp [hq] at hc
 | some i =>
  have hs : i.size = 1 := by simpa [hq] using hc
  have hg : (hashA h)[k]? = some (.int .u8 (h[k].toNat : Int)) := by simp [hashA, bv, hk]
  have hb : ¬ ((k : Int) < 0 ∨ (n : Int) ≤ k) := by omega
  have hb2 : 0 ≤ (k : Int) ∧ (k : Int) < n := by omega
  simp [Instr.index, Sem.run_bind, run_underlying hu w, asIntOf, part, hag, sizeOf, typeInfo, hq, hs, hg]
  intro; omega
theorem hex_cell {w : World} {g : Nat} (h : Blk w g 122 (hashA digL)) (n : Nat) (hn : n < 16) : w.cell? ⟨g, n, none⟩ = some (.int .u8 ((hx n).toNat : Int)) := by
 rw [h.cell n]
 have := digL_get hn
 simp [hashA, bv_get, this]
theorem wpList_load_blk {P : Program} {ops : Array Oper} {rest : List Oper} {o : Oper} {a : Act} {w : World} {Q : Exit → Act → World → Prop} (hgd : o.guard = none) (ty : TypeId) (x : Operand) (ho : o.op = .load ty x) (g : Nat) (hx : a.eval x = .pointer (some ⟨g, 0, none⟩))
 (t : TypeId) (cs : Array Value) (hb : Blk w g t cs) (d : TypeDesc) (hu : P.underlying ty = some d) (hd : aggB d = true) (hi : (P.info? ty).map (·.size) = some cs.size)
 (h : wpList P ops Q rest (a.put o.dst (.agg cs)) w) : wpList P ops Q (o :: rest) a w :=
 wpList_load_agg hgd ty x ho ⟨g, 0, none⟩ hx cs.toList d hb.agg hu hd (by rw [hi, Array.length_toList]) h
theorem wpList_store_blk {P : Program} {ops : Array Oper} {rest : List Oper} {o : Oper} {a : Act} {w : World} {Q : Exit → Act → World → Prop} (hgd : o.guard = none) (ty : TypeId) (x y : Operand) (ho : o.op = .store ty x y) (g : Nat) (hx : a.eval x = .pointer (some ⟨g, 0, none⟩))
 (xs : Array Value) (hy : a.eval y = .agg xs) (t : TypeId) (cur : Array Value) (hb : Blk w g t cur) (hi : (P.info? ty).map (·.size) = some xs.size) (hsz : cur.size = xs.size) (h1 : ∀ u, u ∈ xs.toList → u.oneCell' = true)
 (h : ∀ w', Blk w' g t xs → Kp [g] w w' → wpList P ops Q rest (a.put o.dst undef) w') : wpList P ops Q (o :: rest) a w :=
 wpList_store_agg hgd ty x y ho g 0 hx xs hy t cur hb hi (by omega) h1 (fun w' h2 k2 => h w' (by rw [set_all _ _ hsz] at h2; exact h2) k2)
theorem Held.setBlk {w0 w w' : World} {l1 l2 : List Res} {g : Nat} {t : TypeId} {cur xs : Array Value} (h : Held w0 w (l1 ++ blkR g t cur :: l2)) (hb : Blk w' g t xs) (k : Kp [g] w w') : Held w0 w' (l1 ++ blkR g t xs :: l2) :=
 h.turnAt (blkR g t xs) k hb (fun _ h => .inl h)
theorem hashA_one (l : List UInt8) : ∀ u, u ∈ (hashA l).toList → u.oneCell' = true := fun u hu => bv_one l u hu
theorem Tryd.infoHashP : (Tryd.prog.info? 25).map (·.size) = some 32 := by kernel_rfl
theorem Tryd.info16P : (Tryd.prog.info? 122).map (·.size) = some 16 := by kernel_rfl
theorem Tryd.infoPointP : (Tryd.prog.info? 33).map (·.size) = some 33 := by kernel_rfl
theorem Tryd.sizeU8P : (Tryd.prog.info? 5).map (·.size) = some 1 := by kernel_rfl
end
/- Walks of package sha and of its reference: turns of words, tables. -/
section
open Go.RowKit
theorem srot_any (x n : Nat) (k : Int) (hk : k = n) (hx : x < 4294967296) (hn : rotK n) (w : World) : Calls Tryd.prog 98 #[.int .u32 (x : Int), .int .i64 k] w fun e w' => e = .returned (.int .u32 (rotr x n : Int)) ∧ w = w' := by
 subst hk
 have HR := Lib.hid (fun V => rotl_any x n hx hn V)
 have hw : wrap64 (-(n : Int)) = -(n : Int) := by rcases hn with h | h | h | h | h | h | h | h | h | h <;> (unfold wrap64; omega)
 go_enter Tryd.func98, Tryd.ntmps98
 go_wp2_with fail
 refine (HR.out _).mono ?_
 rintro e w' ⟨rfl, rfl⟩
 go_wp2
 go_ret
 exact ⟨rfl, rfl⟩
def u32L (l : List Nat) : List Value := l.map fun x : Nat => Value.int .u32 (x : Int)
theorem u32L_length (l : List Nat) : (u32L l).length = l.length := List.length_map ..
theorem u32L_get (l : List Nat) (i : Nat) : (u32L l)[i]? = l[i]?.map fun x : Nat => Value.int .u32 (x : Int) := List.getElem?_map ..
theorem u32L_one (l : List Nat) : ∀ u, u ∈ u32L l → u.oneCell' = true := by
 intro u hu
 obtain ⟨_, _, rfl⟩ := List.mem_map.1 hu
 rfl
def u32A (l : List Nat) : Array Value := (u32L l).toArray
theorem u32A_size (l : List Nat) : (u32A l).size = l.length := by simp [u32A, u32L]
theorem u32A_one (l : List Nat) : ∀ u, u ∈ (u32A l).toList → u.oneCell' = true := u32L_one l
theorem u32A_set (l : List Nat) (i x : Nat) : (u32A l).setIfInBounds i (.int .u32 (x : Int)) = u32A (l.set i x) := by
 unfold u32A u32L
 rw [List.setIfInBounds_toArray, List.map_set]
theorem wpList_buildC {P : Program} {ops : Array Oper} {rest : List Oper} {o : Oper} {a : Act} {w : World} {Q : Exit → Act → World → Prop} (hg : o.guard = none) (t : TypeId) (parts : Array (Nat × Operand)) (ho : o.op = .build t parts) (ps : List (Nat × Value)) (hp : (parts.map fun (i, x) => (i, a.eval x)).toList = ps)
 (cells : Array Value) (hb : P.built t ps = some cells) (h : wpList P ops Q rest (a.put o.dst (.agg cells)) w) : wpList P ops Q (o :: rest) a w := by
 refine wpList_build hg t parts ho (by rw [hp, hb]; rfl) ?_
 rw [hp, hb]
 exact h
def at0N : List Value → Nat → List (Nat × Value)
 | [], _ => []
 | v :: l, k => (k, v) :: at0N l (k + 1)
theorem Tryd.info64w : (Tryd.prog.info? 144).map (·.size) = some 64 := by kernel_rfl
theorem Tryd.info8w : (Tryd.prog.info? 111).map (·.size) = some 8 := by kernel_rfl
theorem Tryd.built_kT : Tryd.prog.built 144 (at0N (u32L kT) 0) = some (u32A kT) := by kernel_rfl
theorem Tryd.built_hF : Tryd.prog.built 111 (at0N (u32L hF) 0) = some (u32A hF) := by kernel_rfl
theorem stable_any (w : World) : Calls Tryd.prog 99 #[] w fun e w' => e = .returned (.agg (u32A kT)) ∧ Kp [] w w' := by
 have S0 := Lib.hid ((Held.start w).newBlk 144 (u32A (List.replicate 64 0)))
 have HO := Lib.hid (u32A_one kT)
 have HB := Lib.hid Tryd.built_kT
 go_enter Tryd.func99, Tryd.ntmps99
 go_wp2_with (first
  | (refine wpList_buildC rfl 144 _ rfl (at0N (u32L kT) 0) (by kernel_rfl) _ HB.out ?_)
  | (refine wpList_store_blk rfl 144 (.tmp 0) (.tmp 1) rfl w.heap.size rfl (u32A kT) rfl 144 _ (S0.out.at_ (l1 := [])) (by rw [u32A_size]; exact Tryd.info64w) (by rw [u32A_size, u32A_size]; rfl) HO.out ?_; intro w1 b1 k1; have S1 := Lib.hid (Held.setBlk (l1 := []) S0.out b1 k1); clear b1 k1))
 refine bodyPost_ret (results_cell1 (by rfl) rfl (S1.out.at_ (l1 := [])) Tryd.underlying144 rfl (by rw [u32A_size]; exact Tryd.info64w)) rfl ?_
 exact ⟨rfl, S1.out.k⟩
theorem sfirst_any (w : World) : Calls Tryd.prog 81 #[] w fun e w' => e = .returned (.agg (u32A hF)) ∧ Kp [] w w' := by
 have S0 := Lib.hid ((Held.start w).newBlk 111 (u32A (List.replicate 8 0)))
 have HO := Lib.hid (u32A_one hF)
 have HB := Lib.hid Tryd.built_hF
 go_enter Tryd.func81, Tryd.ntmps81
 go_wp2_with (first
  | (refine wpList_buildC rfl 111 _ rfl (at0N (u32L hF) 0) (by kernel_rfl) _ HB.out ?_)
  | (refine wpList_store_blk rfl 111 (.tmp 0) (.tmp 1) rfl w.heap.size rfl (u32A hF) rfl 111 _ (S0.out.at_ (l1 := [])) (by rw [u32A_size]; exact Tryd.info8w) (by rw [u32A_size, u32A_size]; rfl) HO.out ?_; intro w1 b1 k1; have S1 := Lib.hid (Held.setBlk (l1 := []) S0.out b1 k1); clear b1 k1))
 refine bodyPost_ret (results_cell1 (by rfl) rfl (S1.out.at_ (l1 := [])) Tryd.underlying111 rfl (by rw [u32A_size]; exact Tryd.info8w)) rfl ?_
 exact ⟨rfl, S1.out.k⟩
end
/- Walks of package sha and of its reference: a constant, a word of four bytes. -/
section
open Go.RowKit
theorem word_any (x : Value) (bs : List UInt8) (n : Nat) (hn : 4 ≤ n) (w : World) (hx : Rd w 1 x n (bv bs)) : Calls Tryd.prog 97 #[x] w fun e w' => e = .returned (.int .u32 ((num (bs.take 4) : Nat) : Int)) ∧ w = w' := by
 obtain ⟨hl, A, c, rfl, h1, h2, hA, hc⟩ := hx
 rw [bv_length] at hl
 unfold maxLen at h2
 rcases A with _ | ad
 · have := hA rfl; omega
 have HC := Lib.hid (hc ad rfl)
 have Hl := Lib.hid hl
 clear hA hc hl
 go_enter Tryd.func97, Tryd.ntmps97
 go_wp2
 go_loopw [3, 5, 9] (fun acc _ t wr => ∃ k : Nat, k ≤ 4 ∧ t = .int .i64 (k : Int) ∧ acc = .int .u32 ((num (bs.take k) : Nat) : Int) ∧ w = wr) (fun _ _ t _ => 4 - (intOf t).toNat)
 case atStart => exact ⟨0, by omega, rfl, rfl, rfl⟩
 case round =>
  obtain ⟨k, hk, rfl, rfl, rfl⟩ := hrel
  by_cases hlt : k < 4
  · obtain ⟨b, hb⟩ : ∃ b, bs[k]? = some b := ⟨_, List.getElem?_eq_getElem (by have := Hl.out; omega)⟩
    have hcell := HC.out k _ (by rw [bv_get, hb]; rfl)
    have hnum : num (bs.take (k + 1)) = 256 * num (bs.take k) + b.toNat := by rw [List.take_add_one, hb]; exact num_snoc _ _
    have hlt2 : num (bs.take k) < 16777216 := by
     have h3 : ∀ j, j ≤ 3 → num (bs.take j) < 256 ^ j := by
      intro j
      induction j with
      | zero => intro _; simp [num]
      | succ j ih =>
       intro hj
       have hjl : j < bs.length := by have := Hl.out; omega
       have := ih (by omega)
       have hb := (bs[j]).toNat_lt
       rw [List.take_add_one, List.getElem?_eq_getElem hjl, show (some bs[j]).toList = [bs[j]] from rfl, num_snoc, Nat.pow_succ]
       omega
     have := h3 k (by omega)
     have h4 : 256 ^ k ≤ 256 ^ 3 := Nat.pow_le_pow_right (by decide) (by omega)
     omega
    have hor : bits .or .u32 (((num (bs.take k) : Nat) : Int) * 256) (b.toNat : Int) = ((num (bs.take (k + 1)) : Nat) : Int) := by
     rw [hnum, ← or_byte hlt2 b.toNat_lt, ← u32_or_nat _ _ (Nat.mod_lt _ (by decide)) (by have := b.toNat_lt; omega), Nat.mod_eq_of_lt (by omega), Int.natCast_mul]
     rfl
    have Hor := Lib.hid hor
    have HN := Lib.hid hnum
    have hblt := b.toNat_lt
    clear hnum hor hb
    generalize num (bs.take k) = a at *
    go_wp2
    go_roundw
    case rel => exact ⟨k + 1, by omega, by go_num, by rw [Hor.out], trivial⟩
    case measure => simp [intOf]; omega
  · obtain rfl : k = 4 := by omega
    go_wp2
    go_ret
    exact ⟨rfl, rfl⟩
end
/- point.digits. -/
section
open Go.RowKit
theorem digits_any (w : World) : Calls Tryd.prog 75 #[] w fun e w' => e = .returned (.agg (hashA digL)) ∧ Kp [] w w' := by
 have HO := Lib.hid (hashA_one digL)
 go_enter Tryd.func75, Tryd.ntmps75
 go_wp2_with (refine wpList_store_blk rfl 122 (.tmp 0) (.tmp 1) rfl w.heap.size rfl (hashA digL) rfl 122 _ (Blk.new w 122 _) (by exact Tryd.info16P) (by rfl) HO.out ?_; intro w2 b2 k2)
 exact bodyPost_ret (results_cell1 (by rfl) rfl b2 Tryd.underlying122 rfl (by exact Tryd.info16P)) rfl ⟨rfl, ((Kp.refl [] w).alloc _).trans k2 (fun g hg => by simp at hg; exact .inr (by omega))⟩
end
/- Hex of point and of the reference. -/
section
open Go.RowKit
theorem pdigit_any (n : Nat) (hn : n < 16) (w : World) : Calls Tryd.prog 93 #[.int .u8 (n : Int)] w fun e w' => e = .returned (.int .u8 ((hx n).toNat : Int)) ∧ w = w' := by
 by_cases h : n < 10
 · have HP : Hid (((hx n).toNat : Int) = 48 + n) := Lib.hid (by unfold hx; rw [if_pos h, UInt8.toNat_ofNat']; omega)
   have h' : (n : Int) < 10 := by omega
   go_enter Tryd.func93, Tryd.ntmps93
   go_wp2
   go_ret
   exact ⟨by rw [HP.out]; rfl, rfl⟩
 · have HP : Hid (((hx n).toNat : Int) = 87 + n) := Lib.hid (by unfold hx; rw [if_neg h, UInt8.toNat_ofNat']; omega)
   have h' : ¬ (n : Int) < 10 := by omega
   go_enter Tryd.func93, Tryd.ntmps93
   go_wp2
   go_ret
   exact ⟨by rw [HP.out, show (87 : Int) + n = 97 + n - 10 by omega]; rfl, rfl⟩
theorem hex_any (h : List UInt8) (hh : h.length = 32) (w : World) : Calls Tryd.prog 55 #[.agg (hashA h)] w fun e w' => e = .returned (.string ⟨(hexS h).toArray⟩) ∧ Kp [] w w' := by
 have HH := Lib.hid hh
 have S0 := Lib.hid ((Held.start w).newBlk 25 (hashA h))
 have HS32 : Hid ((hashA h).size = 32) := Lib.hid (by rw [hashA_size, hh])
 have H16 : Hid ((hashA digL).size = 16) := Lib.hid rfl
 clear hh
 obtain ⟨dg, HD⟩ : ∃ dg, Hid (hashA digL = dg) := ⟨_, Lib.hid rfl⟩
 obtain ⟨hs, HHS⟩ : ∃ hs, Hid (hashA h = hs) := ⟨_, Lib.hid rfl⟩
 rw [HHS.out] at S0 ⊢
 rw [HD.out] at H16
 go_enter Tryd.func55, Tryd.ntmps55
 go_wp2_with fail
 refine (digits_any _).mono ?_
 rw [HD.out]
 rintro e w1 ⟨rfl, k1⟩
 have S1 := Lib.hid (S0.out.kp k1)
 clear k1
 have HO := Lib.hid (fun u hu => by rw [← HD.out] at hu; exact hashA_one digL u hu : ∀ u, u ∈ dg.toList → u.oneCell' = true)
 go_wp2_with (first
  | (refine wpList_store_blk rfl 122 (.tmp 3) (.tmp 7) rfl w1.heap.size rfl dg rfl 122 _ (Blk.new w1 122 _) (by rw [H16.out]; exact Tryd.info16P) (by rw [H16.out]; rfl) HO.out ?_; intro w2 b2 k2; have S2 := Lib.hid (Held.setBlk (l1 := []) (S1.out.newBlk 122 _) b2 k2); clear b2 k2; have S3 := Lib.hid (S2.out.rownew (ow_new w2 5 1 0 #[] rfl (by decide)) ((Kp.refl [] w2).alloc _) (fun g hg => Nat.le_of_eq (Option.some.inj hg))))
  | (refine wpList_load_blk rfl 25 (.tmp 1) rfl w.heap.size rfl 25 hs (S3.out.at_ (l1 := [_, _])) _ Tryd.underlying25 rfl (by rw [← HHS.out, HS32.out]; exact Tryd.infoHashP) ?_))
 obtain ⟨g3, hg3⟩ : ∃ g3, w1.heap.size = g3 := ⟨_, rfl⟩
 rw [hg3] at S3 ⊢
 clear S0 S1 S2 hg3
 go_loopw [4, 6, 10] (fun b _ i wr => ∃ k : Nat, k ≤ 32 ∧ i = .int .i64 k ∧ ∃ A c, b = .slice A (hexS (h.take k)).length c ∧ Held w wr [rowR 5 1 (.slice A (hexS (h.take k)).length c) (hexS (h.take k)).length (bv (hexS (h.take k))), blkR g3 122 (hashA digL)]) (fun _ _ i _ => 32 - (intOf i).toNat)
 case atStart => exact ⟨0, by omega, rfl, _, _, rfl, by rw [HD.out]; exact S3.out.sub (.cons_cons _ (.cons_cons _ (.cons _ (List.Sublist.refl _))))⟩
 case round =>
  clear S3
  obtain ⟨k, hk, rfl, Ao, co, rfl, S⟩ := hrel
  have HS := Lib.hid S
  clear S
  have hol : (hexS (h.take k)).length ≤ 64 := by
   rw [hexS_length, List.length_take]; omega
  by_cases hlt : k < 32
  · have hlt' : k < h.length := by have := HH.out; omega
    have q := fun V => run_arr_index (P := Tryd.prog) V 25 5 32 h .i64 (k : Int) k rfl hlt' HH.out Tryd.underlying25 Tryd.underlying5 Tryd.sizeU8P
    rw [HHS.out] at q
    have he : h[k]? = some h[k] := List.getElem?_eq_getElem hlt'
    obtain ⟨o', HO2⟩ : ∃ o', Hid (hexS (h.take (k + 1)) = o') := ⟨_, Lib.hid rfl⟩
    have HO1 : Hid (hexS (h.take k) ++ hex2 h[k] = o') := Lib.hid (by rw [← HO2.out, hexS_take_succ he])
    clear he
    generalize hexS (h.take k) = o at *
    generalize h[k] = ch at *
    have hlc := ch.toNat_lt
    have HO' : Hid (o ++ [hx (ch.toNat / 16), hx (ch.toNat % 16)] = o' ∧ o.length + 2 = o'.length) := Lib.hid ⟨HO1.out, by rw [← HO1.out]; simp [hex2]⟩
    clear HO1
    generalize ch.toNat = n at *
    go_wp2_with fail
    refine wp_region_sep (Γ := Unit) 2 [0, 1, 2, 3, 4, 5, 6, 7, 8, 9, 10, 11, 13]
     (fun i vs gs => match i with | 0 => vs 0 = .slice Ao o.length co | 1 => vs 1 = .int .u8 (n : Int) | 2 => vs 2 = .int .u8 ((n : Int) / 16) | 3 => vs 3 = .pointer (some ⟨g3, n / 16, none⟩) | 4 => vs 4 = .int .u8 ((hx (n / 16)).toNat : Int) | 5 => vs 5 = .int .u8 (n : Int) | 6 => vs 6 = .int .u8 ((n : Int) % 16) | 7 => vs 7 = .pointer (some ⟨g3, n % 16, none⟩) | 8 => vs 8 = .int .u8 ((hx (n % 16)).toNat : Int) | 10 => ∃ A c, vs 10 = .slice A o'.length c | 11 => vs 11 = vs 10 | _ => True)
     (fun i vs gs => match i with | 9 => [rowR 5 1 (vs 9) 2 (bv [hx (n / 16), hx (n % 16)])] | 10 => [rowR 5 1 (vs 10) o'.length (bv o')] | 12 => [rowR 5 1 (.slice Ao o.length co) o.length (bv o)] | 13 => [blkR g3 122 (hashA digL)] | _ => [])
     (fun i => match i with | 10 => [12] | _ => []) (fun i => match i with | 4 => [13] | 8 => [13] | 10 => [9] | _ => []) HS.out (by kernel_rfl) (by kernel_rfl) (by kernel_rfl) (by kernel_rfl) (fun i => match i with | 0 => [0] | 1 => [1] | 2 => [2] | 3 => [3] | 4 => [4] | 5 => [5] | 6 => [6] | 7 => [7] | 8 => [8] | 9 => [9] | 10 => [10] | 11 => [10, 11] | _ => []) (by kernel_rfl) ?_ (by kernel_rfl) ?_ ?_ ?_
    · intro s vs vs' gs gs' h
      iterate 14 (rcases s with _ | s; · (first | exact ⟨rfl, id⟩ | (simp only [List.mem_cons, List.not_mem_nil, or_false, forall_eq_or_imp, forall_eq] at h; simp [h])))
      exact ⟨rfl, id⟩
    · simp only [List.range, List.range.loop, List.flatMap_cons, List.flatMap_nil, List.append_nil]
      exact List.Perm.refl _
    · refine ⟨?_, ?_, ?_, ?_, ?_, ?_, ?_, ?_, ?_, ?_, ?_, ?_, trivial⟩
      · intro vs gs A' W LF hA S hR hd hu K hK
        replace hK := hK default
        have e4 : A'.tmps[4]?.getD undef = vs 11 := slot_is hA (by kernel_rfl) (Nat.le_of_ble_eq_true (by kernel_rfl)) (by kernel_rfl)
        rw [show vs 11 = .slice Ao o.length co from hu 11 _ rfl (by kernel_rfl)] at e4
        go_step
        exact hK _ _ S rfl
      · intro vs gs A' W LF hA S hR hd hu K hK
        replace hK := hK default
        have e6 : A'.tmps[6]?.getD undef = .int .u8 (n : Int) := slot_is hA (by kernel_rfl) (Nat.le_of_ble_eq_true (by kernel_rfl)) (by kernel_rfl)
        go_step
        exact hK _ _ S rfl
      · intro vs gs A' W LF hA S hR hd hu K hK
        replace hK := hK default
        have f1 : vs 1 = .int .u8 (n : Int) := hd 1 (by kernel_rfl)
        have e14 : A'.tmps[14]?.getD undef = vs 1 := slot_is hA (by kernel_rfl) (Nat.le_of_ble_eq_true (by kernel_rfl)) (by kernel_rfl)
        rw [f1] at e14
        go_step
        exact hK _ _ S rfl
      · intro vs gs A' W LF hA S hR hd hu K hK
        replace hK := hK default
        have e3 : A'.tmps[3]?.getD undef = .pointer (some ⟨g3, 0, none⟩) := slot_is hA (by kernel_rfl) (Nat.le_of_ble_eq_true (by kernel_rfl)) (by kernel_rfl)
        have f2 : vs 2 = .int .u8 ((n : Int) / 16) := hd 2 (by kernel_rfl)
        have e15 : A'.tmps[15]?.getD undef = vs 2 := slot_is hA (by kernel_rfl) (Nat.le_of_ble_eq_true (by kernel_rfl)) (by kernel_rfl)
        rw [f2] at e15
        have h0 : 0 ≤ (n : Int) / 16 := by omega
        have h1 : (n : Int) / 16 < 16 := by omega
        have h2 : ((n : Int) / 16).toNat = n / 16 := by omega
        go_step
        exact hK _ _ S rfl
      · intro vs gs A' W LF hA S hR hd hu K hK
        replace hK := hK default
        have f3 : vs 3 = .pointer (some ⟨g3, n / 16, none⟩) := hd 3 (by kernel_rfl)
        have e16 : A'.tmps[16]?.getD undef = vs 3 := slot_is hA (by kernel_rfl) (Nat.le_of_ble_eq_true (by kernel_rfl)) (by kernel_rfl)
        rw [f3] at e16
        have q := hex_cell (S.ok (blkR g3 122 (hashA digL)) (hR 13 (List.mem_singleton.2 rfl) _ (List.mem_singleton.2 rfl))) (n / 16) (by omega)
        go_step
        exact hK _ _ S rfl
      · intro vs gs A' W LF hA S hR hd hu K hK
        replace hK := hK default
        have e6 : A'.tmps[6]?.getD undef = .int .u8 (n : Int) := slot_is hA (by kernel_rfl) (Nat.le_of_ble_eq_true (by kernel_rfl)) (by kernel_rfl)
        go_step
        exact hK _ _ S rfl
      · intro vs gs A' W LF hA S hR hd hu K hK
        replace hK := hK default
        have f5 : vs 5 = .int .u8 (n : Int) := hd 5 (by kernel_rfl)
        have e18 : A'.tmps[18]?.getD undef = vs 5 := slot_is hA (by kernel_rfl) (Nat.le_of_ble_eq_true (by kernel_rfl)) (by kernel_rfl)
        rw [f5] at e18
        go_step
        exact hK _ _ S rfl
      · intro vs gs A' W LF hA S hR hd hu K hK
        replace hK := hK default
        have e3 : A'.tmps[3]?.getD undef = .pointer (some ⟨g3, 0, none⟩) := slot_is hA (by kernel_rfl) (Nat.le_of_ble_eq_true (by kernel_rfl)) (by kernel_rfl)
        have f6 : vs 6 = .int .u8 ((n : Int) % 16) := hd 6 (by kernel_rfl)
        have e19 : A'.tmps[19]?.getD undef = vs 6 := slot_is hA (by kernel_rfl) (Nat.le_of_ble_eq_true (by kernel_rfl)) (by kernel_rfl)
        rw [f6] at e19
        have h0 : 0 ≤ (n : Int) % 16 := by omega
        have h1 : (n : Int) % 16 < 16 := by omega
        have h2 : ((n : Int) % 16).toNat = n % 16 := by omega
        go_step
        exact hK _ _ S rfl
      · intro vs gs A' W LF hA S hR hd hu K hK
        replace hK := hK default
        have f7 : vs 7 = .pointer (some ⟨g3, n % 16, none⟩) := hd 7 (by kernel_rfl)
        have e20 : A'.tmps[20]?.getD undef = vs 7 := slot_is hA (by kernel_rfl) (Nat.le_of_ble_eq_true (by kernel_rfl)) (by kernel_rfl)
        rw [f7] at e20
        have q := hex_cell (S.ok (blkR g3 122 (hashA digL)) (hR 13 (List.mem_singleton.2 rfl) _ (List.mem_singleton.2 rfl))) (n % 16) (by omega)
        go_step
        exact hK _ _ S rfl
      · intro vs gs A' W LF hA S hR hd hu K hK
        replace hK := hK default
        have f4 : vs 4 = .int .u8 ((hx (n / 16)).toNat : Int) := hd 4 (by kernel_rfl)
        have e17 : A'.tmps[17]?.getD undef = vs 4 := slot_is hA (by kernel_rfl) (Nat.le_of_ble_eq_true (by kernel_rfl)) (by kernel_rfl)
        rw [f4] at e17
        have f8 : vs 8 = .int .u8 ((hx (n % 16)).toNat : Int) := hd 8 (by kernel_rfl)
        have e21 : A'.tmps[21]?.getD undef = vs 8 := slot_is hA (by kernel_rfl) (Nat.le_of_ble_eq_true (by kernel_rfl)) (by kernel_rfl)
        rw [f8] at e21
        go_step
        exact hK _ _ (S.rownew (ow_new W 5 1 2 #[.int .u8 ((hx (n / 16)).toNat : Int), .int .u8 ((hx (n % 16)).toNat : Int)] rfl (by decide)) ((Kp.refl [] W).alloc _) (fun g hg => Nat.le_of_eq (Option.some.inj hg))) trivial
      · intro vs gs A' W LF hA S hR hd hu K hK
        replace hK := hK default
        have f0 : vs 0 = .slice Ao o.length co := hd 0 (by kernel_rfl)
        have e13 : A'.tmps[13]?.getD undef = vs 0 := slot_is hA (by kernel_rfl) (Nat.le_of_ble_eq_true (by kernel_rfl)) (by kernel_rfl)
        rw [f0] at e13
        have e22 : A'.tmps[22]?.getD undef = vs 9 := slot_is hA (by kernel_rfl) (Nat.le_of_ble_eq_true (by kernel_rfl)) (by kernel_rfl)
        refine op_app (.tmp 13) (.tmp 22) 22 5 rfl Tryd.infoU8 Tryd.underlying22 rfl (by decide) (.slice Ao o.length co) o.length (bv o) (by simpa [Act.eval] using e13) S (vs 9) 2 (bv [hx (n / 16), hx (n % 16)]) (by simpa [Act.eval] using e22) (rd_of_row (e := 5) S (List.mem_cons_of_mem _ (hR 9 (List.mem_singleton.2 rfl) _ (List.mem_singleton.2 rfl)))) (bv_one _) (by unfold maxLen; omega) (by omega) (fun v' w' S' => ?_)
        rw [← bv_append, HO'.out.1, HO'.out.2] at S'
        obtain ⟨A1, c1, h1, _⟩ := ow_form (S'.at_ (l1 := []))
        exact hK v' w' S' ⟨A1, c1, h1⟩
      · intro vs gs A' W LF hA S hR hd hu K hK
        replace hK := hK default
        have f10 : ∃ A c, vs 10 = .slice A o'.length c := hd 10 (by kernel_rfl)
        have e23 : A'.tmps[23]?.getD undef = vs 10 := slot_is hA (by kernel_rfl) (Nat.le_of_ble_eq_true (by kernel_rfl)) (by kernel_rfl)
        go_step
        exact hK _ _ S rfl
    · intro vs gs W S hp
      have S : Held w W (rowR 5 1 (vs 9) 2 (bv [hx (n / 16), hx (n % 16)]) :: rowR 5 1 (vs 10) o'.length (bv o') :: blkR g3 122 (hashA digL) :: []) := by simpa only [List.flatMap_cons, List.flatMap_nil, List.append_nil, List.nil_append, List.cons_append, List.append_assoc] using S
      have p0 : vs 0 = .slice Ao o.length co := hp 0 (Nat.le_of_ble_eq_true rfl)
      have p1 : vs 1 = .int .u8 (n : Int) := hp 1 (Nat.le_of_ble_eq_true rfl)
      have p2 : vs 2 = .int .u8 ((n : Int) / 16) := hp 2 (Nat.le_of_ble_eq_true rfl)
      have p3 : vs 3 = .pointer (some ⟨g3, n / 16, none⟩) := hp 3 (Nat.le_of_ble_eq_true rfl)
      have p4 : vs 4 = .int .u8 ((hx (n / 16)).toNat : Int) := hp 4 (Nat.le_of_ble_eq_true rfl)
      have p5 : vs 5 = .int .u8 (n : Int) := hp 5 (Nat.le_of_ble_eq_true rfl)
      have p6 : vs 6 = .int .u8 ((n : Int) % 16) := hp 6 (Nat.le_of_ble_eq_true rfl)
      have p7 : vs 7 = .pointer (some ⟨g3, n % 16, none⟩) := hp 7 (Nat.le_of_ble_eq_true rfl)
      have p8 : vs 8 = .int .u8 ((hx (n % 16)).toNat : Int) := hp 8 (Nat.le_of_ble_eq_true rfl)
      have p11 : vs 11 = vs 10 := hp 11 (Nat.le_of_ble_eq_true rfl)
      obtain ⟨A8, c8, h8⟩ := hp 10 (Nat.le_of_ble_eq_true rfl)
      rw [h8] at p11 S
      have S2 := Lib.hid S.drop
      clear hp
      simp only [putAll, p0, p1, p2, p3, p4, p5, p6, p7, p8, p11, h8, Act.put, List.setIfInBounds_toArray, List.set_cons_succ, List.set_cons_zero]
      clear p0 p1 p2 p3 p4 p5 p6 p7 p8 p11 h8
      go_wp2
      go_roundw
      case rel => exact ⟨k + 1, by omega, by go_num, by rw [HO2.out]; exact ⟨_, _, rfl, S2.out⟩⟩
      case measure => simp [intOf]; omega
  · obtain rfl : k = 32 := by omega
    have HR : Hid (hexS (h.take 32) = hexS h) := Lib.hid (by rw [List.take_of_length_le (by have := HH.out; omega)])
    rw [HR.out] at HS ⊢
    have kv := strB (Rd.of_own (HS.out.at_ (l1 := [])))
    go_wp2
    go_ret
    exact ⟨rfl, HS.out.k⟩
theorem rhex_any (h : List UInt8) (hh : h.length = 32) (w : World) : Calls Tryd.prog 76 #[.agg (hashA h)] w fun e w' => e = .returned (.string ⟨(hexS h).toArray⟩) ∧ Kp [] w w' := by
 have HH := Lib.hid hh
 have S0 := Lib.hid (((Held.start w).newBlk 25 (hashA h)).rownew (World.ownsRow_nil _ 0 5 1) (Kp.refl [] _) (by simp [Value.ownBlock]))
 clear hh
 go_enter Tryd.func76, Tryd.ntmps76
 go_wp2
 obtain ⟨g1, hg1⟩ : ∃ g1, w.heap.size = g1 := ⟨_, rfl⟩
 rw [hg1] at S0 ⊢
 clear hg1
 go_loopw [3, 4] (fun b i wr => ∃ k : Nat, k ≤ 32 ∧ i = .int .i64 k ∧ ∃ A c, b = .slice A (hexS (h.take k)).length c ∧ Held w wr [rowR 5 1 (.slice A (hexS (h.take k)).length c) (hexS (h.take k)).length (bv (hexS (h.take k))), blkR g1 25 (hashA h)]) (fun _ i _ => 32 - (intOf i).toNat)
 case atStart => exact ⟨0, by omega, rfl, _, _, rfl, S0.out⟩
 case round =>
  clear S0
  obtain ⟨k, hk, rfl, Ao, co, rfl, S⟩ := hrel
  have HS := Lib.hid S
  clear S
  have hol : (hexS (h.take k)).length ≤ 64 := by
   rw [hexS_length, List.length_take]; omega
  by_cases hlt : k < 32
  · have hlt' : k < h.length := by have := HH.out; omega
    have he : h[k]? = some h[k] := List.getElem?_eq_getElem hlt'
    have hg : (hashA h)[k]? = some (.int .u8 (h[k].toNat : Int)) := by simp [hashA, bv, hlt']
    obtain ⟨o', HO2⟩ : ∃ o', Hid (hexS (h.take (k + 1)) = o') := ⟨_, Lib.hid rfl⟩
    have HO1 : Hid (hexS (h.take k) ++ hex2 h[k] = o') := Lib.hid (by rw [← HO2.out, hexS_take_succ he])
    clear he
    generalize hexS (h.take k) = o at *
    generalize h[k] = ch at *
    have hlc := ch.toNat_lt
    have HO' : Hid (o ++ [hx (ch.toNat / 16), hx (ch.toNat % 16)] = o' ∧ o.length + 2 = o'.length) := Lib.hid ⟨HO1.out, by rw [← HO1.out]; simp [hex2]⟩
    clear HO1
    generalize ch.toNat = n at *
    have HG := Lib.hid hg
    clear hg
    have cd1 : Hid (∀ V, Calls Tryd.prog 93 #[.int .u8 ((n : Int) / 16)] V fun e w' => e = .returned (.int .u8 ((hx (n / 16)).toNat : Int)) ∧ V = w') := Lib.hid (fun V => by
     have := pdigit_any (n / 16) (by omega) V
     rwa [show ((n / 16 : Nat) : Int) = (n : Int) / 16 from by omega] at this)
    have cd2 : Hid (∀ V, Calls Tryd.prog 93 #[.int .u8 ((n : Int) % 16)] V fun e w' => e = .returned (.int .u8 ((hx (n % 16)).toNat : Int)) ∧ V = w') := Lib.hid (fun V => by
     have := pdigit_any (n % 16) (by omega) V
     rwa [show ((n % 16 : Nat) : Int) = (n : Int) % 16 from by omega] at this)
    go_wp2_with fail
    refine wp_region_sep (Γ := Unit) 2 [0, 1, 2, 3, 4, 5, 6, 7, 8, 9, 10, 11, 12, 13, 15]
     (fun i vs gs => match i with | 0 => vs 0 = .slice Ao o.length co | 1 => vs 1 = .int .i64 (k : Int) | 2 => vs 2 = .pointer (some ⟨g1, k, none⟩) | 3 => vs 3 = .int .u8 (n : Int) | 4 => vs 4 = .int .u8 ((n : Int) / 16) | 5 => vs 5 = .int .u8 ((hx (n / 16)).toNat : Int) | 6 => vs 6 = .int .i64 (k : Int) | 7 => vs 7 = .pointer (some ⟨g1, k, none⟩) | 8 => vs 8 = .int .u8 (n : Int) | 9 => vs 9 = .int .u8 ((n : Int) % 16) | 10 => vs 10 = .int .u8 ((hx (n % 16)).toNat : Int) | 12 => ∃ A c, vs 12 = .slice A o'.length c | 13 => vs 13 = vs 12 | _ => True)
     (fun i vs gs => match i with | 11 => [rowR 5 1 (vs 11) 2 (bv [hx (n / 16), hx (n % 16)])] | 12 => [rowR 5 1 (vs 12) o'.length (bv o')] | 14 => [rowR 5 1 (.slice Ao o.length co) o.length (bv o)] | 15 => [blkR g1 25 (hashA h)] | _ => [])
     (fun i => match i with | 12 => [14] | _ => []) (fun i => match i with | 3 => [15] | 8 => [15] | 12 => [11] | _ => []) HS.out (by kernel_rfl) (by kernel_rfl) (by kernel_rfl) (by kernel_rfl) (fun i => match i with | 0 => [0] | 1 => [1] | 2 => [2] | 3 => [3] | 4 => [4] | 5 => [5] | 6 => [6] | 7 => [7] | 8 => [8] | 9 => [9] | 10 => [10] | 11 => [11] | 12 => [12] | 13 => [12, 13] | _ => []) (by kernel_rfl) ?_ (by kernel_rfl) ?_ ?_ ?_
    · intro s vs vs' gs gs' h
      iterate 16 (rcases s with _ | s; · (first | exact ⟨rfl, id⟩ | (simp only [List.mem_cons, List.not_mem_nil, or_false, forall_eq_or_imp, forall_eq] at h; simp [h])))
      exact ⟨rfl, id⟩
    · simp only [List.range, List.range.loop, List.flatMap_cons, List.flatMap_nil, List.append_nil]
      exact List.Perm.refl _
    · refine ⟨?_, ?_, ?_, ?_, ?_, ?_, ?_, ?_, ?_, ?_, ?_, ?_, ?_, ?_, trivial⟩
      · intro vs gs A' W LF hA S hR hd hu K hK
        replace hK := hK default
        have e3 : A'.tmps[3]?.getD undef = vs 13 := slot_is hA (by kernel_rfl) (Nat.le_of_ble_eq_true (by kernel_rfl)) (by kernel_rfl)
        rw [show vs 13 = .slice Ao o.length co from hu 13 _ rfl (by kernel_rfl)] at e3
        go_step
        exact hK _ _ S rfl
      · intro vs gs A' W LF hA S hR hd hu K hK
        replace hK := hK default
        have e4 : A'.tmps[4]?.getD undef = .int .i64 (k : Int) := slot_is hA (by kernel_rfl) (Nat.le_of_ble_eq_true (by kernel_rfl)) (by kernel_rfl)
        go_step
        exact hK _ _ S rfl
      · intro vs gs A' W LF hA S hR hd hu K hK
        replace hK := hK default
        have e1 : A'.tmps[1]?.getD undef = .pointer (some ⟨g1, 0, none⟩) := slot_is hA (by kernel_rfl) (Nat.le_of_ble_eq_true (by kernel_rfl)) (by kernel_rfl)
        have f1 : vs 1 = .int .i64 (k : Int) := hd 1 (by kernel_rfl)
        have e10 : A'.tmps[10]?.getD undef = vs 1 := slot_is hA (by kernel_rfl) (Nat.le_of_ble_eq_true (by kernel_rfl)) (by kernel_rfl)
        rw [f1] at e10
        go_step
        exact hK _ _ S rfl
      · intro vs gs A' W LF hA S hR hd hu K hK
        replace hK := hK default
        have f2 : vs 2 = .pointer (some ⟨g1, k, none⟩) := hd 2 (by kernel_rfl)
        have e11 : A'.tmps[11]?.getD undef = vs 2 := slot_is hA (by kernel_rfl) (Nat.le_of_ble_eq_true (by kernel_rfl)) (by kernel_rfl)
        rw [f2] at e11
        have q : W.cell? ⟨g1, k, none⟩ = some (.int .u8 (n : Int)) := by rw [(show Blk W g1 25 (hashA h) from S.ok (blkR g1 25 (hashA h)) (hR 15 (List.mem_singleton.2 rfl) _ (List.mem_singleton.2 rfl))).cell k]; exact HG.out
        go_step
        exact hK _ _ S rfl
      · intro vs gs A' W LF hA S hR hd hu K hK
        replace hK := hK default
        have f3 : vs 3 = .int .u8 (n : Int) := hd 3 (by kernel_rfl)
        have e12 : A'.tmps[12]?.getD undef = vs 3 := slot_is hA (by kernel_rfl) (Nat.le_of_ble_eq_true (by kernel_rfl)) (by kernel_rfl)
        rw [f3] at e12
        go_step
        exact hK _ _ S rfl
      · intro vs gs A' W LF hA S hR hd hu K hK
        replace hK := hK default
        have f4 : vs 4 = .int .u8 ((n : Int) / 16) := hd 4 (by kernel_rfl)
        have e13 : A'.tmps[13]?.getD undef = vs 4 := slot_is hA (by kernel_rfl) (Nat.le_of_ble_eq_true (by kernel_rfl)) (by kernel_rfl)
        rw [f4] at e13
        go_step
        refine (cd1.out _).mono ?_
        rintro e w' ⟨rfl, rfl⟩
        exact hK _ _ S rfl
      · intro vs gs A' W LF hA S hR hd hu K hK
        replace hK := hK default
        have e4 : A'.tmps[4]?.getD undef = .int .i64 (k : Int) := slot_is hA (by kernel_rfl) (Nat.le_of_ble_eq_true (by kernel_rfl)) (by kernel_rfl)
        go_step
        exact hK _ _ S rfl
      · intro vs gs A' W LF hA S hR hd hu K hK
        replace hK := hK default
        have e1 : A'.tmps[1]?.getD undef = .pointer (some ⟨g1, 0, none⟩) := slot_is hA (by kernel_rfl) (Nat.le_of_ble_eq_true (by kernel_rfl)) (by kernel_rfl)
        have f6 : vs 6 = .int .i64 (k : Int) := hd 6 (by kernel_rfl)
        have e15 : A'.tmps[15]?.getD undef = vs 6 := slot_is hA (by kernel_rfl) (Nat.le_of_ble_eq_true (by kernel_rfl)) (by kernel_rfl)
        rw [f6] at e15
        go_step
        exact hK _ _ S rfl
      · intro vs gs A' W LF hA S hR hd hu K hK
        replace hK := hK default
        have f7 : vs 7 = .pointer (some ⟨g1, k, none⟩) := hd 7 (by kernel_rfl)
        have e16 : A'.tmps[16]?.getD undef = vs 7 := slot_is hA (by kernel_rfl) (Nat.le_of_ble_eq_true (by kernel_rfl)) (by kernel_rfl)
        rw [f7] at e16
        have q : W.cell? ⟨g1, k, none⟩ = some (.int .u8 (n : Int)) := by rw [(show Blk W g1 25 (hashA h) from S.ok (blkR g1 25 (hashA h)) (hR 15 (List.mem_singleton.2 rfl) _ (List.mem_singleton.2 rfl))).cell k]; exact HG.out
        go_step
        exact hK _ _ S rfl
      · intro vs gs A' W LF hA S hR hd hu K hK
        replace hK := hK default
        have f8 : vs 8 = .int .u8 (n : Int) := hd 8 (by kernel_rfl)
        have e17 : A'.tmps[17]?.getD undef = vs 8 := slot_is hA (by kernel_rfl) (Nat.le_of_ble_eq_true (by kernel_rfl)) (by kernel_rfl)
        rw [f8] at e17
        go_step
        exact hK _ _ S rfl
      · intro vs gs A' W LF hA S hR hd hu K hK
        replace hK := hK default
        have f9 : vs 9 = .int .u8 ((n : Int) % 16) := hd 9 (by kernel_rfl)
        have e18 : A'.tmps[18]?.getD undef = vs 9 := slot_is hA (by kernel_rfl) (Nat.le_of_ble_eq_true (by kernel_rfl)) (by kernel_rfl)
        rw [f9] at e18
        go_step
        refine (cd2.out _).mono ?_
        rintro e w' ⟨rfl, rfl⟩
        exact hK _ _ S rfl
      · intro vs gs A' W LF hA S hR hd hu K hK
        replace hK := hK default
        have f5 : vs 5 = .int .u8 ((hx (n / 16)).toNat : Int) := hd 5 (by kernel_rfl)
        have e14 : A'.tmps[14]?.getD undef = vs 5 := slot_is hA (by kernel_rfl) (Nat.le_of_ble_eq_true (by kernel_rfl)) (by kernel_rfl)
        rw [f5] at e14
        have f10 : vs 10 = .int .u8 ((hx (n % 16)).toNat : Int) := hd 10 (by kernel_rfl)
        have e19 : A'.tmps[19]?.getD undef = vs 10 := slot_is hA (by kernel_rfl) (Nat.le_of_ble_eq_true (by kernel_rfl)) (by kernel_rfl)
        rw [f10] at e19
        go_step
        exact hK _ _ (S.rownew (ow_new W 5 1 2 #[.int .u8 ((hx (n / 16)).toNat : Int), .int .u8 ((hx (n % 16)).toNat : Int)] rfl (by decide)) ((Kp.refl [] W).alloc _) (fun g hg => Nat.le_of_eq (Option.some.inj hg))) trivial
      · intro vs gs A' W LF hA S hR hd hu K hK
        replace hK := hK default
        have f0 : vs 0 = .slice Ao o.length co := hd 0 (by kernel_rfl)
        have e9 : A'.tmps[9]?.getD undef = vs 0 := slot_is hA (by kernel_rfl) (Nat.le_of_ble_eq_true (by kernel_rfl)) (by kernel_rfl)
        rw [f0] at e9
        have e20 : A'.tmps[20]?.getD undef = vs 11 := slot_is hA (by kernel_rfl) (Nat.le_of_ble_eq_true (by kernel_rfl)) (by kernel_rfl)
        refine op_app (.tmp 9) (.tmp 20) 22 5 rfl Tryd.infoU8 Tryd.underlying22 rfl (by decide) (.slice Ao o.length co) o.length (bv o) (by simpa [Act.eval] using e9) S (vs 11) 2 (bv [hx (n / 16), hx (n % 16)]) (by simpa [Act.eval] using e20) (rd_of_row (e := 5) S (List.mem_cons_of_mem _ (hR 11 (List.mem_singleton.2 rfl) _ (List.mem_singleton.2 rfl)))) (bv_one _) (by unfold maxLen; omega) (by omega) (fun v' w' S' => ?_)
        rw [← bv_append, HO'.out.1, HO'.out.2] at S'
        obtain ⟨A1, c1, h1, _⟩ := ow_form (S'.at_ (l1 := []))
        exact hK v' w' S' ⟨A1, c1, h1⟩
      · intro vs gs A' W LF hA S hR hd hu K hK
        replace hK := hK default
        have f12 : ∃ A c, vs 12 = .slice A o'.length c := hd 12 (by kernel_rfl)
        have e21 : A'.tmps[21]?.getD undef = vs 12 := slot_is hA (by kernel_rfl) (Nat.le_of_ble_eq_true (by kernel_rfl)) (by kernel_rfl)
        go_step
        exact hK _ _ S rfl
    · intro vs gs W S hp
      have S : Held w W (rowR 5 1 (vs 11) 2 (bv [hx (n / 16), hx (n % 16)]) :: rowR 5 1 (vs 12) o'.length (bv o') :: blkR g1 25 (hashA h) :: []) := by simpa only [List.flatMap_cons, List.flatMap_nil, List.append_nil, List.nil_append, List.cons_append, List.append_assoc] using S
      have p0 : vs 0 = .slice Ao o.length co := hp 0 (Nat.le_of_ble_eq_true rfl)
      have p1 : vs 1 = .int .i64 (k : Int) := hp 1 (Nat.le_of_ble_eq_true rfl)
      have p2 : vs 2 = .pointer (some ⟨g1, k, none⟩) := hp 2 (Nat.le_of_ble_eq_true rfl)
      have p3 : vs 3 = .int .u8 (n : Int) := hp 3 (Nat.le_of_ble_eq_true rfl)
      have p4 : vs 4 = .int .u8 ((n : Int) / 16) := hp 4 (Nat.le_of_ble_eq_true rfl)
      have p5 : vs 5 = .int .u8 ((hx (n / 16)).toNat : Int) := hp 5 (Nat.le_of_ble_eq_true rfl)
      have p6 : vs 6 = .int .i64 (k : Int) := hp 6 (Nat.le_of_ble_eq_true rfl)
      have p7 : vs 7 = .pointer (some ⟨g1, k, none⟩) := hp 7 (Nat.le_of_ble_eq_true rfl)
      have p8 : vs 8 = .int .u8 (n : Int) := hp 8 (Nat.le_of_ble_eq_true rfl)
      have p9 : vs 9 = .int .u8 ((n : Int) % 16) := hp 9 (Nat.le_of_ble_eq_true rfl)
      have p10 : vs 10 = .int .u8 ((hx (n % 16)).toNat : Int) := hp 10 (Nat.le_of_ble_eq_true rfl)
      have p13 : vs 13 = vs 12 := hp 13 (Nat.le_of_ble_eq_true rfl)
      obtain ⟨A8, c8, h8⟩ := hp 12 (Nat.le_of_ble_eq_true rfl)
      rw [h8] at p13 S
      have S2 := Lib.hid S.drop
      clear hp
      simp only [putAll, p0, p1, p2, p3, p4, p5, p6, p7, p8, p9, p10, p13, h8, Act.put, List.setIfInBounds_toArray, List.set_cons_succ, List.set_cons_zero]
      clear p0 p1 p2 p3 p4 p5 p6 p7 p8 p9 p10 p13 h8
      go_wp2
      go_roundw
      case rel => exact ⟨k + 1, by omega, by go_num, by rw [HO2.out]; exact ⟨_, _, rfl, S2.out⟩⟩
      case measure => simp [intOf]; omega
  · obtain rfl : k = 32 := by omega
    have HR : Hid (hexS (h.take 32) = hexS h) := Lib.hid (by rw [List.take_of_length_le (by have := HH.out; omega)])
    rw [HR.out] at HS ⊢
    have kv := strB (Rd.of_own (HS.out.at_ (l1 := [])))
    go_wp2
    go_ret
    exact ⟨rfl, HS.out.k⟩
end
/- Unhex of point and of the reference. -/
section
open Go.RowKit
theorem idx16_any (A : Option Addr) (cp : Nat) (c : UInt8) (w : World) (hx : Rd w 1 (.slice A 16 cp) 16 (bv digL)) : Calls Tryd.prog 79 #[.slice A 16 cp, .int .u8 (c.toNat : Int)] w fun e w' => e = .returned (.int .i64 (dgz c)) ∧ w = w' := by
 obtain ⟨-, A', c', e, h1, h2, h3, h4⟩ := hx
 cases e
 unfold maxLen at h2
 obtain ⟨ad, rfl⟩ : ∃ ad, A = some ad := by
  cases A with
  | none => have := (h3 rfl).1; omega
  | some ad => exact ⟨ad, rfl⟩
 have HC := Lib.hid (h4 ad rfl)
 clear h3 h4
 go_enter Tryd.func79, Tryd.ntmps79
 go_wp2
 go_loop [5, 8] (fun _ i => ∃ k : Nat, k ≤ 16 ∧ i = .int .i64 k ∧ ∀ j, j < k → digL[j]? ≠ some c) (fun _ i => 16 - (intOf i).toNat)
 case atStart => exact ⟨0, by omega, rfl, fun j hj => by omega⟩
 case round =>
  obtain ⟨k, hk, rfl, hp⟩ := hrel
  have HP := Lib.hid hp
  clear hp
  by_cases hlt : k < 16
  · have hg : digL[k]? = some (hx k) := digL_get hlt
    have hc := HC.out k (.int .u8 ((hx k).toNat : Int)) (by rw [bv_get, hg]; rfl)
    have HG := Lib.hid hg
    clear hg
    generalize hx k = d at *
    by_cases hcd : c = d
    · subst hcd
      have HR : Hid (dgz c = k) := Lib.hid (dgz_at HG.out)
      go_wp2
      go_ret
      exact ⟨by rw [HR.out]; rfl, rfl⟩
    · have hne : ¬ (c.toNat : Int) = d.toNat := fun h => hcd (UInt8.toNat_inj.1 (by omega))
      go_wp2
      go_round
      case rel => exact ⟨k + 1, by omega, by go_num, fun j hj => by
       by_cases e : j = k
       · subst e; rw [HG.out]; exact fun h => hcd (Option.some.inj h).symm
       · exact HP.out j (by omega)⟩
      case measure => simp [intOf]; omega
  · obtain rfl : k = 16 := by omega
    have HR : Hid (dgz c = -1) := Lib.hid (dgz_none HP.out)
    go_wp2
    go_ret
    exact ⟨by rw [HR.out]; rfl, rfl⟩
theorem or8 {a b : Nat} (ha : a < 16) (hb : b < 16) : bits .or .u8 ((a : Int) * 16) (b : Int) = ((UInt8.ofNat (16 * a + b)).toNat : Int) := by
 have h := all256 (p := fun m => decide (bits .or .u8 (((m / 16 : Nat) : Int) * 16) ((m % 16 : Nat) : Int) = ((UInt8.ofNat (16 * (m / 16) + m % 16)).toNat : Int))) (by decide +kernel) (show 16 * a + b < 256 by omega)
 have := of_decide_eq_true h
 rwa [show (16 * a + b) / 16 = a by omega, show (16 * a + b) % 16 = b by omega] at this
theorem hashA_set (l : List UInt8) (i : Nat) (c : UInt8) : (hashA l).setIfInBounds i (.int .u8 (c.toNat : Int)) = hashA (l.set i c) := by
 apply Array.ext'
 simp [hashA, bv, List.map_set]
theorem run_str_indexP (s : ByteArray) (k : Nat) (hk : k < s.size) (w : World) : (Instr.index 9 (.string s) (.int .i64 (k : Int))).run Tryd.prog w = .ok (.int .u8 (s[k].toNat : Int)) w := by
 simp [Instr.index, run_underlying Tryd.underlying9, hk, go_sem]
theorem exec_indexP {P : Program} {w : World} {ρ : Operand → Value} {o : Oper} {ty : TypeId} {x i : Operand} {v u r : Value} (ho : o.op = .index ty x i) (hx : ρ x = v) (hi : ρ i = u) (h : (Instr.index ty v u).run P w = .ok r w) : (execOp ρ o).run P w = .ok (.value r) w := by
 unfold execOp
 simp only [ho, hx, hi, Sem.run_bind, h, Result.andThen_ok, Sem.run_pure]
def UnhexPost (s : List UInt8) (w : World) (e : Ending) (w' : World) : Prop := e = .returned (.tuple #[.agg (hashA (UH s).1), .bool (UH s).2]) ∧ Kp [] w w'
theorem unhex_any (s : ByteArray) (w : World) : Calls Tryd.prog 59 #[.string s] w (UnhexPost s.data.toList w) := by
 have HZ : Hid ((hashA (List.replicate 32 0)).size = 32) := Lib.hid rfl
 have S0 := Lib.hid ((Held.start w).newBlk 25 (hashA (List.replicate 32 0)))
 have HSz := Lib.hid (Lib.size_eq s)
 have H16 : Hid ((hashA digL).size = 16) := Lib.hid rfl
 obtain ⟨dg', HD⟩ : ∃ dg, Hid (hashA digL = dg) := ⟨_, Lib.hid rfl⟩
 rw [HD.out] at H16
 have HO := Lib.hid (fun u hu => by rw [← HD.out] at hu; exact hashA_one digL u hu : ∀ u, u ∈ dg'.toList → u.oneCell' = true)
 have HZO := Lib.hid (hashA_one (List.replicate 32 0))
 go_enter Tryd.func59, Tryd.ntmps59
 go_wp2_with fail
 refine (digits_any _).mono ?_
 rw [HD.out]
 rintro e w1 ⟨rfl, k1⟩
 have S1 := Lib.hid (S0.out.kp k1)
 clear k1
 by_cases hl : s.size = 64
 · have hl' : ((s.size : Int) != 64) = false := by rw [hl]; rfl
   have HL := Lib.hid hl
   clear hl
   go_wp2_with (refine wpList_store_blk rfl 122 (.tmp 4) (.tmp 8) rfl w1.heap.size rfl dg' rfl 122 _ (Blk.new w1 122 _) (by rw [H16.out]; exact Tryd.info16P) (by rw [H16.out]; rfl) HO.out ?_; intro w2 b2 k2; have S2 := Lib.hid (Held.setBlk (l1 := []) (S1.out.newBlk 122 _) b2 k2); clear b2 k2; have S3 := Lib.hid (S2.out.newBlk 25 (hashA (List.replicate 32 0))))
   obtain ⟨g4, hg4⟩ : ∃ g4, w1.heap.size = g4 := ⟨_, rfl⟩
   obtain ⟨g5, hg5⟩ : ∃ g5, w2.heap.size = g5 := ⟨_, rfl⟩
   obtain ⟨g2, hg2⟩ : ∃ g2, w.heap.size = g2 := ⟨_, rfl⟩
   rw [hg4, hg5, hg2] at S3 ⊢
   clear S0 S1 S2 hg4 hg5 hg2
   have Hsl : Hid (s.data.toList.length = 64) := Lib.hid (by rw [← HSz.out, HL.out])
   have hs64 : ∀ k, k < 64 → k < s.size := fun k hk => by have := HL.out; omega
   have Hget : Hid (∀ k (hk : k < 64), s.data.toList.getD k 0 = s[k]'(hs64 k hk)) := Lib.hid (fun k hk => by
    rw [List.getD_eq_getElem?_getD, List.getElem?_eq_getElem (by rw [Hsl.out]; exact hk)]; rfl)
   have Hopt : Hid (∀ k (hk : k < 64), s.data.toList[k]? = some (s[k]'(hs64 k hk))) := Lib.hid (fun k hk => by
    rw [List.getElem?_eq_getElem (by rw [Hsl.out]; exact hk)]; rfl)
   have Hs64 := Lib.hid hs64
   go_loopw [6, 7, 15] (fun _ _ i wr => ∃ k : Nat, k ≤ 64 ∧ i = .int .i64 k ∧ (∀ j, j < k → dg (s.data.toList.getD j 0) < 16) ∧ Held w wr [blkR g5 25 (hashA (uprt s.data.toList k)), blkR g4 122 (hashA digL), blkR g2 25 (hashA (List.replicate 32 0))]) (fun _ _ i _ => 64 - (intOf i).toNat)
   case atStart => exact ⟨0, by omega, rfl, fun j hj => by omega, by rw [HD.out, uprt_zero]; exact S3.out⟩
   case round =>
    clear S3
    obtain ⟨k, hk, rfl, hp, S⟩ := hrel
    have HP := Lib.hid hp
    have HS := Lib.hid S
    clear hp S
    by_cases hlt : k < 64
    · have hks := Hs64.out k hlt
      have hgt := Hget.out k hlt
      have hop := Hopt.out k hlt
      obtain ⟨hu1, hu2⟩ := uprt_at s.data.toList k hlt (fun h => HP.out _ (by omega))
      have hu3 := uprt_succ s.data.toList k hlt
      have HI := Lib.hid (run_str_indexP s k hks)
      obtain ⟨q, hq⟩ : ∃ q, uold s.data.toList k = q := ⟨_, rfl⟩
      rw [hq] at hu1 hu2 hu3
      rw [hgt] at hu3
      clear hq
      generalize s[k] = c at *
      have T0 := Lib.hid (HS.out.kp ((Kp.refl [] wr).drew))
      have HG : Hid ((hashA (uprt s.data.toList k))[k / 2]? = some (.int .u8 (q : Int))) := Lib.hid (by
       show (bv (uprt s.data.toList k)).toArray[k / 2]? = _
       rw [List.getElem?_toArray, bv_get, hu1]
       simp only [Option.map_some]
       rw [UInt8.toNat_ofNat', Nat.mod_eq_of_lt (by omega)])
      have Hu3 := Lib.hid hu3
      have Hop := Lib.hid hop
      have Hgt := Lib.hid hgt
      clear hu1 hu3 hop hgt
      go_wp2_with fail
      refine wp_region_lexf [4] [] (fun V : World => Held w V [blkR g5 25 (hashA (uprt s.data.toList k)), blkR g4 122 (hashA digL), blkR g2 25 (hashA (List.replicate 32 0))]) (by kernel_rfl) (by kernel_rfl) T0.out (fun σ hne fw hf hsur => ?_); have Hsur := Lib.hid hsur; clear hsur
      clear hf
      have RD := Lib.hid (show Rd wr.drew 1 (.slice (some ⟨g4, 0, none⟩) 16 16) 16 (bv digL) from Rd.of_own ⟨by rfl, .inr ⟨g4, 16, hashA digL, rfl, Nat.zero_le _, T0.out.at_ (l1 := [_]), by omega, by decide, rfl, rfl⟩⟩)
      by_cases hd : dg c < 16
      · have Hz : Hid (dgz c = (dg c : Int)) := Lib.hid (dgz_lt hd)
        have hcell := (T0.out.at_ (l1 := [])).cell (k / 2)
        rw [HG.out] at hcell
        have hfr := (T0.out.at_ (l1 := [])).frozen (k / 2)
        have hblt := (T0.out.at_ (l1 := [])).lt
        have h0 : 0 ≤ (k : Int) / 2 := by omega
        have h1 : (k : Int) / 2 < 32 := by omega
        have h2 : ((k : Int) / 2).toNat = k / 2 := by omega
        obtain ⟨n, hn⟩ : ∃ n, dg c = n := ⟨_, rfl⟩
        rw [hn] at hd Hz Hu3
        have hor := or8 hu2 hd
        have S5 := HS.out.set (l1 := []) (k / 2) (.int .u8 ((UInt8.ofNat (16 * q + n)).toNat : Int))
        rw [hashA_set, ← Hu3.out, show ((UInt8.ofNat (16 * q + n)).toNat : Int) = (16 * (q : Int) + (n : Int)) % 256 from by rw [UInt8.toNat_ofNat']; omega] at S5
        have S5 := Lib.hid (S5.kp ((Kp.refl [] _).drew))
        have Hn := Lib.hid hn
        clear hn
        go_wp2_with (first
         | (refine lex_qk (.int .u8 (c.toNat : Int)) rfl rfl (fun V hV => exec_indexP rfl rfl rfl (HI.out V)) ?_; intro K hK; go_simp; refine hK _ _ ?_; clear hK K)
         | (refine lex_qq Hsur.out rfl rfl rfl ?_; intro K hK; go_big_quiet_op; go_big_quiet_on) | (refine lex_skipk rfl ?_; intro K hK; go_simp; refine hK _ _ ?_; clear hK K) | (refine lex_e rfl rfl ?_; intro K hK; go_step) | (refine lex_nil ?_)
         | (go_at_call 79; (with_reducible refine (idx16_any _ _ c _ RD.out).mono ?_); rw [Hz.out]; rintro e w' ⟨rfl, rfl⟩)
         | ((with_reducible apply And.intro); · (intro hl; first | (exact ls_absurd hl rfl) | exact T0.out)))
        go_roundw
        case rel => exact ⟨k + 1, by omega, by go_num, fun j hj => by
         by_cases e : j = k
         · subst e; rw [Hgt.out, Hn.out]; exact hd
         · exact HP.out j (by omega), S5.out⟩
        case measure => simp [intOf]; omega
      · have Hz : Hid (dgz c = -1) := Lib.hid (dgz_no hd)
        have HR : Hid (UH s.data.toList = (List.replicate 32 0, false)) := Lib.hid (UH_odd Hop.out hd)
        go_wp2_with (first
         | (refine lex_qk (.int .u8 (c.toNat : Int)) rfl rfl (fun V hV => exec_indexP rfl rfl rfl (HI.out V)) ?_; intro K hK; go_simp; refine hK _ _ ?_; clear hK K)
         | (refine lex_qq Hsur.out rfl rfl rfl ?_; intro K hK; go_big_quiet_op; go_big_quiet_on) | (refine lex_skipk rfl ?_; intro K hK; go_simp; refine hK _ _ ?_; clear hK K) | (refine lex_e rfl rfl ?_; intro K hK; go_step) | (refine lex_nil ?_)
         | (go_at_call 79; (with_reducible refine (idx16_any _ _ c _ RD.out).mono ?_); rw [Hz.out]; rintro e w' ⟨rfl, rfl⟩)
         | ((with_reducible apply And.intro); · (intro hl; first | (exact ls_absurd hl rfl) | exact T0.out))
         | (refine wpList_store_blk rfl 25 (.tmp 2) (.tmp 25) rfl g2 rfl (hashA (List.replicate 32 0)) rfl 25 _ (T0.out.at_ (l1 := [_, _])) (by rw [HZ.out]; exact Tryd.infoHashP) rfl HZO.out ?_; intro w4 b4 k4; have S4 := Lib.hid (Held.setBlk (l1 := [_, _]) T0.out b4 k4); clear b4 k4))
        refine bodyPost_ret (results_cell_tmp (by rfl) rfl (S4.out.at_ (l1 := [_, _])) Tryd.underlying25 rfl (by rw [HZ.out]; exact Tryd.infoHashP)) rfl ?_
        exact ⟨by rw [HR.out]; rfl, S4.out.k⟩
    · obtain rfl : k = 64 := by omega
      have HR : Hid (UH s.data.toList = (uprt s.data.toList 64, true)) := Lib.hid (UH_ok Hsl.out HP.out)
      have HU : Hid ((hashA (uprt s.data.toList 64)).size = 32) := Lib.hid (by rw [hashA_size, uprt_length])
      have HUO := Lib.hid (hashA_one (uprt s.data.toList 64))
      have hge : (s.size : Int) ≤ 64 := by have := HL.out; omega
      go_wp2_with (first
       | (refine wpList_load_blk rfl 25 (.tmp 5) rfl g5 rfl 25 _ (HS.out.at_ (l1 := [])) _ Tryd.underlying25 rfl (by rw [HU.out]; exact Tryd.infoHashP) ?_)
       | (refine wpList_store_blk rfl 25 (.tmp 2) (.tmp 38) rfl g2 rfl (hashA (uprt s.data.toList 64)) rfl 25 _ (HS.out.at_ (l1 := [_, _])) (by rw [HU.out]; exact Tryd.infoHashP) (by rw [HU.out, HZ.out]) HUO.out ?_; intro w4 b4 k4; have S4 := Lib.hid (Held.setBlk (l1 := [_, _]) HS.out b4 k4); clear b4 k4))
      refine bodyPost_ret (results_cell_tmp (by rfl) rfl (S4.out.at_ (l1 := [_, _])) Tryd.underlying25 rfl (by rw [HU.out]; exact Tryd.infoHashP)) rfl ?_
      exact ⟨by rw [HR.out]; rfl, S4.out.k⟩
 · have hl' : ((s.size : Int) != 64) = true := by simp; omega
   have HR : Hid (UH s.data.toList = (List.replicate 32 0, false)) := Lib.hid (UH_short (by rw [← HSz.out]; exact hl))
   clear hl
   go_wp2_with (first
    | (refine wpList_store_blk rfl 122 (.tmp 4) (.tmp 8) rfl w1.heap.size rfl dg' rfl 122 _ (Blk.new w1 122 _) (by rw [H16.out]; exact Tryd.info16P) (by rw [H16.out]; rfl) HO.out ?_; intro w2 b2 k2; have S2 := Lib.hid (Held.setBlk (l1 := []) (S1.out.newBlk 122 _) b2 k2); clear b2 k2; have S3 := Lib.hid (S2.out.newBlk 25 (hashA (List.replicate 32 0))))
    | (refine wpList_store_blk rfl 25 (.tmp 2) (.tmp 12) rfl w.heap.size rfl (hashA (List.replicate 32 0)) rfl 25 _ (S3.out.at_ (l1 := [_, _])) (by rw [HZ.out]; exact Tryd.infoHashP) rfl HZO.out ?_; intro w4 b4 k4; have S4 := Lib.hid (Held.setBlk (l1 := [_, _]) S3.out b4 k4); clear b4 k4))
   refine bodyPost_ret (results_cell_tmp (by rfl) rfl (S4.out.at_ (l1 := [_, _])) Tryd.underlying25 rfl (by rw [HZ.out]; exact Tryd.infoHashP)) rfl ?_
   exact ⟨by rw [HR.out]; rfl, S4.out.k⟩
theorem run_str_indexZ (s : ByteArray) (k : Nat) (z : Int) (hz : z = k) (hk : k < s.size) (w : World) : (Instr.index 9 (.string s) (.int .i64 z)).run Tryd.prog w = .ok (.int .u8 (s[k].toNat : Int)) w := by
 subst hz; exact run_str_indexP s k hk w
def hlf (c : UInt8) : Nat := if dg c < 16 then dg c else 0
theorem phalf_any (c : UInt8) (w : World) : Calls Tryd.prog 80 #[.int .u8 (c.toNat : Int)] w fun e w' => e = .returned (.tuple #[.int .u8 (hlf c : Int), .bool (decide (dg c < 16))]) ∧ w = w' := by
 have hlt := c.toNat_lt
 by_cases h : 48 ≤ c.toNat ∧ c.toNat ≤ 57
 · have hd : dg c = c.toNat - 48 := by unfold dg; rw [if_pos h]
   have HP : Hid ((hlf c : Int) = (c.toNat : Int) - 48) := Lib.hid (by unfold hlf; rw [if_pos (by omega), hd]; omega)
   have HB : Hid (decide (dg c < 16) = true) := Lib.hid (decide_eq_true (by omega))
   have h1 : (48 : Int) ≤ c.toNat := by omega
   have h2 : (c.toNat : Int) ≤ 57 := by omega
   rw [HP.out, HB.out]
   clear hd
   generalize c.toNat = n at *
   go_enter Tryd.func80, Tryd.ntmps80
   go_wp2
   go_ret2
   exact ⟨rfl, rfl⟩
 · by_cases h3 : 97 ≤ c.toNat ∧ c.toNat ≤ 102
   · have hd : dg c = c.toNat - 87 := by unfold dg; rw [if_neg h, if_pos h3]
     have HP : Hid ((hlf c : Int) = (c.toNat : Int) - 97 + 10) := Lib.hid (by unfold hlf; rw [if_pos (by omega), hd]; omega)
     have HB : Hid (decide (dg c < 16) = true) := Lib.hid (decide_eq_true (by omega))
     have h1 : (97 : Int) ≤ c.toNat := by omega
     have h2 : (c.toNat : Int) ≤ 102 := by omega
     have h4 : (48 : Int) ≤ c.toNat := by omega
     have h5 : ¬ (c.toNat : Int) ≤ 57 := by omega
     rw [HP.out, HB.out]
     clear hd
     generalize c.toNat = n at *
     go_enter Tryd.func80, Tryd.ntmps80
     go_wp2
     go_ret2
     exact ⟨rfl, rfl⟩
   · have hd : dg c = 99 := by unfold dg; rw [if_neg h, if_neg h3]
     have HP : Hid ((hlf c : Int) = 0) := Lib.hid (by unfold hlf; rw [if_neg (by omega)]; rfl)
     have HB : Hid (decide (dg c < 16) = false) := Lib.hid (decide_eq_false (by omega))
     rw [HP.out, HB.out]
     clear hd
     generalize c.toNat = n at *
     by_cases h1 : 48 ≤ n
     · have h1' : (48 : Int) ≤ n := by omega
       have h2' : ¬ (n : Int) ≤ 57 := by omega
       by_cases h4 : 97 ≤ n
       · have h4' : (97 : Int) ≤ n := by omega
         have h5' : ¬ (n : Int) ≤ 102 := by omega
         go_enter Tryd.func80, Tryd.ntmps80
         go_wp2
         go_ret2
         exact ⟨rfl, rfl⟩
       · have h4' : ¬ (97 : Int) ≤ n := by omega
         go_enter Tryd.func80, Tryd.ntmps80
         go_wp2
         go_ret2
         exact ⟨rfl, rfl⟩
     · have h1' : ¬ (48 : Int) ≤ n := by omega
       have h4' : ¬ (97 : Int) ≤ n := by omega
       go_enter Tryd.func80, Tryd.ntmps80
       go_wp2
       go_ret2
       exact ⟨rfl, rfl⟩
theorem uprt_two (s : List UInt8) (k : Nat) (hk : k < 32) : uprt s (2 * (k + 1)) = (uprt s (2 * k)).set k (UInt8.ofNat (16 * dg (s.getD (2 * k) 0) + dg (s.getD (2 * k + 1) 0))) := by
 rw [show 2 * (k + 1) = 2 * k + 1 + 1 by omega, uprt_succ s (2 * k + 1) (by omega), uprt_succ s (2 * k) (by omega), show (2 * k + 1) / 2 = k by omega, show 2 * k / 2 = k by omega, List.set_set]
 unfold uold
 rw [if_neg (by omega), show 2 * k + 1 - 1 = 2 * k by omega]
theorem runhex_any (s : ByteArray) (w : World) : Calls Tryd.prog 61 #[.string s] w (UnhexPost s.data.toList w) := by
 have HZ : Hid ((hashA (List.replicate 32 0)).size = 32) := Lib.hid rfl
 have HSz := Lib.hid (Lib.size_eq s)
 have HZO := Lib.hid (hashA_one (List.replicate 32 0))
 have S0 := Lib.hid (((Held.start w).newBlk 25 (hashA (List.replicate 32 0))).newBlk 25 (hashA (List.replicate 32 0)))
 rw [World.size_alloc] at S0
 by_cases hl : s.size = 64
 · have hl' : ((s.size : Int) != 64) = false := by rw [hl]; rfl
   have HL := Lib.hid hl
   clear hl
   go_enter Tryd.func61, Tryd.ntmps61
   go_wp2
   obtain ⟨g2, hg2⟩ : ∃ g2, w.heap.size = g2 := ⟨_, rfl⟩
   obtain ⟨g4, hg4⟩ : ∃ g4, g2 + 1 = g4 := ⟨_, rfl⟩
   rw [hg2, hg4] at S0 ⊢
   clear hg2 hg4
   have Hsl : Hid (s.data.toList.length = 64) := Lib.hid (by rw [← HSz.out, HL.out])
   have hs64 : ∀ k, k < 64 → k < s.size := fun k hk => by have := HL.out; omega
   have Hget : Hid (∀ k (hk : k < 64), s.data.toList.getD k 0 = s[k]'(hs64 k hk)) := Lib.hid (fun k hk => by
    rw [List.getD_eq_getElem?_getD, List.getElem?_eq_getElem (by rw [Hsl.out]; exact hk)]; rfl)
   have Hopt : Hid (∀ k (hk : k < 64), s.data.toList[k]? = some (s[k]'(hs64 k hk))) := Lib.hid (fun k hk => by
    rw [List.getElem?_eq_getElem (by rw [Hsl.out]; exact hk)]; rfl)
   have Hs64 := Lib.hid hs64
   go_loopw [5, 6, 7, 8, 9] (fun i _ _ _ _ wr => ∃ k : Nat, k ≤ 32 ∧ i = .int .i64 k ∧ (∀ j, j < 2 * k → dg (s.data.toList.getD j 0) < 16) ∧ Held w wr [blkR g4 25 (hashA (uprt s.data.toList (2 * k))), blkR g2 25 (hashA (List.replicate 32 0))]) (fun i _ _ _ _ _ => 32 - (intOf i).toNat)
   case atStart => exact ⟨0, by omega, rfl, fun j hj => by omega, by rw [uprt_zero]; exact S0.out⟩
   case round =>
    clear S0
    obtain ⟨k, hk, rfl, hp, S⟩ := hrel
    have HP := Lib.hid hp
    have HS := Lib.hid S
    clear hp S
    by_cases hlt : k < 32
    · have q1 := fun V => run_str_indexZ s (2 * k) (2 * (k : Int)) (by omega) (Hs64.out (2 * k) (by omega)) V
      have q2 := fun V => run_str_indexZ s (2 * k + 1) (2 * (k : Int) + 1) (by omega) (Hs64.out (2 * k + 1) (by omega)) V
      have hga := Hget.out (2 * k) (by omega)
      have hgb := Hget.out (2 * k + 1) (by omega)
      have hoa := Hopt.out (2 * k) (by omega)
      have hob := Hopt.out (2 * k + 1) (by omega)
      have hu3 := uprt_two s.data.toList k hlt
      rw [hga, hgb] at hu3
      generalize s[2 * k]'_ = a at *
      generalize s[2 * k + 1]'_ = b at *
      have Hu3 := Lib.hid hu3
      have Hga := Lib.hid hga
      have Hgb := Lib.hid hgb
      have Hoa := Lib.hid hoa
      have Hob := Lib.hid hob
      clear hu3 hga hgb hoa hob
      go_wp2_with fail
      refine (phalf_any a _).mono ?_
      rintro e w' ⟨rfl, rfl⟩
      go_wp2_with fail
      refine (phalf_any b _).mono ?_
      rintro e w' ⟨rfl, rfl⟩
      clear q1 q2
      by_cases hda : dg a < 16
      · by_cases hdb : dg b < 16
        · have Ha : Hid (hlf a = dg a) := Lib.hid (if_pos hda)
          have Hb : Hid (hlf b = dg b) := Lib.hid (if_pos hdb)
          rw [Ha.out, Hb.out, decide_eq_true hda, decide_eq_true hdb]
          have S5 := HS.out.set (l1 := []) k (.int .u8 ((UInt8.ofNat (16 * dg a + dg b)).toNat : Int))
          rw [hashA_set, ← Hu3.out, show ((UInt8.ofNat (16 * dg a + dg b)).toNat : Int) = 16 * (dg a : Int) + (dg b : Int) from by rw [UInt8.toNat_ofNat']; omega] at S5
          have S5 := Lib.hid S5
          have hcell := (HS.out.at_ (l1 := [])).cell k
          have hks : k < (hashA (uprt s.data.toList (2 * k))).size := by rw [hashA_size, uprt_length]; exact hlt
          rw [Array.getElem?_eq_getElem hks] at hcell
          have hfr := (HS.out.at_ (l1 := [])).frozen k
          have hblt := (HS.out.at_ (l1 := [])).lt
          have Hda := Lib.hid hda
          have Hdb := Lib.hid hdb
          obtain ⟨n, Hn⟩ : ∃ n, Hid (dg a = n) := ⟨_, Lib.hid rfl⟩
          obtain ⟨m, Hm⟩ : ∃ m, Hid (dg b = m) := ⟨_, Lib.hid rfl⟩
          rw [Hn.out, Hm.out] at S5 ⊢
          rw [Hn.out] at hda
          rw [Hm.out] at hdb
          go_wp2
          go_roundw
          case rel => exact ⟨k + 1, by omega, by go_num, fun j hj => by
           by_cases e : j = 2 * k
           · subst e; rw [Hga.out]; exact Hda.out
           · by_cases e2 : j = 2 * k + 1
             · subst e2; rw [Hgb.out]; exact Hdb.out
             · exact HP.out j (by omega), S5.out⟩
          case measure => simp [intOf]; omega
        · have HR : Hid (UH s.data.toList = (List.replicate 32 0, false)) := Lib.hid (UH_odd Hob.out hdb)
          rw [decide_eq_true hda, decide_eq_false hdb]
          go_wp2_with (refine wpList_store_blk rfl 25 (.tmp 2) (.tmp 41) rfl g2 rfl (hashA (List.replicate 32 0)) rfl 25 _ (HS.out.at_ (l1 := [_])) (by rw [HZ.out]; exact Tryd.infoHashP) rfl HZO.out ?_; intro w4 b4 k4; have S4 := Lib.hid (Held.setBlk (l1 := [_]) HS.out b4 k4); clear b4 k4)
          refine bodyPost_ret (results_cell_tmp (by rfl) rfl (S4.out.at_ (l1 := [_])) Tryd.underlying25 rfl (by rw [HZ.out]; exact Tryd.infoHashP)) rfl ?_
          exact ⟨by rw [HR.out]; rfl, S4.out.k⟩
      · have HR : Hid (UH s.data.toList = (List.replicate 32 0, false)) := Lib.hid (UH_odd Hoa.out hda)
        rw [decide_eq_false hda]
        go_wp2_with (refine wpList_store_blk rfl 25 (.tmp 2) (.tmp 41) rfl g2 rfl (hashA (List.replicate 32 0)) rfl 25 _ (HS.out.at_ (l1 := [_])) (by rw [HZ.out]; exact Tryd.infoHashP) rfl HZO.out ?_; intro w4 b4 k4; have S4 := Lib.hid (Held.setBlk (l1 := [_]) HS.out b4 k4); clear b4 k4)
        refine bodyPost_ret (results_cell_tmp (by rfl) rfl (S4.out.at_ (l1 := [_])) Tryd.underlying25 rfl (by rw [HZ.out]; exact Tryd.infoHashP)) rfl ?_
        exact ⟨by rw [HR.out]; rfl, S4.out.k⟩
    · obtain rfl : k = 32 := by omega
      have HR : Hid (UH s.data.toList = (uprt s.data.toList 64, true)) := Lib.hid (UH_ok Hsl.out HP.out)
      have HU : Hid ((hashA (uprt s.data.toList 64)).size = 32) := Lib.hid (by rw [hashA_size, uprt_length])
      have HUO := Lib.hid (hashA_one (uprt s.data.toList 64))
      rw [show 2 * 32 = 64 from rfl] at HS
      go_wp2_with (first
       | (refine wpList_load_blk rfl 25 (.tmp 4) rfl g4 rfl 25 _ (HS.out.at_ (l1 := [])) _ Tryd.underlying25 rfl (by rw [HU.out]; exact Tryd.infoHashP) ?_)
       | (refine wpList_store_blk rfl 25 (.tmp 2) (.tmp 48) rfl g2 rfl (hashA (uprt s.data.toList 64)) rfl 25 _ (HS.out.at_ (l1 := [_])) (by rw [HU.out]; exact Tryd.infoHashP) (by rw [HU.out, HZ.out]) HUO.out ?_; intro w4 b4 k4; have S4 := Lib.hid (Held.setBlk (l1 := [_]) HS.out b4 k4); clear b4 k4))
      refine bodyPost_ret (results_cell_tmp (by rfl) rfl (S4.out.at_ (l1 := [_])) Tryd.underlying25 rfl (by rw [HU.out]; exact Tryd.infoHashP)) rfl ?_
      exact ⟨by rw [HR.out]; rfl, S4.out.k⟩
 · have hl' : ((s.size : Int) != 64) = true := by simp; omega
   have HR : Hid (UH s.data.toList = (List.replicate 32 0, false)) := Lib.hid (UH_short (by rw [← HSz.out]; exact hl))
   clear hl
   go_enter Tryd.func61, Tryd.ntmps61
   go_wp2_with (refine wpList_store_blk rfl 25 (.tmp 2) (.tmp 13) rfl w.heap.size rfl (hashA (List.replicate 32 0)) rfl 25 _ (S0.out.at_ (l1 := [_])) (by rw [HZ.out]; exact Tryd.infoHashP) rfl HZO.out ?_; intro w4 b4 k4; have S4 := Lib.hid (Held.setBlk (l1 := [_]) S0.out b4 k4); clear b4 k4)
   refine bodyPost_ret (results_cell_tmp (by rfl) rfl (S4.out.at_ (l1 := [_])) Tryd.underlying25 rfl (by rw [HZ.out]; exact Tryd.infoHashP)) rfl ?_
   exact ⟨by rw [HR.out]; rfl, S4.out.k⟩
end
/- Regions and loops as theorems of their own, over an ABSTRACT frame 'a': code is taken out of the function by its number; what the frame holds is told slot by slot ('Sl'), what a region leaves alone by 'Same'. -/
section
def regOf (n : Nat) : Code → Option (Array Oper)
 | .region id ops _ => if id = n then some ops else none
 | .seq a b => match regOf n a with
  | some x => some x
  | none => regOf n b
 | .cond _ a b => match regOf n a with
  | some x => some x
  | none => regOf n b
 | .block _ c => regOf n c
 | .loop c => regOf n c
 | .scope c => regOf n c
 | .rangeFunc _ _ a b => match regOf n a with
  | some x => some x
  | none => regOf n b
 | _ => none
def opsOf (n : Nat) (f : Func) : List Oper := match f.body with
 | some c => match regOf n c with
  | some x => x.toList
  | none => []
 | none => []
def blkOf (n : Nat) : Code → Option Code
 | .block id c => if id = n then some c else blkOf n c
 | .seq a b => match blkOf n a with
  | some x => some x
  | none => blkOf n b
 | .cond _ a b => match blkOf n a with
  | some x => some x
  | none => blkOf n b
 | .loop c => blkOf n c
 | .scope c => blkOf n c
 | .rangeFunc _ _ a b => match blkOf n a with
  | some x => some x
  | none => blkOf n b
 | _ => none
def blockOf (n : Nat) (f : Func) : Code := match f.body with
 | some c => (blkOf n c).getD .skip
 | none => .skip
def hasReg (n : Nat) : Code → Bool
 | .region id _ _ => id == n
 | .seq a b => hasReg n a || hasReg n b
 | .cond _ a b => hasReg n a || hasReg n b
 | .block _ c => hasReg n c
 | .loop c => hasReg n c
 | .scope c => hasReg n c
 | .rangeFunc _ _ a b => hasReg n a || hasReg n b
 | _ => false
def tailIn (n : Nat) : Code → Code
 | .seq a b => if hasReg n a then b else tailIn n b
 | c => c
def tailOf (n : Nat) (f : Func) : Code := match f.body with
 | some c => tailIn n c
 | none => .skip
def putD : List (Nat × Value) → Act → Act
 | [], a => a
 | (d, v) :: l, a => putD l (a.put (some d) v)
def Sl (a : Act) (d : Nat) (v : Value) : Prop := ∀ h : d < a.tmps.size, a.tmps[d]'h = v
structure Same (a a' : Act) (ds : List Nat) : Prop where
 size : a'.tmps.size = a.tmps.size
 defers : a'.defers = a.defers
 keep : ∀ d v, (ds.contains d) = false → Sl a d v → Sl a' d v
def lastD : List (Nat × Value) → Nat → Option Value
 | [], _ => none
 | (e, v) :: l, d => match lastD l d with
  | some u => some u
  | none => if e = d then some v else none
theorem sl_of {a : Act} {d : Nat} {v : Value} (h : a.tmps[d]? = some v) : Sl a d v := by
 intro hd
 rw [Array.getElem?_eq_getElem hd] at h
 exact Option.some.inj h
theorem Sl.some {a : Act} {d : Nat} {v : Value} (h : Sl a d v) (hd : d < a.tmps.size) : a.tmps[d]? = some v := by
 rw [Array.getElem?_eq_getElem hd, h hd]
theorem sl_put1 {a : Act} {d e : Nat} {v u : Value} (h : Sl a d v) (hne : e ≠ d) : Sl (a.put (some e) u) d v := by
 by_cases hd : d < a.tmps.size
 · refine sl_of ?_
   show (a.tmps.setIfInBounds e u)[d]? = _
   rw [Array.getElem?_setIfInBounds_ne hne]
   exact h.some hd
 · intro hd'
   exact absurd (by simpa [Act.put] using hd') hd
theorem putD_size : ∀ (l : List (Nat × Value)) (a : Act), (putD l a).tmps.size = a.tmps.size
 | [], _ => rfl
 | (d, v) :: l, a => by
  show (putD l (a.put (some d) v)).tmps.size = _
  rw [putD_size l]
  simp [Act.put]
theorem putD_defers : ∀ (l : List (Nat × Value)) (a : Act), (putD l a).defers = a.defers
 | [], _ => rfl
 | (d, v) :: l, a => by
  show (putD l (a.put (some d) v)).defers = _
  rw [putD_defers l]
  rfl
theorem sl_putD_out : ∀ (l : List (Nat × Value)) (a : Act) (d : Nat) (v : Value), (l.map (·.1)).contains d = false → Sl a d v → Sl (putD l a) d v
 | [], _, _, _, _, h => h
 | (e, u) :: l, a, d, v, hn, h => by
  simp only [List.map_cons, List.contains_cons, Bool.or_eq_false_iff] at hn
  exact sl_putD_out l _ d v hn.2 (sl_put1 h (fun e => by simp [e] at hn))
theorem same_putD (l : List (Nat × Value)) (a : Act) : Same a (putD l a) (l.map (·.1)) :=
 ⟨putD_size l a, putD_defers l a, fun d v hn h => sl_putD_out l a d v hn h⟩
theorem same_nil {a : Act} {ds : List Nat} : Same a { tmps := a.tmps, defers := a.defers } ds := ⟨rfl, rfl, fun _ _ _ h => h⟩
theorem same_set {a : Act} {t : Array Value} {D : List Deferred} {ds : List Nat} {d : Nat} {v : Value} (hd : ds.contains d = true) (h : Same a { tmps := t, defers := D } ds) : Same a { tmps := t.setIfInBounds d v, defers := D } ds := by
 refine ⟨by rw [← h.size]; simp, h.defers, fun e u hn hs => ?_⟩
 have h1 := h.keep e u hn hs
 have hne : d ≠ e := by
  rintro rfl
  rw [hd] at hn
  cases hn
 have := sl_put1 (u := v) h1 hne
 exact this
theorem lastD_none : ∀ (l : List (Nat × Value)) (d : Nat), lastD l d = none → (l.map (·.1)).contains d = false
 | [], _, _ => rfl
 | (e, u) :: l, d, h => by
  unfold lastD at h
  cases hl : lastD l d with
  | some x => rw [hl] at h; cases h
  | none =>
   rw [hl] at h
   simp only at h
   by_cases he : e = d
   · rw [if_pos he] at h; cases h
   · simp only [List.map_cons, List.contains_cons, Bool.or_eq_false_iff]
     exact ⟨by simpa using fun h => he h.symm, lastD_none l d hl⟩
theorem sl_putD : ∀ (l : List (Nat × Value)) (a : Act) (d : Nat) (v : Value), lastD l d = some v → Sl (putD l a) d v
 | [], _, _, _, h => by cases h
 | (e, u) :: l, a, d, v, h => by
  unfold lastD at h
  cases hl : lastD l d with
  | some x =>
   rw [hl] at h
   cases h
   exact sl_putD l _ d v hl
  | none =>
   rw [hl] at h
   simp only at h
   by_cases he : e = d
   · rw [if_pos he] at h
     cases h
     subst he
     refine sl_putD_out l _ e _ (lastD_none l e hl) ?_
     intro hd
     simp [Act.put]
   · rw [if_neg he] at h; cases h
theorem Same.trans {a b c : Act} {d1 d2 : List Nat} (h : Same a b d1) (k : Same b c d2) : Same a c (d1 ++ d2) :=
 ⟨k.size.trans h.size, k.defers.trans h.defers, fun d v hn hs => by
  rw [List.contains_eq_any_beq, List.any_append, Bool.or_eq_false_iff] at hn
  exact k.keep d v (by rw [List.contains_eq_any_beq]; exact hn.2) (h.keep d v (by rw [List.contains_eq_any_beq]; exact hn.1) hs)⟩
theorem Same.more {a b : Act} {d1 d2 : List Nat} (h : Same a b d1) (hd : (d1.all fun d => d2.contains d) = true) : Same a b d2 :=
 ⟨h.size, h.defers, fun d v hn hs => h.keep d v (by
  cases hc : d1.contains d with
  | false => rfl
  | true =>
   have := List.all_eq_true.1 hd d (by simpa using hc)
   rw [hn] at this
   cases this) hs⟩
theorem Same.refl (a : Act) (ds : List Nat) : Same a a ds := ⟨rfl, rfl, fun _ _ _ h => h⟩
theorem Sl.eval {a : Act} {d : Nat} {v : Value} (h : Sl a d v) (hd : d < a.tmps.size) : a.eval (.tmp d) = v := by
 simp only [Act.eval]
 rw [Array.getD_eq_getD_getElem?, Array.getElem?_eq_getElem hd]
 exact h hd
theorem calls_fr {P : Program} {f : FuncId} {fn : Func} {c : Code} {args : Array Value} {w : World} {R : Ending → World → Prop} (hf : P.funcs[f]? = some fn) (hb : fn.body = some c) (N : Nat) (hN : args.size + (fn.ntmps - args.size) = N)
 (h : ∀ a : Act, a.tmps.size = N → a.defers = [] → (∀ i v, args[i]? = some v → Sl a i v) → c.wp P (bodyPost P fn R) a w) : Calls P f args w R :=
 calls_of_wp hf hb (h _ (by simp only [Array.size_append, Array.size_replicate]; exact hN) rfl (fun i v hi => sl_of (by
  rw [Array.getElem?_append_left (Array.getElem?_eq_some_iff.1 hi).1]; exact hi)))
section
variable {vs : Nat → Value} {l : List Oper} {a A : Act} {d j : Nat}
theorem slot_in (hA : (fun vs => putAll vs l 0 a) vs = A) (hB : apartB l = true) (hd : d < a.tmps.size) (h : evA vs l 0 d = some (vs j)) : A.tmps[d]?.getD undef = vs j :=
 slot_is hA hB hd (by rw [h]; rfl)
theorem slot_out {v : Value} (hA : (fun vs => putAll vs l 0 a) vs = A) (hB : apartB l = true) (hd : d < a.tmps.size) (h : evA vs l 0 d = none) (o : Sl a d v) : A.tmps[d]?.getD undef = v :=
 slot_is hA hB hd (by rw [h]; exact o.eval hd)
end
theorem sH {n N : Nat} (d : Nat) (h : n = N) (hd : Nat.ble (d + 1) N = true) : d < n := Nat.lt_of_lt_of_eq (Nat.le_of_ble_eq_true hd) h.symm
theorem sV {vs : Nat → Value} {l : List Oper} {a A : Act} {N j : Nat} {v : Value} (d : Nat) (f : vs j = v) (hA : (fun vs => putAll vs l 0 a) vs = A) (hB : apartB l = true) (h : a.tmps.size = N) (hd : Nat.ble (d + 1) N = true := by rfl) (e : evA vs l 0 d = some (vs j) := by kernel_rfl) : A.tmps[d]?.getD undef = v :=
 (slot_in hA hB (sH d h hd) e).trans f
theorem sO {vs : Nat → Value} {l : List Oper} {a A : Act} {N : Nat} {v : Value} (d : Nat) (o : Sl a d v) (hA : (fun vs => putAll vs l 0 a) vs = A) (hB : apartB l = true) (h : a.tmps.size = N) (hd : Nat.ble (d + 1) N = true := by rfl) (e : evA vs l 0 d = none := by kernel_rfl) : A.tmps[d]?.getD undef = v :=
 slot_out hA hB (sH d h hd) e o
theorem Same.k {a a' : Act} {ds : List Nat} {d : Nat} {v : Value} (hs : Same a a' ds) (o : Sl a d v) (h : ds.contains d = false := by decide) : Sl a' d v := hs.keep d v h o
theorem sS {a a' : Act} {ds : List Nat} (h : Same a a' ds := by repeat (first | (with_reducible refine same_set (by decide) ?_) | (with_reducible exact same_nil))) : Same a a' ds := h
theorem sP {a : Act} {d : Nat} {v : Value} (h : Sl a d v := by unfold Sl; first | (simp [hsz]; done) | (simp [hsz]; omega)) : Sl a d v := h
theorem sP0 {a : Act} {d : Nat} {v : Value} (h : Sl a d v := by unfold Sl; simp [hsz]) : Sl a d v := h
theorem sU {vs : Nat → Value} {l : List Oper} {a A : Act} {N : Nat} (d j : Nat) (hA : (fun vs => putAll vs l 0 a) vs = A) (hB : apartB l = true) (h : a.tmps.size = N) (hd : Nat.ble (d + 1) N = true := by rfl) (e : evA vs l 0 d = some (vs j) := by kernel_rfl) : A.tmps[d]?.getD undef = vs j :=
 slot_in hA hB (sH d h hd) e
def dstL (vs : Nat → Value) : List Oper → Nat → List (Nat × Value)
 | [], _ => []
 | o :: l, k => match o.dst with
  | some d => (d, vs k) :: dstL vs l (k + 1)
  | none => dstL vs l (k + 1)
theorem putAll_eq (vs : Nat → Value) : ∀ (l : List Oper) (k : Nat) (a : Act), putAll vs l k a = putD (dstL vs l k) a
 | [], _, _ => rfl
 | o :: l, k, a => by
  unfold putAll dstL
  rw [putAll_eq vs l (k + 1)]
  cases h : o.dst <;> rfl
theorem sQ {vs : Nat → Value} {l : List Oper} {a : Act} {ds : List Nat} (h : (dstL vs l 0).map (·.1) = ds := by kernel_rfl) : Same a (putD (dstL vs l 0) a) ds := h ▸ same_putD _ a
theorem sX {vs : Nat → Value} {l : List Oper} {a : Act} {d : Nat} {v : Value} (h : lastD (dstL vs l 0) d = some v := by kernel_rfl) : Sl (putD (dstL vs l 0) a) d v := sl_putD _ a d v h
theorem sW {vs : Nat → Value} {l : List Oper} {a : Act} {d j : Nat} {v : Value} (e : vs j = v) (h : lastD (dstL vs l 0) d = some (vs j) := by kernel_rfl) : Sl (putD (dstL vs l 0) a) d v := sl_putD _ a d v (h.trans (congrArg some e))
theorem sB {a b : Nat} (h : Nat.ble a b = true := by kernel_rfl) : a ≤ b := Nat.le_of_ble_eq_true h
theorem kR {S : List Nat} {w : World} : Kp S w w := Kp.refl S w
end
/- Block of sha: the words. -/
section
open Go.RowKit
theorem u32_cell {w : World} {g : Nat} {t : TypeId} {l : List Nat} (h : Blk w g t (u32A l)) (i x : Nat) (hx : l[i]? = some x) : w.cell? ⟨g, i, none⟩ = some (.int .u32 (x : Int)) := by
 rw [h.cell i, show (u32A l)[i]? = (u32L l)[i]? from by simp [u32A], u32L_get, hx]
 rfl
def pz (l : List Nat) : List Nat := l ++ List.replicate (64 - l.length) 0
theorem pz_length {l : List Nat} (h : l.length ≤ 64) : (pz l).length = 64 := by unfold pz; rw [List.length_append, List.length_replicate]; omega
theorem pz_at {l : List Nat} {i x : Nat} (h : l[i]? = some x) : (pz l)[i]? = some x := by
 unfold pz
 rw [List.getElem?_append_left (List.getElem?_eq_some_iff.1 h).1]; exact h
theorem pz_next {l : List Nat} (h : l.length < 64) (x : Nat) : (pz l).set l.length x = pz (l ++ [x]) := by
 unfold pz
 rw [List.set_append_right _ _ (Nat.le_refl _), Nat.sub_self, show 64 - l.length = (64 - (l ++ [x]).length) + 1 from by simp; omega, List.replicate_succ, List.set_cons_zero]
 simp
theorem bytes_rd {w : World} {g : Nat} {t : TypeId} {b : List UInt8} (h : Blk w g t (hashA b)) (k : Nat) (hk : k ≤ b.length) (hb : b.length ≤ 1000) : Rd w 1 (.slice (some ⟨g, k, none⟩) (b.length - k) (b.length - k)) (b.length - k) (bv (b.drop k)) := by
 refine ⟨by rw [bv_length, List.length_drop]; omega, _, _, rfl, Nat.le_refl _, by unfold maxLen; omega, (fun h => by cases h), fun ad had j u hu => ?_⟩
 cases had
 have h2 : (bv b)[k + j]? = some u := by
  rw [bv_get] at hu ⊢
  rw [List.getElem?_drop] at hu
  exact hu
 rw [show ((⟨g, k, none⟩ : Addr).add j) = ⟨g, k + j, none⟩ from by unfold Addr.add; split <;> simp <;> omega, h.cell, show (hashA b)[k + j]? = (bv b)[k + j]? from by simp [hashA]]
 exact h2
theorem wsN_next16 (b : List UInt8) {k : Nat} (hk : k < 16) : wsN b (k + 1) = wsN b k ++ [num ((b.drop (4 * k)).take 4)] := by
 show wsN b k ++ [if k < 16 then _ else _] = _
 rw [if_pos hk]
theorem wsN_next48 (b : List UInt8) (j : Nat) : wsN b (j + 16 + 1) = wsN b (j + 16) ++ [((wsN b (j + 16)).getD j 0 + sg0 ((wsN b (j + 16)).getD (j + 1) 0) + (wsN b (j + 16)).getD (j + 9) 0 + sg1 ((wsN b (j + 16)).getD (j + 14) 0)) % 4294967296] := by
 show wsN b (j + 16) ++ [if j + 16 < 16 then _ else _] = _
 rw [if_neg (by omega), show j + 16 - 16 = j from by omega, show j + 16 - 15 = j + 1 from by omega, show j + 16 - 7 = j + 9 from by omega, show j + 16 - 2 = j + 14 from by omega]
theorem getD_at {l : List Nat} {i : Nat} (h : i < l.length) : l[i]? = some (l.getD i 0) := by
 rw [List.getD_eq_getElem?_getD, List.getElem?_eq_getElem h]
 rfl
theorem Tryd.len64u8 : Tryd.prog.arrayLen 76 = 64 := by kernel_rfl
theorem Tryd.slice64 (g : Nat) (w : World) (k : Nat) (z : Int) (hz : z = k) (hk : k < 64) : (Instr.sliceAt 76 (.pointer (some ⟨g, 0, none⟩)) (some (.int .i64 z)) none none).run Tryd.prog w = .ok (.slice (some ⟨g, k, none⟩) (64 - k) (64 - k)) w := by
 subst hz
 obtain ⟨i0, hi, hz0, hz1, hz2⟩ := info_parts Tryd.infoU8
 rw [run_sliceAt_array_l w 76 ⟨g, 0, none⟩ (by kernel_rfl) .i64 (k : Int) (by omega) (by rw [Tryd.len64u8]; omega), Tryd.len64u8, show Tryd.prog.elem 76 = 5 from by kernel_rfl]
 have e : (⟨g, 0, none⟩ : Addr).add (k * 1) = ⟨g, k, none⟩ := by unfold Addr.add; split <;> simp <;> omega
 simp only [sizeOf, typeInfo, hi, hz1, Sem.run_bind, Sem.run_pure, Result.andThen, run_program, slicedAt, Int.toNat_natCast, e]
 rw [if_neg (by omega)]
theorem list8 {l : List Nat} (h : l.length = 8) : ∃ a b c d e f g i, l = [a, b, c, d, e, f, g, i] := by
 match l, h with
 | [a, b, c, d, e, f, g, i], _ => exact ⟨a, b, c, d, e, f, g, i, rfl⟩
theorem Tryd.built8 (a b c d e f g h : Nat) : Tryd.prog.built 111 (at0N (u32L [a, b, c, d, e, f, g, h]) 0) = some (u32A [a, b, c, d, e, f, g, h]) := by
 unfold Program.built
 kernel_rfl
theorem pz_full {l : List Nat} (h : l.length = 64) : pz l = l := by unfold pz; rw [h]; simp
theorem and_lt {x y : Nat} (h : x < 4294967296) : x &&& y < 4294967296 := Nat.lt_of_le_of_lt Nat.and_le_left h
theorem not32_lt' (x : Nat) : not32 x < 4294967296 := by unfold not32; omega
end
/- Block of sha: the rounds' regions, each a theorem. -/
section
variable {Q : Exit → Act → World → Prop} {a : Act} {w : World}
open Go.RowKit
theorem sblk_r19 (g11 v0 v1 v2 v3 v4 v5 v6 v7 : Nat) (HV : Hid (∀ V, Kp [] w V → ∀ i x : Nat, [v0, v1, v2, v3, v4, v5, v6, v7][i]? = some x → V.cell? ⟨g11, i, none⟩ = some (.int .u32 (x : Int)))) (hsz : a.tmps.size = 172) (o11 : Sl a 11 (.pointer (some ⟨g11, 0, none⟩)))
 (hend : ∀ a' W, Same a a' [82, 83, 84, 85, 13, 14] → Kp [] w.drew W → Sl a' 13 (.int .u32 ((v0 : Nat) : Int)) → Sl a' 14 (.int .u32 ((v4 : Nat) : Int)) → Q .normal a' W) : (Code.region 19 (opsOf 19 Tryd.f82).toArray true).wp Tryd.prog Q a w := by
 have hap : apartB (opsOf 19 Tryd.f82) = true := by kernel_rfl
 refine wp_region_inv (l := (opsOf 19 Tryd.f82)) (fun i v W => match i with | 0 => v = .pointer (some ⟨g11, 0, none⟩) | 1 => v = .int .u32 ((v0 : Nat) : Int) | 2 => v = .pointer (some ⟨g11, 4, none⟩) | 3 => v = .int .u32 ((v4 : Nat) : Int) | 4 => v = .int .u32 ((v0 : Nat) : Int) | 5 => v = .int .u32 ((v4 : Nat) : Int) | _ => True) (by kernel_rfl) hap (by kernel_rfl) ?_ ?_ ?_
 · intro i v W W' h _
   iterate 6 (rcases i with _ | i; · exact h)
   exact h
 · refine ⟨?_, ?_, ?_, ?_, ?_, ?_, trivial⟩
   · intro vs A' W hA hW hd K hK; have e11 := sO 11 o11 hA hap hsz; clear hA hd o11; go_step; exact hK _ _ kR rfl
   · intro vs A' W hA hW hd K hK; have e82 := sV 82 (hd 0 (by kernel_rfl)) hA hap hsz; clear hA hd o11
     have c0 := HV.out W ((Kp.refl [] _).drew.trans hW (by simp)) 0 v0 rfl
     go_step; exact hK _ _ kR rfl
   · intro vs A' W hA hW hd K hK; have e11 := sO 11 o11 hA hap hsz; clear hA hd o11; go_step; exact hK _ _ kR rfl
   · intro vs A' W hA hW hd K hK; have e84 := sV 84 (hd 2 (by kernel_rfl)) hA hap hsz; clear hA hd o11
     have c0 := HV.out W ((Kp.refl [] _).drew.trans hW (by simp)) 4 v4 rfl
     go_step; exact hK _ _ kR rfl
   · intro vs A' W hA hW hd K hK; have e83 := sV 83 (hd 1 (by kernel_rfl)) hA hap hsz; clear hA hd o11; go_step; exact hK _ _ kR rfl
   · intro vs A' W hA hW hd K hK; have e85 := sV 85 (hd 3 (by kernel_rfl)) hA hap hsz; clear hA hd o11; go_step; exact hK _ _ kR rfl
 · intro vs W hW hp
   rw [putAll_eq]
   exact hend _ W sQ hW (sW (hp 4 sB)) (sW (hp 5 sB))
theorem sblk_r20 (g5 g10 g11 k v0 v1 v2 v3 v4 v5 v6 v7 kk wk : Nat) (hk : k < 64) (HV4 : Hid (v4 < 4294967296)) (HV5 : Hid (v5 < 4294967296)) (HV6 : Hid (v6 < 4294967296)) (HV : Hid (∀ V, Kp [] w V → ∀ i x : Nat, [v0, v1, v2, v3, v4, v5, v6, v7][i]? = some x → V.cell? ⟨g11, i, none⟩ = some (.int .u32 (x : Int)))) (HKt : Hid (∀ V, Kp [] w V → V.cell? ⟨g10, k, none⟩ = some (.int .u32 (kk : Int)))) (HWt : Hid (∀ V, Kp [] w V → V.cell? ⟨g5, k, none⟩ = some (.int .u32 (wk : Int)))) (hsz : a.tmps.size = 172) (o5 : Sl a 5 (.pointer (some ⟨g5, 0, none⟩))) (o10 : Sl a 10 (.pointer (some ⟨g10, 0, none⟩))) (o11 : Sl a 11 (.pointer (some ⟨g11, 0, none⟩))) (o12 : Sl a 12 (.int .i64 (k : Int))) (o14 : Sl a 14 (.int .u32 ((v4 : Nat) : Int)))
 (hend : ∀ a' W, Same a a' [86, 87, 88, 89, 90, 91, 92, 93, 94, 95, 96, 97, 98, 99, 100, 101, 102, 103, 104, 105, 106, 107, 108, 109, 110, 111, 112, 113, 114, 115, 15] → Kp [] w.drew W → Sl a' 15 (.int .u32 ((rX v4 v5 v6 v7 kk wk : Nat) : Int)) → Q .normal a' W) : (Code.region 20 (opsOf 20 Tryd.f82).toArray true).wp Tryd.prog Q a w := by
 have hap : apartB (opsOf 20 Tryd.f82) = true := by kernel_rfl
 refine wp_region_inv (l := (opsOf 20 Tryd.f82)) (fun i v W => match i with | 0 => v = .pointer (some ⟨g11, 7, none⟩) | 1 => v = .int .u32 ((v7 : Nat) : Int) | 2 => v = .int .u32 ((v4 : Nat) : Int) | 3 => v = .int .u32 ((rotr v4 6 : Nat) : Int) | 4 => v = .int .u32 ((v4 : Nat) : Int) | 5 => v = .int .u32 ((rotr v4 11 : Nat) : Int) | 6 => v = .int .u32 ((rotr v4 6 ^^^ rotr v4 11 : Nat) : Int) | 7 => v = .int .u32 ((v4 : Nat) : Int) | 8 => v = .int .u32 ((rotr v4 25 : Nat) : Int) | 9 => v = .int .u32 ((bS1 v4 : Nat) : Int) | 10 => v = .int .u32 (((v7 + bS1 v4) % 4294967296 : Nat) : Int) | 11 => v = .int .u32 ((v4 : Nat) : Int) | 12 => v = .pointer (some ⟨g11, 5, none⟩) | 13 => v = .int .u32 ((v5 : Nat) : Int) | 14 => v = .int .u32 ((v4 &&& v5 : Nat) : Int) | 15 => v = .int .u32 ((v4 : Nat) : Int) | 16 => v = .int .u32 ((not32 v4 : Nat) : Int) | 17 => v = .pointer (some ⟨g11, 6, none⟩) | 18 => v = .int .u32 ((v6 : Nat) : Int) | 19 => v = .int .u32 ((not32 v4 &&& v6 : Nat) : Int) | 20 => v = .int .u32 ((cho v4 v5 v6 : Nat) : Int) | 21 => v = .int .u32 (((v7 + bS1 v4 + cho v4 v5 v6) % 4294967296 : Nat) : Int) | 22 => v = .int .i64 (k : Int) | 23 => v = .pointer (some ⟨g10, k, none⟩) | 24 => v = .int .u32 ((kk : Nat) : Int) | 25 => v = .int .u32 (((v7 + bS1 v4 + cho v4 v5 v6 + kk) % 4294967296 : Nat) : Int) | 26 => v = .int .i64 (k : Int) | 27 => v = .pointer (some ⟨g5, k, none⟩) | 28 => v = .int .u32 ((wk : Nat) : Int) | 29 => v = .int .u32 ((rX v4 v5 v6 v7 kk wk : Nat) : Int) | 30 => v = .int .u32 ((rX v4 v5 v6 v7 kk wk : Nat) : Int) | _ => True) (by kernel_rfl) hap (by kernel_rfl) ?_ ?_ ?_
 · intro i v W W' h _
   iterate 31 (rcases i with _ | i; · exact h)
   exact h
 · refine ⟨?_, ?_, ?_, ?_, ?_, ?_, ?_, ?_, ?_, ?_, ?_, ?_, ?_, ?_, ?_, ?_, ?_, ?_, ?_, ?_, ?_, ?_, ?_, ?_, ?_, ?_, ?_, ?_, ?_, ?_, ?_, trivial⟩
   · intro vs A' W hA hW hd K hK; have e11 := sO 11 o11 hA hap hsz; clear hA hd o5 o10 o11 o12 o14; go_step; exact hK _ _ kR rfl
   · intro vs A' W hA hW hd K hK; have e86 := sV 86 (hd 0 (by kernel_rfl)) hA hap hsz; clear hA hd o5 o10 o11 o12 o14
     have c0 := HV.out W ((Kp.refl [] _).drew.trans hW (by simp)) 7 v7 rfl
     go_step; exact hK _ _ kR rfl
   · intro vs A' W hA hW hd K hK; have e14 := sO 14 o14 hA hap hsz; clear hA hd o5 o10 o11 o12 o14; go_step; exact hK _ _ kR rfl
   · intro vs A' W hA hW hd K hK; have e88 := sV 88 (hd 2 (by kernel_rfl)) hA hap hsz; clear hA hd o5 o10 o11 o12 o14; go_step
     refine (srot_any v4 6 6 rfl HV4.out (by unfold rotK; omega) W).mono ?_
     rintro e w' ⟨rfl, rfl⟩
     exact hK _ _ kR rfl
   · intro vs A' W hA hW hd K hK; have e14 := sO 14 o14 hA hap hsz; clear hA hd o5 o10 o11 o12 o14; go_step; exact hK _ _ kR rfl
   · intro vs A' W hA hW hd K hK; have e90 := sV 90 (hd 4 (by kernel_rfl)) hA hap hsz; clear hA hd o5 o10 o11 o12 o14; go_step
     refine (srot_any v4 11 11 rfl HV4.out (by unfold rotK; omega) W).mono ?_
     rintro e w' ⟨rfl, rfl⟩
     exact hK _ _ kR rfl
   · intro vs A' W hA hW hd K hK; have e89 := sV 89 (hd 3 (by kernel_rfl)) hA hap hsz; have e91 := sV 91 (hd 5 (by kernel_rfl)) hA hap hsz; clear hA hd o5 o10 o11 o12 o14; go_step
     exact hK _ _ kR (congrArg (Value.int .u32) (u32_x _ _ (rotr_lt HV4.out) (rotr_lt HV4.out)))
   · intro vs A' W hA hW hd K hK; have e14 := sO 14 o14 hA hap hsz; clear hA hd o5 o10 o11 o12 o14; go_step; exact hK _ _ kR rfl
   · intro vs A' W hA hW hd K hK; have e93 := sV 93 (hd 7 (by kernel_rfl)) hA hap hsz; clear hA hd o5 o10 o11 o12 o14; go_step
     refine (srot_any v4 25 25 rfl HV4.out (by unfold rotK; omega) W).mono ?_
     rintro e w' ⟨rfl, rfl⟩
     exact hK _ _ kR rfl
   · intro vs A' W hA hW hd K hK; have e92 := sV 92 (hd 6 (by kernel_rfl)) hA hap hsz; have e94 := sV 94 (hd 8 (by kernel_rfl)) hA hap hsz; clear hA hd o5 o10 o11 o12 o14; go_step
     exact hK _ _ kR (congrArg (Value.int .u32) (u32_x _ _ (xor_lt (rotr_lt HV4.out) (rotr_lt HV4.out)) (rotr_lt HV4.out)))
   · intro vs A' W hA hW hd K hK; have e87 := sV 87 (hd 1 (by kernel_rfl)) hA hap hsz; have e95 := sV 95 (hd 9 (by kernel_rfl)) hA hap hsz; clear hA hd o5 o10 o11 o12 o14; go_step
     exact hK _ _ kR (congrArg (Value.int .u32) (by first | omega | rfl))
   · intro vs A' W hA hW hd K hK; have e14 := sO 14 o14 hA hap hsz; clear hA hd o5 o10 o11 o12 o14; go_step; exact hK _ _ kR rfl
   · intro vs A' W hA hW hd K hK; have e11 := sO 11 o11 hA hap hsz; clear hA hd o5 o10 o11 o12 o14; go_step; exact hK _ _ kR rfl
   · intro vs A' W hA hW hd K hK; have e98 := sV 98 (hd 12 (by kernel_rfl)) hA hap hsz; clear hA hd o5 o10 o11 o12 o14
     have c0 := HV.out W ((Kp.refl [] _).drew.trans hW (by simp)) 5 v5 rfl
     go_step; exact hK _ _ kR rfl
   · intro vs A' W hA hW hd K hK; have e97 := sV 97 (hd 11 (by kernel_rfl)) hA hap hsz; have e99 := sV 99 (hd 13 (by kernel_rfl)) hA hap hsz; clear hA hd o5 o10 o11 o12 o14; go_step
     exact hK _ _ kR (congrArg (Value.int .u32) (u32_and_nat _ _ HV4.out HV5.out))
   · intro vs A' W hA hW hd K hK; have e14 := sO 14 o14 hA hap hsz; clear hA hd o5 o10 o11 o12 o14; go_step; exact hK _ _ kR rfl
   · intro vs A' W hA hW hd K hK; have e101 := sV 101 (hd 15 (by kernel_rfl)) hA hap hsz; clear hA hd o5 o10 o11 o12 o14; go_step
     exact hK _ _ kR (congrArg (Value.int .u32) (u32_not v4 HV4.out))
   · intro vs A' W hA hW hd K hK; have e11 := sO 11 o11 hA hap hsz; clear hA hd o5 o10 o11 o12 o14; go_step; exact hK _ _ kR rfl
   · intro vs A' W hA hW hd K hK; have e103 := sV 103 (hd 17 (by kernel_rfl)) hA hap hsz; clear hA hd o5 o10 o11 o12 o14
     have c0 := HV.out W ((Kp.refl [] _).drew.trans hW (by simp)) 6 v6 rfl
     go_step; exact hK _ _ kR rfl
   · intro vs A' W hA hW hd K hK; have e102 := sV 102 (hd 16 (by kernel_rfl)) hA hap hsz; have e104 := sV 104 (hd 18 (by kernel_rfl)) hA hap hsz; clear hA hd o5 o10 o11 o12 o14; go_step
     exact hK _ _ kR (congrArg (Value.int .u32) (u32_and_nat _ _ (not32_lt' v4) HV6.out))
   · intro vs A' W hA hW hd K hK; have e100 := sV 100 (hd 14 (by kernel_rfl)) hA hap hsz; have e105 := sV 105 (hd 19 (by kernel_rfl)) hA hap hsz; clear hA hd o5 o10 o11 o12 o14; go_step
     exact hK _ _ kR (congrArg (Value.int .u32) (u32_x _ _ (and_lt HV4.out) (and_lt (not32_lt' v4))))
   · intro vs A' W hA hW hd K hK; have e96 := sV 96 (hd 10 (by kernel_rfl)) hA hap hsz; have e106 := sV 106 (hd 20 (by kernel_rfl)) hA hap hsz; clear hA hd o5 o10 o11 o12 o14; go_step
     exact hK _ _ kR (congrArg (Value.int .u32) (by first | omega | rfl))
   · intro vs A' W hA hW hd K hK; have e12 := sO 12 o12 hA hap hsz; clear hA hd o5 o10 o11 o12 o14; go_step; exact hK _ _ kR rfl
   · intro vs A' W hA hW hd K hK; have e10 := sO 10 o10 hA hap hsz; have e108 := sV 108 (hd 22 (by kernel_rfl)) hA hap hsz; clear hA hd o5 o10 o11 o12 o14
     have h0 : 0 ≤ (k : Int) := by omega
     have h1 : (k : Int) < 64 := by omega
     go_step; exact hK _ _ kR rfl
   · intro vs A' W hA hW hd K hK; have e109 := sV 109 (hd 23 (by kernel_rfl)) hA hap hsz; clear hA hd o5 o10 o11 o12 o14
     have c0 := HKt.out W ((Kp.refl [] _).drew.trans hW (by simp))
     go_step; exact hK _ _ kR rfl
   · intro vs A' W hA hW hd K hK; have e107 := sV 107 (hd 21 (by kernel_rfl)) hA hap hsz; have e110 := sV 110 (hd 24 (by kernel_rfl)) hA hap hsz; clear hA hd o5 o10 o11 o12 o14; go_step
     exact hK _ _ kR (congrArg (Value.int .u32) (by first | omega | rfl))
   · intro vs A' W hA hW hd K hK; have e12 := sO 12 o12 hA hap hsz; clear hA hd o5 o10 o11 o12 o14; go_step; exact hK _ _ kR rfl
   · intro vs A' W hA hW hd K hK; have e5 := sO 5 o5 hA hap hsz; have e112 := sV 112 (hd 26 (by kernel_rfl)) hA hap hsz; clear hA hd o5 o10 o11 o12 o14
     have h0 : 0 ≤ (k : Int) := by omega
     have h1 : (k : Int) < 64 := by omega
     go_step; exact hK _ _ kR rfl
   · intro vs A' W hA hW hd K hK; have e113 := sV 113 (hd 27 (by kernel_rfl)) hA hap hsz; clear hA hd o5 o10 o11 o12 o14
     have c0 := HWt.out W ((Kp.refl [] _).drew.trans hW (by simp))
     go_step; exact hK _ _ kR rfl
   · intro vs A' W hA hW hd K hK; have e111 := sV 111 (hd 25 (by kernel_rfl)) hA hap hsz; have e114 := sV 114 (hd 28 (by kernel_rfl)) hA hap hsz; clear hA hd o5 o10 o11 o12 o14; go_step
     exact hK _ _ kR (congrArg (Value.int .u32) (by unfold rX; omega))
   · intro vs A' W hA hW hd K hK; have e115 := sV 115 (hd 29 (by kernel_rfl)) hA hap hsz; clear hA hd o5 o10 o11 o12 o14; go_step; exact hK _ _ kR rfl
 · intro vs W hW hp
   rw [putAll_eq]
   exact hend _ W sQ hW (sW (hp 30 sB))
theorem sblk_r21 (g11 v0 v1 v2 v3 v4 v5 v6 v7 : Nat) (HV0 : Hid (v0 < 4294967296)) (HV1 : Hid (v1 < 4294967296)) (HV2 : Hid (v2 < 4294967296)) (HV : Hid (∀ V, Kp [] w V → ∀ i x : Nat, [v0, v1, v2, v3, v4, v5, v6, v7][i]? = some x → V.cell? ⟨g11, i, none⟩ = some (.int .u32 (x : Int)))) (hsz : a.tmps.size = 172) (o11 : Sl a 11 (.pointer (some ⟨g11, 0, none⟩))) (o13 : Sl a 13 (.int .u32 ((v0 : Nat) : Int)))
 (hend : ∀ a' W, Same a a' [116, 117, 118, 119, 120, 121, 122, 123, 124, 125, 126, 127, 128, 129, 130, 131, 132, 133, 134, 135, 136, 137, 138, 139, 16] → Kp [] w.drew W → Sl a' 16 (.int .u32 ((rY v0 v1 v2 : Nat) : Int)) → Q .normal a' W) : (Code.region 21 (opsOf 21 Tryd.f82).toArray true).wp Tryd.prog Q a w := by
 have hap : apartB (opsOf 21 Tryd.f82) = true := by kernel_rfl
 refine wp_region_inv (l := (opsOf 21 Tryd.f82)) (fun i v W => match i with | 0 => v = .int .u32 ((v0 : Nat) : Int) | 1 => v = .int .u32 ((rotr v0 2 : Nat) : Int) | 2 => v = .int .u32 ((v0 : Nat) : Int) | 3 => v = .int .u32 ((rotr v0 13 : Nat) : Int) | 4 => v = .int .u32 ((rotr v0 2 ^^^ rotr v0 13 : Nat) : Int) | 5 => v = .int .u32 ((v0 : Nat) : Int) | 6 => v = .int .u32 ((rotr v0 22 : Nat) : Int) | 7 => v = .int .u32 ((bS0 v0 : Nat) : Int) | 8 => v = .int .u32 ((v0 : Nat) : Int) | 9 => v = .pointer (some ⟨g11, 1, none⟩) | 10 => v = .int .u32 ((v1 : Nat) : Int) | 11 => v = .int .u32 ((v0 &&& v1 : Nat) : Int) | 12 => v = .int .u32 ((v0 : Nat) : Int) | 13 => v = .pointer (some ⟨g11, 2, none⟩) | 14 => v = .int .u32 ((v2 : Nat) : Int) | 15 => v = .int .u32 ((v0 &&& v2 : Nat) : Int) | 16 => v = .int .u32 (((v0 &&& v1) ^^^ (v0 &&& v2) : Nat) : Int) | 17 => v = .pointer (some ⟨g11, 1, none⟩) | 18 => v = .int .u32 ((v1 : Nat) : Int) | 19 => v = .pointer (some ⟨g11, 2, none⟩) | 20 => v = .int .u32 ((v2 : Nat) : Int) | 21 => v = .int .u32 ((v1 &&& v2 : Nat) : Int) | 22 => v = .int .u32 ((maj v0 v1 v2 : Nat) : Int) | 23 => v = .int .u32 ((rY v0 v1 v2 : Nat) : Int) | 24 => v = .int .u32 ((rY v0 v1 v2 : Nat) : Int) | _ => True) (by kernel_rfl) hap (by kernel_rfl) ?_ ?_ ?_
 · intro i v W W' h _
   iterate 25 (rcases i with _ | i; · exact h)
   exact h
 · refine ⟨?_, ?_, ?_, ?_, ?_, ?_, ?_, ?_, ?_, ?_, ?_, ?_, ?_, ?_, ?_, ?_, ?_, ?_, ?_, ?_, ?_, ?_, ?_, ?_, ?_, trivial⟩
   · intro vs A' W hA hW hd K hK; have e13 := sO 13 o13 hA hap hsz; clear hA hd o11 o13; go_step; exact hK _ _ kR rfl
   · intro vs A' W hA hW hd K hK; have e116 := sV 116 (hd 0 (by kernel_rfl)) hA hap hsz; clear hA hd o11 o13; go_step
     refine (srot_any v0 2 2 rfl HV0.out (by unfold rotK; omega) W).mono ?_
     rintro e w' ⟨rfl, rfl⟩
     exact hK _ _ kR rfl
   · intro vs A' W hA hW hd K hK; have e13 := sO 13 o13 hA hap hsz; clear hA hd o11 o13; go_step; exact hK _ _ kR rfl
   · intro vs A' W hA hW hd K hK; have e118 := sV 118 (hd 2 (by kernel_rfl)) hA hap hsz; clear hA hd o11 o13; go_step
     refine (srot_any v0 13 13 rfl HV0.out (by unfold rotK; omega) W).mono ?_
     rintro e w' ⟨rfl, rfl⟩
     exact hK _ _ kR rfl
   · intro vs A' W hA hW hd K hK; have e117 := sV 117 (hd 1 (by kernel_rfl)) hA hap hsz; have e119 := sV 119 (hd 3 (by kernel_rfl)) hA hap hsz; clear hA hd o11 o13; go_step
     exact hK _ _ kR (congrArg (Value.int .u32) (u32_x _ _ (rotr_lt HV0.out) (rotr_lt HV0.out)))
   · intro vs A' W hA hW hd K hK; have e13 := sO 13 o13 hA hap hsz; clear hA hd o11 o13; go_step; exact hK _ _ kR rfl
   · intro vs A' W hA hW hd K hK; have e121 := sV 121 (hd 5 (by kernel_rfl)) hA hap hsz; clear hA hd o11 o13; go_step
     refine (srot_any v0 22 22 rfl HV0.out (by unfold rotK; omega) W).mono ?_
     rintro e w' ⟨rfl, rfl⟩
     exact hK _ _ kR rfl
   · intro vs A' W hA hW hd K hK; have e120 := sV 120 (hd 4 (by kernel_rfl)) hA hap hsz; have e122 := sV 122 (hd 6 (by kernel_rfl)) hA hap hsz; clear hA hd o11 o13; go_step
     exact hK _ _ kR (congrArg (Value.int .u32) (u32_x _ _ (xor_lt (rotr_lt HV0.out) (rotr_lt HV0.out)) (rotr_lt HV0.out)))
   · intro vs A' W hA hW hd K hK; have e13 := sO 13 o13 hA hap hsz; clear hA hd o11 o13; go_step; exact hK _ _ kR rfl
   · intro vs A' W hA hW hd K hK; have e11 := sO 11 o11 hA hap hsz; clear hA hd o11 o13; go_step; exact hK _ _ kR rfl
   · intro vs A' W hA hW hd K hK; have e125 := sV 125 (hd 9 (by kernel_rfl)) hA hap hsz; clear hA hd o11 o13
     have c0 := HV.out W ((Kp.refl [] _).drew.trans hW (by simp)) 1 v1 rfl
     go_step; exact hK _ _ kR rfl
   · intro vs A' W hA hW hd K hK; have e124 := sV 124 (hd 8 (by kernel_rfl)) hA hap hsz; have e126 := sV 126 (hd 10 (by kernel_rfl)) hA hap hsz; clear hA hd o11 o13; go_step
     exact hK _ _ kR (congrArg (Value.int .u32) (u32_and_nat _ _ HV0.out HV1.out))
   · intro vs A' W hA hW hd K hK; have e13 := sO 13 o13 hA hap hsz; clear hA hd o11 o13; go_step; exact hK _ _ kR rfl
   · intro vs A' W hA hW hd K hK; have e11 := sO 11 o11 hA hap hsz; clear hA hd o11 o13; go_step; exact hK _ _ kR rfl
   · intro vs A' W hA hW hd K hK; have e129 := sV 129 (hd 13 (by kernel_rfl)) hA hap hsz; clear hA hd o11 o13
     have c0 := HV.out W ((Kp.refl [] _).drew.trans hW (by simp)) 2 v2 rfl
     go_step; exact hK _ _ kR rfl
   · intro vs A' W hA hW hd K hK; have e128 := sV 128 (hd 12 (by kernel_rfl)) hA hap hsz; have e130 := sV 130 (hd 14 (by kernel_rfl)) hA hap hsz; clear hA hd o11 o13; go_step
     exact hK _ _ kR (congrArg (Value.int .u32) (u32_and_nat _ _ HV0.out HV2.out))
   · intro vs A' W hA hW hd K hK; have e127 := sV 127 (hd 11 (by kernel_rfl)) hA hap hsz; have e131 := sV 131 (hd 15 (by kernel_rfl)) hA hap hsz; clear hA hd o11 o13; go_step
     exact hK _ _ kR (congrArg (Value.int .u32) (u32_x _ _ (and_lt HV0.out) (and_lt HV0.out)))
   · intro vs A' W hA hW hd K hK; have e11 := sO 11 o11 hA hap hsz; clear hA hd o11 o13; go_step; exact hK _ _ kR rfl
   · intro vs A' W hA hW hd K hK; have e133 := sV 133 (hd 17 (by kernel_rfl)) hA hap hsz; clear hA hd o11 o13
     have c0 := HV.out W ((Kp.refl [] _).drew.trans hW (by simp)) 1 v1 rfl
     go_step; exact hK _ _ kR rfl
   · intro vs A' W hA hW hd K hK; have e11 := sO 11 o11 hA hap hsz; clear hA hd o11 o13; go_step; exact hK _ _ kR rfl
   · intro vs A' W hA hW hd K hK; have e135 := sV 135 (hd 19 (by kernel_rfl)) hA hap hsz; clear hA hd o11 o13
     have c0 := HV.out W ((Kp.refl [] _).drew.trans hW (by simp)) 2 v2 rfl
     go_step; exact hK _ _ kR rfl
   · intro vs A' W hA hW hd K hK; have e134 := sV 134 (hd 18 (by kernel_rfl)) hA hap hsz; have e136 := sV 136 (hd 20 (by kernel_rfl)) hA hap hsz; clear hA hd o11 o13; go_step
     exact hK _ _ kR (congrArg (Value.int .u32) (u32_and_nat _ _ HV1.out HV2.out))
   · intro vs A' W hA hW hd K hK; have e132 := sV 132 (hd 16 (by kernel_rfl)) hA hap hsz; have e137 := sV 137 (hd 21 (by kernel_rfl)) hA hap hsz; clear hA hd o11 o13; go_step
     exact hK _ _ kR (congrArg (Value.int .u32) (u32_x _ _ (xor_lt (and_lt HV0.out) (and_lt HV0.out)) (and_lt HV1.out)))
   · intro vs A' W hA hW hd K hK; have e123 := sV 123 (hd 7 (by kernel_rfl)) hA hap hsz; have e138 := sV 138 (hd 22 (by kernel_rfl)) hA hap hsz; clear hA hd o11 o13; go_step
     exact hK _ _ kR (congrArg (Value.int .u32) (by unfold rY; omega))
   · intro vs A' W hA hW hd K hK; have e139 := sV 139 (hd 23 (by kernel_rfl)) hA hap hsz; clear hA hd o11 o13; go_step; exact hK _ _ kR rfl
 · intro vs W hW hp
   rw [putAll_eq]
   exact hend _ W sQ hW (sW (hp 24 sB))
theorem sblk_r17 (k : Nat) (hsz : a.tmps.size = 172) (o79 : Sl a 79 (.int .i64 (k : Int)))
 (hend : ∀ a', Same a a' [80] → Sl a' 80 (.bool (decide ((k : Int) < 64))) → Q .normal a' (w)) : (Code.region 17 (opsOf 17 Tryd.f82).toArray false).wp Tryd.prog Q a w := by
 refine wp_region_lit ?_
 (conv => arg 4; whnf)
 unfold Sl at o79
 go_wp2_with fail
 try simp only [Act.put]
 exact hend _ sS sP
theorem sblk_r18 (k : Nat) (hsz : a.tmps.size = 172) (o79 : Sl a 79 (.int .i64 (k : Int)))
 (hend : ∀ a', Same a a' [81, 12] → Sl a' 12 (.int .i64 (k : Int)) → Q .normal a' (w)) : (Code.region 18 (opsOf 18 Tryd.f82).toArray false).wp Tryd.prog Q a w := by
 refine wp_region_lit ?_
 (conv => arg 4; whnf)
 unfold Sl at o79
 go_wp2_with fail
 try simp only [Act.put]
 exact hend _ sS sP
theorem sblk_r22 (w0 : World) (g11 v0 v1 v2 v3 v4 v5 v6 v7 x y : Nat) (L : List Res) (S : Held w0 w (blkR g11 111 (u32A [v0, v1, v2, v3, v4, v5, v6, v7]) :: L)) (hsz : a.tmps.size = 172) (o11 : Sl a 11 (.pointer (some ⟨g11, 0, none⟩))) (o13 : Sl a 13 (.int .u32 (v0 : Int))) (o14 : Sl a 14 (.int .u32 (v4 : Int))) (o15 : Sl a 15 (.int .u32 (x : Int))) (o16 : Sl a 16 (.int .u32 (y : Int)))
 (hend : ∀ a' W, Same a a' [140, 141, 142, 143, 144, 145, 146, 147, 148, 149, 150, 151, 152, 153, 154, 155, 156, 157] → (Held w0 W (blkR g11 111 (u32A [(x + y) % 4294967296, v0, v1, v2, (v3 + x) % 4294967296, v4, v5, v6]) :: L)) → Q .normal a' W) : (Code.region 22 (opsOf 22 Tryd.f82).toArray false).wp Tryd.prog Q a w := by
 refine wp_region_lit ?_
 (conv => arg 4; whnf)
 unfold Sl at o11 o13 o14 o15 o16
 have S := Lib.hid S
 have c1 := u32_cell (S.out.at_ (l1 := [])) 1 v1 rfl
 have c2 := u32_cell (S.out.at_ (l1 := [])) 2 v2 rfl
 have c3 := u32_cell (S.out.at_ (l1 := [])) 3 v3 rfl
 have c5 := u32_cell (S.out.at_ (l1 := [])) 5 v5 rfl
 have c6 := u32_cell (S.out.at_ (l1 := [])) 6 v6 rfl
 go_wp2_with (first
  | (refine wpList_buildC rfl 111 _ rfl (at0N (u32L [(x + y) % 4294967296, v0, v1, v2, (v3 + x) % 4294967296, v4, v5, v6]) 0) ?_ _ (Tryd.built8 _ _ _ _ _ _ _ _) ?_; simp [Act.eval, Act.put, hsz, at0N, u32L, o13, o14, o15, o16])
  | (refine wpList_store_blk rfl 111 (.tmp 11) (.tmp 157) rfl g11 (by simp [Act.eval, Act.put, hsz, o11]) (u32A [(x + y) % 4294967296, v0, v1, v2, (v3 + x) % 4294967296, v4, v5, v6]) (by simp [Act.eval, Act.put, hsz]) 111 _ (S.out.at_ (l1 := [])) (by rw [u32A_size]; exact Tryd.info8w) (by rw [u32A_size, u32A_size]; rfl) (u32A_one _) ?_; intro w2 b2 k2; have S2 := Lib.hid (Held.setBlk (l1 := []) S.out b2 k2); clear b2 k2))
 try simp only [Act.put]
 exact hend _ _ sS (S2.out)
theorem sblk_r23 (k : Nat) (hk : k < 64) (hsz : a.tmps.size = 172) (o79 : Sl a 79 (.int .i64 (k : Int)))
 (hend : ∀ a', Same a a' [158, 79] → Sl a' 79 (.int .i64 ((k + 1 : Nat) : Int)) → Q .normal a' (w)) : (Code.region 23 (opsOf 23 Tryd.f82).toArray false).wp Tryd.prog Q a w := by
 refine wp_region_lit ?_
 (conv => arg 4; whnf)
 unfold Sl at o79
 go_wp2_with fail
 try simp only [Act.put]
 exact hend _ sS sP
end
/- Block of sha: the rounds. -/
section
open Go.RowKit
def dsL3 : List Nat := [12, 13, 14, 15, 16, 79, 80, 81, 82, 83, 84, 85, 86, 87, 88, 89, 90, 91, 92, 93, 94, 95, 96, 97, 98, 99, 100, 101, 102, 103, 104, 105, 106, 107, 108, 109, 110, 111, 112, 113, 114, 115, 116, 117, 118, 119, 120, 121, 122, 123, 124, 125, 126, 127, 128, 129, 130, 131, 132, 133, 134, 135, 136, 137, 138, 139, 140, 141, 142, 143, 144, 145, 146, 147, 148, 149, 150, 151, 152, 153, 154, 155, 156, 157, 158]
theorem sblk_l3 {Q : Exit → Act → World → Prop} {a : Act} {w0 w : World} (st ws : List Nat) (hst : Ws st) (hsl : st.length = 8) (hwl : ws.length = 64) (g5 g10 g11 : Nat) (L : List Res) (hsz : a.tmps.size = 172)
 (o5 : Sl a 5 (.pointer (some ⟨g5, 0, none⟩))) (o10 : Sl a 10 (.pointer (some ⟨g10, 0, none⟩))) (o11 : Sl a 11 (.pointer (some ⟨g11, 0, none⟩))) (o79 : Sl a 79 (.int .i64 0))
 (S : Held w0 w (blkR g11 111 (u32A st) :: blkR g10 144 (u32A kT) :: blkR g5 144 (u32A ws) :: L))
 (hend : ∀ a' W, Same a a' dsL3 → Held w0 W (blkR g11 111 (u32A (rnds st ws 64)) :: blkR g10 144 (u32A kT) :: blkR g5 144 (u32A ws) :: L) → Q .normal a' W) :
 (Code.block 4 (blockOf 4 Tryd.f82)).wp Tryd.prog Q a w := by
 refine wp_block ?_
 (conv => arg 2; whnf)
 refine wp_loop (fun a' w' => ∃ k : Nat, k ≤ 64 ∧ Same a a' dsL3 ∧ Sl a' 79 (.int .i64 (k : Int)) ∧ Held w0 w' (blkR g11 111 (u32A (rnds st ws k)) :: blkR g10 144 (u32A kT) :: blkR g5 144 (u32A ws) :: L)) (fun a' _ => 64 - (intOf (a'.eval (.tmp 79))).toNat) ⟨0, by omega, Same.refl _ _, o79, S⟩ ?_
 clear o79 S
 rintro a1 w1 ⟨k, hk, hs, o79, S⟩
 have o5 := hs.keep 5 _ (by decide) o5
 have o10 := hs.keep 10 _ (by decide) o10
 have o11 := hs.keep 11 _ (by decide) o11
 have hz := hs.size.trans hsz
 refine wp_seq (sblk_r17 k hz o79 (fun a2 hs2 o80 => ?_))
 have e79 := o79.eval (by rw [hz]; decide)
 have hz2 := hs2.size.trans hz
 by_cases hlt : k < 64
 · refine wp_seq (wp_cond_true ((o80.eval (by rw [hz2]; decide)).trans (by rw [decide_eq_true (by omega)])) (wp_skip ?_))
   have o79 := hs2.k o79
   refine wp_seq (wp_block ?_)
   refine wp_seq (sblk_r18 k hz2 o79 (fun a3 hs3 o12 => ?_))
   have T := (hs.trans hs2).trans hs3
   have hz3 := hs3.size.trans hz2; have o79 := hs3.k o79
   have o5 := (hs2.trans hs3).keep 5 _ (by decide) o5
   have o10 := (hs2.trans hs3).keep 10 _ (by decide) o10
   have o11 := (hs2.trans hs3).keep 11 _ (by decide) o11
   have hv := rnds_length st ws k
   have hvl := rnds_lt hst ws k
   have Hnext : rnds st ws (k + 1) = rnd (rnds st ws k) (kT.getD k 0) (ws.getD k 0) := rfl
   obtain ⟨v0, v1, v2, v3, v4, v5, v6, v7, hvv⟩ := list8 (hv.trans hsl)
   rw [hvv] at hvl S Hnext
   have HV0 := Lib.hid (hvl v0 (by simp))
   have HV1 := Lib.hid (hvl v1 (by simp))
   have HV2 := Lib.hid (hvl v2 (by simp))
   have HV4 := Lib.hid (hvl v4 (by simp))
   have HV5 := Lib.hid (hvl v5 (by simp))
   have HV6 := Lib.hid (hvl v6 (by simp))
   have HV : ∀ W, Kp [] w1 W → ∀ V, Kp [] W V → ∀ i x : Nat, [v0, v1, v2, v3, v4, v5, v6, v7][i]? = some x → V.cell? ⟨g11, i, none⟩ = some (.int .u32 (x : Int)) := fun W k1 V k2 i x h => u32_cell ((S.at_ (l1 := [])).kp (k1.trans k2 (by simp)) (by simp)) i x h
   have HKt : ∀ W, Kp [] w1 W → ∀ V, Kp [] W V → V.cell? ⟨g10, k, none⟩ = some (.int .u32 ((kT.getD k 0 : Nat) : Int)) := fun W k1 V k2 => u32_cell ((S.at_ (l1 := [_])).kp (k1.trans k2 (by simp)) (by simp)) k _ (getD_at hlt)
   have HWt : ∀ W, Kp [] w1 W → ∀ V, Kp [] W V → V.cell? ⟨g5, k, none⟩ = some (.int .u32 ((ws.getD k 0 : Nat) : Int)) := fun W k1 V k2 => u32_cell ((S.at_ (l1 := [_, _])).kp (k1.trans k2 (by simp)) (by simp)) k _ (getD_at (by rw [hwl]; exact hlt))
   generalize kT.getD k 0 = kk at *
   generalize ws.getD k 0 = wk at *
   refine wp_seq (sblk_r19 g11 v0 v1 v2 v3 v4 v5 v6 v7 (Lib.hid (HV w1 kR)) hz3 o11 (fun a4 W4 hs4 k4 o13 o14 => ?_))
   have K4 : Kp [] w1 W4 := (Kp.refl [] _).drew.trans k4 (by simp)
   have hz4 := hs4.size.trans hz3; have o79 := hs4.k o79; have o12 := hs4.k o12; have o5 := hs4.k o5; have o10 := hs4.k o10; have o11 := hs4.k o11
   refine wp_seq (sblk_r20 g5 g10 g11 k v0 v1 v2 v3 v4 v5 v6 v7 kk wk hlt HV4 HV5 HV6 (Lib.hid (HV W4 K4)) (Lib.hid (HKt W4 K4)) (Lib.hid (HWt W4 K4)) hz4 o5 o10 o11 o12 o14 (fun a5 W5 hs5 k5 o15 => ?_))
   have K5 : Kp [] w1 W5 := (K4.trans (Kp.refl [] _).drew (by simp)).trans k5 (by simp)
   have hz5 := hs5.size.trans hz4; have o79 := hs5.k o79; have o13 := hs5.k o13; have o14 := hs5.k o14; have o11 := hs5.k o11
   refine wp_seq (sblk_r21 g11 v0 v1 v2 v3 v4 v5 v6 v7 HV0 HV1 HV2 (Lib.hid (HV W5 K5)) hz5 o11 o13 (fun a6 W6 hs6 k6 o16 => ?_))
   have K6 : Kp [] w1 W6 := (K5.trans (Kp.refl [] _).drew (by simp)).trans k6 (by simp)
   have hz6 := hs6.size.trans hz5; have o79 := hs6.k o79; have o13 := hs6.k o13; have o14 := hs6.k o14; have o15 := hs6.k o15; have o11 := hs6.k o11
   refine sblk_r22 w0 g11 v0 v1 v2 v3 v4 v5 v6 v7 _ _ _ (S.kp K6) hz6 o11 o13 o14 o15 o16 (fun a7 W7 hs7 S7 => ?_)
   have hz7 := hs7.size.trans hz6; have o79 := hs7.k o79
   refine sblk_r23 k hlt hz7 o79 (fun a8 hs8 o79 => ?_)
   have hz8 := hs8.size.trans hz7
   refine ⟨⟨k + 1, by omega, ?_, o79, ?_⟩, ?_⟩
   · refine ((((((T.trans hs4).trans hs5).trans hs6).trans hs7).trans hs8)).more ?_
     decide +kernel
   · rw [Hnext]
     exact S7
   · show 64 - (intOf (a8.eval (.tmp 79))).toNat < 64 - (intOf (a1.eval (.tmp 79))).toNat
     rw [e79, o79.eval (by rw [hz8]; decide)]
     simp [intOf]; omega
 · obtain rfl : k = 64 := by omega
   refine wp_seq (wp_cond_false ((o80.eval (by rw [hz2]; decide)).trans (by rw [decide_eq_false (by omega)])) (wp_exit ?_))
   refine hend _ _ ((hs.trans hs2).more (by decide +kernel)) S
end
/- Block of sha: the words' regions, each a theorem. -/
section
variable {Q : Exit → Act → World → Prop} {a : Act} {w : World}
open Go.RowKit
theorem sblk_r3 (k : Nat) (hsz : a.tmps.size = 172) (o18 : Sl a 18 (.int .i64 (k : Int)))
 (hend : ∀ a', Same a a' [19] → Sl a' 19 (.bool (decide ((k : Int) < 16))) → Q .normal a' (w)) : (Code.region 3 (opsOf 3 Tryd.f82).toArray false).wp Tryd.prog Q a w := by
 refine wp_region_lit ?_
 (conv => arg 4; whnf)
 unfold Sl at o18
 go_wp2_with fail
 try simp only [Act.put]
 exact hend _ sS sP
theorem sblk_r4 (k : Nat) (hsz : a.tmps.size = 172) (o18 : Sl a 18 (.int .i64 (k : Int)))
 (hend : ∀ a', Same a a' [20, 6] → Sl a' 6 (.int .i64 (k : Int)) → Q .normal a' (w)) : (Code.region 4 (opsOf 4 Tryd.f82).toArray false).wp Tryd.prog Q a w := by
 refine wp_region_lit ?_
 (conv => arg 4; whnf)
 unfold Sl at o18
 go_wp2_with fail
 try simp only [Act.put]
 exact hend _ sS sP
theorem sblk_r5 (w0 : World) (k g5 g3 : Nat) (L : List Nat) (b : List UInt8) (R : List Res) (hlt : k < 16) (hbl : b.length = 64) (hL : L.length = k) (S : Held w0 w (blkR g5 144 (u32A (pz L)) :: blkR g3 76 (hashA b) :: R)) (hsz : a.tmps.size = 172) (o3 : Sl a 3 (.pointer (some ⟨g3, 0, none⟩))) (o5 : Sl a 5 (.pointer (some ⟨g5, 0, none⟩))) (o6 : Sl a 6 (.int .i64 (k : Int)))
 (hend : ∀ a' W, Same a a' [21, 22, 23, 24, 25, 26] → (Held w0 W (blkR g5 144 (u32A (pz (L ++ [num ((b.drop (4 * k)).take 4)]))) :: blkR g3 76 (hashA b) :: R)) → Q .normal a' W) : (Code.region 5 (opsOf 5 Tryd.f82).toArray false).wp Tryd.prog Q a w := by
 refine wp_region_lit ?_
 (conv => arg 4; whnf)
 unfold Sl at o3 o5 o6
 have S := Lib.hid S
 have HBl := Lib.hid hbl
 have HP := Lib.hid (pz_next (l := L) (by omega) (num ((b.drop (4 * k)).take 4)))
 rw [hL] at HP
 have HR : Hid (Calls Tryd.prog 97 #[.slice (some ⟨g3, 4 * k, none⟩) (64 - 4 * k) (64 - 4 * k)] w fun e w' => e = .returned (.int .u32 ((num ((b.drop (4 * k)).take 4) : Nat) : Int)) ∧ w = w') := Lib.hid (by
  have := bytes_rd (S.out.at_ (l1 := [_])) (4 * k) (by rw [hbl]; omega) (by rw [hbl]; omega)
  rw [hbl] at this
  exact word_any _ _ _ (by omega) w this)
 generalize num ((b.drop (4 * k)).take 4) = nw at *
 have hpl : k < (pz L).length := by rw [pz_length (by omega)]; omega
 have q1 := u32_cell (S.out.at_ (l1 := [])) k _ (getD_at hpl)
 have q2 := (S.out.at_ (l1 := [])).frozen k
 have q3 := (S.out.at_ (l1 := [])).lt
 have S2 : Hid (Held w0 (w.setCell ⟨g5, k, none⟩ (.int .u32 (nw : Int))) _) := Lib.hid (S.out.set (l1 := []) k (.int .u32 (nw : Int)))
 rw [u32A_set, HP.out] at S2
 clear hpl hL hbl
 have hs := Tryd.slice64 g3 w (4 * k) (4 * (k : Int)) (by omega) (by omega)
 go_wp2_with fail
 refine HR.out.mono ?_
 rintro e w' ⟨rfl, rfl⟩
 go_wp2
 try simp only [Act.put]
 exact hend _ _ sS (S2.out)
theorem sblk_r6 (k : Nat) (hk : k < 16) (hsz : a.tmps.size = 172) (o18 : Sl a 18 (.int .i64 (k : Int)))
 (hend : ∀ a', Same a a' [27, 18] → Sl a' 18 (.int .i64 ((k + 1 : Nat) : Int)) → Q .normal a' (w)) : (Code.region 6 (opsOf 6 Tryd.f82).toArray false).wp Tryd.prog Q a w := by
 refine wp_region_lit ?_
 (conv => arg 4; whnf)
 unfold Sl at o18
 go_wp2_with fail
 try simp only [Act.put]
 exact hend _ sS sP
theorem sblk_r8 (n : Nat) (hsz : a.tmps.size = 172) (o7 : Sl a 7 (.int .i64 (n : Int)))
 (hend : ∀ a', Same a a' [28, 29] → Sl a' 29 (.bool (decide ((n : Int) < 64))) → Q .normal a' (w)) : (Code.region 8 (opsOf 8 Tryd.f82).toArray false).wp Tryd.prog Q a w := by
 refine wp_region_lit ?_
 (conv => arg 4; whnf)
 unfold Sl at o7
 go_wp2_with fail
 try simp only [Act.put]
 exact hend _ sS sP
theorem sblk_r9 (n : Nat) (hn : n < 64) (hsz : a.tmps.size = 172) (o7 : Sl a 7 (.int .i64 (n : Int)))
 (hend : ∀ a', Same a a' [30, 31, 7] → Sl a' 7 (.int .i64 ((n + 1 : Nat) : Int)) → Q .normal a' (w)) : (Code.region 9 (opsOf 9 Tryd.f82).toArray false).wp Tryd.prog Q a w := by
 refine wp_region_lit ?_
 (conv => arg 4; whnf)
 unfold Sl at o7
 go_wp2_with fail
 try simp only [Act.put]
 exact hend _ sS sP
theorem sblk_r10 (j g5 x y : Nat) (L : List Nat) (hlt : j < 48) (HX : Hid (L[j + 1]? = some x)) (HY : Hid (L[j + 14]? = some y)) (HW : Hid (∀ V, Kp [] w V → ∀ i x : Nat, L[i]? = some x → V.cell? ⟨g5, i, none⟩ = some (.int .u32 (x : Int)))) (hsz : a.tmps.size = 172) (o5 : Sl a 5 (.pointer (some ⟨g5, 0, none⟩))) (o7 : Sl a 7 (.int .i64 ((j + 16 : Nat) : Int)))
 (hend : ∀ a' W, Same a a' [32, 33, 34, 35, 36, 37, 38, 39, 8, 9] → Kp [] w.drew W → Sl a' 8 (.int .u32 (x : Int)) → Sl a' 9 (.int .u32 (y : Int)) → Q .normal a' W) : (Code.region 10 (opsOf 10 Tryd.f82).toArray true).wp Tryd.prog Q a w := by
 have hap : apartB (opsOf 10 Tryd.f82) = true := by kernel_rfl
 refine wp_region_inv (l := (opsOf 10 Tryd.f82)) (fun i v W => match i with | 0 => v = .int .i64 ((j + 16 : Nat) : Int) | 1 => v = .int .i64 ((j + 1 : Nat) : Int) | 2 => v = .pointer (some ⟨g5, j + 1, none⟩) | 3 => v = .int .u32 (x : Int) | 4 => v = .int .i64 ((j + 16 : Nat) : Int) | 5 => v = .int .i64 ((j + 14 : Nat) : Int) | 6 => v = .pointer (some ⟨g5, j + 14, none⟩) | 7 => v = .int .u32 (y : Int) | 8 => v = .int .u32 (x : Int) | 9 => v = .int .u32 (y : Int) | _ => True) (by kernel_rfl) hap (by kernel_rfl) ?_ ?_ ?_
 · intro i v W W' h _
   iterate 10 (rcases i with _ | i; · exact h)
   exact h
 · refine ⟨?_, ?_, ?_, ?_, ?_, ?_, ?_, ?_, ?_, ?_, trivial⟩
   · intro vs A' W hA hW hd K hK; have e7 := sO 7 o7 hA hap hsz; clear hA hd o5 o7; go_step; exact hK _ _ kR rfl
   · intro vs A' W hA hW hd K hK; have e32 := sV 32 (hd 0 (by kernel_rfl)) hA hap hsz; clear hA hd o5 o7; go_step
     exact hK _ _ kR (congrArg (Value.int .i64) (by first | omega | (unfold wrap64; omega)))
   · intro vs A' W hA hW hd K hK; have e5 := sO 5 o5 hA hap hsz; have e33 := sV 33 (hd 1 (by kernel_rfl)) hA hap hsz; clear hA hd o5 o7
     have h0 : 0 ≤ (j : Int) + 1 := by omega
     have h1 : (j : Int) + 1 < 64 := by omega
     go_step; exact hK _ _ kR rfl
   · intro vs A' W hA hW hd K hK; have e34 := sV 34 (hd 2 (by kernel_rfl)) hA hap hsz; clear hA hd o5 o7
     have c0 := HW.out W ((Kp.refl [] _).drew.trans hW (by simp)) (j + 1) x HX.out
     go_step; exact hK _ _ kR rfl
   · intro vs A' W hA hW hd K hK; have e7 := sO 7 o7 hA hap hsz; clear hA hd o5 o7; go_step; exact hK _ _ kR rfl
   · intro vs A' W hA hW hd K hK; have e36 := sV 36 (hd 4 (by kernel_rfl)) hA hap hsz; clear hA hd o5 o7; go_step
     exact hK _ _ kR (congrArg (Value.int .i64) (by first | omega | (unfold wrap64; omega)))
   · intro vs A' W hA hW hd K hK; have e5 := sO 5 o5 hA hap hsz; have e37 := sV 37 (hd 5 (by kernel_rfl)) hA hap hsz; clear hA hd o5 o7
     have h0 : 0 ≤ (j : Int) + 14 := by omega
     have h1 : (j : Int) + 14 < 64 := by omega
     go_step; exact hK _ _ kR rfl
   · intro vs A' W hA hW hd K hK; have e38 := sV 38 (hd 6 (by kernel_rfl)) hA hap hsz; clear hA hd o5 o7
     have c0 := HW.out W ((Kp.refl [] _).drew.trans hW (by simp)) (j + 14) y HY.out
     go_step; exact hK _ _ kR rfl
   · intro vs A' W hA hW hd K hK; have e35 := sV 35 (hd 3 (by kernel_rfl)) hA hap hsz; clear hA hd o5 o7; go_step; exact hK _ _ kR rfl
   · intro vs A' W hA hW hd K hK; have e39 := sV 39 (hd 7 (by kernel_rfl)) hA hap hsz; clear hA hd o5 o7; go_step; exact hK _ _ kR rfl
 · intro vs W hW hp
   rw [putAll_eq]
   exact hend _ W sQ hW (sW (hp 8 sB)) (sW (hp 9 sB))
theorem sblk_r11 (w0 : World) (j g5 : Nat) (L : List Nat) (R : List Res) (hlt : j < 48) (a1 c m : Nat) (HA : L[j]? = some a1) (HC : L[j + 9]? = some c) (HM : L[j + 16]? = some m) (hsz : a.tmps.size = 172) (o5 : Sl a 5 (.pointer (some ⟨g5, 0, none⟩))) (o7 : Sl a 7 (.int .i64 ((j + 16 : Nat) : Int)))
 (S0 : Held w0 w (blkR g5 144 (u32A L) :: R))
 (hend : ∀ a' W, Same a a' [40, 41, 42, 43, 44, 45, 46, 47, 48, 49, 50] → Held w0 W (blkR g5 144 (u32A (L.set (j + 16) ((a1 + c) % 4294967296))) :: R) → Q .normal a' W) : (Code.region 11 (opsOf 11 Tryd.f82).toArray true).wp Tryd.prog Q a w := by
 have hap : apartB (opsOf 11 Tryd.f82) = true := by kernel_rfl
 refine wp_region_sep (Γ := Unit) (l := (opsOf 11 Tryd.f82)) 2 [0, 1, 2, 3, 4, 5, 6, 7, 8, 9, 10, 11, 13]
  (fun i vs gs => match i with | 0 => vs 0 = .int .i64 ((j + 16 : Nat) : Int) | 1 => vs 1 = .int .i64 ((j + 16 : Nat) : Int) | 2 => vs 2 = .int .i64 (j : Int) | 3 => vs 3 = .pointer (some ⟨g5, j, none⟩) | 4 => vs 4 = .int .u32 ((a1 : Nat) : Int) | 5 => vs 5 = .int .i64 ((j + 16 : Nat) : Int) | 6 => vs 6 = .int .i64 ((j + 9 : Nat) : Int) | 7 => vs 7 = .pointer (some ⟨g5, j + 9, none⟩) | 8 => vs 8 = .int .u32 ((c : Nat) : Int) | 9 => vs 9 = .int .u32 (((a1 + c) % 4294967296 : Nat) : Int) | 10 => vs 10 = .pointer (some ⟨g5, j + 16, none⟩) | _ => True)
  (fun i vs gs => match i with | 11 => [blkR g5 144 (u32A (L.set (j + 16) ((a1 + c) % 4294967296)))] | 12 => [blkR g5 144 (u32A (L))] | 13 => R | _ => [])
  (fun i => match i with | 11 => [12] | _ => []) (fun i => match i with | 4 => [12] | 8 => [12] | _ => []) S0 (by kernel_rfl) hap (by kernel_rfl) (by kernel_rfl) (fun i => match i with | 0 => [0] | 1 => [1] | 2 => [2] | 3 => [3] | 4 => [4] | 5 => [5] | 6 => [6] | 7 => [7] | 8 => [8] | 9 => [9] | 10 => [10] | _ => []) (by kernel_rfl) ?_ (by kernel_rfl) ?_ ?_ ?_
 · intro s vs vs' gs gs' h
   iterate 14 (rcases s with _ | s; · (first | exact ⟨rfl, id⟩ | (simp only [List.mem_cons, List.not_mem_nil, or_false, forall_eq] at h; simp [h])))
   exact ⟨rfl, id⟩
 · simp only [List.range, List.range.loop, List.flatMap_cons, List.flatMap_nil, List.append_nil]
   exact List.Perm.refl _
 · clear S0 hend
   refine ⟨?_, ?_, ?_, ?_, ?_, ?_, ?_, ?_, ?_, ?_, ?_, ?_, trivial⟩
   · intro vs gs A' W LF hA S hR hd hu K hK; replace hK := hK default; have e7 := sO 7 o7 hA hap hsz; clear hA o5 o7; go_step; exact hK _ _ S rfl
   · intro vs gs A' W LF hA S hR hd hu K hK; replace hK := hK default; have e7 := sO 7 o7 hA hap hsz; clear hA o5 o7; go_step; exact hK _ _ S rfl
   · intro vs gs A' W LF hA S hR hd hu K hK; replace hK := hK default; have e41 := sV 41 (hd 1 (by kernel_rfl)) hA hap hsz; clear hA o5 o7; go_step
     exact hK _ _ S (congrArg (Value.int .i64) (by first | omega | (unfold wrap64; omega)))
   · intro vs gs A' W LF hA S hR hd hu K hK; replace hK := hK default; have e5 := sO 5 o5 hA hap hsz; have e42 := sV 42 (hd 2 (by kernel_rfl)) hA hap hsz; clear hA o5 o7
     have h0 : 0 ≤ (j : Int) := by omega
     have h1 : (j : Int) < 64 := by omega
     go_step; exact hK _ _ S rfl
   · intro vs gs A' W LF hA S hR hd hu K hK; replace hK := hK default; have e43 := sV 43 (hd 3 (by kernel_rfl)) hA hap hsz; clear hA o5 o7
     have c0 := u32_cell (S.ok (blkR g5 144 (u32A (L))) (hR 12 (List.mem_singleton.2 rfl) _ (List.mem_singleton.2 rfl))) (j) (a1) HA
     go_step; exact hK _ _ S rfl
   · intro vs gs A' W LF hA S hR hd hu K hK; replace hK := hK default; have e7 := sO 7 o7 hA hap hsz; clear hA o5 o7; go_step; exact hK _ _ S rfl
   · intro vs gs A' W LF hA S hR hd hu K hK; replace hK := hK default; have e45 := sV 45 (hd 5 (by kernel_rfl)) hA hap hsz; clear hA o5 o7; go_step
     exact hK _ _ S (congrArg (Value.int .i64) (by first | omega | (unfold wrap64; omega)))
   · intro vs gs A' W LF hA S hR hd hu K hK; replace hK := hK default; have e5 := sO 5 o5 hA hap hsz; have e46 := sV 46 (hd 6 (by kernel_rfl)) hA hap hsz; clear hA o5 o7
     have h0 : 0 ≤ (j : Int) + 9 := by omega
     have h1 : (j : Int) + 9 < 64 := by omega
     go_step; exact hK _ _ S rfl
   · intro vs gs A' W LF hA S hR hd hu K hK; replace hK := hK default; have e47 := sV 47 (hd 7 (by kernel_rfl)) hA hap hsz; clear hA o5 o7
     have c0 := u32_cell (S.ok (blkR g5 144 (u32A (L))) (hR 12 (List.mem_singleton.2 rfl) _ (List.mem_singleton.2 rfl))) (j + 9) (c) HC
     go_step; exact hK _ _ S rfl
   · intro vs gs A' W LF hA S hR hd hu K hK; replace hK := hK default; have e44 := sV 44 (hd 4 (by kernel_rfl)) hA hap hsz; have e48 := sV 48 (hd 8 (by kernel_rfl)) hA hap hsz; clear hA o5 o7; go_step
     exact hK _ _ S (congrArg (Value.int .u32) (by first | omega | rfl))
   · intro vs gs A' W LF hA S hR hd hu K hK; replace hK := hK default; have e5 := sO 5 o5 hA hap hsz; have e40 := sV 40 (hd 0 (by kernel_rfl)) hA hap hsz; clear hA o5 o7
     have h0 : 0 ≤ (j : Int) + 16 := by omega
     have h1 : (j : Int) + 16 < 64 := by omega
     go_step; exact hK _ _ S rfl
   · intro vs gs A' W LF hA S hR hd hu K hK; replace hK := hK default; have e50 := sV 50 (hd 10 (by kernel_rfl)) hA hap hsz; have e49 := sV 49 (hd 9 (by kernel_rfl)) hA hap hsz; clear hA o5 o7
     have S1 : Held w0 W (blkR g5 144 (u32A (L)) :: LF) := S
     have q1 := u32_cell (S1.at_ (l1 := [])) (j + 16) _ (HM)
     have q2 := (S1.at_ (l1 := [])).frozen (j + 16)
     have q3 := (S1.at_ (l1 := [])).lt
     go_step
     have S2 := S1.set (l1 := []) (j + 16) (.int .u32 (((a1 + c) % 4294967296 : Nat) : Int))
     rw [u32A_set] at S2
     exact hK undef _ S2 trivial
 · intro vs gs W S hp
   have S : Held w0 W (blkR g5 144 (u32A (L.set (j + 16) ((a1 + c) % 4294967296))) :: R) := by simpa only [List.flatMap_cons, List.flatMap_nil, List.append_nil, List.nil_append, List.cons_append, List.append_assoc] using S
   rw [putAll_eq]
   exact hend _ W sQ  S
theorem sblk_r12 (w0 : World) (j g5 : Nat) (L : List Nat) (R : List Res) (hlt : j < 48) (m x : Nat) (HM : L[j + 16]? = some m) (HXl : x < 4294967296) (hsz : a.tmps.size = 172) (o5 : Sl a 5 (.pointer (some ⟨g5, 0, none⟩))) (o7 : Sl a 7 (.int .i64 ((j + 16 : Nat) : Int))) (o8 : Sl a 8 (.int .u32 ((x : Nat) : Int)))
 (S0 : Held w0 w (blkR g5 144 (u32A L) :: R))
 (hend : ∀ a' W, Same a a' [51, 52, 53, 54, 55, 56, 57, 58, 59, 60, 61, 62, 63] → Held w0 W (blkR g5 144 (u32A (L.set (j + 16) ((m + sg0 x) % 4294967296))) :: R) → Q .normal a' W) : (Code.region 12 (opsOf 12 Tryd.f82).toArray true).wp Tryd.prog Q a w := by
 have hap : apartB (opsOf 12 Tryd.f82) = true := by kernel_rfl
 refine wp_region_sep (Γ := Unit) (l := (opsOf 12 Tryd.f82)) 2 [0, 1, 2, 3, 4, 5, 6, 7, 8, 9, 10, 11, 12, 13, 15]
  (fun i vs gs => match i with | 0 => vs 0 = .int .i64 ((j + 16 : Nat) : Int) | 1 => vs 1 = .pointer (some ⟨g5, j + 16, none⟩) | 2 => vs 2 = .int .u32 ((m : Nat) : Int) | 3 => vs 3 = .int .u32 ((x : Nat) : Int) | 4 => vs 4 = .int .u32 ((rotr x 7 : Nat) : Int) | 5 => vs 5 = .int .u32 ((x : Nat) : Int) | 6 => vs 6 = .int .u32 ((rotr x 18 : Nat) : Int) | 7 => vs 7 = .int .u32 ((rotr x 7 ^^^ rotr x 18 : Nat) : Int) | 8 => vs 8 = .int .u32 ((x : Nat) : Int) | 9 => vs 9 = .int .u32 ((x / 8 : Nat) : Int) | 10 => vs 10 = .int .u32 ((sg0 x : Nat) : Int) | 11 => vs 11 = .int .u32 (((m + sg0 x) % 4294967296 : Nat) : Int) | 12 => vs 12 = .pointer (some ⟨g5, j + 16, none⟩) | _ => True)
  (fun i vs gs => match i with | 13 => [blkR g5 144 (u32A (L.set (j + 16) ((m + sg0 x) % 4294967296)))] | 14 => [blkR g5 144 (u32A (L))] | 15 => R | _ => [])
  (fun i => match i with | 13 => [14] | _ => []) (fun i => match i with | 2 => [14] | _ => []) S0 (by kernel_rfl) hap (by kernel_rfl) (by kernel_rfl) (fun i => match i with | 0 => [0] | 1 => [1] | 2 => [2] | 3 => [3] | 4 => [4] | 5 => [5] | 6 => [6] | 7 => [7] | 8 => [8] | 9 => [9] | 10 => [10] | 11 => [11] | 12 => [12] | _ => []) (by kernel_rfl) ?_ (by kernel_rfl) ?_ ?_ ?_
 · intro s vs vs' gs gs' h
   iterate 16 (rcases s with _ | s; · (first | exact ⟨rfl, id⟩ | (simp only [List.mem_cons, List.not_mem_nil, or_false, forall_eq] at h; simp [h])))
   exact ⟨rfl, id⟩
 · simp only [List.range, List.range.loop, List.flatMap_cons, List.flatMap_nil, List.append_nil]
   exact List.Perm.refl _
 · clear S0 hend
   refine ⟨?_, ?_, ?_, ?_, ?_, ?_, ?_, ?_, ?_, ?_, ?_, ?_, ?_, ?_, trivial⟩
   · intro vs gs A' W LF hA S hR hd hu K hK; replace hK := hK default; have e7 := sO 7 o7 hA hap hsz; clear hA o5 o7 o8; go_step; exact hK _ _ S rfl
   · intro vs gs A' W LF hA S hR hd hu K hK; replace hK := hK default; have e5 := sO 5 o5 hA hap hsz; have e51 := sV 51 (hd 0 (by kernel_rfl)) hA hap hsz; clear hA o5 o7 o8
     have h0 : 0 ≤ (j : Int) + 16 := by omega
     have h1 : (j : Int) + 16 < 64 := by omega
     go_step; exact hK _ _ S rfl
   · intro vs gs A' W LF hA S hR hd hu K hK; replace hK := hK default; have e52 := sV 52 (hd 1 (by kernel_rfl)) hA hap hsz; clear hA o5 o7 o8
     have c0 := u32_cell (S.ok (blkR g5 144 (u32A (L))) (hR 14 (List.mem_singleton.2 rfl) _ (List.mem_singleton.2 rfl))) (j + 16) (m) HM
     go_step; exact hK _ _ S rfl
   · intro vs gs A' W LF hA S hR hd hu K hK; replace hK := hK default; have e8 := sO 8 o8 hA hap hsz; clear hA o5 o7 o8; go_step; exact hK _ _ S rfl
   · intro vs gs A' W LF hA S hR hd hu K hK; replace hK := hK default; have e54 := sV 54 (hd 3 (by kernel_rfl)) hA hap hsz; clear hA o5 o7 o8; go_step
     refine (srot_any x 7 7 rfl HXl (by unfold rotK; omega) W).mono ?_
     rintro e w' ⟨rfl, rfl⟩
     exact hK _ _ S rfl
   · intro vs gs A' W LF hA S hR hd hu K hK; replace hK := hK default; have e8 := sO 8 o8 hA hap hsz; clear hA o5 o7 o8; go_step; exact hK _ _ S rfl
   · intro vs gs A' W LF hA S hR hd hu K hK; replace hK := hK default; have e56 := sV 56 (hd 5 (by kernel_rfl)) hA hap hsz; clear hA o5 o7 o8; go_step
     refine (srot_any x 18 18 rfl HXl (by unfold rotK; omega) W).mono ?_
     rintro e w' ⟨rfl, rfl⟩
     exact hK _ _ S rfl
   · intro vs gs A' W LF hA S hR hd hu K hK; replace hK := hK default; have e55 := sV 55 (hd 4 (by kernel_rfl)) hA hap hsz; have e57 := sV 57 (hd 6 (by kernel_rfl)) hA hap hsz; clear hA o5 o7 o8; go_step
     exact hK _ _ S (congrArg (Value.int .u32) (u32_x _ _ (rotr_lt HXl) (rotr_lt HXl)))
   · intro vs gs A' W LF hA S hR hd hu K hK; replace hK := hK default; have e8 := sO 8 o8 hA hap hsz; clear hA o5 o7 o8; go_step; exact hK _ _ S rfl
   · intro vs gs A' W LF hA S hR hd hu K hK; replace hK := hK default; have e59 := sV 59 (hd 8 (by kernel_rfl)) hA hap hsz; clear hA o5 o7 o8; go_step
     exact hK _ _ S (congrArg (Value.int .u32) (by first | omega | rfl))
   · intro vs gs A' W LF hA S hR hd hu K hK; replace hK := hK default; have e58 := sV 58 (hd 7 (by kernel_rfl)) hA hap hsz; have e60 := sV 60 (hd 9 (by kernel_rfl)) hA hap hsz; clear hA o5 o7 o8; go_step
     exact hK _ _ S (congrArg (Value.int .u32) (u32_x _ _ (xor_lt (rotr_lt HXl) (rotr_lt HXl)) (div_lt HXl)))
   · intro vs gs A' W LF hA S hR hd hu K hK; replace hK := hK default; have e53 := sV 53 (hd 2 (by kernel_rfl)) hA hap hsz; have e61 := sV 61 (hd 10 (by kernel_rfl)) hA hap hsz; clear hA o5 o7 o8; go_step
     exact hK _ _ S (congrArg (Value.int .u32) (by first | omega | rfl))
   · intro vs gs A' W LF hA S hR hd hu K hK; replace hK := hK default; have e5 := sO 5 o5 hA hap hsz; have e51 := sV 51 (hd 0 (by kernel_rfl)) hA hap hsz; clear hA o5 o7 o8
     have h0 : 0 ≤ (j : Int) + 16 := by omega
     have h1 : (j : Int) + 16 < 64 := by omega
     go_step; exact hK _ _ S rfl
   · intro vs gs A' W LF hA S hR hd hu K hK; replace hK := hK default; have e63 := sV 63 (hd 12 (by kernel_rfl)) hA hap hsz; have e62 := sV 62 (hd 11 (by kernel_rfl)) hA hap hsz; clear hA o5 o7 o8
     have S1 : Held w0 W (blkR g5 144 (u32A (L)) :: LF) := S
     have q1 := u32_cell (S1.at_ (l1 := [])) (j + 16) _ (HM)
     have q2 := (S1.at_ (l1 := [])).frozen (j + 16)
     have q3 := (S1.at_ (l1 := [])).lt
     go_step
     have S2 := S1.set (l1 := []) (j + 16) (.int .u32 (((m + sg0 x) % 4294967296 : Nat) : Int))
     rw [u32A_set] at S2
     exact hK undef _ S2 trivial
 · intro vs gs W S hp
   have S : Held w0 W (blkR g5 144 (u32A (L.set (j + 16) ((m + sg0 x) % 4294967296))) :: R) := by simpa only [List.flatMap_cons, List.flatMap_nil, List.append_nil, List.nil_append, List.cons_append, List.append_assoc] using S
   rw [putAll_eq]
   exact hend _ W sQ  S
theorem sblk_r13 (w0 : World) (j g5 : Nat) (L : List Nat) (R : List Res) (hlt : j < 48) (m y : Nat) (HM : L[j + 16]? = some m) (HYl : y < 4294967296) (hsz : a.tmps.size = 172) (o5 : Sl a 5 (.pointer (some ⟨g5, 0, none⟩))) (o7 : Sl a 7 (.int .i64 ((j + 16 : Nat) : Int))) (o9 : Sl a 9 (.int .u32 ((y : Nat) : Int)))
 (S0 : Held w0 w (blkR g5 144 (u32A L) :: R))
 (hend : ∀ a' W, Same a a' [64, 65, 66, 67, 68, 69, 70, 71, 72, 73, 74, 75, 76] → Held w0 W (blkR g5 144 (u32A (L.set (j + 16) ((m + sg1 y) % 4294967296))) :: R) → Q .normal a' W) : (Code.region 13 (opsOf 13 Tryd.f82).toArray true).wp Tryd.prog Q a w := by
 have hap : apartB (opsOf 13 Tryd.f82) = true := by kernel_rfl
 refine wp_region_sep (Γ := Unit) (l := (opsOf 13 Tryd.f82)) 2 [0, 1, 2, 3, 4, 5, 6, 7, 8, 9, 10, 11, 12, 13, 15]
  (fun i vs gs => match i with | 0 => vs 0 = .int .i64 ((j + 16 : Nat) : Int) | 1 => vs 1 = .pointer (some ⟨g5, j + 16, none⟩) | 2 => vs 2 = .int .u32 ((m : Nat) : Int) | 3 => vs 3 = .int .u32 ((y : Nat) : Int) | 4 => vs 4 = .int .u32 ((rotr y 17 : Nat) : Int) | 5 => vs 5 = .int .u32 ((y : Nat) : Int) | 6 => vs 6 = .int .u32 ((rotr y 19 : Nat) : Int) | 7 => vs 7 = .int .u32 ((rotr y 17 ^^^ rotr y 19 : Nat) : Int) | 8 => vs 8 = .int .u32 ((y : Nat) : Int) | 9 => vs 9 = .int .u32 ((y / 1024 : Nat) : Int) | 10 => vs 10 = .int .u32 ((sg1 y : Nat) : Int) | 11 => vs 11 = .int .u32 (((m + sg1 y) % 4294967296 : Nat) : Int) | 12 => vs 12 = .pointer (some ⟨g5, j + 16, none⟩) | _ => True)
  (fun i vs gs => match i with | 13 => [blkR g5 144 (u32A (L.set (j + 16) ((m + sg1 y) % 4294967296)))] | 14 => [blkR g5 144 (u32A (L))] | 15 => R | _ => [])
  (fun i => match i with | 13 => [14] | _ => []) (fun i => match i with | 2 => [14] | _ => []) S0 (by kernel_rfl) hap (by kernel_rfl) (by kernel_rfl) (fun i => match i with | 0 => [0] | 1 => [1] | 2 => [2] | 3 => [3] | 4 => [4] | 5 => [5] | 6 => [6] | 7 => [7] | 8 => [8] | 9 => [9] | 10 => [10] | 11 => [11] | 12 => [12] | _ => []) (by kernel_rfl) ?_ (by kernel_rfl) ?_ ?_ ?_
 · intro s vs vs' gs gs' h
   iterate 16 (rcases s with _ | s; · (first | exact ⟨rfl, id⟩ | (simp only [List.mem_cons, List.not_mem_nil, or_false, forall_eq] at h; simp [h])))
   exact ⟨rfl, id⟩
 · simp only [List.range, List.range.loop, List.flatMap_cons, List.flatMap_nil, List.append_nil]
   exact List.Perm.refl _
 · clear S0 hend
   refine ⟨?_, ?_, ?_, ?_, ?_, ?_, ?_, ?_, ?_, ?_, ?_, ?_, ?_, ?_, trivial⟩
   · intro vs gs A' W LF hA S hR hd hu K hK; replace hK := hK default; have e7 := sO 7 o7 hA hap hsz; clear hA o5 o7 o9; go_step; exact hK _ _ S rfl
   · intro vs gs A' W LF hA S hR hd hu K hK; replace hK := hK default; have e5 := sO 5 o5 hA hap hsz; have e64 := sV 64 (hd 0 (by kernel_rfl)) hA hap hsz; clear hA o5 o7 o9
     have h0 : 0 ≤ (j : Int) + 16 := by omega
     have h1 : (j : Int) + 16 < 64 := by omega
     go_step; exact hK _ _ S rfl
   · intro vs gs A' W LF hA S hR hd hu K hK; replace hK := hK default; have e65 := sV 65 (hd 1 (by kernel_rfl)) hA hap hsz; clear hA o5 o7 o9
     have c0 := u32_cell (S.ok (blkR g5 144 (u32A (L))) (hR 14 (List.mem_singleton.2 rfl) _ (List.mem_singleton.2 rfl))) (j + 16) (m) HM
     go_step; exact hK _ _ S rfl
   · intro vs gs A' W LF hA S hR hd hu K hK; replace hK := hK default; have e9 := sO 9 o9 hA hap hsz; clear hA o5 o7 o9; go_step; exact hK _ _ S rfl
   · intro vs gs A' W LF hA S hR hd hu K hK; replace hK := hK default; have e67 := sV 67 (hd 3 (by kernel_rfl)) hA hap hsz; clear hA o5 o7 o9; go_step
     refine (srot_any y 17 17 rfl HYl (by unfold rotK; omega) W).mono ?_
     rintro e w' ⟨rfl, rfl⟩
     exact hK _ _ S rfl
   · intro vs gs A' W LF hA S hR hd hu K hK; replace hK := hK default; have e9 := sO 9 o9 hA hap hsz; clear hA o5 o7 o9; go_step; exact hK _ _ S rfl
   · intro vs gs A' W LF hA S hR hd hu K hK; replace hK := hK default; have e69 := sV 69 (hd 5 (by kernel_rfl)) hA hap hsz; clear hA o5 o7 o9; go_step
     refine (srot_any y 19 19 rfl HYl (by unfold rotK; omega) W).mono ?_
     rintro e w' ⟨rfl, rfl⟩
     exact hK _ _ S rfl
   · intro vs gs A' W LF hA S hR hd hu K hK; replace hK := hK default; have e68 := sV 68 (hd 4 (by kernel_rfl)) hA hap hsz; have e70 := sV 70 (hd 6 (by kernel_rfl)) hA hap hsz; clear hA o5 o7 o9; go_step
     exact hK _ _ S (congrArg (Value.int .u32) (u32_x _ _ (rotr_lt HYl) (rotr_lt HYl)))
   · intro vs gs A' W LF hA S hR hd hu K hK; replace hK := hK default; have e9 := sO 9 o9 hA hap hsz; clear hA o5 o7 o9; go_step; exact hK _ _ S rfl
   · intro vs gs A' W LF hA S hR hd hu K hK; replace hK := hK default; have e72 := sV 72 (hd 8 (by kernel_rfl)) hA hap hsz; clear hA o5 o7 o9; go_step
     exact hK _ _ S (congrArg (Value.int .u32) (by first | omega | rfl))
   · intro vs gs A' W LF hA S hR hd hu K hK; replace hK := hK default; have e71 := sV 71 (hd 7 (by kernel_rfl)) hA hap hsz; have e73 := sV 73 (hd 9 (by kernel_rfl)) hA hap hsz; clear hA o5 o7 o9; go_step
     exact hK _ _ S (congrArg (Value.int .u32) (u32_x _ _ (xor_lt (rotr_lt HYl) (rotr_lt HYl)) (div_lt HYl)))
   · intro vs gs A' W LF hA S hR hd hu K hK; replace hK := hK default; have e66 := sV 66 (hd 2 (by kernel_rfl)) hA hap hsz; have e74 := sV 74 (hd 10 (by kernel_rfl)) hA hap hsz; clear hA o5 o7 o9; go_step
     exact hK _ _ S (congrArg (Value.int .u32) (by first | omega | rfl))
   · intro vs gs A' W LF hA S hR hd hu K hK; replace hK := hK default; have e5 := sO 5 o5 hA hap hsz; have e64 := sV 64 (hd 0 (by kernel_rfl)) hA hap hsz; clear hA o5 o7 o9
     have h0 : 0 ≤ (j : Int) + 16 := by omega
     have h1 : (j : Int) + 16 < 64 := by omega
     go_step; exact hK _ _ S rfl
   · intro vs gs A' W LF hA S hR hd hu K hK; replace hK := hK default; have e76 := sV 76 (hd 12 (by kernel_rfl)) hA hap hsz; have e75 := sV 75 (hd 11 (by kernel_rfl)) hA hap hsz; clear hA o5 o7 o9
     have S1 : Held w0 W (blkR g5 144 (u32A (L)) :: LF) := S
     have q1 := u32_cell (S1.at_ (l1 := [])) (j + 16) _ (HM)
     have q2 := (S1.at_ (l1 := [])).frozen (j + 16)
     have q3 := (S1.at_ (l1 := [])).lt
     go_step
     have S2 := S1.set (l1 := []) (j + 16) (.int .u32 (((m + sg1 y) % 4294967296 : Nat) : Int))
     rw [u32A_set] at S2
     exact hK undef _ S2 trivial
 · intro vs gs W S hp
   have S : Held w0 W (blkR g5 144 (u32A (L.set (j + 16) ((m + sg1 y) % 4294967296))) :: R) := by simpa only [List.flatMap_cons, List.flatMap_nil, List.append_nil, List.nil_append, List.cons_append, List.append_assoc] using S
   rw [putAll_eq]
   exact hend _ W sQ  S
end
end Go.Proofs.YtapboamjpilckaaDoor
