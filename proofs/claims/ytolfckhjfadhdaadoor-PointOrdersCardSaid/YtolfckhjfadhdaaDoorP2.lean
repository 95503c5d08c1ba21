/- Several texts in one: Base, App, SepO, Texts, Equal, WireA, WireB, WireC, WireD, WireR, WireS, Txt, Fence, Range, Marks, PtA, CrcM, CrcA, CrcB, CrcC, CrcD, CrcE, PtD. -/
import Derived.Test.YtolfckhjfadhdaaDoorRows
import Derived.Laws.BitsAllLaws
import Derived.RangeFuncNested
import Derived.RangeFuncBound
import Derived.RangeFuncCalls
import Derived.RangeFuncLeaves
import Derived.Shelf.Abstract
import Derived.Shelf.RegionOpen
import Derived.WalkKit
import Derived.OwnWalkIn
import Derived.TacticsInMore
import Derived.LoopNIn
import Derived.LoopN
import Derived.LoopIn
import Derived.Test.YtolfckhjfadhdaaDoorP1
/- What many texts need: slices of bytes that read, rows, small numbers. -/
namespace Go.Proofs.YtolfckhjfadhdaaDoor
open Go.RowKit

theorem ow_new (w : World) (e : TypeId) (s n : Nat) (cs : Array Value) (h : cs.size = n * s) (hn : n ≤ maxLen) : Ow (w.alloc (.cells cs e)) e s (.slice (some ⟨w.heap.size, 0, none⟩) n n) n cs.toList :=
  ⟨by simpa using h, .inr ⟨w.heap.size, n, cs, rfl, Nat.zero_le _, heap_alloc_new w _, Nat.le_refl _, hn, h, by rw [← h, ← Array.length_toList, List.take_length]⟩⟩
theorem rd_some {w : World} {s n c : Nat} {ad : Addr} {xs : List Value} (hl : xs.length = n * s) (h1 : n ≤ c) (h2 : c ≤ maxLen) (h : ∀ a, some ad = some a → ∀ j u, xs[j]? = some u → w.cell? (a.add j) = some u) : Rd w s (.slice (some ad) n c) n xs :=
  ⟨hl, some ad, c, rfl, h1, h2, (fun h => by cases h), h⟩

theorem eq_nil_bytes (w : World) (a : Option Addr) (n c : Nat) : (binOp .eql 45 (.slice a n c) (.slice none 0 0)).run Tryd.prog w = .ok (.bool a.isNone) w :=
  Lib.run_eql_slice_nil (P := Tryd.prog) w 45 5 a n c 0 0 Tryd.underlying45
attribute [go_sem] eq_nil_bytes
theorem Tryd.infoU8 : (Tryd.prog.info? 5).map (fun i => (i.zero, i.size, i.bytes)) = some (some (.int .u8 0), 1, 1) := by kernel_rfl
theorem Kp.of_drew {S : List Nat} {w w' : World} (h : Kp S w.drew w') : Kp S w w' := ⟨h.os, h.tape, h.output, h.size, h.block⟩
theorem Kp.drew' {w : World} (n : Nat) : Kp [] w (w.drewN n) := (Kp.refl [] w).drewN n
/-- A short row, written out. -/
theorem rd_lit (w : World) (e : TypeId) (cs : Array Value) (l : List UInt8) (h : cs.toList = bv l) (hn : l.length ≤ 4096) : Rd (w.alloc (.cells cs e)) 1 (.slice (some ⟨w.heap.size, 0, none⟩) l.length l.length) l.length (bv l) := by
  have := ow_new w e 1 l.length cs (by rw [← Array.length_toList, h, bv_length]; simp) (by unfold maxLen; omega)
  rw [h] at this
  exact Rd.of_own this
theorem strB {w : World} {x : Value} {bs : List UInt8} {n : Nat} (h : Rd w 1 x n (bv bs)) : (convert 45 9 x).run Tryd.prog w = .ok (.string ⟨bs.toArray⟩) w :=
  run_str 45 9 5 Tryd.underlying45 Tryd.underlying5 Tryd.underlying9 h
theorem rd_form {w : World} {s : Nat} {x : Value} {n : Nat} {xs : List Value} (h : Rd w s x n xs) : ∃ A c, x = .slice A n c := by
  obtain ⟨_, A, c, rfl, _⟩ := h; exact ⟨A, c, rfl⟩
/-- A slice reads as it did; an empty one in any case. -/
theorem Rd.kpl {S : List Nat} {w w' : World} {s n : Nat} {v : Value} {xs : List Value} (h : Rd w s v n xs) (hk : Kp S w w') (hn : ∀ g, v.ownBlock = some g → xs ≠ [] → g ∉ S) : Rd w' s v n xs := by
  by_cases hx : xs = []
  · subst hx
    obtain ⟨h1, A, c, h2, h3, h4, h5, _⟩ := h
    exact ⟨h1, A, c, h2, h3, h4, h5, fun _ _ j u hu => by simp at hu⟩
  · exact h.kp hk (fun g hg => hn g hg hx)
theorem bv_ne {b : List UInt8} (h : bv b ≠ []) : b ≠ [] := fun e => h (by rw [e]; rfl)
theorem mem_own {g' g o n c : Nat} (h : g' ∈ (Value.slice (some ⟨g, o, none⟩) n c).ownBlock.toList) : g' = g := by simpa [Value.ownBlock, eq_comm] using h
theorem be_get (k x i : Nat) (h : i < k) : (be k x)[i]? = some (UInt8.ofNat (x / 256 ^ (k - 1 - i))) := by
  induction k generalizing i with
  | zero => omega
  | succ k ih =>
    rw [be_succ]
    rcases i with _ | i
    · simp
    · rw [List.getElem?_cons_succ, ih i (by omega)]
      rw [show k + 1 - 1 - (i + 1) = k - 1 - i from by omega]
theorem paint_step {α : Type} (L : List α) (u : α) (j : Nat) (hj : j < L.length) : (List.replicate j u ++ L.drop j).set j u = List.replicate (j + 1) u ++ L.drop (j + 1) := by
  rw [List.drop_eq_getElem_cons hj, List.set_append_right _ _ (by simp), List.length_replicate, Nat.sub_self, List.set_cons_zero, List.replicate_succ', List.append_assoc]
  rfl
theorem fill_step {α : Type} (L : List α) (z u : α) (j : Nat) (hj : j + 1 ≤ L.length) (hu : L[j]? = some u) : (List.replicate (j + 1) z ++ L.drop (j + 1)).set j u = List.replicate j z ++ L.drop j := by
  have hl : j < L.length := by omega
  have h1 : L.drop j = u :: L.drop (j + 1) := by
    rw [List.drop_eq_getElem_cons hl]
    rw [List.getElem?_eq_getElem hl] at hu
    cases hu
    rfl
  rw [h1, List.replicate_succ', List.append_assoc, List.set_append_right _ _ (by simp)]
  simp
theorem ow_some {w : World} {e : TypeId} {s n : Nat} {v : Value} {xs : List Value} (h : Ow w e s v n xs) (hn : 0 < n) : ∃ g c, v = .slice (some ⟨g, 0, none⟩) n c ∧ n ≤ c ∧ c ≤ maxLen := by
  rcases h.2 with ⟨_, h0⟩ | ⟨g, cap, cur, rfl, _, _, hnc, hcm, _⟩
  · omega
  · exact ⟨g, cap, rfl, hnc, hcm⟩
/-- The beginning of a row is a row. -/
theorem ow_take {w : World} {e : TypeId} {s n m c : Nat} {A : Option Addr} {xs : List Value} (h : Ow w e s (.slice A n c) n xs) (hm : m ≤ n) (_hn : 0 < n) : Ow w e s (.slice A m c) m (xs.take (m * s)) := by
  have hle : m * s ≤ n * s := Nat.mul_le_mul_right _ hm
  rcases h.2 with ⟨_, h0⟩ | ⟨g, cap, cur, hv, hb, hh, hnc, hcm, hcs, htk⟩
  · omega
  · cases hv
    refine ⟨by rw [List.length_take, h.1]; omega, .inr ⟨g, _, cur, rfl, hb, hh, by omega, hcm, hcs, ?_⟩⟩
    rw [← htk, List.take_take, Nat.min_eq_left hle]
theorem rd_old {w w' : World} {s n : Nat} {v : Value} {xs : List Value} (h : Rd w s v n xs) (hk : Kp [] w w') : Rd w' s v n xs := h.kp hk (by simp)
theorem set_same (A : Array Value) (k : Nat) (v : Value) (h : A[k]? = some v) : A.setIfInBounds k v = A := by
  apply Array.ext_getElem?
  intro i
  rw [Array.getElem?_setIfInBounds]
  split
  · rename_i he; subst he
    obtain ⟨hlt, _⟩ := Array.getElem?_eq_some_iff.1 h
    have e := Array.getElem?_eq_getElem hlt
    rw [h] at e
    simp [hlt, Option.some.inj e]
  · rfl
/-- A row of the list is grown. -/
theorem Held.grow {w0 w w' : World} {l1 l2 : List Res} {e : TypeId} {s n n' : Nat} {v v' : Value} {xs xs' : List Value} (h : Held w0 w (l1 ++ rowR e s v n xs :: l2)) (ho : Ow w' e s v' n' xs') (hg : w.grownBy w' v.ownBlock) (hv : v'.ownBlock = v.ownBlock ∨ v'.ownBlock = some w.heap.size) :
    Held w0 w' (l1 ++ rowR e s v' n' xs' :: l2) :=
  h.turnAt (rowR e s v' n' xs') (Kp.of_grown hg) ho (fun b hb => by
    rcases hv with e | e
    · exact .inl (by simpa [rowR, e] using hb)
    · simp only [rowR, e, Option.toList_some, List.mem_singleton] at hb; exact .inr (by omega))
/-- A cell of a block of the list is set. -/
theorem Held.set {w0 w : World} {l1 l2 : List Res} {g : Nat} {t : TypeId} {cs : Array Value} (h : Held w0 w (l1 ++ blkR g t cs :: l2)) (i : Nat) (u : Value) : Held w0 (w.setCell ⟨g, i, none⟩ u) (l1 ++ blkR g t (cs.setIfInBounds i u) :: l2) :=
  h.turnAt (blkR g t (cs.setIfInBounds i u)) ((Kp.refl [g] w).setCell (.inl (by simp)) u) (h.at_.set_ i u) (fun _ hb => .inl hb)
theorem Held.rowset {w0 w w' : World} {l1 l2 : List Res} {e : TypeId} {s n : Nat} {v : Value} {xs xs' : List Value} (h : Held w0 w (l1 ++ rowR e s v n xs :: l2)) (ho : Ow w' e s v n xs') (hk : Kp v.ownBlock.toList w w') : Held w0 w' (l1 ++ rowR e s v n xs' :: l2) :=
  h.turnAt (rowR e s v n xs') hk ho (fun _ hb => .inl hb)
theorem Held.rownew {w0 w w' : World} {L : List Res} {e : TypeId} {s n : Nat} {v : Value} {xs : List Value} (h : Held w0 w L) (ho : Ow w' e s v n xs) (hk : Kp [] w w') (hf : ∀ g, v.ownBlock = some g → w.heap.size ≤ g) : Held w0 w' (rowR e s v n xs :: L) :=
  h.new _ hk ho (fun b hb => hf b (by simpa [rowR] using hb))
theorem be_mod (k x : Nat) : be k (x % 256 ^ k) = be k x := by
  have h : ∀ j, j ≤ k → be j (x % 256 ^ k) = be j x := by
    intro j
    induction j with
    | zero => intro _; rfl
    | succ j ih =>
      intro hj
      rw [be_succ, be_succ, ih (by omega)]
      congr 1
      apply UInt8.toNat_inj.1
      rw [UInt8.toNat_ofNat', UInt8.toNat_ofNat']
      have : (256 : Nat) ^ k = 256 ^ j * (256 * 256 ^ (k - j - 1)) := by
        rw [← Nat.pow_succ', ← Nat.pow_add]; congr 1; omega
      rw [this, Nat.mod_mul_right_div_self]
      show x / 256 ^ j % (256 * 256 ^ (k - j - 1)) % 256 = x / 256 ^ j % 256
      rw [Nat.mod_mul_right_mod]
  exact h k (Nat.le_refl _)
theorem wrap_u8_nat (x : Nat) : IntKind.u8.wrap (x : Int) = ((x % 256 : Nat) : Int) := by
  simp [IntKind.wrap, IntKind.bits, IntKind.signed]
theorem wrap_u32_nat (x : Nat) : IntKind.u32.wrap (x : Int) = ((x % 4294967296 : Nat) : Int) := by
  simp [IntKind.wrap, IntKind.bits, IntKind.signed]
theorem emod_256 (x : Nat) : (x : Int) % 256 = ((x % 256 : Nat) : Int) := by omega
theorem emod_32 (x : Nat) : (x : Int) % 4294967296 = ((x % 4294967296 : Nat) : Int) := by omega
/-- What reads as cells lies in a block that is there. -/
theorem rd_lt {w : World} {s n g : Nat} {v : Value} {xs : List Value} (h : Rd w s v n xs) (hg : v.ownBlock = some g) (hne : xs ≠ []) : g < w.heap.size := by
  obtain ⟨_, A, c, rfl, _, _, _, h4⟩ := h
  cases A with
  | none => simp [Value.ownBlock] at hg
  | some ad =>
    simp [Value.ownBlock] at hg
    obtain ⟨x, xs', rfl⟩ := List.exists_cons_of_ne_nil hne
    have := cell_lt (h4 ad rfl 0 x rfl)
    rw [block_of_add, hg] at this
    exact this
theorem i64_lit {z : Int} (h : (Lit.int .i64 z).wf = true) : -9223372036854775808 ≤ z ∧ z ≤ 9223372036854775807 := by simpa [Lit.wf, IntKind.min, IntKind.max, IntKind.signed, IntKind.bits] using h
theorem u64_lit {z : Int} (h : (Lit.int .u64 z).wf = true) : 0 ≤ z ∧ z ≤ 18446744073709551615 := by simpa [Lit.wf, IntKind.min, IntKind.max, IntKind.signed, IntKind.bits] using h
theorem at_of_cut {cs : List Value} {i : Nat} {v : Value} (h : (cs.drop i).take 1 = [v]) : cs[i]? = some v := by
  have h0 : ((cs.drop i).take 1)[0]? = some v := by rw [h]; rfl
  rw [List.getElem?_take] at h0
  simpa using h0
theorem cut_one (cs : List Value) (i : Nat) : (cs.drop i).take 1 = (cs[i]?).toList := by
  rcases h : cs[i]? with _ | v
  · rw [List.drop_eq_nil_of_le (by simpa using h)]; rfl
  · obtain ⟨hlt, rfl⟩ := List.getElem?_eq_some_iff.1 h
    rw [List.drop_eq_getElem_cons hlt]; rfl
theorem Tryd.cellsInt : Tryd.prog.cellsOf 3 = 1 := by kernel_rfl
theorem Tryd.cellsU8 : Tryd.prog.cellsOf 5 = 1 := by kernel_rfl
theorem Tryd.cellsBytes : Tryd.prog.cellsOf 45 = 1 := by kernel_rfl
theorem ofInt_u64 (a : Nat) (ha : a < 18446744073709551616) : (BitVec.ofInt 64 (a : Int)).toNat = a := by
  rw [BitVec.ofInt_natCast, BitVec.toNat_ofNat]; exact Nat.mod_eq_of_lt (by omega)
theorem u64_or_nat (a b : Nat) (ha : a < 18446744073709551616) (hb : b < 18446744073709551616) : bits .or .u64 (a : Int) (b : Int) = ((a ||| b : Nat) : Int) := by
  have hx : a ||| b < 2 ^ 64 := Nat.or_lt_two_pow (by omega) (by omega)
  show IntKind.u64.wrap ((BitVec.ofInt 64 (a : Int) ||| BitVec.ofInt 64 (b : Int)).toNat : Int) = _
  rw [BitVec.toNat_or, ofInt_u64 a ha, ofInt_u64 b hb, IntKind.wrap_u64]
  omega
end Go.Proofs.YtolfckhjfadhdaaDoor
/- Appending bytes onto a row of the call's own: one rule, with all that a walk asks of it behind. -/
namespace Go.Proofs.YtolfckhjfadhdaaDoor
open Go.RowKit

/-- A row that was grown lies where it lay, or is new. -/
theorem fresh_grow {B : Nat} {w1 : World} {v v' : Value} (h : B ≤ w1.heap.size) (hf : ∀ g, v.ownBlock = some g → B ≤ g) (ha : v'.ownBlock = v.ownBlock ∨ v'.ownBlock = some w1.heap.size) : ∀ g, v'.ownBlock = some g → B ≤ g := by
  intro g hg
  rcases ha with e | e
  · exact hf g (by rw [← e]; exact hg)
  · rw [e] at hg; injection hg with hg; omega
theorem Held.newBlk {w0 w : World} {L : List Res} (h : Held w0 w L) (t : TypeId) (cs : Array Value) : Held w0 (w.alloc (.cells cs t)) (blkR w.heap.size t cs :: L) :=
  h.new (blkR w.heap.size t cs) ((Kp.refl [] w).alloc (.cells cs t)) (Blk.new w t cs) (fun b hb => by
    have hb : b = w.heap.size := by simpa [blkR] using hb
    omega)
/-- What was written lies in the first things, which are let go. -/
theorem Held.rest {w0 w w' : World} {l1 l2 : List Res} {S : List Nat} (h : Held w0 w (l1 ++ l2)) (hk : Kp S w w') (hS : ∀ g, g ∈ S → ∃ r, r ∈ l1 ∧ g ∈ r.fp) : Held w0 w' l2 := by
  have hap := List.pairwise_append.1 h.apart
  refine ⟨h.k.trans hk (fun g hg => ?_), fun s hs => ?_, fun s hs => h.base s (List.mem_append_right _ hs), hap.2.1⟩
  · obtain ⟨r, hr, hb⟩ := hS g hg
    exact .inr (h.base r (List.mem_append_left _ hr) g hb)
  · exact s.keep w w' S (h.ok s (List.mem_append_right _ hs)) hk (fun b hb hm => by
      obtain ⟨r, hr, hrb⟩ := hS b hm
      exact hap.2.2 r hr s hs b hrb hb)
/-- A small block, cell by cell, as a walk wants it. -/
theorem Blk.c1 {w : World} {g : Nat} {t : TypeId} {a : Value} (h : Blk w g t #[a]) : w.cell? ⟨g, 0, none⟩ = some a ∧ w.frozen? ⟨g, 0, none⟩ = false ∧ g < w.heap.size := ⟨h.cell 0, h.frozen 0, h.lt⟩
theorem Blk.c2 {w : World} {g : Nat} {t : TypeId} {a b : Value} (h : Blk w g t #[a, b]) : w.cell? ⟨g, 0, none⟩ = some a ∧ w.cell? ⟨g, 1, none⟩ = some b ∧ w.frozen? ⟨g, 0, none⟩ = false ∧ w.frozen? ⟨g, 1, none⟩ = false ∧ g < w.heap.size := ⟨h.cell 0, h.cell 1, h.frozen 0, h.frozen 1, h.lt⟩
theorem Blk.c3 {w : World} {g : Nat} {t : TypeId} {a b c : Value} (h : Blk w g t #[a, b, c]) : w.cell? ⟨g, 0, none⟩ = some a ∧ w.cell? ⟨g, 1, none⟩ = some b ∧ w.cell? ⟨g, 2, none⟩ = some c ∧ w.frozen? ⟨g, 0, none⟩ = false ∧ w.frozen? ⟨g, 1, none⟩ = false ∧ w.frozen? ⟨g, 2, none⟩ = false ∧ g < w.heap.size := ⟨h.cell 0, h.cell 1, h.cell 2, h.frozen 0, h.frozen 1, h.frozen 2, h.lt⟩
theorem Blk.c4 {w : World} {g : Nat} {t : TypeId} {a b c d : Value} (h : Blk w g t #[a, b, c, d]) : w.cell? ⟨g, 0, none⟩ = some a ∧ w.cell? ⟨g, 1, none⟩ = some b ∧ w.cell? ⟨g, 2, none⟩ = some c ∧ w.cell? ⟨g, 3, none⟩ = some d ∧ w.frozen? ⟨g, 0, none⟩ = false ∧ w.frozen? ⟨g, 1, none⟩ = false ∧ w.frozen? ⟨g, 2, none⟩ = false ∧ w.frozen? ⟨g, 3, none⟩ = false ∧ g < w.heap.size := ⟨h.cell 0, h.cell 1, h.cell 2, h.cell 3, h.frozen 0, h.frozen 1, h.frozen 2, h.frozen 3, h.lt⟩
/-- 'append(v, y...)' for bytes: v a row made since w0; y reads as bytes. -/
theorem app_bytes {ops : Array Oper} {rest : List Oper} {o : Oper} {a : Act} {w : World} {Q : Exit → Act → World → Prop} (hgd : o.guard = none) (s x : Operand)
    (ho : o.op = .call { callee := .builtin .append, args := #[s, x], argTypes := #[45, 45] })
    (v : Value) (xs : List UInt8) (hs : a.eval s = v) (hown : Ow w 5 1 v xs.length (bv xs))
    (y : Value) (ys : List UInt8) (hx : a.eval x = y) (hr : Rd w 1 y ys.length (bv ys))
    (w0 : World) (h0 : Kp [] w0 w) (hf : ∀ g, v.ownBlock = some g → w0.heap.size ≤ g) (hb : xs.length + ys.length ≤ 140737488355328)
    (h : ∀ v' w', Ow w' 5 1 v' (xs ++ ys).length (bv (xs ++ ys)) → Kp [] w0 w' → Kp v.ownBlock.toList w w' → (∀ g, v'.ownBlock = some g → w0.heap.size ≤ g) → (v'.ownBlock = v.ownBlock ∨ v'.ownBlock = some w.heap.size) → wpList Tryd.prog ops Q rest (a.put o.dst v') w') : wpList Tryd.prog ops Q (o :: rest) a w := by
  obtain ⟨i0, hi, hz0, hz1, hz2⟩ := info_parts Tryd.infoU8
  refine wpList_app (P := Tryd.prog) w hgd s x 45 ho 5 i0 _ 1 1 Tryd.underlying45 hi hz0 hz1 hz2 rfl (by decide) v xs.length (bv xs) hs hown y ys.length (bv ys) hx hr (bv_one _) (by unfold maxLen; omega) (by omega) ?_
  intro v' w' h1 h2 h3
  rw [← bv_append, ← List.length_append] at h1
  exact h v' w' h1 (h0.grown h2 (fun g hg => .inr (hf g hg))) (Kp.of_grown h2) (fresh_grow h0.size hf h3) h3
end Go.Proofs.YtolfckhjfadhdaaDoor
/- Operations of a region walked by XSep: appends. -/
namespace Go.Proofs.YtolfckhjfadhdaaDoor
open Go.RowKit
/-- An instruction that yields v. -/
theorem op_runs {P : Program} {o : Oper} {a : Act} {w w' : World} {K : Act → World → Prop} {Q : Exit → Act → World → Prop} {v : Value} (h : (execOp a.eval o).run P w = .ok (.value v) w') (hK : K (a.put o.dst v) w') : o.wp P a w K Q := by
  unfold Oper.wp
  rw [h]
  exact hK
/-- append onto a row of the list; what is appended reads. -/
theorem op_app {P : Program} {o : Oper} {a : Act} {w0 w : World} {K : Act → World → Prop} {Q : Exit → Act → World → Prop} {L : List Res} (s x : Operand) (t e : TypeId)
    (ho : o.op = .call { callee := .builtin .append, args := #[s, x], argTypes := #[t, t] })
    {size bytes : Nat} {z : Value} (hI : (P.info? e).map (fun i => (i.zero, i.size, i.bytes)) = some (some z, size, bytes)) (ht : P.underlying t = some (.slice e)) (hzs : z.cells.size = size) (hsz : 0 < size)
    (v : Value) (n : Nat) (xs : List Value) (hs : a.eval s = v) (S : Held w0 w (rowR e size v n xs :: L))
    (y : Value) (m : Nat) (news : List Value) (hx : a.eval x = y) (hr : Rd w size y m news) (h1 : ∀ u ∈ news, u.oneCell' = true)
    (h63 : n + m ≤ maxLen) (hbytes : (n + m) * bytes ≤ 140737488355328)
    (h : ∀ v' w', Held w0 w' (rowR e size v' (n + m) (xs ++ news) :: L) → K (a.put o.dst v') w') : o.wp P a w K Q := by
  obtain ⟨i0, hi, hz, hsize, hby⟩ := info_parts hI
  obtain ⟨v', w', hrun, h2, h3, h4⟩ := run_app (P := P) w t o.type e i0 z size bytes ht hi hz hsize hby hzs hsz v n xs (S.at_ (l1 := [])) y m news hr h1 h63 hbytes
  refine op_runs (v := v') (w' := w') ?_ (h v' w' (S.grow (l1 := []) h2 h3 h4))
  unfold execOp
  simp only [ho, resolve, invoke, builtin, Sem.run_bind, Sem.run_pure, Result.andThen_ok, List.map_toArray, List.map_cons, List.map_nil, hs, hx, hrun]
/-- append(nil, y...): a new thing. -/
theorem op_app_nil {P : Program} {o : Oper} {a : Act} {w0 w : World} {K : Act → World → Prop} {Q : Exit → Act → World → Prop} {L : List Res} (s x : Operand) (t e : TypeId)
    (ho : o.op = .call { callee := .builtin .append, args := #[s, x], argTypes := #[t, t] })
    {size bytes : Nat} {z : Value} (hI : (P.info? e).map (fun i => (i.zero, i.size, i.bytes)) = some (some z, size, bytes)) (ht : P.underlying t = some (.slice e)) (hzs : z.cells.size = size) (hsz : 0 < size)
    (hs : a.eval s = .slice none 0 0) (S : Held w0 w L)
    (y : Value) (m : Nat) (news : List Value) (hx : a.eval x = y) (hr : Rd w size y m news) (h1 : ∀ u ∈ news, u.oneCell' = true)
    (h63 : m ≤ maxLen) (hbytes : m * bytes ≤ 140737488355328)
    (h : ∀ v' w', Held w0 w' (rowR e size v' m news :: L) → K (a.put o.dst v') w') : o.wp P a w K Q :=
  op_app s x t e ho hI ht hzs hsz (.slice none 0 0) 0 [] hs (S.rownew (World.ownsRow_nil _ _ _ _) (Kp.refl [] w) (by simp [Value.ownBlock])) y m news hx hr h1 (by omega) (by simpa using hbytes) (fun v' w' S' => h v' w' (by simpa using S'))
/-- A row that is handed on shorter, or longer, by another slice of it. -/
def grow1 : Value → Value
  | .slice A n c => .slice A (n + 1) c
  | v => v
theorem rd_of_row {w0 w : World} {L : List Res} {e : TypeId} {s : Nat} {v : Value} {n : Nat} {xs : List Value} (S : Held w0 w L) (h : rowR e s v n xs ∈ L) : Rd w s v n xs := Rd.of_own (S.ok _ h)
end Go.Proofs.YtolfckhjfadhdaaDoor
/- Lists of texts in memory: a slice of slices of bytes. -/
namespace Go.Proofs.YtolfckhjfadhdaaDoor
open Go.RowKit

/-- The slice v holds the texts L, wherever it and they lie. -/
def Txs (w : World) (v : Value) (L : List (List UInt8)) : Prop :=
  ∃ vs, Rd w 1 v L.length vs ∧ ∀ i (h : i < L.length), ∃ u, vs[i]? = some u ∧ Rd w 1 u L[i].length (bv L[i])
/-- Where it lies. -/
def TxsIn (w : World) (v : Value) (L : List (List UInt8)) (S : List Nat) : Prop :=
  ∃ vs, Rd w 1 v L.length vs ∧ (∀ i (h : i < L.length), ∃ u, vs[i]? = some u ∧ Rd w 1 u L[i].length (bv L[i]) ∧ ∀ g, u.ownBlock = some g → L[i] ≠ [] → g ∈ S) ∧ ∀ g, v.ownBlock = some g → L ≠ [] → g ∈ S
section
variable {w w' : World} {v : Value} {L : List (List UInt8)} {S T : List Nat}
theorem TxsIn.txs (h : TxsIn w v L S) : Txs w v L := by
  obtain ⟨vs, h1, h2, _⟩ := h
  exact ⟨vs, h1, fun i hi => by obtain ⟨u, a, b, _⟩ := h2 i hi; exact ⟨u, a, b⟩⟩
theorem TxsIn.kp (h : TxsIn w v L S) (hk : Kp T w w') (hn : ∀ g, g ∈ S → g ∉ T) : TxsIn w' v L S := by
  obtain ⟨vs, h1, h2, h3⟩ := h
  refine ⟨vs, h1.kpl hk (fun g hg hne => hn g (h3 g hg (fun e => ?_))), fun i hi => ?_, h3⟩
  · subst e
    exact hne (List.eq_nil_of_length_eq_zero (by simpa using h1.1))
  · obtain ⟨u, a, b, c⟩ := h2 i hi
    exact ⟨u, a, b.kpl hk (fun g hg hne => hn g (c g hg (bv_ne hne))), c⟩
theorem Txs.kp0 (h : Txs w v L) (hk : Kp [] w w') : Txs w' v L := by
  obtain ⟨vs, h1, h2⟩ := h
  exact ⟨vs, rd_old h1 hk, fun i hi => by obtain ⟨u, a, b⟩ := h2 i hi; exact ⟨u, a, rd_old b hk⟩⟩
theorem Txs.open_ (h : Txs w v L) : ∃ A c, v = .slice A L.length c ∧ (0 < L.length → ∃ ad, A = some ad) ∧ ∀ ad, A = some ad → ∀ i (h : i < L.length), ∃ u, w.cell? (ad.add i) = some u ∧ Rd w 1 u L[i].length (bv L[i]) := by
  obtain ⟨vs, ⟨hl, A, c, rfl, _, _, hA, hc⟩, h2⟩ := h
  refine ⟨A, c, rfl, fun h0 => ?_, fun ad had i hi => ?_⟩
  · cases A with
    | none => have := (hA rfl).1; omega
    | some ad => exact ⟨ad, rfl⟩
  · obtain ⟨u, a, b⟩ := h2 i hi
    exact ⟨u, hc ad had i u a, b⟩
end
/-- The block of a text that is not empty. -/
def fpB (u : Value) (bs : List UInt8) : List Nat := if bs = [] then [] else u.ownBlock.toList
theorem fpB_mem {u : Value} {bs : List UInt8} {g : Nat} (h : u.ownBlock = some g) (hne : bs ≠ []) : g ∈ fpB u bs := by simp [fpB, hne, h]
theorem fpB_lt {w : World} {u : Value} {bs : List UInt8} {n g : Nat} (h : Rd w 1 u n (bv bs)) (hg : g ∈ fpB u bs) : g < w.heap.size := by
  unfold fpB at hg
  split at hg
  · cases hg
  · rename_i hne
    exact rd_lt h (by simpa using hg) (fun e => hne (bv_inj e))
theorem txsIn1 {w : World} {u : Value} {bs : List UInt8} {n : Nat} (t : TypeId) (h : Rd w 1 u n (bv bs)) :
    TxsIn (w.alloc (.cells #[u] t)) (.slice (some ⟨w.heap.size, 0, none⟩) 1 1) [bs] (w.heap.size :: fpB u bs) := by
  have hn : n = bs.length := by have := h.1; rw [bv_length] at this; omega
  subst hn
  refine ⟨[u], rd_new w t u, fun i hi => ?_, fun g hg _ => by simp [Value.ownBlock] at hg; simp [hg]⟩
  obtain rfl : i = 0 := by simpa using hi
  exact ⟨u, rfl, h.alloc _, fun g hg hne => List.mem_cons_of_mem _ (fpB_mem hg hne)⟩
theorem txsIn2 {w : World} {u1 u2 : Value} {b1 b2 : List UInt8} {n1 n2 : Nat} (t : TypeId) (h1 : Rd w 1 u1 n1 (bv b1)) (h2 : Rd w 1 u2 n2 (bv b2)) :
    TxsIn (w.alloc (.cells #[u1, u2] t)) (.slice (some ⟨w.heap.size, 0, none⟩) 2 2) [b1, b2] (w.heap.size :: (fpB u1 b1 ++ fpB u2 b2)) := by
  have hn1 : n1 = b1.length := by have := h1.1; rw [bv_length] at this; omega
  have hn2 : n2 = b2.length := by have := h2.1; rw [bv_length] at this; omega
  subst hn1 hn2
  refine ⟨[u1, u2], Rd.of_own (ow_new w t 1 2 #[u1, u2] rfl (by decide)), fun i hi => ?_, fun g hg _ => by simp [Value.ownBlock] at hg; simp [hg]⟩
  have : i = 0 ∨ i = 1 := by simp at hi; omega
  rcases this with rfl | rfl
  · exact ⟨u1, rfl, h1.alloc _, fun g hg hne => List.mem_cons_of_mem _ (List.mem_append_left _ (fpB_mem hg hne))⟩
  · exact ⟨u2, rfl, h2.alloc _, fun g hg hne => List.mem_cons_of_mem _ (List.mem_append_right _ (fpB_mem hg hne))⟩
/-- The same, where the walk spells the block's number. -/
theorem txs1 {w : World} {u : Value} {bs : List UInt8} {n g : Nat} (t : TypeId) (hg : g = w.heap.size) (h : Rd w 1 u n (bv bs)) : Txs (w.alloc (.cells #[u] t)) (.slice (some ⟨g, 0, none⟩) 1 1) [bs] := by
  subst hg; exact (txsIn1 t h).txs
theorem txs2 {w : World} {u1 u2 : Value} {b1 b2 : List UInt8} {n1 n2 g : Nat} (t : TypeId) (hg : g = w.heap.size) (h1 : Rd w 1 u1 n1 (bv b1)) (h2 : Rd w 1 u2 n2 (bv b2)) :
    Txs (w.alloc (.cells #[u1, u2] t)) (.slice (some ⟨g, 0, none⟩) 2 2) [b1, b2] := by
  subst hg; exact (txsIn2 t h1 h2).txs
end Go.Proofs.YtolfckhjfadhdaaDoor
/- slices.Equal for bytes. -/
namespace Go.Proofs.YtolfckhjfadhdaaDoor
open Go.RowKit

/-- A cell that is there reads as it did. -/
theorem cell_kept {w w' : World} {p : Addr} {u : Value} (h : w.cell? p = some u) (hk : Kp [] w w') : w'.cell? p = some u :=
  (World.cell?_of_block (hk.block p.block (cell_lt h) (by simp))).trans h
theorem take_succ_of {α : Type} {a : List α} {k : Nat} {x : α} (h : a[k]? = some x) : a.take (k + 1) = a.take k ++ [x] := by
  rw [List.take_add_one, h]; rfl
theorem rd_get2 {w : World} {v : Value} {bs : List UInt8} (h : Rd w 1 v bs.length (bv bs)) : ∃ A c, v = .slice A bs.length c ∧ bs.length ≤ c ∧ c ≤ maxLen ∧ (A = none → bs.length = 0) ∧ ∀ ad, A = some ad → ∀ i (h : i < bs.length), w.cell? (ad.add i) = some (.int .u8 (bs[i].toNat : Int)) := by
  obtain ⟨_, A, c, hv, h1, h2, h3, h4⟩ := h
  exact ⟨A, c, hv, h1, h2, fun hA => (h3 hA).1, fun ad had i hi => h4 ad had i _ (by rw [bv_get, List.getElem?_eq_getElem hi]; rfl)⟩
end Go.Proofs.YtolfckhjfadhdaaDoor
/- Walks of package wire: numbers. -/
namespace Go.Proofs.YtolfckhjfadhdaaDoor
open Go.RowKit

theorem nat_le8 {k : Nat} (h : k ≤ 8) : k = 0 ∨ k = 1 ∨ k = 2 ∨ k = 3 ∨ k = 4 ∨ k = 5 ∨ k = 6 ∨ k = 7 ∨ k = 8 := by omega

theorem two_pow8 (i : Nat) : (2 : Int) ^ (8 * i) = ((256 ^ i : Nat) : Int) := by
  have h : (2 : Nat) ^ (8 * i) = 256 ^ i := by rw [Nat.pow_mul]
  rw [← h, Int.natCast_pow]
  rfl
theorem byte_of (x i : Nat) : Value.int .u8 ((x : Int) / 2 ^ (8 * i) % 256) = Value.int .u8 ((UInt8.ofNat (x / 256 ^ i)).toNat : Int) := by
  rw [UInt8.toNat_ofNat', two_pow8, Int.natCast_emod, Int.natCast_ediv]
  rfl
theorem form_step {w wr w1 : World} {v u v' : Value} {n k i x : Nat} {xs : List UInt8} {o : Obj} (hj : i + 1 ≤ k)
    (hown1 : Ow w1 5 1 v' (n + (k - (i + 1)) + 1) (bv (xs ++ (be k x).take (k - (i + 1))) ++ [Value.int .u8 ((x : Int) / 2 ^ (8 * i) % 256)]))
    (hkp : Kp v.ownBlock.toList w wr) (hat : u.ownBlock = v.ownBlock ∨ ∃ g, u.ownBlock = some g ∧ w.heap.size ≤ g)
    (hg1 : (wr.alloc o).grownBy w1 u.ownBlock) (hat1 : v'.ownBlock = u.ownBlock ∨ v'.ownBlock = some (wr.heap.size + 1)) :
    ∃ j : Nat, j ≤ k ∧ (Value.int .i64 ((i : Int) - 1)) = .int .i64 ((j : Int) - 1) ∧ Ow w1 5 1 v' (n + (k - j)) (bv (xs ++ (be k x).take (k - j))) ∧ Kp v.ownBlock.toList w w1 ∧
      (v'.ownBlock = v.ownBlock ∨ ∃ g, v'.ownBlock = some g ∧ w.heap.size ≤ g) := by
  refine ⟨i, by omega, rfl, ?_, (hkp.alloc o).grown hg1 ?_, ?_⟩
  · rw [be_take_succ k x i (by omega), ← List.append_assoc, bv_append (xs ++ _), show n + (k - i) = n + (k - (i + 1)) + 1 from by omega, show k - i - 1 = k - (i + 1) from by omega]
    rw [byte_of] at hown1
    exact hown1
  · intro g hg
    rcases hat with h | ⟨g', h, hlt⟩
    · rw [h] at hg; left; rw [hg]; simp
    · rw [h] at hg; cases hg; right; exact hlt
  · rcases hat1 with h | h
    · rw [h]; exact hat
    · right; exact ⟨_, h, by have := hkp.size; omega⟩

set_option maxHeartbeats 400000 in
theorem form_any (v : Value) (n : Nat) (xs : List UInt8) (k : Nat) (hk : k ≤ 8) (x : Nat) (_hx : x < 18446744073709551616) (w : World) (hown : Ow w 5 1 v n (bv xs)) (hn : n + k ≤ 140737488355328) :
   Calls Tryd.prog 82 #[v, .int .i64 k, .int .u64 x] w fun e w' => ∃ v', e = .returned v' ∧ Ow w' 5 1 v' (n + k) (bv (xs ++ be k x)) ∧ Kp v.ownBlock.toList w w' ∧
      (v'.ownBlock = v.ownBlock ∨ ∃ g, v'.ownBlock = some g ∧ w.heap.size ≤ g) := by
  obtain ⟨i0, hi, hz0, hz1, hz2⟩ := info_parts Tryd.infoU8
  go_enter Tryd.func82, Tryd.ntmps82
  go_wp2
  go_loopw [0, 7] (fun u t wr => ∃ j : Nat, j ≤ k ∧ t = .int .i64 ((j : Int) - 1) ∧ Ow wr 5 1 u (n + (k - j)) (bv (xs ++ (be k x).take (k - j))) ∧ Kp v.ownBlock.toList w wr ∧
      (u.ownBlock = v.ownBlock ∨ ∃ g, u.ownBlock = some g ∧ w.heap.size ≤ g)) (fun _ n _ => ((intOf n) + 1).toNat)
  case atStart => exact ⟨k, by omega, rfl, by simpa using hown, Kp.refl _ _, .inl rfl⟩
  case round =>
    obtain ⟨j, hj, rfl, hown', hkp, hat⟩ := hrel
    by_cases h0 : j = 0
    · subst h0
      go_wp2
      go_ret
      refine ⟨_, rfl, ?_, hkp, hat⟩
      rw [Nat.sub_zero, List.take_of_length_le (by simp)] at hown'
      exact hown'
    · obtain ⟨i, rfl⟩ : ∃ i, j = i + 1 := ⟨j - 1, by omega⟩
      clear h0
      go_wp2_with (at_builtin; go_loud (refine wpList_app _ rfl (.tmp 14) (.tmp 20) _ rfl 5 i0 _ 1 1 Tryd.underlying45 hi hz0 hz1 hz2 rfl (by decide) _ _ _ rfl (hown'.alloc _) (.slice (some ⟨wr.heap.size, 0, none⟩) 1 1) 1 [Value.int .u8 ((x : Int) / 2 ^ (8 * i) % 256)] rfl (rd_new _ _ _) (one_bv _ rfl) (by unfold maxLen; omega) (by omega) ?_))
      intro v' w1 hown1 hg1 hat1
      go_wp2
      go_roundw
      case rel => exact form_step hj hown1 hkp hat hg1 hat1
      case measure => simp [intOf]

set_option maxHeartbeats 400000 in
theorem width_u64 (w : World) : Calls Tryd.prog 83 #[] w fun e w' => e = .returned (.int .i64 8) ∧ w = w' := by
  go_enter Tryd.func83, Tryd.ntmps83
  go_wp2
  go_loop [1, 2] (fun n t => ∃ k : Nat, k ≤ 8 ∧ n = .int .i64 k ∧ t = .int .u64 (2 ^ (64 - 8 * k) - 1)) (fun n _ => 8 - (intOf n).toNat)
  case atStart => exact ⟨0, by omega, rfl, rfl⟩
  case round =>
    obtain ⟨k, hk, rfl, rfl⟩ := hrel
    rcases (show k = 0 ∨ k = 1 ∨ k = 2 ∨ k = 3 ∨ k = 4 ∨ k = 5 ∨ k = 6 ∨ k = 7 ∨ k = 8 from by omega) with rfl | rfl | rfl | rfl | rfl | rfl | rfl | rfl | rfl
    all_goals simp only [Nat.reduceMul, Nat.reduceSub, Int.reducePow, Int.reduceSub]
    all_goals go_wp2
    all_goals first
      | (go_ret; exact ⟨rfl, rfl⟩)
      | (go_round
         case rel => first | exact ⟨1, by omega, rfl, rfl⟩ | exact ⟨2, by omega, rfl, rfl⟩ | exact ⟨3, by omega, rfl, rfl⟩ | exact ⟨4, by omega, rfl, rfl⟩ | exact ⟨5, by omega, rfl, rfl⟩ | exact ⟨6, by omega, rfl, rfl⟩ | exact ⟨7, by omega, rfl, rfl⟩ | exact ⟨8, by omega, rfl, rfl⟩
         case measure => simp [intOf])

end Go.Proofs.YtolfckhjfadhdaaDoor
/- Walks of package wire: the writer. -/
namespace Go.Proofs.YtolfckhjfadhdaaDoor
open Go.RowKit

/-- A writer: its block p, the bytes' slice v, the bytes. -/
def Wr (w : World) (p : Nat) (v : Value) (bs : List UInt8) : Prop := Blk w p 110 #[v] ∧ Ow w 5 1 v bs.length (bv bs)
/-- What a call that writes leaves: v' is where v was, or new. -/
def WSt (p : Nat) (v v' : Value) (w w' : World) : Prop := Kp (p :: v.ownBlock.toList) w w' ∧ (v'.ownBlock = v.ownBlock ∨ ∃ g, v'.ownBlock = some g ∧ w.heap.size ≤ g)

theorem Wr.ne {w : World} {p : Nat} {v : Value} {bs : List UInt8} (h : Wr w p v bs) : v.ownBlock ≠ some p := ow_blk_ne h.2 h.1 (by decide)

theorem wr_kept {w w' : World} {p : Nat} {v : Value} {bs : List UInt8} (h : Wr w p v bs) (hk : Kp v.ownBlock.toList w w') : w'.cell? ⟨p, 0, none⟩ = some v ∧ w'.frozen? ⟨p, 0, none⟩ = false ∧ p < w'.heap.size := by
  have hb : Blk w' p 110 #[v] := h.1.kp hk (fun hm => h.ne (by simpa using hm))
  exact ⟨by simpa using hb.cell 0, hb.frozen 0, hb.lt⟩
theorem wr_step {w w' : World} {p : Nat} {v v' : Value} {bs bs' : List UInt8} {n : Nat} (h : Wr w p v bs) (ho : Ow w' 5 1 v' n (bv bs')) (hk : Kp v.ownBlock.toList w w') (hat : v'.ownBlock = v.ownBlock ∨ ∃ g, v'.ownBlock = some g ∧ w.heap.size ≤ g) :
    Wr (w'.setCell ⟨p, 0, none⟩ v') p v' bs' ∧ WSt p v v' w (w'.setCell ⟨p, 0, none⟩ v') := by
  have hb : Blk w' p 110 #[v] := h.1.kp hk (fun hm => h.ne (by simpa using hm))
  have hn : n = bs'.length := by have := ho.1; simpa [bv_length] using this.symm
  subst hn
  have hne := ow_blk_ne ho hb (by decide)
  refine ⟨⟨by simpa using hb.set_ 0 v', ow_kp ho ((Kp.refl [p] w').setCell (.inl (by simp)) v') ?_⟩, ?_, hat⟩
  · intro g hg hm
    simp at hm
    subst hm
    exact hne hg
  · exact (hk.more (T := p :: v.ownBlock.toList) (fun g hg => .inl (List.mem_cons_of_mem _ hg))).setCell (.inl (by simp)) v'

set_option maxRecDepth 100000 in
set_option maxHeartbeats 400000 in
theorem put_u64 (p : Nat) (v : Value) (bs : List UInt8) (x : Nat) (hx : x < 18446744073709551616) (w : World) (hw : Wr w p v bs) (hn : bs.length + 8 ≤ 140737488355328) :
    Calls Tryd.prog 62 #[.pointer (some ⟨p, 0, none⟩), .int .u64 x] w fun e w' => e = .returned (.int .i64 0) ∧ ∃ v', Wr w' p v' (bs ++ be 8 x) ∧ WSt p v v' w w' := by
  have hc := hw.1.cell 0
  simp at hc
  have hx' : x < 18446744073709551616 := by omega
  go_enter Tryd.func62, Tryd.ntmps62
  go_wp2
  refine wp_region_lexf [5, 7, 10] [10] (fun W => W.cell? ⟨p, 0, none⟩ = some v) (by kernel_rfl) (by kernel_rfl) (show w.drew.cell? _ = _ from hc) (fun σ hne f hf hsur => ?_); have Hsur := Lib.hid hsur; clear hsur
  go_wp2_with (first
    | (refine lex_qq Hsur.out rfl rfl rfl ?_; intro K hK; go_big_quiet_op; go_big_quiet_on) | (refine lex_skipk rfl ?_; intro K hK; go_simp; refine hK _ _ ?_; clear hK K) | (refine lex_e rfl rfl ?_; intro K hK; go_step) | (refine lex_nil ?_)
    | ((with_reducible apply And.intro); · (intro hl; first | (exact ls_absurd hl rfl) | assumption))
    | (go_at_call 83; refine (width_u64 _).mono ?_; rintro e w' ⟨rfl, rfl⟩; have c1 : w.drew.cell? ⟨p, 0, none⟩ = some v := hc)
    | (go_at_call 82; refine (form_any v bs.length bs 8 (by decide) x hx' _ (show Ow w.drew _ _ _ _ _ from hw.2) hn).mono ?_; rintro e w' ⟨v', rfl, h1, h2, h3⟩; obtain ⟨A', c', rfl, _, _⟩ := ow_form h1; obtain ⟨c1, c2, c3⟩ := wr_kept (w := w.drew) (show Wr w.drew p v bs from hw) h2))
  go_ret
  exact ⟨rfl, _, wr_step (w := w) hw h1 (Kp.of_drew h2) h3⟩
end Go.Proofs.YtolfckhjfadhdaaDoor
/- Walks of package wire: the writer's other methods; slices.Clone; the reference's Same. -/
namespace Go.Proofs.YtolfckhjfadhdaaDoor
open Go.RowKit

/-- A number in two's complement. -/
def tou64 (x : Int) : Nat := (x % 18446744073709551616).toNat
theorem tou64_lt (x : Int) : tou64 x < 18446744073709551616 := by unfold tou64; omega
theorem wrap_u64_nat (x : Int) : IntKind.u64.wrap x = (tou64 x : Int) := by
  rw [IntKind.wrap_u64]; unfold tou64; omega

set_option maxRecDepth 100000 in
set_option maxHeartbeats 400000 in
theorem clone_any (x : Value) (bs : List UInt8) (n : Nat) (w : World) (hx : Rd w 1 x n (bv bs)) (hn : n ≤ 140737488355328) :
    Calls Tryd.prog 64 #[x] w fun e w' => ∃ v', e = .returned v' ∧ Ow w' 5 1 v' n (bv bs) ∧ Kp [] w w' ∧ ∀ g, v'.ownBlock = some g → w.heap.size ≤ g := by
  obtain ⟨i0, hi, hz0, hz1, hz2⟩ := info_parts Tryd.infoU8
  obtain ⟨hl, A, c, rfl, hc1, hc2, hA, hcells⟩ := hx
  rcases A with _ | ad
  · obtain ⟨rfl, rfl⟩ := hA rfl
    go_enter Tryd.func64, Tryd.ntmps64
    go_wp2_with fail
    go_ret
    refine ⟨_, rfl, ?_, Kp.refl _ _, by simp [Value.ownBlock]⟩
    rw [show bv bs = [] from List.eq_nil_of_length_eq_zero (by simpa using hl)]; exact World.ownsRow_nil _ _ _ _
  · have hr := rd_some hl hc1 hc2 hcells
    go_enter Tryd.func64, Tryd.ntmps64
    go_wp2_with (at_builtin; go_loud (refine wpList_app _ rfl (.tmp 5) (.tmp 6) _ rfl 5 i0 _ 1 1 Tryd.underlying45 hi hz0 hz1 hz2 rfl (by decide) _ 0 [] rfl (ow_new w 5 1 0 #[] rfl (by simp [maxLen])) (.slice (some ad) n c) n (bv bs) rfl (hr.alloc _) (bv_one _) (by unfold maxLen; omega) (by omega) ?_))
    intro v' w1 hown1 hg1 hat1
    go_wp2
    go_ret
    refine ⟨v', rfl, by simpa using hown1, ?_, ?_⟩
    · refine ((Kp.refl [] w).alloc _).grown hg1 ?_
      intro g hg
      simp [Value.ownBlock] at hg
      omega
    · intro g hg
      rcases hat1 with h | h
      · rw [h] at hg; simp [Value.ownBlock] at hg; omega
      · rw [h] at hg; simp at hg; omega

set_option maxHeartbeats 400000 in
theorem new_writer (w : World) : Calls Tryd.prog 40 #[] w fun e w' => e = .returned (.pointer (some ⟨w.heap.size, 0, none⟩)) ∧ Wr w' w.heap.size (.slice none 0 0) [] ∧ Kp [] w w' := by
  go_enter Tryd.func40, Tryd.ntmps40
  go_wp2
  go_ret
  exact ⟨rfl, ⟨Blk.new _ _ _, World.ownsRow_nil _ _ _ _⟩, (Kp.refl [] w).alloc _⟩

set_option maxHeartbeats 400000 in
theorem w_bytes (p : Nat) (v : Value) (bs : List UInt8) (w : World) (hw : Wr w p v bs) (hn : bs.length ≤ 140737488355328) :
    Calls Tryd.prog 45 #[.pointer (some ⟨p, 0, none⟩)] w fun e w' => ∃ v', e = .returned v' ∧ Ow w' 5 1 v' bs.length (bv bs) ∧ Kp [] w w' ∧ ∀ g, v'.ownBlock = some g → w.heap.size ≤ g := by
  have hc := hw.1.cell 0
  simp at hc
  go_enter Tryd.func45, Tryd.ntmps45
  go_wp2_with (go_at_call 64; refine (clone_any v bs bs.length w (Rd.of_own hw.2) hn).mono ?_; rintro e w' ⟨v', rfl, h1, h2, h3⟩)
  go_ret
  exact ⟨v', rfl, h1, h2, h3⟩

set_option maxHeartbeats 400000 in
theorem w_signed (p : Nat) (v : Value) (bs : List UInt8) (x : Int) (w : World) (hw : Wr w p v bs) (hn : bs.length + 8 ≤ 140737488355328) :
    Calls Tryd.prog 42 #[.pointer (some ⟨p, 0, none⟩), .int .i64 x] w fun e w' => e = .returned (.int .i64 0) ∧ ∃ v', Wr w' p v' (bs ++ be 8 (tou64 x)) ∧ WSt p v v' w w' := by
  go_enter Tryd.func42, Tryd.ntmps42
  go_wp2_with fail
  rw [wrap_u64_nat]
  refine (put_u64 p v bs (tou64 x) (tou64_lt x) w hw hn).mono ?_
  rintro e w' ⟨rfl, h⟩
  go_wp2
  go_ret
  exact ⟨rfl, h⟩

set_option maxHeartbeats 400000 in
theorem w_raw (p : Nat) (v : Value) (bs : List UInt8) (x : Value) (ns : List UInt8) (w : World) (hw : Wr w p v bs) (hx : Rd w 1 x ns.length (bv ns)) (hn : bs.length + ns.length ≤ 140737488355328) :
    Calls Tryd.prog 41 #[.pointer (some ⟨p, 0, none⟩), x] w fun e w' => e = .returned (.int .i64 0) ∧ ∃ v', Wr w' p v' (bs ++ ns) ∧ WSt p v v' w w' := by
  obtain ⟨i0, hi, hz0, hz1, hz2⟩ := info_parts Tryd.infoU8
  have hc := hw.1.cell 0
  simp at hc
  go_enter Tryd.func41, Tryd.ntmps41
  go_wp2_with (at_builtin; go_loud (refine wpList_app _ rfl (.tmp 11) (.tmp 12) _ rfl 5 i0 _ 1 1 Tryd.underlying45 hi hz0 hz1 hz2 rfl (by decide) v bs.length (bv bs) rfl hw.2 x ns.length (bv ns) rfl hx (bv_one _) (by unfold maxLen; omega) (by omega) ?_))
  intro v' w1 hown1 hg1 hat1
  obtain ⟨A', c', rfl, _, _⟩ := ow_form hown1
  obtain ⟨c1, c2, c3⟩ := wr_kept hw (Kp.of_grown hg1)
  go_wp2
  go_ret
  refine ⟨rfl, _, wr_step hw (n := bs.length + ns.length) (bs' := bs ++ ns) (by rw [bv_append]; exact hown1) (Kp.of_grown hg1) ?_⟩
  rcases hat1 with h | h
  · exact .inl h
  · exact .inr ⟨_, h, Nat.le_refl _⟩

theorem wr_step2 {w w1 w2 : World} {p : Nat} {v v1 v' : Value} {bs b1 b2 : List UInt8} {n m : Nat} (h : Wr w p v bs) (_ho : Ow w1 5 1 v1 n (bv b1)) (hk : Kp v.ownBlock.toList w w1) (hat : v1.ownBlock = v.ownBlock ∨ ∃ g, v1.ownBlock = some g ∧ w.heap.size ≤ g)
    (ho2 : Ow w2 5 1 v' m (bv b2)) (hg : w1.grownBy w2 v1.ownBlock) (hat2 : v'.ownBlock = v1.ownBlock ∨ v'.ownBlock = some w1.heap.size) :
    Wr (w2.setCell ⟨p, 0, none⟩ v') p v' b2 ∧ WSt p v v' w (w2.setCell ⟨p, 0, none⟩ v') := by
  have hk2 : Kp v.ownBlock.toList w w2 := hk.grown hg (fun g hgg => by
    rcases hat with h1 | ⟨g', h1, h2⟩
    · left; rw [← h1, hgg]; simp
    · rw [h1] at hgg; cases hgg; exact .inr h2)
  refine wr_step h ho2 hk2 ?_
  rcases hat2 with h1 | h1
  · rw [h1]; exact hat
  · exact .inr ⟨_, h1, hk.size⟩
end Go.Proofs.YtolfckhjfadhdaaDoor
/- Walks of package wire: a hash is written; the reference's Same. -/
namespace Go.Proofs.YtolfckhjfadhdaaDoor
open Go.RowKit

set_option maxRecDepth 100000 in
set_option maxHeartbeats 400000 in
theorem w_hash (p : Nat) (v : Value) (bs : List UInt8) (h : List UInt8) (w : World) (hw : Wr w p v bs) (hh : h.length = 32) (hn : bs.length + 32 ≤ 140737488355328) :
    Calls Tryd.prog 43 #[.pointer (some ⟨p, 0, none⟩), .agg (bv h).toArray] w fun e w' => e = .returned (.int .i64 0) ∧ ∃ v', Wr w' p v' (bs ++ h) ∧ WSt p v v' w w' := by
  obtain ⟨cs, hcs⟩ : ∃ cs : Array Value, cs = (bv h).toArray := ⟨_, rfl⟩
  rw [← hcs]
  have Hcs := Lib.hid hcs
  clear hcs
  go_enter Tryd.func43, Tryd.ntmps43
  go_wp2_with fail
  have hr : Rd (w.alloc (.cells cs 23)) 1 (.slice (some ⟨w.heap.size, 0, none⟩) 32 32) h.length (bv h) := by
    rw [hh]
    have := ow_new w 23 1 32 cs (by rw [Hcs.out]; simp [bv_length, hh]) (by simp [maxLen])
    rw [show cs.toList = bv h from by rw [Hcs.out]] at this
    exact Rd.of_own this
  have hw1 : Wr (w.alloc (.cells cs 23)) p v bs := ⟨hw.1.alloc _, hw.2.alloc _⟩
  refine (w_raw p v bs _ h _ hw1 hr (by omega)).mono ?_
  rintro e w' ⟨rfl, v', h1, h2, h3⟩
  go_wp2
  go_ret
  refine ⟨rfl, v', h1, ?_, ?_⟩
  · exact ((Kp.refl (p :: v.ownBlock.toList) w).alloc _).trans h2 (fun g hg => .inl hg)
  · rcases h3 with h3 | ⟨g, h3, h4⟩
    · exact .inl h3
    · exact .inr ⟨g, h3, by simp at h4; omega⟩


set_option maxRecDepth 100000 in
set_option maxHeartbeats 400000 in
theorem same_any (x y : Value) (a b : List UInt8) (n m : Nat) (w : World) (hx : Rd w 1 x n (bv a)) (hy : Rd w 1 y m (bv b)) :
    Calls Tryd.prog 24 #[x, y] w fun e w' => e = .returned (.bool (a == b)) ∧ w = w' := by
  have e1 := strB hx
  have e2 := strB hy
  obtain ⟨A, c, rfl⟩ := rd_form hx
  obtain ⟨A', c', rfl⟩ := rd_form hy
  clear hx hy
  go_enter Tryd.func24, Tryd.ntmps24
  go_wp2
  go_ret
  exact ⟨rfl, rfl⟩
end Go.Proofs.YtolfckhjfadhdaaDoor
/- Walks of package wire: the reader. -/
namespace Go.Proofs.YtolfckhjfadhdaaDoor
open Go.RowKit

/-- A reader: its block p, the bytes' slice v, the place, the bytes. -/
structure Rr (w : World) (p : Nat) (v : Value) (at_ : Nat) (bs : List UInt8) : Prop where
  blk : Blk w p 117 #[v, .int .i64 at_]
  rd : Rd w 1 v bs.length (bv bs)
  le : at_ ≤ bs.length
  len : bs.length ≤ 140737488355328
  ne : v.ownBlock ≠ some p
  vlt : ∀ g, v.ownBlock = some g → g < w.heap.size

theorem Rr.kp {w w' : World} {S : List Nat} {p : Nat} {v : Value} {at_ : Nat} {bs : List UInt8} (h : Rr w p v at_ bs) (hk : Kp S w w') (hp : p ∉ S) (hv : ∀ g, v.ownBlock = some g → g ∉ S) : Rr w' p v at_ bs :=
  ⟨h.blk.kp hk hp, h.rd.kp hk hv, h.le, h.len, h.ne, fun g hg => Nat.lt_of_lt_of_le (h.vlt g hg) hk.size⟩
theorem Rr.moved {w w' : World} {p : Nat} {v : Value} {a b : Nat} {bs : List UInt8} (h : Rr w p v a bs) (hk : Kp [p] w w') (hb : Blk w' p 117 #[v, .int .i64 b]) (hle : b ≤ bs.length) : Rr w' p v b bs :=
  ⟨hb, h.rd.kp hk (fun g hg hm => by simp at hm; subst hm; exact h.ne hg), hle, h.len, h.ne, fun g hg => Nat.lt_of_lt_of_le (h.vlt g hg) hk.size⟩

set_option maxHeartbeats 400000 in
theorem r_left (p : Nat) (v : Value) (a : Nat) (bs : List UInt8) (w : World) (h : Rr w p v a bs) :
    Calls Tryd.prog 86 #[.pointer (some ⟨p, 0, none⟩)] w fun e w' => e = .returned (.int .i64 ((bs.length : Int) - a)) ∧ ∃ n, w' = w.drewN n := by
  have hc0 := h.blk.cell 0
  have hc1 := h.blk.cell 1
  obtain ⟨A, c, rfl⟩ := rd_form h.rd
  simp at hc0 hc1
  have hle := h.le
  have hlen := h.len
  go_enter Tryd.func86, Tryd.ntmps86
  go_wp2
  go_quiet (fail)
  go_wp2
  go_ret
  exact ⟨rfl, _, rfl⟩

theorem setCell1 {w : World} {p : Nat} {v u x : Value} (h : Blk w p 117 #[v, u]) : Blk (w.setCell ⟨p, 1, none⟩ x) p 117 #[v, x] := by
  simpa using h.set_ 1 x

theorem Rr.alloc {w : World} {p : Nat} {v : Value} {at_ : Nat} {bs : List UInt8} (h : Rr w p v at_ bs) (o : Obj) : Rr (w.alloc o) p v at_ bs := h.kp ((Kp.refl [] w).alloc o) (by simp) (fun _ _ => by simp)
theorem Rr.kp' {w w' : World} {p : Nat} {v : Value} {at_ : Nat} {bs : List UInt8} (h : Rr w p v at_ bs) (hk : Kp [] w w') : Rr w' p v at_ bs := h.kp hk (by simp) (fun _ _ => by simp)
theorem Rr.set {w : World} {p g : Nat} {v : Value} {at_ : Nat} {bs : List UInt8} (h : Rr w p v at_ bs) (hg : g ≠ p) (hv : v.ownBlock ≠ some g) (i : Nat) (x : Value) : Rr (w.setCell ⟨g, i, none⟩ x) p v at_ bs :=
  h.kp ((Kp.refl [g] w).setCell (.inl (by simp)) x) (by simpa using Ne.symm hg) (fun k hk hm => by simp at hm; subst hm; exact hv hk)
theorem Rr.drewN {w : World} {p : Nat} {v : Value} {at_ : Nat} {bs : List UInt8} (h : Rr w p v at_ bs) (n : Nat) : Rr (w.drewN n) p v at_ bs := ⟨h.blk, h.rd, h.le, h.len, h.ne, h.vlt⟩

set_option maxHeartbeats 800000 in
/-- 'next', where there are enough bytes and what goes on answers OK. -/
theorem next_ok (p : Nat) (v : Value) (a : Nat) (bs : List UInt8) (k : Nat) (hk : a + k ≤ bs.length) (g : Nat) (lb : Array Value) (w : World) (h : Rr w p v a bs) (R : World → Prop)
    (eg : ∀ args w, (callFunc g args).run Tryd.prog w = .ok (.enter g args) w)
    (hcall : ∀ A c W, Kp [p] w W → Rr W p v (a + k) bs → Rd W 1 (.slice A k c) k (bv ((bs.drop a).take k)) →
      Calls Tryd.prog g (#[.slice A k c] ++ lb) W fun e w' => e = .returned (.int .i64 0) ∧ R w') :
    Calls Tryd.prog 67 #[.pointer (some ⟨p, 0, none⟩), .int .i64 k, .func (.func g) #[] lb] w fun e w' => e = .returned (.int .i64 0) ∧ R w' := by
  have hc0 := h.blk.cell 0
  have hc1 := h.blk.cell 1
  have hf1 := h.blk.frozen 1
  obtain ⟨A, c, hA⟩ := rd_form h.rd
  subst hA
  have hcc : bs.length ≤ c ∧ c ≤ 9223372036854775807 := by
    obtain ⟨_, A', c', hv, h1, h2, _⟩ := h.rd
    cases hv
    exact ⟨h1, by unfold maxLen at h2; omega⟩
  obtain ⟨hcc1, hcc2⟩ := hcc
  simp at hc0 hc1
  have hle := h.le
  have hlen := h.len
  have hmv : ∀ n, Kp [p] w ((w.setCell ⟨p, 1, none⟩ (.int .i64 ((a : Int) + k))).drewN n) ∧ Rr ((w.setCell ⟨p, 1, none⟩ (.int .i64 ((a : Int) + k))).drewN n) p (.slice A bs.length c) (a + k) bs := fun n => by
    have k1 : Kp [p] w (w.setCell ⟨p, 1, none⟩ (.int .i64 ((a : Int) + k))) := (Kp.refl [p] w).setCell (.inl (by simp)) _
    exact ⟨k1.drewN n, (h.moved k1 (by have := setCell1 (x := .int .i64 ((a : Int) + k)) h.blk; rw [Int.natCast_add]; exact this) hk).drewN n⟩
  have Hmv := Lib.hid hmv
  have Hcall := Lib.hid hcall
  clear hmv hcall
  have Hh := Lib.hid h
  clear h
  by_cases hca : c = a
  · have hk0 : k = 0 := by omega
    subst hk0
    have ha : a = bs.length := by omega
    have Ha := Lib.hid ha
    clear ha
    subst hca
    go_enter Tryd.func67, Tryd.ntmps67
    go_wp2_with (go_at_call 86; refine (r_left p _ c bs w Hh.out).mono ?_; rintro e w' ⟨rfl, nq, rfl⟩)
    obtain ⟨h1, h2⟩ := Hmv.out nq
    simp only [Int.natCast_zero, Int.add_zero, Nat.add_zero] at h1 h2
    have h3 := h2.rd.cut0 (a := c) (k := 0) hk rfl
    rw [Nat.sub_self, bv_drop] at h3
    refine (Hcall.out _ _ _ h1 h2 h3).mono ?_
    rintro e w' ⟨rfl, hR⟩
    go_wp2
    go_ret
    exact ⟨rfl, hR⟩
  · go_enter Tryd.func67, Tryd.ntmps67
    go_wp2_with (go_at_call 86; refine (r_left p _ a bs w Hh.out).mono ?_; rintro e w' ⟨rfl, nq, rfl⟩)
    obtain ⟨h1, h2⟩ := Hmv.out nq
    refine (Hcall.out _ _ _ h1 h2 (by rw [← bv_drop]; exact h2.rd.cut hk hca)).mono ?_
    rintro e w' ⟨rfl, hR⟩
    go_wp2
    go_ret
    exact ⟨rfl, hR⟩

set_option maxHeartbeats 800000 in
/-- 'next', where there are not enough bytes. -/
theorem next_end (p : Nat) (v : Value) (a : Nat) (bs : List UInt8) (k : Int) (hk : (bs.length : Int) - a < k) (f : Value) (w : World) (h : Rr w p v a bs) :
    Calls Tryd.prog 67 #[.pointer (some ⟨p, 0, none⟩), .int .i64 k, f] w fun e w' => e = .returned (.int .i64 110) ∧ ∃ n, w' = w.drewN n := by
  go_enter Tryd.func67, Tryd.ntmps67
  go_wp2_with (go_at_call 86; refine (r_left p _ a bs w h).mono ?_; rintro e w' ⟨rfl, nq, rfl⟩)
  go_ret
  exact ⟨rfl, nq, rfl⟩

set_option maxHeartbeats 800000 in
/-- 'next', where what goes on refuses: the place is as it was. -/
theorem next_no (p : Nat) (v : Value) (a : Nat) (bs : List UInt8) (k : Nat) (hk : a + k ≤ bs.length) (g : Nat) (lb : Array Value) (w : World) (h : Rr w p v a bs) (er : Int) (her : er ≠ 0) (R : World → Prop)
    (eg : ∀ args w, (callFunc g args).run Tryd.prog w = .ok (.enter g args) w)
    (hcall : ∀ A c W, Kp [p] w W → Rr W p v (a + k) bs → Rd W 1 (.slice A k c) k (bv ((bs.drop a).take k)) →
      Calls Tryd.prog g (#[.slice A k c] ++ lb) W fun e w' => e = .returned (.int .i64 er) ∧ Kp [p] w w' ∧ Blk w' p 117 #[v, .int .i64 ((a : Int) + k)] ∧ R (w'.setCell ⟨p, 1, none⟩ (.int .i64 a))) :
    Calls Tryd.prog 67 #[.pointer (some ⟨p, 0, none⟩), .int .i64 k, .func (.func g) #[] lb] w fun e w' => e = .returned (.int .i64 er) ∧ R w' := by
  have hc0 := h.blk.cell 0
  have hc1 := h.blk.cell 1
  have hf1 := h.blk.frozen 1
  obtain ⟨A, c, hA⟩ := rd_form h.rd
  subst hA
  have hcc : bs.length ≤ c ∧ c ≤ 9223372036854775807 := by
    obtain ⟨_, A', c', hv, h1, h2, _⟩ := h.rd
    cases hv
    exact ⟨h1, by unfold maxLen at h2; omega⟩
  obtain ⟨hcc1, hcc2⟩ := hcc
  simp at hc0 hc1
  have hle := h.le
  have hlen := h.len
  have hmv : ∀ n, Kp [p] w ((w.setCell ⟨p, 1, none⟩ (.int .i64 ((a : Int) + k))).drewN n) ∧ Rr ((w.setCell ⟨p, 1, none⟩ (.int .i64 ((a : Int) + k))).drewN n) p (.slice A bs.length c) (a + k) bs := fun n => by
    have k1 : Kp [p] w (w.setCell ⟨p, 1, none⟩ (.int .i64 ((a : Int) + k))) := (Kp.refl [p] w).setCell (.inl (by simp)) _
    exact ⟨k1.drewN n, (h.moved k1 (by have := setCell1 (x := .int .i64 ((a : Int) + k)) h.blk; rw [Int.natCast_add]; exact this) hk).drewN n⟩
  have Hmv := Lib.hid hmv
  have Hcall := Lib.hid hcall
  clear hmv hcall
  have Hh := Lib.hid h
  clear h
  have her' : (er == 0) = false := by simpa using her
  have her2 : (er != 0) = true := by simpa using her
  have Her := Lib.hid her
  clear her
  by_cases hca : c = a
  · have hk0 : k = 0 := by omega
    subst hk0
    have ha : a = bs.length := by omega
    have Ha := Lib.hid ha
    clear ha
    subst hca
    go_enter Tryd.func67, Tryd.ntmps67
    go_wp2_with (go_at_call 86; refine (r_left p _ c bs w Hh.out).mono ?_; rintro e w' ⟨rfl, nq, rfl⟩)
    obtain ⟨h1, h2⟩ := Hmv.out nq
    simp only [Int.natCast_zero, Int.add_zero, Nat.add_zero] at h1 h2
    have h3 := h2.rd.cut0 (a := c) (k := 0) hk rfl
    rw [Nat.sub_self, bv_drop] at h3
    refine (Hcall.out _ _ _ h1 h2 h3).mono ?_
    rintro e w' ⟨rfl, hkp, hb, hR⟩
    have g1 := hb.cell 1
    have g2 := hb.frozen 1
    have g3 := hb.lt
    simp at g1
    have HR := Lib.hid hR
    clear hR hb hkp h1 h2 h3
    go_wp2
    go_ret
    exact ⟨rfl, HR.out⟩
  · go_enter Tryd.func67, Tryd.ntmps67
    go_wp2_with (go_at_call 86; refine (r_left p _ a bs w Hh.out).mono ?_; rintro e w' ⟨rfl, nq, rfl⟩)
    obtain ⟨h1, h2⟩ := Hmv.out nq
    refine (Hcall.out _ _ _ h1 h2 (by rw [← bv_drop]; exact h2.rd.cut hk hca)).mono ?_
    rintro e w' ⟨rfl, hkp, hb, hR⟩
    have g1 := hb.cell 1
    have g2 := hb.frozen 1
    have g3 := hb.lt
    simp at g1
    have HR := Lib.hid hR
    clear hR hb hkp h1 h2
    go_wp2
    go_ret
    exact ⟨rfl, HR.out⟩
end Go.Proofs.YtolfckhjfadhdaaDoor
/- Walks of package wire: what a reader reads. -/
namespace Go.Proofs.YtolfckhjfadhdaaDoor
open Go.RowKit

theorem or_shift (n q : Nat) (hq : q < 256) (hn : n < 72057594037927936) : bits .or .u64 ((n : Int) * 256) (q : Int) = ((256 * n + q : Nat) : Int) := by
  have h1 : ((n : Int) * 256) = ((256 * n : Nat) : Int) := by omega
  rw [h1, u64_or_nat _ _ (by omega) (by omega)]
  have h2 : n <<< 8 + q = n <<< 8 ||| q := Nat.shiftLeft_add_eq_or_of_lt (by omega) n
  rw [Nat.shiftLeft_eq] at h2
  rw [show 256 * n = n * 2 ^ 8 from by omega, ← h2]

set_option maxHeartbeats 400000 in
theorem number_any (x : Value) (bs : List UInt8) (hb : bs.length ≤ 8) (w : World) (hx : Rd w 1 x bs.length (bv bs)) :
    Calls Tryd.prog 88 #[x] w fun e w' => e = .returned (.int .u64 (num bs)) ∧ w = w' := by
  obtain ⟨hl, A, c, rfl, hc1, hc2, hA, hcells⟩ := hx
  go_enter Tryd.func88, Tryd.ntmps88
  go_wp2
  go_loop [3, 8] (fun x t => ∃ i : Nat, i ≤ bs.length ∧ t = .int .i64 i ∧ x = .int .u64 (num (bs.take i))) (fun _ t => bs.length - (intOf t).toNat)
  case atStart => exact ⟨0, Nat.zero_le _, rfl, rfl⟩
  case round =>
    obtain ⟨i, hi, rfl, rfl⟩ := hrel
    by_cases hlt : i < bs.length
    · rcases A with _ | ad
      · have := (hA rfl).1; omega
      · obtain ⟨q, n, hq, hn, hcell, hnext, hnow⟩ : ∃ q n : Nat, q < 256 ∧ n < 72057594037927936 ∧ w.cell? (ad.add i) = some (.int .u8 (q : Int)) ∧ num (bs.take (i + 1)) = 256 * n + q ∧ num (bs.take i) = n := by
          refine ⟨bs[i].toNat, num (bs.take i), bs[i].toNat_lt, ?_, hcells ad rfl i _ (by rw [bv_get, List.getElem?_eq_getElem hlt]; rfl), num_take bs i hlt, rfl⟩
          have h1 := num_lt (bs.take i)
          rw [List.length_take, Nat.min_eq_left (by omega)] at h1
          have : 256 ^ i ≤ 256 ^ 7 := Nat.pow_le_pow_right (by omega) (by omega)
          omega
        rw [hnow]
        have Hnext := Lib.hid hnext
        clear hnext hnow hcells
        go_wp2
        go_round
        case rel => exact ⟨i + 1, by omega, by go_num, by rw [Hnext.out, or_shift n q hq hn]⟩
        case measure => simp [intOf]; omega
    · go_wp2
      go_ret
      rw [List.take_of_length_le (by omega)]
      exact ⟨rfl, rfl⟩

theorem eg_take_u64 : ∀ args w, (callFunc 87 args).run Tryd.prog w = .ok (.enter 87 args) w := fun _ _ => by kernel_rfl
set_option maxRecDepth 100000 in
set_option maxHeartbeats 800000 in
theorem take_u64_in (g : Nat) (x0 : Value) (A : Option Addr) (c : Nat) (bs : List UInt8) (hb : bs.length = 8) (w : World) (hx : Rd w 1 (.slice A 8 c) 8 (bv bs)) (hg : Blk w g 100 #[x0]) :
    Calls Tryd.prog 87 #[.slice A 8 c, .pointer (some ⟨g, 0, none⟩)] w fun e w' => e = .returned (.int .i64 0) ∧ (w.setCell ⟨g, 0, none⟩ (.int .u64 (num bs))) = w' := by
  have hc := hg.cell 0
  have hf := hg.frozen 0
  have hlt := hg.lt
  simp at hc
  have hnum := num_lt bs
  rw [hb] at hnum
  simp only [Nat.reducePow] at hnum
  have Hc := number_any (.slice A 8 c) bs (by omega) w (by rw [hb]; exact hx)
  have HC := Lib.hid Hc
  clear Hc
  generalize num bs = n at *
  go_enter Tryd.func87, Tryd.ntmps87
  go_wp2_with (go_at_call 88; refine HC.out.mono ?_; rintro e w' ⟨rfl, rfl⟩)
  go_ret
  exact ⟨rfl, rfl⟩

set_option maxRecDepth 100000 in
set_option maxHeartbeats 800000 in
theorem take_u64 (p : Nat) (v : Value) (a : Nat) (bs : List UInt8) (w : World) (h : Rr w p v a bs) (hk : a + 8 ≤ bs.length) :
    Calls Tryd.prog 69 #[.pointer (some ⟨p, 0, none⟩)] w fun e w' => e = .returned (.tuple #[.int .u64 (num ((bs.drop a).take 8)), .int .i64 0]) ∧ Kp [p] w w' ∧ Rr w' p v (a + 8) bs := by
  have hp := h.blk.lt
  have hnext : Calls Tryd.prog 67 #[.pointer (some ⟨p, 0, none⟩), .int .i64 8, .func (.func 87) #[] #[.pointer (some ⟨w.heap.size, 0, none⟩)]] (w.alloc (.cells #[.int .u64 0] 100))
      fun e w' => e = .returned (.int .i64 0) ∧ w'.cell? ⟨w.heap.size, 0, none⟩ = some (.int .u64 (num ((bs.drop a).take 8))) ∧ Kp [p] w w' ∧ Rr w' p v (a + 8) bs :=
    next_ok p v a bs 8 hk _ _ _ (h.alloc _) _ eg_take_u64 (fun A c W hkp hr hrd => by
      have hb : Blk W w.heap.size 100 #[.int .u64 0] := (Blk.new w _ _).kp hkp (by simp; omega)
      refine (take_u64_in w.heap.size _ A c _ (by rw [List.length_take, List.length_drop]; omega) W hrd hb).mono ?_
      rintro e w' ⟨rfl, rfl⟩
      refine ⟨rfl, by simpa using (hb.set_ 0 _).cell 0, ?_, hr.set (by omega) (fun hv => by have := h.vlt _ hv; omega) 0 _⟩
      have k1 : Kp [p] w W := ((Kp.refl [p] w).alloc _).trans hkp (fun g hg => .inl hg)
      exact k1.setCell (.inr (by simp)) _)
  have Hn := Lib.hid hnext
  clear hnext
  generalize num ((bs.drop a).take 8) = n at *
  go_enter Tryd.func69, Tryd.ntmps69
  go_wp2_with (first
    | (go_at_call 83; refine (width_u64 _).mono ?_; rintro e w' ⟨rfl, rfl⟩)
    | (go_at_call 67; refine Hn.out.mono ?_; rintro e w' ⟨rfl, hc, hkp, hr⟩))
  go_ret2
  exact ⟨rfl, hkp, hr⟩

set_option maxRecDepth 100000 in
set_option maxHeartbeats 800000 in
theorem take_u64_end (p : Nat) (v : Value) (a : Nat) (bs : List UInt8) (w : World) (h : Rr w p v a bs) (hk : bs.length < a + 8) :
    Calls Tryd.prog 69 #[.pointer (some ⟨p, 0, none⟩)] w fun e w' => e = .returned (.tuple #[.int .u64 0, .int .i64 110]) ∧ Kp [] w w' := by
  have hn := next_end p v a bs 8 (by omega) (.func (.func 87) #[] #[.pointer (some ⟨w.heap.size, 0, none⟩)]) _ (h.alloc (.cells #[.int .u64 0] 100))
  have Hn := Lib.hid hn
  clear hn
  go_enter Tryd.func69, Tryd.ntmps69
  go_wp2_with (first
    | (go_at_call 83; refine (width_u64 _).mono ?_; rintro e w' ⟨rfl, rfl⟩)
    | (go_at_call 67; refine Hn.out.mono ?_; rintro e w' ⟨rfl, nq, rfl⟩; have hc : ((w.alloc (.cells #[.int .u64 0] 100)).drewN nq).cell? ⟨w.heap.size, 0, none⟩ = some (.int .u64 0) := by simp))
  go_ret2
  exact ⟨rfl, ((Kp.refl [] w).alloc _).drewN _⟩
end Go.Proofs.YtolfckhjfadhdaaDoor
/- A row of texts of the call's own; one more text appended; two lists of texts held against one another. -/
namespace Go.Proofs.YtolfckhjfadhdaaDoor
open Go.RowKit
theorem Tryd.infoBytes : (Tryd.prog.info? 45).map (fun i => (i.zero, i.size, i.bytes)) = some (some (.slice none 0 0), 1, 24) := by kernel_rfl
def textR : List (List UInt8) → List Value → List Res
  | l :: ls, B :: Bs => rowR 5 1 B l.length (bv l) :: textR ls Bs
  | _, _ => []
theorem exec_convT {P : Program} {w : World} {ρ : Operand → Value} {o : Oper} {s t : TypeId} {x : Operand} {v u : Value} (ho : o.op = .convert s t x) (hx : ρ x = v) (h : (convert s t v).run P w = .ok u w) : (execOp ρ o).run P w = .ok (.value u) w := by
  unfold execOp
  simp only [ho, hx, Sem.run_bind, h, Result.andThen_ok, Sem.run_pure]
theorem textR_snoc : ∀ (ls : List (List UInt8)) (Bs : List Value) (l : List UInt8) (B : Value), ls.length = Bs.length → textR (ls ++ [l]) (Bs ++ [B]) = textR ls Bs ++ [rowR 5 1 B l.length (bv l)]
  | [], [], _, _, _ => rfl
  | _ :: ls, _ :: Bs, l, B, h => by simp only [List.cons_append, textR, textR_snoc ls Bs l B (by simpa using h)]
  | [], _ :: _, _, _, h => by simp at h
  | _ :: _, [], _, _, h => by simp at h
theorem textR_mem : ∀ (ls : List (List UInt8)) (Bs : List Value) (i : Nat) (l : List UInt8) (B : Value), ls[i]? = some l → Bs[i]? = some B → rowR 5 1 B l.length (bv l) ∈ textR ls Bs
  | l0 :: ls, B0 :: Bs, 0, l, B, h1, h2 => by cases h1; cases h2; exact List.mem_cons_self ..
  | l0 :: ls, B0 :: Bs, i + 1, l, B, h1, h2 => List.mem_cons_of_mem _ (textR_mem ls Bs i l B h1 h2)
  | [], _, _, _, _, h1, _ => by simp at h1
  | _ :: _, [], _, _, _, _, h2 => by simp at h2
/-- Text i, and how the rest stands if it is turned. -/
theorem textR_split : ∀ (ls : List (List UInt8)) (Bs : List Value) (i : Nat) (l : List UInt8) (B : Value), ls[i]? = some l → Bs[i]? = some B →
    ∃ l1 l2, textR ls Bs = l1 ++ rowR 5 1 B l.length (bv l) :: l2 ∧ ∀ (l' : List UInt8) (B' : Value), textR (ls.set i l') (Bs.set i B') = l1 ++ rowR 5 1 B' l'.length (bv l') :: l2
  | l0 :: ls, B0 :: Bs, 0, l, B, h1, h2 => by cases h1; cases h2; exact ⟨[], textR ls Bs, rfl, fun _ _ => rfl⟩
  | l0 :: ls, B0 :: Bs, i + 1, l, B, h1, h2 => by
    obtain ⟨l1, l2, e, h⟩ := textR_split ls Bs i l B h1 h2
    exact ⟨rowR 5 1 B0 l0.length (bv l0) :: l1, l2, by simp only [textR, e, List.cons_append], fun l' B' => by simp only [List.set_cons_succ, textR, h, List.cons_append]⟩
  | [], _, _, _, _, h1, _ => by simp at h1
  | _ :: _, [], _, _, _, _, h2 => by simp at h2
theorem texts_of {w0 W : World} {v : Value} {ls : List (List UInt8)} {Bs : List Value} {L1 L2 : List Res} (hl : ls.length = Bs.length) (S : Held w0 W (L1 ++ rowR 45 1 v ls.length Bs :: L2)) (hm : ∀ r, r ∈ textR ls Bs → r ∈ L2) : Txs W v ls := by
  refine ⟨Bs, Rd.of_own S.at_, fun i hi => ?_⟩
  have hB : Bs[i]? = some (Bs[i]'(by omega)) := List.getElem?_eq_getElem (by omega)
  have hr := textR_mem ls Bs i _ _ (List.getElem?_eq_getElem hi) hB
  exact ⟨_, hB, Rd.of_own (S.ok _ (List.mem_append_right _ (List.mem_cons_of_mem _ (hm _ hr))))⟩
end Go.Proofs.YtolfckhjfadhdaaDoor
/- Walking inside a round: a region's walk outside serves inside; one law for 'for .. range f', whose round is told what holds of what it is handed. -/
namespace Go.Proofs.YtolfckhjfadhdaaDoor
open Go.RowKit Go.Shelf

section bridge
variable {P : Program} {ops : Array Oper} {Q : Exit → Act → World → Prop} {n rl : Nat}
def plainB (l : List Oper) : Bool := l.all fun o => match o.op with | .defer _ => false | _ => true
theorem plainB_spec {l : List Oper} (h : plainB l = true) {o : Oper} (ho : o ∈ l) : ∀ c, o.op ≠ .defer c := by
  intro c hc
  have := List.all_eq_true.1 h o ho
  rw [hc] at this
  cases this
theorem oper_in {o : Oper} {a : Act} {w : World} {K : Act → World → Prop} (hd : ∀ c, o.op ≠ .defer c) (hQ : ¬ LetsOut Q) (h : o.wp P a w K Q) : o.wpIn (Fence.wide.inRound rl) n P a w K Q := by
  refine ⟨fun _ _ => trivial, ?_⟩
  rw [Fence.inRound_round, Oper.semAt_some rl a.eval o hd]
  unfold Oper.wp at h
  generalize (execOp a.eval o).run P w = r at *
  have hn : (Fence.wide.inRound rl).depth.isSome = true → 1 ≤ n := fun h => by simp [Fence.wide] at h
  cases r with
  | ok nx w' =>
    cases nx with
    | value v => exact h
    | skip => exact h
    | defer d => exact h
    | enter f args => exact ⟨hn, CallsIn.inRound rl (callsIn_wide.2 h)⟩
    | row r args =>
      refine ⟨hn, fun c cs _ => ?_⟩
      obtain ⟨v, w2, h1, h2⟩ := h c cs
      exact ⟨v, w2, h1, stepsIn_wide.2 h2⟩
    | _ => exact h.elim
  | halt x w' => cases x <;> exact h
theorem not_lets (Q : Exit → Act → World → Prop) : ¬ LetsOut (Qn Q) := fun ⟨_, _, h⟩ => by cases h.1
theorem op_in {l : List Oper} (hp : plainB l = true) {i : Nat} {a : Act} {w : World} {K : Act → World → Prop} (h : wpOp P l.toArray (Qn Q) i K a w) : wpOpIn (Fence.wide.inRound rl) n P l.toArray Q i K a w := by
  unfold wpOp at h
  unfold wpOpIn
  split
  · rename_i ho
    simpa [ho] using h
  · rename_i o ho
    simp only [ho] at h
    have hm : o ∈ l := by
      have := Array.mem_of_getElem? ho
      simpa using this
    split
    · rename_i hw
      rw [if_pos hw] at h
      rcases h with h | ⟨_, h⟩
      · have h2 := oper_in (rl := rl) (n := n) (plainB_spec hp hm) (not_lets Q) h
        unfold Oper.wpIn at h2 ⊢
        refine ⟨h2.1, ?_⟩
        have h3 := h2.2
        generalize (o.semAt (Fence.wide.inRound rl).round a.eval).run P w = r at *
        cases r with
        | ok nx w' =>
          cases nx with
          | value v => exact h3
          | skip => exact h3
          | defer d => exact h3
          | enter f args =>
            refine ⟨h3.1, CallsIn.mono h3.2 (fun e w'' he => ?_)⟩
            cases e with
            | returned v => exact he
            | panicked ch => cases he.1
            | outgrown => exact (not_lets Q he).elim
          | row r args => exact h3
          | round r f t asg bd =>
            refine ⟨h3.1, RoundIn.mono h3.2 (fun e w'' he => ?_)⟩
            cases e with
            | returned v => exact he
            | panicked ch => cases he.1
            | outgrown => exact (not_lets Q he).elim
          | _ => exact h3.elim
        | halt x w' => cases x <;> first | exact h3.elim | cases h3.1
      · exact (not_lets Q h).elim
    · rename_i hw
      rw [if_neg hw] at h
      exact ⟨fun _ _ => trivial, h⟩
theorem wpOpIn_mono' {l : List Oper} {i : Nat} {a : Act} {w : World} {K K' : Act → World → Prop} (h : ∀ a w, K a w → K' a w) (hh : wpOpIn (Fence.wide.inRound rl) n P l.toArray Q i K a w) : wpOpIn (Fence.wide.inRound rl) n P l.toArray Q i K' a w := wpOpIn_mono h hh
theorem any_in {l : List Oper} (hp : plainB l = true) : ∀ (fuel : Nat) (listed : Array Bool) (a : Act) (w : World), wpAny P .any l.toArray (Qn Q) fuel listed a w → wpAnyIn (Fence.wide.inRound rl) n P .any l.toArray Q fuel listed a w
  | 0, _, _, _, h => ⟨h.1, h.2.2⟩
  | fuel + 1, _, _, _, h => ⟨fun h0 => (h.1 h0).2, fun i hi => wpOpIn_mono (fun a' w' h' => any_in hp fuel _ a' w' h') (op_in hp (h.2 i hi))⟩
theorem list_in {l0 : List Oper} (hp : plainB l0 = true) : ∀ (l : List Oper) (a : Act) (w : World), (∀ o ∈ l, o ∈ l0) → wpList P l0.toArray (Qn Q) l a w → wpListIn (Fence.wide.inRound rl) n P l0.toArray Q l a w
  | [], _, _, _, h => h.2
  | o :: l, a, w, hm, h => by
    unfold wpList at h
    unfold wpListIn
    split
    · rename_i hw
      rw [if_pos hw] at h
      rcases h with h | ⟨_, h⟩
      · have hi : ∃ i : Nat, l0.toArray[i]? = some o := by
          obtain ⟨i, hi, he⟩ := List.getElem_of_mem (hm o (by simp))
          exact ⟨i, by simp [hi, he]⟩
        obtain ⟨i, hi⟩ := hi
        have h1 : wpOp P l0.toArray (Qn Q) i (wpList P l0.toArray (Qn Q) l) a w := by
          unfold wpOp
          simp only [hi]
          rw [if_pos hw]
          exact .inl h
        have h2 := op_in (rl := rl) (n := n) hp h1
        have h3 := wpOpIn_mono (fun a' w' h' => list_in hp l a' w' (fun x hx => hm x (List.mem_cons_of_mem _ hx)) h') h2
        unfold wpOpIn at h3
        simp only [hi] at h3
        rwa [if_pos hw] at h3
      · exact (not_lets Q h).elim
    · rename_i hw
      rw [if_neg hw] at h
      exact ⟨fun _ _ => trivial, list_in hp l _ _ (fun x hx => hm x (List.mem_cons_of_mem _ hx)) h⟩
theorem lex_any {a : Act} {w : World} {l : List Oper} (es ls : List Nat) (S : World → Prop) (hB : lexE l.toArray es ls = true) (hS : S w.drew)
    (h : wpLex P l.toArray Q S (qfOf es) (lsOf ls) l 0 a w.drew) : wpAny P .any l.toArray Q l.toArray.size (Array.replicate l.toArray.size false) a w.drew := by
  simp only [lexE, Bool.and_eq_true] at hB
  obtain ⟨⟨h1, h4, h2⟩, h3⟩ := hB
  have hm' := mix_lex (md := .any) h1 (lsOf_spec h4) (chainB_spec h2) l 0 (Array.replicate l.toArray.size false) a w.drew (by simp) (by simpa using h3) (by simp)
    (fun j oj hj hl => by simp [Array.getElem?_replicate] at hl; split at hl <;> simp at hl) (fun m hm => by omega) (.inl hS) h
  exact any_of_mix (lsOf_spec h4) _ _ _ _ (by simp) (fun j oj hj hl => by simp [Array.getElem?_replicate] at hl; split at hl <;> simp at hl) (.inl hS) (by simpa using hm')
/-- A region in a round, walked as outside. -/
theorem in_region {id : Nat} {l : List Oper} {a : Act} {w : World} (hp : plainB l = true) (h : wpList P l.toArray (Qn Q) l a w) : (Code.region id l.toArray false).wpIn (Fence.wide.inRound rl) n P Q a w :=
  wpIn_region_lit (list_in hp l a w (fun _ h => h) h)
/-- A region in a round that draws its order, by the rule of XLex. -/
theorem in_region_lexf {id : Nat} {a : Act} {w : World} {l : List Oper} (es ls : List Nat) (S : World → Prop) (hp : plainB l = true) (hm : P.follows .mixedOrders = true) (hB : lexE l.toArray es ls = true) (hS : S w.drew)
    (h : ∀ (σ : Type) (_ : Nonempty σ) (f : σ → World) (_ : ∀ u, S (f u)) (_ : ∀ W, S W → ∃ u, W = f u), wpLex P l.toArray (Qn Q) S (qfOf es) (lsOf ls) l 0 a w.drew) : (Code.region id l.toArray true).wpIn (Fence.wide.inRound rl) n P Q a w := by
  have h' := h { W : World // S W } ⟨⟨_, hS⟩⟩ (fun u => u.1) (fun u => u.2) (fun W hW => ⟨⟨W, hW⟩, rfl⟩)
  exact wpIn_region_any hm (any_in hp _ _ _ _ (lex_any es ls S hB hS h'))
end bridge
theorem wpListIn_app {F : Fence} {nF : Nat} {P : Program} {w : World} {ops : Array Oper} {rest : List Oper} {o : Oper} {a : Act} {Q : Exit → Act → World → Prop} (hgd : o.guard = none) (s x : Operand) (t : TypeId)
    (ho : o.op = .call { callee := .builtin .append, args := #[s, x], argTypes := #[t, t] })
    (e : TypeId) (i : TypeInfo) (z : Value) (size bytes : Nat) (ht : P.underlying t = some (.slice e)) (hi : P.info? e = some i) (hz : i.zero = some z)
    (hsize : i.size = size) (hby : i.bytes = bytes) (hzs : z.cells.size = size) (hsz : 0 < size)
    (v : Value) (n : Nat) (xs : List Value) (hs : a.eval s = v) (hown : Ow w e size v n xs)
    (y : Value) (m : Nat) (news : List Value) (hx : a.eval x = y) (hr : Rd w size y m news) (h1 : ∀ u ∈ news, u.oneCell' = true)
    (h63 : n + m ≤ maxLen) (hbytes : (n + m) * bytes ≤ 140737488355328)
    (h : ∀ v' w', Ow w' e size v' (n + m) (xs ++ news) → w.grownBy w' v.ownBlock → (v'.ownBlock = v.ownBlock ∨ v'.ownBlock = some w.heap.size) → wpListIn F nF P ops Q rest (a.put o.dst v') w') : wpListIn F nF P ops Q (o :: rest) a w := by
  refine wpListIn_plain hgd fun K hK => ?_
  obtain ⟨v', w', hrun, h2, h3, h4⟩ := run_app (P := P) w t o.type e i z size bytes ht hi hz hsize hby hzs hsz v n xs hown y m news hr h1 h63 hbytes
  unfold Oper.wpIn
  refine ⟨by simp [Oper.about, ho, resolve, Target.leads, Sem.run_pure], ?_⟩
  rw [Oper.semAt_eq F.round _ _ (by rw [ho]; intro c hc'; cases hc')]
  unfold execOp
  simp only [ho, resolve, invoke, builtin, Sem.run_bind, Sem.run_pure, Result.andThen_ok, List.map_toArray, List.map_cons, List.map_nil, hs, hx, hrun]
  exact hK _ _ (h v' w' h2 h3 h4)
end Go.Proofs.YtolfckhjfadhdaaDoor
/- One law for 'for .. range f': the iterator tells, at each round, what holds of what it hands over; it makes memory alone between two rounds. -/
namespace Go.Proofs.YtolfckhjfadhdaaDoor
open Go.RowKit Go.Shelf

/-- What stays true when memory is made, and when an object that is no row of cells, from B on, is turned. -/
def Stays (B : Nat) (p : World → Prop) : Prop :=
  ∀ W W', p W → (Kp [] W W' ∨ ∃ (l : Nat) (o o' : Obj), B ≤ l ∧ W.heap[l]? = some o ∧ o.isCells = false ∧ W' = W.putObj l o') → p W'
theorem Stays.kp {B : Nat} {p : World → Prop} (h : Stays B p) {W W' : World} (hp : p W) (hk : Kp [] W W') : p W' := h W W' hp (.inl hk)
theorem Stays.put {B : Nat} {p : World → Prop} (h : Stays B p) {W : World} (hp : p W) {l : Nat} {o : Obj} (o' : Obj) (hB : B ≤ l) (hl : W.heap[l]? = some o) (ho : o.isCells = false) : p (W.putObj l o') :=
  h W _ hp (.inr ⟨l, o, o', hB, hl, ho, rfl⟩)
theorem Stays.and {B : Nat} {p q : World → Prop} (h : Stays B p) (h' : Stays B q) : Stays B (fun W => p W ∧ q W) := fun W W' hp hk => ⟨h W W' hp.1 hk, h' W W' hp.2 hk⟩
theorem Stays.pure (B : Nat) (q : Prop) : Stays B (fun _ => q) := fun _ _ h _ => h
theorem Stays.ex {B : Nat} {α : Sort _} {p : α → World → Prop} (h : ∀ x, Stays B (p x)) : Stays B (fun W => ∃ x, p x W) := fun W W' ⟨x, hx⟩ hk => ⟨x, h x W W' hx hk⟩

/-- A round, as the iterator may call it: it has made memory since W0, where the round before had ended (or the loop begun). -/
def RoundOk {α : Type} (P : Program) (n l : Nat) (encs : α → Array Value) (Z : α → World → Prop) (X : List α → α → World → World → Prop) (N : Nat) (J Jx : List α → World → Prop) : Prop :=
  ∀ pre x W0 W1, J pre W0 → Kp [] W0 W1 → X pre x W0 W1 → pre.length < N → YieldAt Fence.wide (n - 1) P l (encs x) W1 fun e W' =>
    (e = .returned (.bool true) ∧ J (pre ++ [x]) W' ∧ Z x W') ∨ (e = .returned (.bool false) ∧ Jx (pre ++ [x]) W')
/-- What is asked of an iterator (function g with what it has captured), called in w or later. -/
def SeqW {α : Type} (P : Program) (n g : Nat) (lb : Array Value) (encs : α → Array Value) (Z : α → World → Prop) (X : List α → α → World → World → Prop) (S Sp : List α → Prop) (N : Nat) (w : World) : Prop :=
  ∀ (l : Nat) (J Jx : List α → World → Prop) (W : World), Kp [] w W → (∀ s A B, J s A → Kp [] A B → J s B) → (∀ s A B, Jx s A → Kp [] A B → Jx s B) → RoundOk P n l encs Z X N J Jx → J [] W →
    CallsIn Fence.wide n P g (#[.func (.yield l) #[] #[]] ++ lb) W fun e W' => (∃ v, e = .returned v) ∧ ((∃ xs, S xs ∧ J xs W') ∨ (∃ pre, Sp pre ∧ Jx pre W'))

/-- How the body of a round may end: the loop's record l and the block D are as they were. -/
def Same2 (l D : Nat) (W W' : World) : Prop := W'.heap[l]? = W.heap[l]? ∧ W'.heap[D]? = W.heap[D]?
def roundEnd {α : Type} (l D : Nat) (Z : World → Prop) (I : List α → World → Prop) (Ix : Code → List α → World → Prop) (xs : List α) (W : World) : Exit → Act → World → Prop
  | .normal, _, W' => Same2 l D W W' ∧ Z W' ∧ I xs W'
  | .ret, _, W' => Same2 l D W W' ∧ Ix .ret xs W'
  | .exit id, _, W' => Same2 l D W W' ∧ Ix (.exit id) xs W'
  | .goto t, _, W' => Same2 l D W W' ∧ Ix (.goto t) xs W'
  | .panic _, _, _ => False
  | .outgrown, _, _ => False
def markOf (D : Nat) : Deferred := { target := .collected D, args := #[] }

variable {P : Program} {n : Nat}
set_option maxHeartbeats 1000000 in
theorem wp_range {α : Type} {g : Operand} {ps : Array Tmp} {assign body : Code} {Q : Exit → Act → World → Prop} {a : Act} {w : World} {gf : Nat} {lb : Array Value} (hg : a.eval g = .func (.func gf) #[] lb)
    (eg : ∀ args w, (callFunc gf args).run P w = .ok (.enter gf args) w) {encs : α → Array Value} {Z : α → World → Prop} {X : List α → α → World → World → Prop} {S Sp : List α → Prop} {N : Nat} (hseq : SeqW P (n - 1) gf lb encs Z X S Sp N w) (hZ : ∀ x, Stays w.heap.size (Z x))
    (hps : ∀ x, (encs x).size = ps.size)
    (I : List α → World → Prop) (Ix : Code → List α → World → Prop) (hI : ∀ pre, Stays w.heap.size (I pre)) (hIx : ∀ c pre, Stays w.heap.size (Ix c pre)) (h0 : I [] w)
    (I' : List α → α → World → Prop) (hI' : ∀ pre x, Stays w.heap.size (I' pre x)) (hprep : ∀ (pre : List α) (x : α) (W0 W1 : World), I pre W0 → Kp [] W0 W1 → X pre x W0 W1 → pre.length < N → I' pre x W1)
    (A : Array Value → List α → α → Act → World → Prop) (hA : ∀ pre x a', Stays w.heap.size (A a.tmps pre x a'))
    (hassign : ∀ (pre : List α) (x : α) (W : World), I' pre x W → ∀ K : Act → World → Prop, (∀ a' W', Kp [] W W' → A a.tmps pre x a' W' → K a' W') →
      assign.wpIn (Fence.wide.inRound (w.heap.size + 1)) (n - 1 - 1) P (Exit.then K (fun _ _ _ => False)) { tmps := (ps.zip (encs x)).foldl (fun t (p, v) => t.setIfInBounds p v) a.tmps, defers := [] } W)
    (hbody : ∀ (pre : List α) (x : α) (a' : Act) (W : World), I' pre x W → A a.tmps pre x a' W → pre.length < N → (∃ o, W.heap[w.heap.size + 1]? = some o ∧ o.isCells = false) → (∃ o, W.heap[w.heap.size]? = some o ∧ o.isCells = false) →
      body.wpIn (Fence.wide.inRound (w.heap.size + 1)) (n - 1 - 1) P (roundEnd (w.heap.size + 1) w.heap.size (Z x) I Ix (pre ++ [x]) W) a' W)
    (hdone : ∀ (xs : List α) (W : World), S xs → I xs W → W.heap[w.heap.size]? = some (.deferred (some [])) → Q .normal { a with defers := markOf w.heap.size :: a.defers } W)
    (hstop : ∀ (c : Code) (pre : List α) (W : World), Sp pre → Ix c pre W → W.heap[w.heap.size]? = some (.deferred (some [])) → c.wp P Q { a with defers := markOf w.heap.size :: a.defers } W) :
    (Code.rangeFunc g ps assign body).wp P Q a w := by
  refine (wpIn_wide (n := n)).1 (wpIn_rangeFunc ?_)
  intro fn hfn
  show ∃ (l : Nat) (mark : List Deferred) (w₁ : World) (d : Deferred) (w₁' : World) (f : FuncId) (args : Array Value) (w₂ : World), (Instr.enterLoop fn a.tmps ps assign body none).run P w = .ok (l, mark) w₁ ∧ _
  obtain ⟨rec, hrec⟩ : ∃ rec : LoopState → Option Code → Loop, rec = fun st pe => { state := st, pending := pe, fn, tmps := a.tmps, params := ps, assign, body, defers := w.heap.size } := ⟨_, rfl⟩
  obtain ⟨W1, hW1⟩ : ∃ W1, (w.alloc (.deferred (some []))).alloc (.loop (rec .ready none)) = W1 := ⟨_, rfl⟩
  have hk1 : Kp [] w W1 := by rw [← hW1]; exact ((Kp.refl [] w).alloc _).alloc _
  have hL1 : W1.heap[w.heap.size + 1]? = some (.loop (rec .ready none)) := by
    rw [← hW1]; have := World.alloc_heap_new (w.alloc (.deferred (some []))) (.loop (rec .ready none)); rwa [World.size_alloc] at this
  have hD1 : W1.heap[w.heap.size]? = some (.deferred (some [])) := by
    rw [← hW1]; exact (Below.heap_alloc _ _ _ (by simp)).trans (World.alloc_heap_new w _)
  have kept : ∀ {A B : World} {k : Nat} {o : Obj}, Kp [] A B → A.heap[k]? = some o → B.heap[k]? = some o := fun hk h => (hk.block _ (Array.getElem?_eq_some_iff.1 h).1 (by simp)).trans h
  refine ⟨w.heap.size + 1, [markOf w.heap.size], W1, { target := .fn (.func gf) lb, args := #[.func (.yield (w.heap.size + 1)) #[] #[]] }, W1, gf, #[.func (.yield (w.heap.size + 1)) #[] #[]] ++ lb, W1, ?_, ?_, fun _ _ => trivial, ?_, fun h => by simp [Fence.wide] at h, ?_⟩
  · rw [← hW1, hrec]; exact run_enterLoop_outer _ _ _ _ _
  · simp only [resolve, hg]
    simp [go_sem]
  · simp [invoke, go_sem, eg]
  · refine (hseq (w.heap.size + 1)
      (fun pre W => I pre W ∧ W.heap[w.heap.size + 1]? = some (.loop (rec .ready none)) ∧ W.heap[w.heap.size]? = some (.deferred (some [])))
      (fun pre W => ∃ c, Ix c pre W ∧ W.heap[w.heap.size + 1]? = some (.loop (rec .done (some c))) ∧ W.heap[w.heap.size]? = some (.deferred (some [])))
      W1 hk1 (fun s A B ⟨h1, h2, h3⟩ hk => ⟨(hI s).kp h1 hk, kept hk h2, kept hk h3⟩) (fun s A B ⟨c, h1, h2, h3⟩ hk => ⟨c, (hIx c s).kp h1 hk, kept hk h2, kept hk h3⟩) ?_ ⟨(hI []).kp h0 hk1, hL1, hD1⟩).mono ?_
    · rintro pre x W0 W ⟨hi0, hl0, hd0⟩ hk0 hx hlen
      have hi := hprep pre x W0 W hi0 hk0 hx hlen
      have hl := kept hk0 hl0
      have hd := kept hk0 hd0
      have hlt : w.heap.size + 1 < W.heap.size := (Array.getElem?_eq_some_iff.1 hl).1
      have hy := run_yield (P := P) (args := encs x) hl (by rw [hrec]; exact hps x)
      rw [hrec] at hy
      refine ⟨fn, _, assign, body, hy, roundIn_of_wpIn hfn (hassign pre x W hi _ fun a' Wa hka hAa => ?_)⟩
      have hla := kept hka hl
      have hda := kept hka hd
      refine ⟨Wa.putObj (w.heap.size + 1) (.loop { rec .ready none with state := .busy }), by have := run_beginRound (P := P) hla (by rw [hrec]); exact this, ?_⟩
      have hlta : w.heap.size + 1 < Wa.heap.size := (Array.getElem?_eq_some_iff.1 hla).1
      have hl2 : (Wa.putObj (w.heap.size + 1) (.loop { rec .ready none with state := .busy })).heap[w.heap.size + 1]? = some (.loop { rec .ready none with state := .busy }) := World.putObj_heap_same hlta
      have hd2 : (Wa.putObj (w.heap.size + 1) (.loop { rec .ready none with state := .busy })).heap[w.heap.size]? = some (.deferred (some [])) := (World.putObj_heap_other (by omega)).trans hda
      refine wpIn_mono (hbody pre x a' _ ((hI' pre x).put ((hI' pre x).kp hi hka) _ (by omega) hla rfl) ((hA pre x a').put hAa _ (by omega) hla rfl) hlen ⟨_, hl2, rfl⟩ ⟨_, hd2, rfl⟩) ?_
      have fin : ∀ (jump : Option Code) (W3 : World), Same2 (w.heap.size + 1) w.heap.size (Wa.putObj (w.heap.size + 1) (.loop { rec .ready none with state := .busy })) W3 →
          (Instr.endRound (w.heap.size + 1) jump).run P W3 = .ok (.bool jump.isNone) (W3.putObj (w.heap.size + 1) (.loop (rec (if jump.isNone then .ready else .done) jump))) ∧
          W3.heap[w.heap.size + 1]? = some (.loop { rec .ready none with state := .busy }) ∧
          (W3.putObj (w.heap.size + 1) (.loop (rec (if jump.isNone then .ready else .done) jump))).heap[w.heap.size + 1]? = some (.loop (rec (if jump.isNone then .ready else .done) jump)) ∧
          (W3.putObj (w.heap.size + 1) (.loop (rec (if jump.isNone then .ready else .done) jump))).heap[w.heap.size]? = some (.deferred (some [])) := fun jump W3 hs => by
        have hl3 := hs.1.trans hl2
        have hd3 := hs.2.trans hd2
        have := run_endRound (P := P) jump hl3
        rw [hrec] at this ⊢
        exact ⟨this, by rw [hrec] at hl3; exact hl3, World.putObj_heap_same (Array.getElem?_eq_some_iff.1 hl3).1, (World.putObj_heap_other (by omega)).trans hd3⟩
      rintro e a3 W3 hp
      cases e with
      | normal =>
        obtain ⟨hs, hk3, hi3⟩ := hp
        obtain ⟨hr, hl3, hl4, hd4⟩ := fin none W3 hs
        exact ⟨_, _, hr, .inl ⟨rfl, ⟨(hI _).put hi3 _ (by omega) hl3 rfl, hl4, hd4⟩, (hZ x).put hk3 _ (by omega) hl3 rfl⟩⟩
      | ret =>
        obtain ⟨hs, hi3⟩ := hp
        obtain ⟨hr, hl3, hl4, hd4⟩ := fin (some .ret) W3 hs
        exact ⟨_, _, hr, .inr ⟨rfl, .ret, (hIx _ _).put hi3 _ (by omega) hl3 rfl, hl4, hd4⟩⟩
      | exit id =>
        obtain ⟨hs, hi3⟩ := hp
        obtain ⟨hr, hl3, hl4, hd4⟩ := fin (some (.exit id)) W3 hs
        exact ⟨_, _, hr, .inr ⟨rfl, .exit id, (hIx _ _).put hi3 _ (by omega) hl3 rfl, hl4, hd4⟩⟩
      | goto t =>
        obtain ⟨hs, hi3⟩ := hp
        obtain ⟨hr, hl3, hl4, hd4⟩ := fin (some (.goto t)) W3 hs
        exact ⟨_, _, hr, .inr ⟨rfl, .goto t, (hIx _ _).put hi3 _ (by omega) hl3 rfl, hl4, hd4⟩⟩
      | panic ch => exact hp.elim
      | outgrown => exact hp.elim
    · rintro e W2 ⟨⟨v, rfl⟩, (⟨xs, hS, hi, hl, hd⟩ | ⟨pre, hSp, c, hi, hl, hd⟩)⟩
      · exact ⟨none, _, by have := run_endLoop (P := P) hl (by rw [hrec]; simp); rw [hrec] at this; exact this, hdone _ _ hS ((hI _).put hi _ (by omega) hl rfl) ((World.putObj_heap_other (by omega)).trans hd)⟩
      · exact ⟨some c, _, by have := run_endLoop (P := P) hl (by rw [hrec]; simp); rw [hrec] at this; exact this, wpIn_wide.2 (hstop c pre _ hSp ((hIx c pre).put hi _ (by omega) hl rfl) ((World.putObj_heap_other (by omega)).trans hd))⟩
end Go.Proofs.YtolfckhjfadhdaaDoor
/- Leaving a function that held ranges over functions; what is held stays through such a loop's own steps. -/
namespace Go.Proofs.YtolfckhjfadhdaaDoor
open Go.RowKit Go.Shelf

theorem calls_marks {P : Program} {f : FuncId} {fn : Func} {c : Code} {args : Array Value} {w : World} {R : Ending → World → Prop} (hf : P.funcs[f]? = some fn) (hb : fn.body = some c)
    (h : c.wp P (bodyPostM Fence.wide 3 P fn R) { tmps := args ++ Array.replicate (fn.ntmps - args.size) undef, defers := [] } w) : Calls P f args w R :=
  callsIn_wide.1 (callsIn_of_wp_marks hf hb trivial (wpIn_wide.2 h) rfl)
theorem Kp.putObj {w : World} (l : Nat) (o : Obj) : Kp [l] w (w.putObj l o) :=
  ⟨rfl, rfl, rfl, by simp, fun k _ hn => World.putObj_heap_other (fun e => hn (by simp [e]))⟩
/-- The marks of the loops that were left are taken up. -/
theorem leaves_marks {P : Program} {fn : Func} {tmps : Array Value} {R : Ending → World → Prop} : ∀ (ds : List Nat) (w : World), ds.Nodup → (∀ D ∈ ds, w.heap[D]? = some (.deferred (some []))) →
    (∀ W, Kp ds w W → ∃ v, (results fn tmps).run P W = .ok v W ∧ R (.returned v) W) → LeavesInM Fence.wide 3 P fn tmps R (ds.map markOf) .returning w
  | [], w, _, _, h => h w (Kp.refl [] w)
  | D :: ds, w, hn, hd, h => by
    obtain ⟨h1, h2⟩ := List.nodup_cons.1 hn
    refine ⟨by simp, .inl ⟨D, _, rfl, run_takeDeferred (hd D (by simp)), leaves_marks ds _ h2 (fun D' hD' => ?_) (fun W hk => h W ?_)⟩⟩
    · exact (World.putObj_heap_other (fun e => h1 (by rw [← e]; exact hD'))).trans (hd D' (by simp [hD']))
    · exact ((Kp.putObj D (.deferred none)).more (T := D :: ds) (fun g hg => .inl (by simp at hg; simp [hg]))).trans hk (fun g hg => .inl (by simp [hg]))
theorem ret_marks {P : Program} {fn : Func} {R : Ending → World → Prop} {a : Act} {w : World} (ds : List Nat) (ha : a.defers = ds.map markOf) (hn : ds.Nodup) (hd : ∀ D ∈ ds, w.heap[D]? = some (.deferred (some [])))
    (h : ∀ W, Kp ds w W → ∃ v, (results fn a.tmps).run P W = .ok v W ∧ R (.returned v) W) : bodyPostM Fence.wide 3 P fn R .ret a w := by
  show LeavesInM Fence.wide 3 P fn a.tmps R a.defers .returning w
  rw [ha]
  exact leaves_marks ds w hn hd h

theorem run_eql_func_nil {P : Program} (w : World) (t : TypeId) {d : TypeDesc} (h : P.underlying t = some d) (hd : (match d with | .func .. => true | _ => false) = true) (f : Fn) (a b : Array Value) : (binOp .eql t (.func f a b) .nilFunc).run P w = .ok (.bool false) w := by
  cases d <;> first | (cases hd; done) | skip
  have h1 : ∀ d, (Op.equalIn (d + 1) t (.func f a b) .nilFunc).run P w = .ok false w := fun d => by simp [Op.equalIn, run_underlying h]
  simp only [binOp]
  simp [Op.equal, Op.maxDepth, h1 9999]
/-- All its blocks are rows of cells. -/
def Cellular (r : Res) : Prop := ∀ W, r.ok W → ∀ b ∈ r.fp, ∃ o : Obj, W.heap[b]? = some o ∧ o.isCells = true
theorem cellular_row (e : TypeId) (s : Nat) (v : Value) (n : Nat) (xs : List Value) : Cellular (rowR e s v n xs) := by
  intro W h b hb
  have hb : v.ownBlock = some b := by simpa [rowR] using hb
  rcases h.2 with ⟨rfl, _⟩ | ⟨g, cap, cur, rfl, _, hg, _⟩
  · simp [Value.ownBlock] at hb
  · have : g = b := by simpa [Value.ownBlock] using hb
    subst this
    exact ⟨_, hg, rfl⟩
theorem cellular_blk (g : Nat) (t : TypeId) (cs : Array Value) : Cellular (blkR g t cs) := by
  intro W h b hb
  have hb : b = g := by simpa [blkR] using hb
  subst hb
  exact ⟨_, h, rfl⟩
/-- Rows of cells, or blocks below B: what an object from B on is not. -/
def Cells (B : Nat) (L : List Res) : Prop := ∀ r, r ∈ L → Cellular r ∨ ∀ b ∈ r.fp, b < B
theorem Cells.nil {B : Nat} : Cells B [] := by simp [Cells]
theorem Cells.cons {B : Nat} {L : List Res} {r : Res} (hr : Cellular r) (h : Cells B L) : Cells B (r :: L) := fun s hs => by
  rcases List.mem_cons.1 hs with rfl | hs
  · exact .inl hr
  · exact h s hs
theorem Cells.row {B : Nat} {L : List Res} {e : TypeId} {s : Nat} {v : Value} {n : Nat} {xs : List Value} (h : Cells B L) : Cells B (rowR e s v n xs :: L) := h.cons (cellular_row _ _ _ _ _)
theorem Cells.blk {B : Nat} {L : List Res} {g : Nat} {t : TypeId} {cs : Array Value} (h : Cells B L) : Cells B (blkR g t cs :: L) := h.cons (cellular_blk _ _ _)
theorem Cells.tail {B : Nat} {L : List Res} {r : Res} (h : Cells B (r :: L)) : Cells B L := fun s hs => h s (List.mem_cons_of_mem _ hs)
theorem Cells.append {B : Nat} {L L' : List Res} (h : Cells B L) (h' : Cells B L') : Cells B (L ++ L') := fun r hr => (List.mem_append.1 hr).elim (h r) (h' r)
/-- What is held in a world lies below its end. -/
theorem Cells.of {w0 W : World} {L : List Res} (S : Held w0 W L) : Cells W.heap.size L := fun r hr => .inr fun b hb => r.lt W (S.ok r hr) b hb
theorem Cells.not {B : Nat} {L : List Res} (h : Cells B L) {w0 W : World} (S : Held w0 W L) {l : Nat} {o : Obj} (hB : B ≤ l) (hl : W.heap[l]? = some o) (ho : o.isCells = false) : ∀ r ∈ L, l ∉ r.fp := by
  intro r hr hm
  rcases h r hr with h | h
  · obtain ⟨o', h1, h2⟩ := h W (S.ok r hr) l hm
    rw [hl] at h1
    cases h1
    rw [ho] at h2
    cases h2
  · have := h l hm
    omega
/-- An object that is no row of cells.. -/
def objR (l : Nat) (o : Obj) : Res where
  fp := [l]
  ok := fun w => w.heap[l]? = some o
  keep := fun _ _ _ h hk hn => (hk.block l (Array.getElem?_eq_some_iff.1 h).1 (hn l (by simp))).trans h
  lt := fun _ h b hb => by simp at hb; subst hb; exact (Array.getElem?_eq_some_iff.1 h).1
theorem Held.withObj {w0 W : World} {L : List Res} (S : Held w0 W L) {l : Nat} {o : Obj} (hB : w0.heap.size ≤ l) (hl : W.heap[l]? = some o) (hn : ∀ r ∈ L, l ∉ r.fp) : Held w0 W (objR l o :: L) :=
  ⟨S.k, fun r hr => by
    rcases List.mem_cons.1 hr with rfl | hr
    · exact hl
    · exact S.ok r hr, fun r hr b hb => by
    rcases List.mem_cons.1 hr with rfl | hr
    · have : b = l := by simpa [objR] using hb
      omega
    · exact S.base r hr b hb, List.pairwise_cons.2 ⟨fun r hr b hb hb' => by
    have : b = l := by simpa [objR] using hb
    subst this
    exact hn r hr hb', S.apart⟩⟩
/-- What a call holds of its own, behind what was held. -/
theorem Held.join {w0 w1 w2 : World} {L L' : List Res} (S : Held w0 w1 L) (T : Held w1 w2 L') : Held w0 w2 (L ++ L') :=
  ⟨S.k.trans T.k (by simp), fun r hr => (List.mem_append.1 hr).elim (fun h => r.keep w1 w2 [] (S.ok r h) T.k (by simp)) (T.ok r), fun r hr b hb => (List.mem_append.1 hr).elim (fun h => S.base r h b hb) (fun h => Nat.le_trans S.k.size (T.base r h b hb)),
    List.pairwise_append.2 ⟨S.apart, T.apart, fun r hr s hs b hb hb' => by
      have h1 := r.lt w1 (S.ok r hr) b hb
      have h2 := T.base s hs b hb'
      omega⟩⟩
theorem Held.sub {w0 w : World} {L L' : List Res} (S : Held w0 w L) (h : L'.Sublist L) : Held w0 w L' :=
  ⟨S.k, fun r hr => S.ok r (h.subset hr), fun r hr => S.base r (h.subset hr), S.apart.sublist h⟩
/-- The mark of a loop that was left. -/
def obD (D : Nat) : Res := objR D (.deferred (some []))
/-- Both objects of the loop beside what is held. -/
theorem Held.withTwo {w0 W : World} {L : List Res} (S : Held w0 W L) {B : Nat} (hc : Cells B L) (h0 : w0.heap.size ≤ B) {l D : Nat} {o d : Obj} (hB : B ≤ l) (hD : B ≤ D) (hne : l ≠ D) (hl : W.heap[l]? = some o) (ho : o.isCells = false) (hd : W.heap[D]? = some d) (hd0 : d.isCells = false) :
    Held w0 W (objR l o :: objR D d :: L) :=
  (S.withObj (Nat.le_trans h0 hD) hd (hc.not S hD hd hd0)).withObj (Nat.le_trans h0 hB) hl (fun r hr => by
    rcases List.mem_cons.1 hr with rfl | hr
    · simpa [objR] using hne
    · exact hc.not S hB hl ho r hr)
theorem Held.same2 {w0 W W' : World} {L : List Res} {l D : Nat} {o d : Obj} (S : Held w0 W' (objR l o :: objR D d :: L)) (hl : W.heap[l]? = some o) (hd : W.heap[D]? = some d) : Same2 l D W W' :=
  ⟨(S.at_ (l1 := [])).trans hl.symm, (S.at_ (l1 := [_])).trans hd.symm⟩
theorem Held.two {w0 W : World} {L : List Res} {r s : Res} (S : Held w0 W (r :: s :: L)) : Held w0 W L := S.drop.drop
theorem Held.stays {w0 : World} {L : List Res} {B : Nat} (hB : w0.heap.size ≤ B) (hc : Cells B L) : Stays B (fun W => Held w0 W L) := by
  intro W W' S h
  rcases h with hk | ⟨l, o, o', hl, hlo, ho, rfl⟩
  · exact S.kp hk
  · have hn := hc.not S hl hlo ho
    exact ⟨S.k.trans (Kp.putObj l o') (fun g hg => by simp at hg; right; omega), fun r hr => r.keep W _ [l] (S.ok r hr) (Kp.putObj l o') (fun b hb hm => by simp at hm; subst hm; exact hn r hr hb), S.base, S.apart⟩
/-- What was there when the loop began and is read. -/
theorem stays_old {w : World} {p : World → Prop} (h : ∀ W, Kp [] w W → p W) : Stays w.heap.size (fun W => Kp [] w W ∧ p W) := by
  intro W W' ⟨h1, _⟩ hk
  have h2 : Kp [] w W' := by
    rcases hk with hk | ⟨l, o, o', hl, hlo, ho, rfl⟩
    · exact h1.trans hk (by simp)
    · exact h1.trans (Kp.putObj l o') (fun g hg => by simp at hg; right; omega)
  exact ⟨h2, h W' h2⟩
theorem cell_put {W : World} {a : Addr} {u : Value} (h : W.cell? a = some u) {l : Nat} {o : Obj} (o' : Obj) (hl : W.heap[l]? = some o) (ho : o.isCells = false) : (W.putObj l o').cell? a = some u := by
  have hne : a.block ≠ l := by
    intro e
    unfold World.cell? at h
    rw [e, hl] at h
    cases o <;> first | (cases ho; done) | simp at h
  exact (World.cell?_of_block (World.putObj_heap_other hne)).trans h
theorem rd_put {W : World} {s n : Nat} {v : Value} {xs : List Value} (h : Rd W s v n xs) {l : Nat} {o : Obj} (o' : Obj) (hl : W.heap[l]? = some o) (ho : o.isCells = false) : Rd (W.putObj l o') s v n xs := by
  obtain ⟨h1, A, c, h2, h3, h4, h5, h6⟩ := h
  exact ⟨h1, A, c, h2, h3, h4, h5, fun ad had j u hu => cell_put (h6 ad had j u hu) o' hl ho⟩
theorem blk_put {W : World} {g : Nat} {t : TypeId} {cs : Array Value} (h : Blk W g t cs) {l : Nat} {o : Obj} (o' : Obj) (hl : W.heap[l]? = some o) (ho : o.isCells = false) : Blk (W.putObj l o') g t cs := by
  refine (World.putObj_heap_other (fun e => ?_)).trans h
  subst e
  unfold Blk at h
  rw [h] at hl
  cases hl
  cases ho
theorem stays_cell (B : Nat) (a : Addr) (u : Value) : Stays B (fun W => W.cell? a = some u) := fun W W' h hk => by
  rcases hk with hk | ⟨l, o, o', _, hl, ho, rfl⟩
  · exact cell_kept h hk
  · exact cell_put h o' hl ho
theorem stays_rd (B s : Nat) (v : Value) (n : Nat) (xs : List Value) : Stays B (fun W => Rd W s v n xs) := fun W W' h hk => by
  rcases hk with hk | ⟨l, o, o', _, hl, ho, rfl⟩
  · exact rd_old h hk
  · exact rd_put h o' hl ho
theorem stays_blk (B g : Nat) (t : TypeId) (cs : Array Value) : Stays B (fun W => Blk W g t cs) := fun W W' h hk => by
  rcases hk with hk | ⟨l, o, o', _, hl, ho, rfl⟩
  · exact h.kp hk (by simp)
  · exact blk_put h o' hl ho
end Go.Proofs.YtolfckhjfadhdaaDoor
/- The digits of a hash. -/
namespace Go.Proofs.YtolfckhjfadhdaaDoor
open Go.RowKit
theorem run_arr_index {P : Program} (w : World) (t e : TypeId) (n : Nat) (h : List UInt8) (kd : IntKind) (z : Int) (k : Nat) (hz : z = k) (hk : k < h.length) (hn : h.length = n) (hu : P.underlying t = some (.array n e)) (he : P.underlying e = some (.int .u8)) (hc : (P.info? e).map (·.size) = some 1) :
    (Instr.index t (.agg (hashA h)) (.int kd z)).run P w = .ok (.int .u8 (h[k].toNat : Int)) w := by
  subst hz
  have hag : (isAgg e).run P w = .ok false w := by
    unfold isAgg
    rw [Sem.run_bind, run_underlying he w]
    rfl
  cases hq : P.info? e with
  | none => simp [hq] at hc
  | some i =>
    have hs : i.size = 1 := by simpa [hq] using hc
    have hg : (hashA h)[k]? = some (.int .u8 (h[k].toNat : Int)) := by simp [hashA, bv, hk]
    have hb : ¬ ((k : Int) < 0 ∨ (n : Int) ≤ k) := by omega
    have hb2 : 0 ≤ (k : Int) ∧ (k : Int) < n := by omega
    simp [Instr.index, Sem.run_bind, run_underlying hu w, asIntOf, part, hag, sizeOf, typeInfo, hq, hs, hg]
    intro; omega
theorem hex_cell {w : World} {g : Nat} (h : Blk w g 71 (hashA digL)) (n : Nat) (hn : n < 16) : w.cell? ⟨g, n, none⟩ = some (.int .u8 ((hx n).toNat : Int)) := by
  rw [h.cell n]
  have := digL_get hn
  simp [hashA, bv_get, this]
/-- A block read whole, and written whole. -/
theorem wpList_load_blk {P : Program} {ops : Array Oper} {rest : List Oper} {o : Oper} {a : Act} {w : World} {Q : Exit → Act → World → Prop} (hgd : o.guard = none) (ty : TypeId) (x : Operand) (ho : o.op = .load ty x) (g : Nat) (hx : a.eval x = .pointer (some ⟨g, 0, none⟩))
    (t : TypeId) (cs : Array Value) (hb : Blk w g t cs) (d : TypeDesc) (hu : P.underlying ty = some d) (hd : aggB d = true) (hi : (P.info? ty).map (·.size) = some cs.size)
    (h : wpList P ops Q rest (a.put o.dst (.agg cs)) w) : wpList P ops Q (o :: rest) a w :=
  wpList_load_agg hgd ty x ho ⟨g, 0, none⟩ hx cs.toList d hb.agg hu hd (by rw [hi, Array.length_toList]) h
theorem wpList_store_blk {P : Program} {ops : Array Oper} {rest : List Oper} {o : Oper} {a : Act} {w : World} {Q : Exit → Act → World → Prop} (hgd : o.guard = none) (ty : TypeId) (x y : Operand) (ho : o.op = .store ty x y) (g : Nat) (hx : a.eval x = .pointer (some ⟨g, 0, none⟩))
    (xs : Array Value) (hy : a.eval y = .agg xs) (t : TypeId) (cur : Array Value) (hb : Blk w g t cur) (hi : (P.info? ty).map (·.size) = some xs.size) (hsz : cur.size = xs.size) (h1 : ∀ u, u ∈ xs.toList → u.oneCell' = true)
    (h : ∀ w', Blk w' g t xs → Kp [g] w w' → wpList P ops Q rest (a.put o.dst undef) w') : wpList P ops Q (o :: rest) a w :=
  wpList_store_agg hgd ty x y ho g 0 hx xs hy t cur hb hi (by omega) h1 (fun w' h2 k2 => h w' (by rw [set_all _ _ hsz] at h2; exact h2) k2)
theorem Held.setBlk {w0 w w' : World} {l1 l2 : List Res} {g : Nat} {t : TypeId} {cur xs : Array Value} (h : Held w0 w (l1 ++ blkR g t cur :: l2)) (hb : Blk w' g t xs) (k : Kp [g] w w') : Held w0 w' (l1 ++ blkR g t xs :: l2) :=
  h.turnAt (blkR g t xs) k hb (fun _ h => .inl h)
theorem hashA_one (l : List UInt8) : ∀ u, u ∈ (hashA l).toList → u.oneCell' = true := fun u hu => bv_one l u hu
theorem Tryd.infoHashP : (Tryd.prog.info? 23).map (·.size) = some 32 := by kernel_rfl
theorem Tryd.info16P : (Tryd.prog.info? 71).map (·.size) = some 16 := by kernel_rfl
theorem Tryd.infoPointP : (Tryd.prog.info? 25).map (·.size) = some 33 := by kernel_rfl
theorem Tryd.sizeU8P : (Tryd.prog.info? 5).map (·.size) = some 1 := by kernel_rfl
end Go.Proofs.YtolfckhjfadhdaaDoor
/- Crc: the plain mathematics: steps, moves, sums; nothing of the program. -/
namespace Go.Proofs.YtolfckhjfadhdaaDoor

/-- n times. -/
def itn {α : Type} (f : α → α) : Nat → α → α
  | 0, x => x
  | n + 1, x => itn f n (f x)
theorem itn_add {α : Type} (f : α → α) (m n : Nat) (x : α) : itn f (m + n) x = itn f n (itn f m x) := by
  induction m generalizing x with
  | zero => rw [Nat.zero_add]; rfl
  | succ m ih => rw [Nat.succ_add]; exact ih (f x)
theorem itn_succ {α : Type} (f : α → α) (n : Nat) (x : α) : itn f (n + 1) x = f (itn f n x) := itn_add f n 1 x
theorem itn_mul {α : Type} (f : α → α) (m n : Nat) (x : α) : itn f (m * n) x = itn (itn f m) n x := by
  induction n generalizing x with
  | zero => rfl
  | succ n ih => rw [Nat.mul_succ, Nat.add_comm, itn_add, ih]; rfl

def P32 : Nat := 2197175160
/-- The step. -/
def stp (x : Nat) : Nat := (x / 2) ^^^ (x % 2 * P32)
theorem xor_div2 (a b : Nat) : (a ^^^ b) / 2 = a / 2 ^^^ b / 2 := by
  have := Nat.shiftRight_xor_distrib (a := a) (b := b) (i := 1)
  simpa [Nat.shiftRight_succ] using this
theorem xor_mod2 (a b : Nat) : (a ^^^ b) % 2 = (a % 2) ^^^ (b % 2) := by
  have := Nat.xor_mod_two_pow (a := a) (b := b) (n := 1)
  simpa using this
theorem bit_cases (a : Nat) : a % 2 = 0 ∨ a % 2 = 1 := by omega
theorem bit_mul (a b m : Nat) : ((a % 2) ^^^ (b % 2)) * m = (a % 2 * m) ^^^ (b % 2 * m) := by
  rcases bit_cases a with h | h <;> rcases bit_cases b with h' | h' <;> rw [h, h'] <;> simp
theorem xor4 (a b c d : Nat) : (a ^^^ b) ^^^ (c ^^^ d) = (a ^^^ c) ^^^ (b ^^^ d) := by
  rw [Nat.xor_assoc, Nat.xor_assoc, ← Nat.xor_assoc b c d, Nat.xor_comm b c, Nat.xor_assoc c b d]
/-- Additive: bit by bit. -/
def Lin (f : Nat → Nat) : Prop := ∀ a b, f (a ^^^ b) = f a ^^^ f b
theorem Lin.zero {f : Nat → Nat} (h : Lin f) : f 0 = 0 := by
  have := h 0 0
  rw [Nat.xor_self, Nat.xor_self] at this
  exact this
theorem Lin.comp {f g : Nat → Nat} (hf : Lin f) (hg : Lin g) : Lin fun x => f (g x) := fun a b => by simp only [hg a b, hf _ _]
theorem Lin.itn {f : Nat → Nat} (h : Lin f) (n : Nat) : Lin (itn f n) := by
  induction n with
  | zero => intro a b; rfl
  | succ n ih =>
    intro a b
    show Proofs.YtolfckhjfadhdaaDoor.itn f n (f (a ^^^ b)) = _
    rw [h a b]; exact ih _ _
theorem stp_lin : Lin stp := by
  intro a b
  unfold stp
  rw [xor_div2, xor_mod2, bit_mul, xor4]
theorem P32_lt : P32 < 2 ^ 32 := by decide
theorem stp_lt {x : Nat} (h : x < 2 ^ 32) : stp x < 2 ^ 32 := by
  unfold stp
  refine Nat.xor_lt_two_pow (by omega) ?_
  rcases bit_cases x with h' | h' <;> rw [h']
  · simp
  · rw [Nat.one_mul]; exact P32_lt
theorem itn_stp_lt {x : Nat} (n : Nat) (h : x < 2 ^ 32) : itn stp n x < 2 ^ 32 := by
  induction n generalizing x with
  | zero => exact h
  | succ n ih => exact ih (stp_lt h)
/-- A byte's way. -/
def eight (x : Nat) : Nat := itn stp 8 x
theorem eight_lin : Lin eight := stp_lin.itn 8
theorem eight_lt {x : Nat} (h : x < 2 ^ 32) : eight x < 2 ^ 32 := itn_stp_lt 8 h
/-- A number behind some bytes. -/
def thru (x : Nat) (l : List UInt8) : Nat := l.foldl (fun x c => eight (x ^^^ c.toNat)) x
theorem thru_nil (x : Nat) : thru x [] = x := rfl
theorem thru_cons (x : Nat) (c : UInt8) (l : List UInt8) : thru x (c :: l) = thru (eight (x ^^^ c.toNat)) l := rfl
theorem thru_append (x : Nat) (a b : List UInt8) : thru x (a ++ b) = thru (thru x a) b := by simp [thru]
theorem thru_snoc (x : Nat) (a : List UInt8) (c : UInt8) : thru x (a ++ [c]) = eight (thru x a ^^^ c.toNat) := by rw [thru_append]; rfl
theorem u8_lt32 (c : UInt8) : c.toNat < 2 ^ 32 := Nat.lt_trans c.toNat_lt (by decide)
theorem thru_lt {x : Nat} (l : List UInt8) (h : x < 2 ^ 32) : thru x l < 2 ^ 32 := by
  induction l generalizing x with
  | nil => exact h
  | cons c l ih => exact ih (eight_lt (Nat.xor_lt_two_pow h (u8_lt32 c)))
/-- Two numbers behind the same bytes. -/
theorem thru_xor (x y : Nat) (l : List UInt8) : thru (x ^^^ y) l = thru x l ^^^ itn stp (8 * l.length) y := by
  induction l generalizing x y with
  | nil => rfl
  | cons c l ih =>
    rw [thru_cons, thru_cons, List.length_cons, Nat.mul_succ, Nat.add_comm, itn_add]
    have e : x ^^^ y ^^^ c.toNat = (x ^^^ c.toNat) ^^^ y := by rw [Nat.xor_assoc, Nat.xor_comm y, ← Nat.xor_assoc]
    rw [e, eight_lin, ih]
    rfl
def not32 (x : Nat) : Nat := 4294967295 - x
theorem not32_xor {x : Nat} (h : x < 2 ^ 32) : not32 x = x ^^^ 4294967295 := by
  have h1 : (2 ^ 32 - 1 : Nat) = 4294967295 := by decide
  apply Nat.eq_of_testBit_eq
  intro i
  unfold not32
  rw [Nat.testBit_xor, ← h1, Nat.testBit_two_pow_sub_one]
  have h2 := Nat.testBit_two_pow_sub_succ (x := x) (n := 32) h i
  rw [show 2 ^ 32 - 1 - x = 2 ^ 32 - (x + 1) from by omega, h2]
  by_cases hi : i < 32
  · simp [hi]
  · have : x.testBit i = false := Nat.testBit_lt_two_pow (Nat.lt_of_lt_of_le h (Nat.pow_le_pow_right (by omega) (by omega)))
    simp [hi, this]
theorem not32_lt (x : Nat) : not32 x < 2 ^ 32 := by unfold not32; omega
theorem not32_not32 {x : Nat} (h : x < 2 ^ 32) : not32 (not32 x) = x := by unfold not32; omega
/-- The sum of a text that goes on. -/
def more (s : Nat) (l : List UInt8) : Nat := not32 (thru (not32 s) l)
def crc (l : List UInt8) : Nat := more 0 l
theorem more_lt (s : Nat) (l : List UInt8) : more s l < 2 ^ 32 := not32_lt _
theorem more_nil {s : Nat} (h : s < 2 ^ 32) : more s [] = s := not32_not32 h
theorem more_append (s : Nat) (a b : List UInt8) : more s (a ++ b) = more (more s a) b := by
  unfold more
  rw [thru_append, not32_not32 (thru_lt a (not32_lt s))]
theorem crc_append (a b : List UInt8) : crc (a ++ b) = more (crc a) b := more_append 0 a b
theorem crc_nil : crc [] = 0 := more_nil (by decide)

/-! ### Moves -/
/-- A number moved by a list of moves, a bit each. -/
def ofL : List Nat → Nat → Nat
  | [], _ => 0
  | m :: ms, x => (x % 2 * m) ^^^ ofL ms (x / 2)
def matOf (f : Nat → Nat) : List Nat := (List.range 32).map fun i => f (2 ^ i)
theorem two_parts (x k : Nat) : x * 2 ^ k = (x % 2 * 2 ^ k) ^^^ (x / 2 * 2 ^ (k + 1)) := by
  have h1 : (x / 2) <<< (k + 1) + x % 2 * 2 ^ k = (x / 2) <<< (k + 1) ||| x % 2 * 2 ^ k := Nat.shiftLeft_add_eq_or_of_lt (by
    have : x % 2 * 2 ^ k ≤ 1 * 2 ^ k := Nat.mul_le_mul_right _ (by omega)
    have h2 : (2 : Nat) ^ (k + 1) = 2 * 2 ^ k := by rw [Nat.pow_succ, Nat.mul_comm]
    have h3 : 0 < 2 ^ k := Nat.pow_pos (by omega)
    omega) _
  have h2 : (x / 2) <<< (k + 1) ||| x % 2 * 2 ^ k = (x % 2 * 2 ^ k) ^^^ (x / 2 * 2 ^ (k + 1)) := by
    rw [Nat.shiftLeft_eq]
    apply Nat.eq_of_testBit_eq
    intro i
    rw [Nat.testBit_or, Nat.testBit_xor]
    by_cases hi : i ≤ k
    · have : (x / 2 * 2 ^ (k + 1)).testBit i = false := by rw [Nat.testBit_mul_two_pow]; simp; intro h; omega
      simp [this]
    · have : (x % 2 * 2 ^ k).testBit i = false := by
        refine Nat.testBit_lt_two_pow ?_
        have h3 : x % 2 * 2 ^ k ≤ 1 * 2 ^ k := Nat.mul_le_mul_right _ (by omega)
        have h4 : (2 : Nat) ^ (k + 1) ≤ 2 ^ i := Nat.pow_le_pow_right (by omega) (by omega)
        have h5 : (2 : Nat) ^ (k + 1) = 2 * 2 ^ k := by rw [Nat.pow_succ, Nat.mul_comm]
        have h6 : 0 < 2 ^ k := Nat.pow_pos (by omega)
        omega
      simp [this]
  rw [← h2, ← h1, Nat.shiftLeft_eq]
  have h5 : (2 : Nat) ^ (k + 1) = 2 * 2 ^ k := by rw [Nat.pow_succ, Nat.mul_comm]
  rw [h5, ← Nat.mul_assoc, ← Nat.add_mul]
  congr 1
  omega
theorem ofL_range {f : Nat → Nat} (h : Lin f) : ∀ (n k x : Nat), x < 2 ^ n → ofL ((List.range' k n).map fun i => f (2 ^ i)) x = f (x * 2 ^ k)
  | 0, k, x, hx => by
    have : x = 0 := by simpa using hx
    subst this
    rw [Nat.zero_mul, h.zero]; rfl
  | n + 1, k, x, hx => by
    rw [List.range'_succ, List.map_cons, ofL, ofL_range h n (k + 1) (x / 2) (by rw [Nat.pow_succ] at hx; omega)]
    rw [two_parts x k, h]
    congr 1
    rcases bit_cases x with h' | h' <;> rw [h']
    · rw [Nat.zero_mul, Nat.zero_mul, h.zero]
    · rw [Nat.one_mul, Nat.one_mul]
theorem ofL_mat {f : Nat → Nat} (h : Lin f) {x : Nat} (hx : x < 2 ^ 32) : ofL (matOf f) x = f x := by
  have := ofL_range h 32 0 x hx
  rw [Nat.pow_zero, Nat.mul_one] at this
  rw [← this, matOf, List.range_eq_range']
def sqM (m : List Nat) : List Nat := m.map (ofL m)
theorem sqM_mat {f : Nat → Nat} (h : Lin f) (hf : ∀ x, x < 2 ^ 32 → f x < 2 ^ 32) : sqM (matOf f) = matOf fun x => f (f x) := by
  unfold sqM
  conv => lhs; arg 2; unfold matOf
  rw [List.map_map]
  unfold matOf
  apply List.map_congr_left
  intro i hi
  have hi' : i < 32 := List.mem_range.1 hi
  show ofL (matOf f) (f (2 ^ i)) = f (f (2 ^ i))
  exact ofL_mat h (hf _ (Nat.pow_lt_pow_right (by omega) hi'))
theorem matOf_inj {f g : Nat → Nat} (hf : Lin f) (hg : Lin g) (h : matOf f = matOf g) {x : Nat} (hx : x < 2 ^ 32) : f x = g x := by
  rw [← ofL_mat hf hx, ← ofL_mat hg hx, h]
/-- A byte's way, 2^k times. -/
def far (k : Nat) : Nat → Nat := itn stp (8 * 2 ^ k)
theorem far_lin (k : Nat) : Lin (far k) := stp_lin.itn _
theorem far_lt (k : Nat) {x : Nat} (h : x < 2 ^ 32) : far k x < 2 ^ 32 := itn_stp_lt _ h
theorem far_succ (k x : Nat) : far (k + 1) x = far k (far k x) := by
  unfold far
  rw [← itn_add]
  congr 1
  rw [Nat.pow_succ]; omega
theorem far_mat (k : Nat) : itn sqM k (matOf eight) = matOf (far k) := by
  induction k with
  | zero => rfl
  | succ k ih =>
    rw [itn_succ, ih, sqM_mat (far_lin k) (fun x hx => far_lt k hx)]
    congr 1
    funext x
    exact (far_succ k x).symm
set_option maxRecDepth 100000 in
theorem turn31 : itn sqM 31 (matOf eight) = matOf eight := by decide +kernel
/-- So many bytes far everything is where it was. -/
theorem far31 {x : Nat} (hx : x < 2 ^ 32) : far 31 x = eight x :=
  matOf_inj (far_lin 31) eight_lin ((far_mat 31).symm.trans turn31) hx
theorem mat31 : matOf (far 31) = matOf eight := (far_mat 31).symm.trans turn31

/-! ### Back -/
def unstp (y : Nat) : Nat := if 2147483648 ≤ y then (y ^^^ P32) * 2 + 1 else y * 2
theorem half_lt {x : Nat} (h : x < 2 ^ 32) : x / 2 < 2 ^ 31 := by omega
theorem xor_top {a : Nat} (h : a < 2 ^ 31) : 2147483648 ≤ a ^^^ P32 := by
  have h1 : (a ^^^ P32).testBit 31 = true := by
    rw [Nat.testBit_xor, Nat.testBit_lt_two_pow h]
    decide
  exact Nat.ge_two_pow_of_testBit h1
theorem unstp_stp {x : Nat} (h : x < 2 ^ 32) : unstp (stp x) = x := by
  unfold unstp stp
  have hh := half_lt h
  rcases bit_cases x with h' | h' <;> rw [h']
  · rw [Nat.zero_mul, Nat.xor_zero, if_neg (by omega)]; omega
  · rw [Nat.one_mul, if_pos (xor_top hh), Nat.xor_assoc, Nat.xor_self, Nat.xor_zero]; omega
theorem stp_unstp {y : Nat} (h : y < 2 ^ 32) : stp (unstp y) = y := by
  unfold unstp
  split
  · rename_i h1
    unfold stp
    have h2 : ((y ^^^ P32) * 2 + 1) % 2 = 1 := by omega
    have h3 : ((y ^^^ P32) * 2 + 1) / 2 = y ^^^ P32 := by omega
    rw [h2, h3, Nat.one_mul, Nat.xor_assoc, Nat.xor_self, Nat.xor_zero]
  · unfold stp
    have h2 : y * 2 % 2 = 0 := by omega
    have h3 : y * 2 / 2 = y := by omega
    rw [h2, h3, Nat.zero_mul, Nat.xor_zero]
theorem xor_bit31 {y : Nat} (h : y < 2 ^ 32) (h1 : 2147483648 ≤ y) : y ^^^ P32 < 2 ^ 31 := by
  refine Nat.lt_pow_two_of_testBit _ fun i hi => ?_
  rw [Nat.testBit_xor]
  by_cases e : i = 31
  · subst e
    have h2 : y.testBit 31 = true := by
      rw [Nat.testBit_eq_decide_div_mod_eq]
      simp
      omega
    rw [h2]; decide
  · have h2 : y.testBit i = false := Nat.testBit_lt_two_pow (Nat.lt_of_lt_of_le h (Nat.pow_le_pow_right (by omega) (by omega)))
    have h3 : P32.testBit i = false := Nat.testBit_lt_two_pow (Nat.lt_of_lt_of_le P32_lt (Nat.pow_le_pow_right (by omega) (by omega)))
    rw [h2, h3]; rfl
theorem unstp_lt {y : Nat} (h : y < 2 ^ 32) : unstp y < 2 ^ 32 := by
  unfold unstp
  split
  · rename_i h1
    have := xor_bit31 h h1
    omega
  · omega
theorem stp_inj {x y : Nat} (hx : x < 2 ^ 32) (hy : y < 2 ^ 32) (h : stp x = stp y) : x = y := by rw [← unstp_stp hx, ← unstp_stp hy, h]
theorem itn_inj {n x y : Nat} (hx : x < 2 ^ 32) (hy : y < 2 ^ 32) (h : itn stp n x = itn stp n y) : x = y := by
  induction n generalizing x y with
  | zero => exact h
  | succ n ih => exact stp_inj hx hy (ih (stp_lt hx) (stp_lt hy) h)
theorem itn_un {n x : Nat} (h : x < 2 ^ 32) : itn stp n (itn unstp n x) = x := by
  induction n generalizing x with
  | zero => rfl
  | succ n ih =>
    rw [itn_succ stp, show itn unstp (n + 1) x = itn unstp n (unstp x) from rfl, ih (unstp_lt h)]
    exact stp_unstp h
theorem itn_unstp_lt {x : Nat} (n : Nat) (h : x < 2 ^ 32) : itn unstp n x < 2 ^ 32 := by
  induction n generalizing x with
  | zero => exact h
  | succ n ih => exact ih (unstp_lt h)
theorem thru_inj {x y : Nat} (l : List UInt8) (hx : x < 2 ^ 32) (hy : y < 2 ^ 32) (h : thru x l = thru y l) : x = y := by
  have e : y = x ^^^ (x ^^^ y) := by rw [← Nat.xor_assoc, Nat.xor_self, Nat.zero_xor]
  rw [e, thru_xor] at h
  have h0 : itn stp (8 * l.length) (x ^^^ y) = 0 := by
    have := congrArg (thru x l ^^^ ·) h
    simp only [← Nat.xor_assoc, Nat.xor_self, Nat.zero_xor] at this
    exact this.symm
  have hxy : x ^^^ y < 2 ^ 32 := Nat.xor_lt_two_pow hx hy
  have := itn_inj hxy (by decide) (h0.trans ((stp_lin.itn (8 * l.length)).zero).symm)
  rw [e, this, Nat.xor_zero]
/-- The order: a byte's way, so many times, is none. -/
def ord : Nat := 2147483647
theorem way_ord {x : Nat} (hx : x < 2 ^ 32) : itn stp (8 * ord) x = x := by
  have h1 := far31 hx
  unfold far at h1
  rw [show 8 * 2 ^ 31 = 8 * ord + 8 from by decide, Nat.add_comm, itn_add] at h1
  have h2 : itn stp 8 (itn stp (8 * ord) x) = itn stp 8 x := by
    rw [← itn_add, Nat.add_comm, itn_add]; exact h1
  exact itn_inj (itn_stp_lt _ hx) hx h2
theorem way_ords {x : Nat} (k : Nat) (hx : x < 2 ^ 32) : itn stp (8 * (ord * k)) x = x := by
  induction k with
  | zero => rfl
  | succ k ih => rw [Nat.mul_succ, Nat.mul_add, itn_add, ih, way_ord hx]
/-- Carried over n bytes. -/
def carry (x n : Nat) : Nat := itn stp (8 * n) x
theorem carry_lt {x : Nat} (n : Nat) (h : x < 2 ^ 32) : carry x n < 2 ^ 32 := itn_stp_lt _ h
theorem carry_lin (n : Nat) : Lin fun x => carry x n := stp_lin.itn _
theorem carry_add (x m n : Nat) : carry x (m + n) = carry (carry x m) n := by unfold carry; rw [Nat.mul_add, itn_add]

/-! ### Polynomials: the document's way -/
/-- p behind n bits of a, from the bit 2^k down; b is stepped. -/
def timesL (a : Nat) : Nat → Nat → Nat → Nat
  | 0, _, p => p
  | n + 1, b, p => timesL a n (stp b) (p ^^^ (a / 2 ^ n % 2 * b))
def times (a b : Nat) : Nat := timesL a 32 b 0
theorem timesL_xor (a : Nat) : ∀ (n b p : Nat), timesL a n b p = p ^^^ timesL a n b 0
  | 0, b, p => (Nat.xor_zero p).symm
  | n + 1, b, p => by
    rw [timesL, timesL_xor a n (stp b) (p ^^^ _), timesL, timesL_xor a n (stp b) (0 ^^^ _), Nat.zero_xor, Nat.xor_assoc]
theorem timesL_stp (a : Nat) : ∀ (n b : Nat), timesL a n (stp b) 0 = stp (timesL a n b 0)
  | 0, b => by show 0 = stp 0; decide
  | n + 1, b => by
    rw [timesL, timesL, timesL_xor, timesL_xor a n (stp b), timesL_stp a n (stp b), stp_lin, Nat.zero_xor, Nat.zero_xor]
    congr 1
    rcases bit_cases (a / 2 ^ n) with h | h <;> rw [h]
    · rw [Nat.zero_mul, Nat.zero_mul]; decide
    · rw [Nat.one_mul, Nat.one_mul]
theorem times_stp (a b : Nat) : times a (stp b) = stp (times a b) := timesL_stp a 32 b
theorem times_itn (a b n : Nat) : times a (itn stp n b) = itn stp n (times a b) := by
  induction n with
  | zero => rfl
  | succ n ih => rw [itn_succ, itn_succ, times_stp, ih]
theorem stp_pow (n : Nat) : stp (2 ^ (n + 1)) = 2 ^ n := by
  unfold stp
  rw [Nat.pow_succ, Nat.mul_mod_left, Nat.zero_mul, Nat.xor_zero, Nat.mul_div_cancel _ (by omega)]
theorem timesL_one (a : Nat) : ∀ n, timesL a (n + 1) (2 ^ n) 0 = a % 2 ^ (n + 1)
  | 0 => by simp [timesL]
  | n + 1 => by
    rw [timesL, Nat.zero_xor, stp_pow, timesL_xor, timesL_one a n]
    have h1 : a % 2 ^ (n + 1) < 2 ^ (n + 1) := Nat.mod_lt _ (Nat.pow_pos (by omega))
    have h2 := Nat.shiftLeft_add_eq_or_of_lt h1 (a / 2 ^ (n + 1) % 2)
    rw [Nat.shiftLeft_eq] at h2
    have h3 : a / 2 ^ (n + 1) % 2 * 2 ^ (n + 1) ^^^ a % 2 ^ (n + 1) = a / 2 ^ (n + 1) % 2 * 2 ^ (n + 1) ||| a % 2 ^ (n + 1) := by
      apply Nat.eq_of_testBit_eq
      intro i
      rw [Nat.testBit_or, Nat.testBit_xor]
      by_cases hi : i < n + 1
      · have : (a / 2 ^ (n + 1) % 2 * 2 ^ (n + 1)).testBit i = false := by rw [Nat.testBit_mul_two_pow]; simp; intro h; omega
        simp [this]
      · have : (a % 2 ^ (n + 1)).testBit i = false := Nat.testBit_lt_two_pow (Nat.lt_of_lt_of_le h1 (Nat.pow_le_pow_right (by omega) (by omega)))
        simp [this]
    rw [h3, ← h2, Nat.pow_succ 2 (n + 1), Nat.mod_mul, Nat.add_comm, Nat.mul_comm]
theorem times_one {a : Nat} (h : a < 2 ^ 32) : times a (2 ^ 31) = a := by
  have := timesL_one a 31
  rw [Nat.mod_eq_of_lt h] at this
  exact this
/-- The power 8·2^k. -/
def powr (k : Nat) : Nat := itn stp (8 * 2 ^ k) (2 ^ 31)
theorem powr_zero : powr 0 = 8388608 := by decide +kernel
theorem powr_lt (k : Nat) : powr k < 2 ^ 32 := itn_stp_lt _ (by decide)
theorem times_powr {a : Nat} (k : Nat) (h : a < 2 ^ 32) : times a (powr k) = far k a := by
  unfold powr far
  rw [times_itn, times_one h]
theorem powr_succ (k : Nat) : powr (k + 1) = times (powr k) (powr k) := by
  rw [times_powr k (powr_lt k)]
  unfold powr far
  rw [← itn_add]
  congr 1
  rw [Nat.pow_succ]; omega
theorem timesL_lt {a : Nat} : ∀ (n b p : Nat), b < 2 ^ 32 → p < 2 ^ 32 → timesL a n b p < 2 ^ 32
  | 0, b, p, _, hp => hp
  | n + 1, b, p, hb, hp => by
    refine timesL_lt n (stp b) _ (stp_lt hb) (Nat.xor_lt_two_pow hp ?_)
    rcases bit_cases (a / 2 ^ n) with h | h <;> rw [h]
    · rw [Nat.zero_mul]; decide
    · rw [Nat.one_mul]; exact hb
theorem times_lt {a b : Nat} (hb : b < 2 ^ 32) : times a b < 2 ^ 32 := timesL_lt 32 b 0 hb (by decide)
/-- One bit of the count. -/
theorem carry_bit (x n k : Nat) : carry x (n % 2 ^ (k + 1)) = (if n / 2 ^ k % 2 = 1 then far k (carry x (n % 2 ^ k)) else carry x (n % 2 ^ k)) := by
  have h := Nat.mod_mul (x := n) (a := 2 ^ k) (b := 2)
  rw [← Nat.pow_succ] at h
  rw [h]
  rcases bit_cases (n / 2 ^ k) with h' | h' <;> rw [h']
  · rw [if_neg (by omega), Nat.mul_zero, Nat.add_zero]
  · rw [if_pos rfl, Nat.mul_one, carry_add]
    rfl
end Go.Proofs.YtolfckhjfadhdaaDoor
/- Walks of package crc: steps, bytes. -/
namespace Go.Proofs.YtolfckhjfadhdaaDoor
open Go.RowKit

theorem ret_int {k : IntKind} {a b : Int} (h : a = b) : Ending.returned (.int k a) = .returned (.int k b) := by rw [h]
theorem stp_even {x : Nat} (h : x % 2 = 0) : stp x = x / 2 := by unfold stp; rw [h, Nat.zero_mul, Nat.xor_zero]
theorem stp_odd {x : Nat} (h : x % 2 = 1) : stp x = x / 2 ^^^ P32 := by unfold stp; rw [h, Nat.one_mul]
theorem u32_x (a b : Nat) (ha : a < 4294967296) (hb : b < 4294967296) : bits .xor .u32 (a : Int) (b : Int) = ((a ^^^ b : Nat) : Int) := u32_xor_nat a b ha hb
theorem and1 {x : Nat} (h : x < 4294967296) (b : Bool) (c : (bits .and .u32 (x : Int) 1 == 1) = b) : ((x : Int) % 2 == 1) = b := by
  have := u32_and_nat x 1 h (by decide)
  rw [Nat.and_one_is_mod] at this
  rw [show bits .and .u32 (x : Int) 1 = ((x % 2 : Nat) : Int) from this] at c
  exact c
theorem way_odd {x : Nat} (h : x < 4294967296) (c : ((x : Int) % 2 == 1) = true) : bits .xor .u32 ((x : Int) / 2) 2197175160 = (stp x : Int) := by
  have : (x : Int) % 2 = 1 := by simpa using c
  rw [stp_odd (by omega), ← u32_xor_nat (x / 2) P32 (by omega) (by decide)]
  rfl
theorem way_even {x : Nat} (c : ((x : Int) % 2 == 1) = false) : (x : Int) / 2 = (stp x : Int) := by
  have : ¬ (x : Int) % 2 = 1 := by simpa using c
  rw [stp_even (by omega)]
  rfl
set_option maxHeartbeats 400000 in
theorem step_any (x : Nat) (h : x < 4294967296) (w : World) : Calls Tryd.prog 103 #[.int .u32 x] w fun e w' => e = .returned (.int .u32 (stp x)) ∧ w = w' := by
  go_enter Tryd.func103, Tryd.ntmps103
  go_wp2
  all_goals go_ret
  · exact ⟨ret_int (way_odd h (and1 h _ (by assumption))), rfl⟩
  · exact ⟨ret_int (way_even (and1 h _ (by assumption))), rfl⟩
theorem way_un {y : Nat} (h : y < 4294967296) (c : 2147483648 ≤ y) : (bits .xor .u32 (y : Int) 2197175160 * 2 % 4294967296 + 1) = (unstp y : Int) := by
  have h1 := xor_bit31 h c
  rw [show bits .xor .u32 (y : Int) 2197175160 = ((y ^^^ P32 : Nat) : Int) from u32_xor_nat y P32 h (by decide)]
  unfold unstp
  rw [if_pos c]
  omega
theorem way_un0 {y : Nat} (c : ¬ 2147483648 ≤ y) : (y : Int) * 2 % 4294967296 = (unstp y : Int) := by
  unfold unstp
  rw [if_neg c]; omega
/-! ### Masks -/
def mask (x : Nat) : Nat := (x / 32768 + x * 131072 % 4294967296 + 2726488792) % 4294967296
def unmask (m : Nat) : Nat := (m + 1568478504) % 4294967296 / 131072 + (m + 1568478504) % 4294967296 * 32768 % 4294967296
theorem rot15 {q r : Nat} (_hq : q < 131072) (hr : r < 32768) : (q * 32768 + r) / 32768 + (q * 32768 + r) * 131072 % 4294967296 = r * 131072 + q := by omega
theorem rot17 {q r : Nat} (hq : q < 131072) (_hr : r < 32768) : (r * 131072 + q) / 131072 + (r * 131072 + q) * 32768 % 4294967296 = q * 32768 + r := by omega
theorem unmask_mask {x : Nat} (h : x < 4294967296) : unmask (mask x) = x := by
  obtain ⟨q, r, rfl, hq, hr⟩ : ∃ q r, x = q * 32768 + r ∧ q < 131072 ∧ r < 32768 := ⟨x / 32768, x % 32768, by omega, by omega, by omega⟩
  unfold unmask mask
  rw [rot15 hq hr, show ((r * 131072 + q + 2726488792) % 4294967296 + 1568478504) % 4294967296 = r * 131072 + q from by omega, rot17 hq hr]
theorem mask_unmask {x : Nat} (h : x < 4294967296) : mask (unmask x) = x := by
  unfold unmask mask
  obtain ⟨r, q, e, hq, hr⟩ : ∃ r q, (x + 1568478504) % 4294967296 = r * 131072 + q ∧ q < 131072 ∧ r < 32768 := ⟨(x + 1568478504) % 4294967296 / 131072, (x + 1568478504) % 4294967296 % 131072, by omega, by omega, by omega⟩
  rw [e, rot17 hq hr, rot15 hq hr, ← e]
  omega
theorem mask_lt (x : Nat) : mask x < 4294967296 := by unfold mask; omega
theorem unmask_lt (x : Nat) : unmask x < 4294967296 := by unfold unmask; omega
theorem or_add (x k : Nat) (hk : k ≤ 32) (h : x < 4294967296) : (x / 2 ^ k ||| x * 2 ^ (32 - k) % 2 ^ 32) = x / 2 ^ k + x * 2 ^ (32 - k) % 2 ^ 32 := by
  have e : x * 2 ^ (32 - k) % 2 ^ 32 = (x % 2 ^ k) <<< (32 - k) := by
    rw [Nat.shiftLeft_eq]
    conv => lhs; rw [show (2 : Nat) ^ 32 = 2 ^ k * 2 ^ (32 - k) from by rw [← Nat.pow_add]; congr 1; omega]
    rw [Nat.mul_mod_mul_right]
  have hlt : x / 2 ^ k < 2 ^ (32 - k) := by
    rw [Nat.div_lt_iff_lt_mul (Nat.pow_pos (by omega)), ← Nat.pow_add, show 32 - k + k = 32 from by omega]
    exact h
  rw [e, Nat.or_comm, ← Nat.shiftLeft_add_eq_or_of_lt hlt, Nat.add_comm]
theorem way_mask {x : Nat} (h : x < 4294967296) : (bits .or .u32 ((x : Int) / 32768) ((x : Int) * 131072 % 4294967296) + 2726488792) % 4294967296 = (mask x : Int) := by
  have e := u32_or_nat (x / 32768) (x * 131072 % 4294967296) (by omega) (by omega)
  have := or_add x 15 (by omega) h
  rw [show (2 : Nat) ^ 15 = 32768 from rfl, show (2 : Nat) ^ (32 - 15) = 131072 from rfl, show (2 : Nat) ^ 32 = 4294967296 from rfl] at this
  rw [this] at e
  rw [show bits .or .u32 ((x : Int) / 32768) ((x : Int) * 131072 % 4294967296) = ((x / 32768 + x * 131072 % 4294967296 : Nat) : Int) from e]
  unfold mask; omega
theorem way_rmask {x : Nat} : ((x : Int) / 32768 + (x : Int) * 131072 % 4294967296 + 2726488792) % 4294967296 = (mask x : Int) := by
  unfold mask; omega
theorem way_unmask {x : Nat} : bits .or .u32 (((x : Int) - 2726488792) % 4294967296 / 131072) (((x : Int) - 2726488792) % 4294967296 * 32768 % 4294967296) = (unmask x : Int) := by
  have hy : ((x : Int) - 2726488792) % 4294967296 = (((x + 1568478504) % 4294967296 : Nat) : Int) := by omega
  rw [hy]
  unfold unmask
  have hlt : (x + 1568478504) % 4294967296 < 4294967296 := by omega
  generalize (x + 1568478504) % 4294967296 = y at hlt
  have e := u32_or_nat (y / 131072) (y * 32768 % 4294967296) (by omega) (by omega)
  have := or_add y 17 (by omega) hlt
  rw [show (2 : Nat) ^ 17 = 131072 from rfl, show (2 : Nat) ^ (32 - 17) = 32768 from rfl, show (2 : Nat) ^ 32 = 4294967296 from rfl] at this
  rw [this] at e
  exact e
end Go.Proofs.YtolfckhjfadhdaaDoor
/- Walks of package crc: moves; bytes gone through; sums. -/
namespace Go.Proofs.YtolfckhjfadhdaaDoor
open Go.RowKit

/-- The cells of moves. -/
def movA (L : List Nat) : Array Value := (L.map fun n : Nat => Value.int .u32 (n : Int)).toArray
theorem movA_size (L : List Nat) : (movA L).size = L.length := by simp [movA]
theorem movA_get (L : List Nat) (i : Nat) (h : i < L.length) : (movA L)[i]? = some (.int .u32 (L[i] : Int)) := by simp [movA, h]
/-- Moves: 32 numbers of 32 bits. -/
def Mov (L : List Nat) : Prop := L.length = 32 ∧ ∀ i, (h : i < L.length) → L[i] < 4294967296
theorem matOf_length (f : Nat → Nat) : (matOf f).length = 32 := by simp [matOf]
theorem matOf_mov {f : Nat → Nat} (hf : ∀ x, x < 4294967296 → f x < 4294967296) : Mov (matOf f) := ⟨matOf_length f, fun i h => by
  rw [matOf_length] at h
  simp only [matOf, List.getElem_map, List.getElem_range]
  exact hf _ (Nat.pow_lt_pow_right (by omega) h)⟩
theorem ofL_zero (L : List Nat) : ofL L 0 = 0 := by
  induction L with
  | nil => rfl
  | cons m ms ih => rw [ofL, ih]; simp
theorem ofL_drop (L : List Nat) (k x : Nat) (h : k < L.length) : ofL (L.drop k) x = (x % 2 * L[k]) ^^^ ofL (L.drop (k + 1)) (x / 2) := by
  rw [List.drop_eq_getElem_cons h]; rfl
/-- One bit. -/
theorem of_step {L : List Nat} {x y t k : Nat} (hk : k < L.length) (h : y ^^^ ofL (L.drop k) (x / 2 ^ k) = t) : (y ^^^ (x / 2 ^ k % 2 * L[k])) ^^^ ofL (L.drop (k + 1)) (x / 2 ^ (k + 1)) = t := by
  rw [ofL_drop L k _ hk, ← Nat.xor_assoc] at h
  rw [← h, Nat.pow_succ, Nat.div_div_eq_div_mul]
theorem div_pow_lt {x k : Nat} (h : x < 4294967296) (h0 : x / 2 ^ k ≠ 0) : k < 32 := by
  rcases Nat.lt_or_ge k 32 with hk | hk
  · exact hk
  · exfalso
    apply h0
    apply Nat.div_eq_of_lt
    exact Nat.lt_of_lt_of_le h (Nat.pow_le_pow_right (n := 2) (by omega) hk)
/-! ### Bytes -/
theorem xor_u8_lt {x : Nat} (b : UInt8) (h : x < 4294967296) : x ^^^ b.toNat < 4294967296 := Nat.xor_lt_two_pow (n := 32) h (u8_lt32 b)
theorem thru_take {x : Nat} {bs : List UInt8} {k : Nat} (h : k < bs.length) : thru x (bs.take (k + 1)) = eight (thru x (bs.take k) ^^^ bs[k].toNat) := by
  rw [List.take_succ_eq_append_getElem h, thru_snoc]
theorem rd_get {w : World} {v : Value} {n : Nat} {bs : List UInt8} (h : Rd w 1 v n (bv bs)) : ∃ A c, v = .slice A n c ∧ n = bs.length ∧ n ≤ maxLen ∧ (A = none → n = 0) ∧ ∀ ad, A = some ad → ∀ j (hj : j < bs.length), w.cell? (ad.add j) = some (.int .u8 (bs[j].toNat : Int)) := by
  obtain ⟨hl, A, c, rfl, h1, h2, h3, h4⟩ := h
  rw [bv_length] at hl
  exact ⟨A, c, rfl, by omega, by omega, fun h => (h3 h).1, fun ad had j hj => h4 ad had j _ (by rw [bv_get, List.getElem?_eq_getElem hj]; rfl)⟩
set_option maxHeartbeats 800000 in
theorem through_any (x : Nat) (hx : x < 4294967296) (v : Value) (n : Nat) (bs : List UInt8) (w : World) (hv : Rd w 1 v n (bv bs)) :
    Calls Tryd.prog 84 #[.int .u32 x, v] w fun e w' => e = .returned (.int .u32 (thru x bs)) ∧ w = w' := by
  obtain ⟨A, c, rfl, rfl, hn, hA, hc⟩ := rd_get hv
  have Hc := Lib.hid hc
  have HA := Lib.hid hA
  clear hc hA hv
  unfold maxLen at hn
  go_enter Tryd.func84, Tryd.ntmps84
  go_wp2
  go_loop [0, 6, 9] (fun u _ i => ∃ k : Nat, k ≤ bs.length ∧ i = .int .i64 k ∧ u = .int .u32 ((thru x (bs.take k) : Nat) : Int)) (fun _ _ i => bs.length - (intOf i).toNat)
  case atStart => exact ⟨0, by omega, rfl, by simp [thru]⟩
  case round =>
    obtain ⟨k, hk, rfl, rfl⟩ := hrel
    by_cases hlt : k < bs.length
    · obtain ⟨ad, rfl⟩ : ∃ ad, A = some ad := by
        cases A with
        | none => have := HA.out rfl; omega
        | some ad => exact ⟨ad, rfl⟩
      have hcell := Hc.out ad rfl k hlt
      have Ht := Lib.hid (thru_take (x := x) hlt)
      have hT : thru x (bs.take k) < 4294967296 := thru_lt _ hx
      have hY := xor_u8_lt bs[k] hT
      have hq := bs[k].toNat_lt
      generalize thru x (bs.take k) = T at *
      generalize bs[k].toNat = q at *
      have Hx := Lib.hid (u32_xor_nat T q hT (by omega))
      go_wp2
      rw [Hx.out]
      go_loop [0, 17] (fun u i => ∃ j : Nat, j ≤ 8 ∧ i = .int .i64 j ∧ u = .int .u32 ((itn stp j (T ^^^ q) : Nat) : Int)) (fun _ i => 8 - (intOf i).toNat)
      case atStart => exact ⟨0, by omega, rfl, rfl⟩
      case round =>
        obtain ⟨j, hj, rfl, rfl⟩ := hrel
        have hb : itn stp j (T ^^^ q) < 4294967296 := itn_stp_lt j hY
        by_cases hl8 : j < 8
        · go_wp2_with (go_at_call 103; refine (step_any _ hb _).mono ?_; rintro e w' ⟨rfl, rfl⟩)
          go_round
          case rel => exact ⟨j + 1, by omega, by go_num, by rw [itn_succ]⟩
          case measure => simp [intOf]; omega
        · obtain rfl : j = 8 := by omega
          go_wp2
          go_round
          case rel => exact ⟨k + 1, by omega, by go_num, by rw [Ht.out]; rfl⟩
          case measure => simp [intOf]; omega
    · obtain rfl : k = bs.length := by omega
      go_wp2
      go_ret
      exact ⟨rfl, rfl⟩
end Go.Proofs.YtolfckhjfadhdaaDoor
/- Walks of package crc, and of the reference: sums of texts. -/
namespace Go.Proofs.YtolfckhjfadhdaaDoor
open Go.RowKit

theorem u32_not (x : Nat) (h : x < 4294967296) : bits .xor .u32 IntKind.u32.max (x : Int) = (not32 x : Int) := by
  have h1 := u32_xor_nat 4294967295 x (by decide) h
  rw [Nat.xor_comm, ← not32_xor h] at h1
  exact h1
set_option maxHeartbeats 400000 in
theorem more_any (x : Nat) (hx : x < 4294967296) (v : Value) (n : Nat) (bs : List UInt8) (w : World) (hv : Rd w 1 v n (bv bs)) :
    Calls Tryd.prog 63 #[.int .u32 x, v] w fun e w' => e = .returned (.int .u32 (more x bs)) ∧ w = w' := by
  have e1 := u32_not x hx
  have hm : more x bs = not32 (thru (not32 x) bs) := rfl
  rw [hm]
  clear hm
  have hz := not32_lt x
  generalize not32 x = z at *
  have e2 := u32_not (thru z bs) (thru_lt bs hz)
  have H := Lib.hid (through_any z hz v n bs w hv)
  clear hv
  generalize thru z bs = t at *
  go_enter Tryd.func63, Tryd.ntmps63
  go_wp2_with (go_at_call 84; ((with_reducible refine H.out.mono ?_); rintro e w' ⟨rfl, rfl⟩))
  go_ret
  exact ⟨rfl, rfl⟩
end Go.Proofs.YtolfckhjfadhdaaDoor
/- The reference for layer 2: products, and numbers carried. -/
namespace Go.Proofs.YtolfckhjfadhdaaDoor
open Go.RowKit

theorem and_pow (a n : Nat) : a &&& 2 ^ n = a / 2 ^ n % 2 * 2 ^ n := by
  apply Nat.eq_of_testBit_eq
  intro i
  rw [Nat.testBit_and, Nat.testBit_two_pow, Nat.testBit_mul_two_pow]
  by_cases h : n = i
  · subst h
    rw [Nat.testBit_eq_decide_div_mod_eq]
    rcases bit_cases (a / 2 ^ n) with h | h <;> rw [h] <;> simp
  · rcases Nat.lt_or_ge i n with h1 | h1
    · simp [h, Nat.not_le.2 h1]
    · obtain ⟨d, rfl⟩ : ∃ d, i = n + 1 + d := ⟨i - n - 1, by omega⟩
      have e : (1 : Nat).testBit (d + 1) = false := by rw [Nat.testBit_succ]; simp
      rcases bit_cases (a / 2 ^ n) with h | h <;> rw [h]
      · simp [show n ≠ n + 1 + d from by omega]
      · rw [show n + 1 + d - n = d + 1 from by omega, e]; simp [show n ≠ n + 1 + d from by omega]
theorem pow_lt32 {m : Nat} (h : m ≤ 32) : 2 ^ m / 2 < 4294967296 := by
  have : 2 ^ m ≤ 2 ^ 32 := Nat.pow_le_pow_right (by omega) h
  omega
theorem pow_half (n : Nat) : 2 ^ (n + 1) / 2 = 2 ^ n := by rw [Nat.pow_succ]; omega
/-! ### Carried -/
theorem carry_zero (x : Nat) : carry x 0 = x := rfl
theorem div_pow_succ (N k : Nat) : N / 2 ^ (k + 1) = N / 2 ^ k / 2 := by rw [Nat.pow_succ, Nat.div_div_eq_div_mul]
end Go.Proofs.YtolfckhjfadhdaaDoor
/- Walks of package crc: moves made. -/
namespace Go.Proofs.YtolfckhjfadhdaaDoor
open Go.RowKit

theorem results_cell1 {P : Program} {fn : Func} {w : World} {tmps : Array Value} {a t g : Nat} {t' : TypeId} {cs : Array Value} {d : TypeDesc} (h : fn.results = #[.cell a t]) (ha : tmps.getD a undef = .pointer (some ⟨g, 0, none⟩)) (hb : Blk w g t' cs)
    (hu : P.underlying t = some d) (hd : aggB d = true) (hi : (P.info? t).map (·.size) = some cs.size) : (results fn tmps).run P w = .ok (.agg cs) w := by
  have hl : (loadCells ⟨g, 0, none⟩ cs.size).run P w = .ok cs w := by
    have := run_loadCells_list (P := P) w ⟨g, 0, none⟩ cs.toList hb.agg
    simpa using this
  cases hq : P.info? t with
  | none => simp [hq] at hi
  | some i =>
    have hs : i.size = cs.size := by simpa [hq] using hi
    simp only [Array.getD_eq_getD_getElem?] at ha
    simp [results, h, ha, loadVar, asAddr, Sem.run_bind, run_isAgg hu hd, sizeOf, typeInfo, hq, hs, hl]
theorem movA_one (L : List Nat) : ∀ u ∈ (movA L).toList, u.oneCell' = true := by
  intro u hu
  simp only [movA, List.mem_map] at hu
  obtain ⟨_, _, rfl⟩ := hu
  rfl
/-- The first i of f's moves, x, and noughts. -/
def mpart (f : Nat → Nat) (i x : Nat) : Array Value := movA ((List.range i).map f ++ x :: List.replicate (31 - i) 0)
def mzero (f : Nat → Nat) (i : Nat) : Array Value := movA ((List.range i).map f ++ List.replicate (32 - i) 0)
theorem mpart_size (f : Nat → Nat) {i : Nat} (h : i < 32) (x : Nat) : (mpart f i x).size = 32 := by
  rw [mpart, movA_size]; simp; omega
theorem mzero_size (f : Nat → Nat) {i : Nat} (h : i ≤ 32) : (mzero f i).size = 32 := by
  rw [mzero, movA_size]; simp; omega
theorem mzero_part (f : Nat → Nat) {i : Nat} (h : i < 32) : mzero f i = mpart f i 0 := by
  unfold mzero mpart
  rw [show 32 - i = (31 - i) + 1 from by omega, List.replicate_succ]
theorem mpart_next (f : Nat → Nat) (i : Nat) : mpart f i (f i) = mzero f (i + 1) := by
  unfold mzero mpart
  rw [List.range_succ, List.map_append, show 32 - (i + 1) = 31 - i from by omega, List.append_assoc]
  rfl
theorem mzero_all (f : Nat → Nat) : mzero f 32 = movA ((List.range 32).map f) := by unfold mzero; simp
theorem mzero_zero (f : Nat → Nat) : mzero f 0 = movA (List.replicate 32 0) := by unfold mzero; simp
theorem mpart_set (f : Nat → Nat) (i x y : Nat) : (mpart f i x).setIfInBounds i (.int .u32 (y : Int)) = mpart f i y := by
  unfold mpart movA
  apply Array.toList_inj.1
  rw [Array.toList_setIfInBounds]
  simp only [List.map_append, List.map_cons]
  rw [List.set_append_right _ _ (by simp)]
  simp
theorem mpart_get (f : Nat → Nat) (i x : Nat) : (mpart f i x)[i]? = some (.int .u32 (x : Int)) := by
  unfold mpart
  rw [movA_get _ i (by simp)]
  simp
theorem range_map_mat (f : Nat → Nat) : (List.range 32).map (fun i => f (2 ^ i)) = matOf f := rfl
theorem pow_lt_32 {i : Nat} (h : i < 32) : 2 ^ i < 4294967296 := Nat.pow_lt_pow_right (n := 32) (by omega) h
theorem shl_one {i : Nat} (h : i < 32) : IntKind.u32.wrap ((2 : Int) ^ i) = ((2 ^ i : Nat) : Int) := by
  rw [IntKind.wrap_u32']
  have := pow_lt_32 h
  rw [show (2 : Int) ^ i = ((2 ^ i : Nat) : Int) from by rw [Int.natCast_pow]; rfl]
  generalize 2 ^ i = B at *
  omega

/-! ### Moves held against one another -/
section
variable {P : Program} (w : World)
theorem run_eqItems_u32 (d : Nat) (e : TypeId) (he : P.underlying e = some (.int .u32)) (L M : List Nat) : ∀ is : List Nat, (∀ i ∈ is, i < L.length ∧ i < M.length) →
    (Op.eqItems (d + 1) e 1 (movA L) (movA M) is).run P w = .ok (is.all fun i => L[i]? == M[i]?) w
  | [], _ => by simp [Op.eqItems]
  | i :: is, h => by
    have h1 := h i (by simp)
    have ih := run_eqItems_u32 d e he L M is (fun j hj => h j (by simp [hj]))
    have hp : ∀ l : List Nat, (hi : i < l.length) → (part e (movA l) i).run P w = .ok (.int .u32 (l[i] : Int)) w := fun l hi => by
      have hag : (isAgg e).run P w = .ok false w := by
        unfold isAgg
        rw [Sem.run_bind, run_underlying he w]
        rfl
      simp [part, Sem.run_bind, hag, movA_get l i hi]
    simp only [Op.eqItems, Nat.mul_one, Sem.run_bind, hp L h1.1, hp M h1.2, Result.andThen_ok, run_equalIn_int (w := w) d e .u32 .u32 _ _ he]
    by_cases e1 : L[i] = M[i]
    · simp [e1, ih, h1.1, h1.2]
    · have : ((L[i] : Int) == (M[i] : Int)) = false := by
        rw [beq_eq_false_iff_ne]
        intro hh
        exact e1 (by omega)
      simp [this, e1, h1.1, h1.2]
/-- Moves are the same as themselves. -/
theorem run_eq_mov (d : Nat) (t e : TypeId) (i : TypeInfo) (hu : P.underlying t = some (.array 32 e)) (hi : P.info? e = some i) (hs : P.cellsOf e = 1) (he : P.underlying e = some (.int .u32)) (L : List Nat) (ha : L.length = 32) :
    (Op.equalIn (d + 2) t (.agg (movA L)) (.agg (movA L))).run P w = .ok true w := by
  rw [run_equalIn_array w (d + 1) _ _ hu hi, hs, run_eqItems_u32 w d e he L L _ (fun i hi => by simp at hi; omega)]
  congr 1
  rw [List.all_eq_true]
  simp
end
theorem Tryd.infoU32 : ∃ i, Tryd.prog.info? 59 = some i := by
  cases h : Tryd.prog.info? 59 with
  | none => exact absurd h (by intro h; have : (Tryd.prog.info? 59).isSome = true := by kernel_rfl
                               rw [h] at this; cases this)
  | some i => exact ⟨i, rfl⟩
theorem Tryd.cellsU32 : Tryd.prog.cellsOf 59 = 1 := by kernel_rfl
end Go.Proofs.YtolfckhjfadhdaaDoor
/- point.digits. -/
namespace Go.Proofs.YtolfckhjfadhdaaDoor
open Go.RowKit
set_option maxRecDepth 100000 in
set_option maxHeartbeats 1000000 in
theorem digits_any (w : World) : Calls Tryd.prog 32 #[] w fun e w' => e = .returned (.agg (hashA digL)) ∧ Kp [] w w' := by
  have HO := Lib.hid (hashA_one digL)
  go_enter Tryd.func32, Tryd.ntmps32
  go_wp2_with (refine wpList_store_blk rfl 71 (.tmp 0) (.tmp 1) rfl w.heap.size rfl (hashA digL) rfl 71 _ (Blk.new w 71 _) (by exact Tryd.info16P) (by rfl) HO.out ?_; intro w2 b2 k2)
  exact bodyPost_ret (results_cell1 (by rfl) rfl b2 Tryd.underlying71 rfl (by exact Tryd.info16P)) rfl ⟨rfl, ((Kp.refl [] w).alloc _).trans k2 (fun g hg => by simp at hg; exact .inr (by omega))⟩
end Go.Proofs.YtolfckhjfadhdaaDoor
