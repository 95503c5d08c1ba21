/- What many texts need: slices of bytes that read, rows, small numbers. -/
import Derived.Test.YtgldgkdnnimglaaRows
import Derived.Test.YtgldgkdnnimglaaNum
import Derived.Test.YtgldgkdnnimglaaHeld
import Derived.Test.YtgldgkdnnimglaaArr
import Derived.Laws.BitsAllLaws
namespace Go.Proofs.Ytgldgkdnnimglaa
open Go.RowKit

theorem ow_new (w : World) (e : TypeId) (s n : Nat) (cs : Array Value) (h : cs.size = n * s) (hn : n ≤ maxLen) : Ow (w.alloc (.cells cs e)) e s (.slice (some ⟨w.heap.size, 0, none⟩) n n) n cs.toList :=
  ⟨by simpa using h, .inr ⟨w.heap.size, n, cs, rfl, Nat.zero_le _, heap_alloc_new w _, Nat.le_refl _, hn, h, by rw [← h, ← Array.length_toList, List.take_length]⟩⟩
theorem rd_some {w : World} {s n c : Nat} {ad : Addr} {xs : List Value} (hl : xs.length = n * s) (h1 : n ≤ c) (h2 : c ≤ maxLen) (h : ∀ a, some ad = some a → ∀ j u, xs[j]? = some u → w.cell? (a.add j) = some u) : Rd w s (.slice (some ad) n c) n xs :=
  ⟨hl, some ad, c, rfl, h1, h2, (fun h => by cases h), h⟩

theorem eq_nil_bytes (w : World) (a : Option Addr) (n c : Nat) : (binOp .eql 22 (.slice a n c) (.slice none 0 0)).run Try.prog w = .ok (.bool a.isNone) w :=
  Lib.run_eql_slice_nil (P := Try.prog) w 22 5 a n c 0 0 Try.underlying22
attribute [go_sem] eq_nil_bytes
theorem Try.infoU8 : (Try.prog.info? 5).map (fun i => (i.zero, i.size, i.bytes)) = some (some (.int .u8 0), 1, 1) := by kernel_rfl
theorem Kp.of_drew {S : List Nat} {w w' : World} (h : Kp S w.drew w') : Kp S w w' := ⟨h.os, h.tape, h.output, h.size, h.block⟩
theorem Kp.drew' {w : World} (n : Nat) : Kp [] w (w.drewN n) := (Kp.refl [] w).drewN n
/-- A short row, written out. -/
theorem rd_lit (w : World) (e : TypeId) (cs : Array Value) (l : List UInt8) (h : cs.toList = bv l) (hn : l.length ≤ 4096) : Rd (w.alloc (.cells cs e)) 1 (.slice (some ⟨w.heap.size, 0, none⟩) l.length l.length) l.length (bv l) := by
  have := ow_new w e 1 l.length cs (by rw [← Array.length_toList, h, bv_length]; simp) (by unfold maxLen; omega)
  rw [h] at this
  exact Rd.of_own this
theorem strB {w : World} {x : Value} {bs : List UInt8} {n : Nat} (h : Rd w 1 x n (bv bs)) : (convert 22 9 x).run Try.prog w = .ok (.string ⟨bs.toArray⟩) w :=
  run_str 22 9 5 Try.underlying22 Try.underlying5 Try.underlying9 h
theorem rd_form {w : World} {s : Nat} {x : Value} {n : Nat} {xs : List Value} (h : Rd w s x n xs) : ∃ A c, x = .slice A n c := by
  obtain ⟨_, A, c, rfl, _⟩ := h; exact ⟨A, c, rfl⟩
/-- A slice reads as it did; an empty one in any case. -/
theorem Rd.kpl {S : List Nat} {w w' : World} {s n : Nat} {v : Value} {xs : List Value} (h : Rd w s v n xs) (hk : Kp S w w') (hn : ∀ g, v.ownBlock = some g → xs ≠ [] → g ∉ S) : Rd w' s v n xs := by
  by_cases hx : xs = []
  · subst hx
    obtain ⟨h1, A, c, h2, h3, h4, h5, _⟩ := h
    exact ⟨h1, A, c, h2, h3, h4, h5, fun _ _ j u hu => by simp at hu⟩
  · exact h.kp hk (fun g hg => hn g hg hx)
theorem bv_ne {b : List UInt8} (h : bv b ≠ []) : b ≠ [] := fun e => h (by rw [e]; rfl)
theorem mem_own {g' g o n c : Nat} (h : g' ∈ (Value.slice (some ⟨g, o, none⟩) n c).ownBlock.toList) : g' = g := by simpa [Value.ownBlock, eq_comm] using h
theorem be_get (k x i : Nat) (h : i < k) : (be k x)[i]? = some (UInt8.ofNat (x / 256 ^ (k - 1 - i))) := by
  induction k generalizing i with
  | zero => omega
  | succ k ih =>
    rw [be_succ]
    rcases i with _ | i
    · simp
    · rw [List.getElem?_cons_succ, ih i (by omega)]
      rw [show k + 1 - 1 - (i + 1) = k - 1 - i from by omega]
theorem paint_step {α : Type} (L : List α) (u : α) (j : Nat) (hj : j < L.length) : (List.replicate j u ++ L.drop j).set j u = List.replicate (j + 1) u ++ L.drop (j + 1) := by
  rw [List.drop_eq_getElem_cons hj, List.set_append_right _ _ (by simp), List.length_replicate, Nat.sub_self, List.set_cons_zero, List.replicate_succ', List.append_assoc]
  rfl
theorem fill_step {α : Type} (L : List α) (z u : α) (j : Nat) (hj : j + 1 ≤ L.length) (hu : L[j]? = some u) : (List.replicate (j + 1) z ++ L.drop (j + 1)).set j u = List.replicate j z ++ L.drop j := by
  have hl : j < L.length := by omega
  have h1 : L.drop j = u :: L.drop (j + 1) := by
    rw [List.drop_eq_getElem_cons hl]
    rw [List.getElem?_eq_getElem hl] at hu
    cases hu
    rfl
  rw [h1, List.replicate_succ', List.append_assoc, List.set_append_right _ _ (by simp)]
  simp
theorem ow_some {w : World} {e : TypeId} {s n : Nat} {v : Value} {xs : List Value} (h : Ow w e s v n xs) (hn : 0 < n) : ∃ g c, v = .slice (some ⟨g, 0, none⟩) n c ∧ n ≤ c ∧ c ≤ maxLen := by
  rcases h.2 with ⟨_, h0⟩ | ⟨g, cap, cur, rfl, _, _, hnc, hcm, _⟩
  · omega
  · exact ⟨g, cap, rfl, hnc, hcm⟩
/-- The beginning of a row is a row. -/
theorem ow_take {w : World} {e : TypeId} {s n m c : Nat} {A : Option Addr} {xs : List Value} (h : Ow w e s (.slice A n c) n xs) (hm : m ≤ n) (_hn : 0 < n) : Ow w e s (.slice A m c) m (xs.take (m * s)) := by
  have hle : m * s ≤ n * s := Nat.mul_le_mul_right _ hm
  rcases h.2 with ⟨_, h0⟩ | ⟨g, cap, cur, hv, hb, hh, hnc, hcm, hcs, htk⟩
  · omega
  · cases hv
    refine ⟨by rw [List.length_take, h.1]; omega, .inr ⟨g, _, cur, rfl, hb, hh, by omega, hcm, hcs, ?_⟩⟩
    rw [← htk, List.take_take, Nat.min_eq_left hle]
theorem rd_old {w w' : World} {s n : Nat} {v : Value} {xs : List Value} (h : Rd w s v n xs) (hk : Kp [] w w') : Rd w' s v n xs := h.kp hk (by simp)
theorem set_same (A : Array Value) (k : Nat) (v : Value) (h : A[k]? = some v) : A.setIfInBounds k v = A := by
  apply Array.ext_getElem?
  intro i
  rw [Array.getElem?_setIfInBounds]
  split
  · rename_i he; subst he
    obtain ⟨hlt, _⟩ := Array.getElem?_eq_some_iff.1 h
    have e := Array.getElem?_eq_getElem hlt
    rw [h] at e
    simp [hlt, Option.some.inj e]
  · rfl
/-- A row of the list is grown. -/
theorem Held.grow {w0 w w' : World} {l1 l2 : List Res} {e : TypeId} {s n n' : Nat} {v v' : Value} {xs xs' : List Value} (h : Held w0 w (l1 ++ rowR e s v n xs :: l2)) (ho : Ow w' e s v' n' xs') (hg : w.grownBy w' v.ownBlock) (hv : v'.ownBlock = v.ownBlock ∨ v'.ownBlock = some w.heap.size) :
    Held w0 w' (l1 ++ rowR e s v' n' xs' :: l2) :=
  h.turnAt (rowR e s v' n' xs') (Kp.of_grown hg) ho (fun b hb => by
    rcases hv with e | e
    · exact .inl (by simpa [rowR, e] using hb)
    · simp only [rowR, e, Option.toList_some, List.mem_singleton] at hb; exact .inr (by omega))
/-- A cell of a block of the list is set. -/
theorem Held.set {w0 w : World} {l1 l2 : List Res} {g : Nat} {t : TypeId} {cs : Array Value} (h : Held w0 w (l1 ++ blkR g t cs :: l2)) (i : Nat) (u : Value) : Held w0 (w.setCell ⟨g, i, none⟩ u) (l1 ++ blkR g t (cs.setIfInBounds i u) :: l2) :=
  h.turnAt (blkR g t (cs.setIfInBounds i u)) ((Kp.refl [g] w).setCell (.inl (by simp)) u) (h.at_.set_ i u) (fun _ hb => .inl hb)
theorem Held.rowset {w0 w w' : World} {l1 l2 : List Res} {e : TypeId} {s n : Nat} {v : Value} {xs xs' : List Value} (h : Held w0 w (l1 ++ rowR e s v n xs :: l2)) (ho : Ow w' e s v n xs') (hk : Kp v.ownBlock.toList w w') : Held w0 w' (l1 ++ rowR e s v n xs' :: l2) :=
  h.turnAt (rowR e s v n xs') hk ho (fun _ hb => .inl hb)
theorem Held.rownew {w0 w w' : World} {L : List Res} {e : TypeId} {s n : Nat} {v : Value} {xs : List Value} (h : Held w0 w L) (ho : Ow w' e s v n xs) (hk : Kp [] w w') (hf : ∀ g, v.ownBlock = some g → w.heap.size ≤ g) : Held w0 w' (rowR e s v n xs :: L) :=
  h.new _ hk ho (fun b hb => hf b (by simpa [rowR] using hb))
theorem be_mod (k x : Nat) : be k (x % 256 ^ k) = be k x := by
  have h : ∀ j, j ≤ k → be j (x % 256 ^ k) = be j x := by
    intro j
    induction j with
    | zero => intro _; rfl
    | succ j ih =>
      intro hj
      rw [be_succ, be_succ, ih (by omega)]
      congr 1
      apply UInt8.toNat_inj.1
      rw [UInt8.toNat_ofNat', UInt8.toNat_ofNat']
      have : (256 : Nat) ^ k = 256 ^ j * (256 * 256 ^ (k - j - 1)) := by
        rw [← Nat.pow_succ', ← Nat.pow_add]; congr 1; omega
      rw [this, Nat.mod_mul_right_div_self]
      show x / 256 ^ j % (256 * 256 ^ (k - j - 1)) % 256 = x / 256 ^ j % 256
      rw [Nat.mod_mul_right_mod]
  exact h k (Nat.le_refl _)
theorem wrap_u8_nat (x : Nat) : IntKind.u8.wrap (x : Int) = ((x % 256 : Nat) : Int) := by
  simp [IntKind.wrap, IntKind.bits, IntKind.signed]
theorem wrap_u32_nat (x : Nat) : IntKind.u32.wrap (x : Int) = ((x % 4294967296 : Nat) : Int) := by
  simp [IntKind.wrap, IntKind.bits, IntKind.signed]
theorem emod_256 (x : Nat) : (x : Int) % 256 = ((x % 256 : Nat) : Int) := by omega
theorem emod_32 (x : Nat) : (x : Int) % 4294967296 = ((x % 4294967296 : Nat) : Int) := by omega
/-- What reads as cells lies in a block that is there. -/
theorem rd_lt {w : World} {s n g : Nat} {v : Value} {xs : List Value} (h : Rd w s v n xs) (hg : v.ownBlock = some g) (hne : xs ≠ []) : g < w.heap.size := by
  obtain ⟨_, A, c, rfl, _, _, _, h4⟩ := h
  cases A with
  | none => simp [Value.ownBlock] at hg
  | some ad =>
    simp [Value.ownBlock] at hg
    obtain ⟨x, xs', rfl⟩ := List.exists_cons_of_ne_nil hne
    have := cell_lt (h4 ad rfl 0 x rfl)
    rw [block_of_add, hg] at this
    exact this
theorem i64_lit {z : Int} (h : (Lit.int .i64 z).wf = true) : -9223372036854775808 ≤ z ∧ z ≤ 9223372036854775807 := by simpa [Lit.wf, IntKind.min, IntKind.max, IntKind.signed, IntKind.bits] using h
theorem u64_lit {z : Int} (h : (Lit.int .u64 z).wf = true) : 0 ≤ z ∧ z ≤ 18446744073709551615 := by simpa [Lit.wf, IntKind.min, IntKind.max, IntKind.signed, IntKind.bits] using h
theorem at_of_cut {cs : List Value} {i : Nat} {v : Value} (h : (cs.drop i).take 1 = [v]) : cs[i]? = some v := by
  have h0 : ((cs.drop i).take 1)[0]? = some v := by rw [h]; rfl
  rw [List.getElem?_take] at h0
  simpa using h0
theorem cut_one (cs : List Value) (i : Nat) : (cs.drop i).take 1 = (cs[i]?).toList := by
  rcases h : cs[i]? with _ | v
  · rw [List.drop_eq_nil_of_le (by simpa using h)]; rfl
  · obtain ⟨hlt, rfl⟩ := List.getElem?_eq_some_iff.1 h
    rw [List.drop_eq_getElem_cons hlt]; rfl
theorem Try.cellsInt : Try.prog.cellsOf 3 = 1 := by kernel_rfl
theorem Try.cellsU8 : Try.prog.cellsOf 5 = 1 := by kernel_rfl
theorem Try.cellsBytes : Try.prog.cellsOf 22 = 1 := by kernel_rfl
theorem ofInt_u64 (a : Nat) (ha : a < 18446744073709551616) : (BitVec.ofInt 64 (a : Int)).toNat = a := by
  rw [BitVec.ofInt_natCast, BitVec.toNat_ofNat]; exact Nat.mod_eq_of_lt (by omega)
theorem u64_or_nat (a b : Nat) (ha : a < 18446744073709551616) (hb : b < 18446744073709551616) : bits .or .u64 (a : Int) (b : Int) = ((a ||| b : Nat) : Int) := by
  have hx : a ||| b < 2 ^ 64 := Nat.or_lt_two_pow (by omega) (by omega)
  show IntKind.u64.wrap ((BitVec.ofInt 64 (a : Int) ||| BitVec.ofInt 64 (b : Int)).toNat : Int) = _
  rw [BitVec.toNat_or, ofInt_u64 a ha, ofInt_u64 b hb, IntKind.wrap_u64]
  omega
end Go.Proofs.Ytgldgkdnnimglaa
