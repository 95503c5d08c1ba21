/- What comes in, opened: slices of bytes; how much there is of it. -/
import Derived.Test.YtgldgkdnnimglaaBase
import Derived.ProofKit
import Derived.OpenShut
import Derived.Deep.Slices
import Derived.JoinedCond
import Derived.Carry
namespace Go.Proofs.Ytgldgkdnnimglaa
open Go.RowKit Go.WideShapes Go.ChangeShapes

section
variable {H : Type} {enc : TypeId × Value → H} {P : Program}
/-! ### Bulk -/
theorem bulk_pos (d : DataW H) : 1 ≤ Rows.uptoBulk d := by
  cases d with
  | lit l => cases l <;> simp [Rows.uptoBulk]
  | nil => simp [Rows.uptoBulk]
  | ptr d => simp [Rows.uptoBulk]
  | slice elems spare => simp [Rows.uptoBulk]
  | agg parts => simp [Rows.uptoBulk]
  | iface t d => simp [Rows.uptoBulk]
  | map entries => simp [Rows.uptoBulk]
  | held h => simp [Rows.uptoBulk]
theorem bulk_len (l : List (DataW H)) : l.length ≤ Rows.uptoBulkAll l := by
  induction l with
  | nil => simp [Rows.uptoBulkAll]
  | cons x r ih => have := bulk_pos x; simp only [Rows.uptoBulkAll, List.length_cons]; omega
theorem bulk_slice (l r : List (DataW H)) : Rows.uptoBulk (.slice l r) = Rows.uptoBulkAll l + Rows.uptoBulkAll r + 1 := by simp [Rows.uptoBulk]
/-- Sums, place by place. -/
def sumTo (f : Nat → Nat) : Nat → Nat
  | 0 => 0
  | n + 1 => sumTo f n + f n
theorem bulk_append (l r : List (DataW H)) : Rows.uptoBulkAll (l ++ r) = Rows.uptoBulkAll l + Rows.uptoBulkAll r := by
  induction l with
  | nil => simp [Rows.uptoBulkAll]
  | cons x l ih => simp only [List.cons_append, Rows.uptoBulkAll, ih]; omega
theorem bulk_range (D : Nat → DataW H) (n : Nat) : Rows.uptoBulkAll ((List.range n).map D) = sumTo (fun i => Rows.uptoBulk (D i)) n := by
  induction n with
  | zero => rfl
  | succ n ih => rw [List.range_succ, List.map_append, bulk_append, ih]; simp [Rows.uptoBulkAll, sumTo]
theorem sumTo_le {f g : Nat → Nat} : ∀ n, (∀ i, i < n → f i ≤ g i) → sumTo f n ≤ sumTo g n
  | 0, _ => Nat.le_refl _
  | n + 1, h => Nat.add_le_add (sumTo_le n (fun i hi => h i (by omega))) (h n (by omega))
theorem sumTo_mono {f : Nat → Nat} {m n : Nat} (h : m ≤ n) : sumTo f m ≤ sumTo f n := by
  induction n with
  | zero => rw [show m = 0 by omega]; exact Nat.le_refl _
  | succ n ih =>
    by_cases e : m = n + 1
    · subst e; exact Nat.le_refl _
    · exact Nat.le_trans (ih (by omega)) (Nat.le_add_right _ _)
theorem sumTo_at {f : Nat → Nat} {i n : Nat} (h : i < n) : f i ≤ sumTo f n := Nat.le_trans (Nat.le_add_left _ _) (sumTo_mono (f := f) (show i + 1 ≤ n by omega))
theorem bulk_bound {l : List (DataW H)} (hk : Rows.uptoSmall H l = true) : Rows.uptoBulkAll l ≤ 1048576 := of_decide_eq_true hk

/-! ### A slice of bytes -/
theorem u8_lit {z : Int} (h : (Lit.int .u8 z).wf = true) : 0 ≤ z ∧ z ≤ 255 := by simpa [Lit.wf, IntKind.min, IntKind.max, IntKind.signed, IntKind.bits] using h
theorem open_bytes {W : World} {n : Nat} {t e : TypeId} {cs : List Value} {x : DataW H × List MemPlace} (ht : P.underlying t = some (.slice e)) (he : P.underlying e = some (.int .u8)) (hc : P.cellsOf e = 1)
    (h : DataW.trod enc P W 0 (fun _ => true) true n t cs = some x) : ∃ B bs, cs = [B] ∧ Rd W 1 B bs.length (bv bs) ∧ bs.length + 1 ≤ Rows.uptoBulk x.1 := by
  rcases open_ints ht he hc h with ⟨rfl, rfl⟩ | ⟨a, len, cap, zs, rfl, _, hl, hm, hz, rfl, hcell, hwf⟩
  · exact ⟨_, [], rfl, Rd.nil _ _, by simp [Rows.uptoBulk]⟩
  · simp only [if_true] at hz
    have hbl : ((zs.take len).map fun z => UInt8.ofNat z.toNat).length = len := by rw [List.length_map, List.length_take]; omega
    refine ⟨_, (zs.take len).map fun z => UInt8.ofNat z.toNat, rfl, ?_, ?_⟩
    · rw [hbl]
      refine ⟨by rw [bv_length, hbl]; omega, some a, cap, rfl, hl, hm, (fun h => by cases h), fun ad had j u hu => ?_⟩
      cases had
      rw [bv_get, List.getElem?_map] at hu
      cases hj : (zs.take len)[j]? with
      | none => rw [hj] at hu; simp at hu
      | some z =>
        rw [hj] at hu
        have hz' : zs[j]? = some z := by
          rw [List.getElem?_take] at hj
          split at hj
          · exact hj
          · cases hj
        have hlt : j < zs.length := (List.getElem?_eq_some_iff.1 hz').1
        have hw := u8_lit (hwf z (List.mem_of_getElem? hz'))
        have hg := hcell j hlt
        rw [List.getD_eq_getElem?_getD, hz', Option.getD_some] at hg
        rw [hg]
        simp only [Option.map_some, Option.some.injEq] at hu
        rw [← hu, UInt8.toNat_ofNat', Nat.mod_eq_of_lt (by omega)]
        congr 2
        omega
    · rw [bulk_slice]
      have := bulk_len (lits (H := H) .u8 (zs.take len))
      rw [hbl]
      have hll : (lits (H := H) .u8 (zs.take len)).length = len := by simp [lits]; omega
      omega
/-- The same, with the reading's length. -/
theorem open_bytes_len {W : World} {n : Nat} {t e : TypeId} {cs : List Value} {x : DataW H × List MemPlace} (ht : P.underlying t = some (.slice e)) (he : P.underlying e = some (.int .u8)) (hc : P.cellsOf e = 1)
    (h : DataW.trod enc P W 0 (fun _ => true) true n t cs = some x) : ∃ B bs, cs = [B] ∧ Rd W 1 B bs.length (bv bs) ∧ bs.length + 1 ≤ Rows.uptoBulk x.1 ∧ (bs = [] ∨ ∃ elems spare, x.1 = .slice elems spare ∧ elems.length = bs.length) := by
  obtain ⟨B, bs, h1, h2, h3⟩ := open_bytes ht he hc h
  refine ⟨B, bs, h1, h2, h3, ?_⟩
  rcases open_ints ht he hc h with ⟨hB, _⟩ | ⟨a, len, cap, zs, hB, _, _, _, hz, hx, _, _⟩
  · left
    obtain ⟨A, c, hv, _⟩ := h2.2
    rw [h1, hv] at hB
    simp only [List.cons.injEq, Value.slice.injEq, and_true] at hB
    exact List.eq_nil_of_length_eq_zero hB.2.1
  · right
    simp only [if_true] at hz
    refine ⟨_, _, by rw [hx], ?_⟩
    obtain ⟨A, c, hv, _⟩ := h2.2
    rw [h1, hv] at hB
    simp only [List.cons.injEq, Value.slice.injEq, and_true] at hB
    simp [lits]
    omega
end
end Go.Proofs.Ytgldgkdnnimglaa
