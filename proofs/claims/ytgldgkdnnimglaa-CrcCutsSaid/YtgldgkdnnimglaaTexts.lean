/- Lists of texts in memory: a slice of slices of bytes. -/
import Derived.Test.YtgldgkdnnimglaaBase
namespace Go.Proofs.Ytgldgkdnnimglaa
open Go.RowKit

/-- The slice v holds the texts L, wherever it and they lie. -/
def Txs (w : World) (v : Value) (L : List (List UInt8)) : Prop :=
  ∃ vs, Rd w 1 v L.length vs ∧ ∀ i (h : i < L.length), ∃ u, vs[i]? = some u ∧ Rd w 1 u L[i].length (bv L[i])
/-- Where it lies. -/
def TxsIn (w : World) (v : Value) (L : List (List UInt8)) (S : List Nat) : Prop :=
  ∃ vs, Rd w 1 v L.length vs ∧ (∀ i (h : i < L.length), ∃ u, vs[i]? = some u ∧ Rd w 1 u L[i].length (bv L[i]) ∧ ∀ g, u.ownBlock = some g → L[i] ≠ [] → g ∈ S) ∧ ∀ g, v.ownBlock = some g → L ≠ [] → g ∈ S
section
variable {w w' : World} {v : Value} {L : List (List UInt8)} {S T : List Nat}
theorem TxsIn.txs (h : TxsIn w v L S) : Txs w v L := by
  obtain ⟨vs, h1, h2, _⟩ := h
  exact ⟨vs, h1, fun i hi => by obtain ⟨u, a, b, _⟩ := h2 i hi; exact ⟨u, a, b⟩⟩
theorem TxsIn.kp (h : TxsIn w v L S) (hk : Kp T w w') (hn : ∀ g, g ∈ S → g ∉ T) : TxsIn w' v L S := by
  obtain ⟨vs, h1, h2, h3⟩ := h
  refine ⟨vs, h1.kpl hk (fun g hg hne => hn g (h3 g hg (fun e => ?_))), fun i hi => ?_, h3⟩
  · subst e
    exact hne (List.eq_nil_of_length_eq_zero (by simpa using h1.1))
  · obtain ⟨u, a, b, c⟩ := h2 i hi
    exact ⟨u, a, b.kpl hk (fun g hg hne => hn g (c g hg (bv_ne hne))), c⟩
theorem Txs.kp0 (h : Txs w v L) (hk : Kp [] w w') : Txs w' v L := by
  obtain ⟨vs, h1, h2⟩ := h
  exact ⟨vs, rd_old h1 hk, fun i hi => by obtain ⟨u, a, b⟩ := h2 i hi; exact ⟨u, a, rd_old b hk⟩⟩
theorem Txs.open_ (h : Txs w v L) : ∃ A c, v = .slice A L.length c ∧ (0 < L.length → ∃ ad, A = some ad) ∧ ∀ ad, A = some ad → ∀ i (h : i < L.length), ∃ u, w.cell? (ad.add i) = some u ∧ Rd w 1 u L[i].length (bv L[i]) := by
  obtain ⟨vs, ⟨hl, A, c, rfl, _, _, hA, hc⟩, h2⟩ := h
  refine ⟨A, c, rfl, fun h0 => ?_, fun ad had i hi => ?_⟩
  · cases A with
    | none => have := (hA rfl).1; omega
    | some ad => exact ⟨ad, rfl⟩
  · obtain ⟨u, a, b⟩ := h2 i hi
    exact ⟨u, hc ad had i u a, b⟩
end
/-- The block of a text that is not empty. -/
def fpB (u : Value) (bs : List UInt8) : List Nat := if bs = [] then [] else u.ownBlock.toList
theorem fpB_mem {u : Value} {bs : List UInt8} {g : Nat} (h : u.ownBlock = some g) (hne : bs ≠ []) : g ∈ fpB u bs := by simp [fpB, hne, h]
theorem fpB_lt {w : World} {u : Value} {bs : List UInt8} {n g : Nat} (h : Rd w 1 u n (bv bs)) (hg : g ∈ fpB u bs) : g < w.heap.size := by
  unfold fpB at hg
  split at hg
  · cases hg
  · rename_i hne
    exact rd_lt h (by simpa using hg) (fun e => hne (bv_inj e))
theorem txsIn1 {w : World} {u : Value} {bs : List UInt8} {n : Nat} (t : TypeId) (h : Rd w 1 u n (bv bs)) :
    TxsIn (w.alloc (.cells #[u] t)) (.slice (some ⟨w.heap.size, 0, none⟩) 1 1) [bs] (w.heap.size :: fpB u bs) := by
  have hn : n = bs.length := by have := h.1; rw [bv_length] at this; omega
  subst hn
  refine ⟨[u], rd_new w t u, fun i hi => ?_, fun g hg _ => by simp [Value.ownBlock] at hg; simp [hg]⟩
  obtain rfl : i = 0 := by simpa using hi
  exact ⟨u, rfl, h.alloc _, fun g hg hne => List.mem_cons_of_mem _ (fpB_mem hg hne)⟩
theorem txsIn2 {w : World} {u1 u2 : Value} {b1 b2 : List UInt8} {n1 n2 : Nat} (t : TypeId) (h1 : Rd w 1 u1 n1 (bv b1)) (h2 : Rd w 1 u2 n2 (bv b2)) :
    TxsIn (w.alloc (.cells #[u1, u2] t)) (.slice (some ⟨w.heap.size, 0, none⟩) 2 2) [b1, b2] (w.heap.size :: (fpB u1 b1 ++ fpB u2 b2)) := by
  have hn1 : n1 = b1.length := by have := h1.1; rw [bv_length] at this; omega
  have hn2 : n2 = b2.length := by have := h2.1; rw [bv_length] at this; omega
  subst hn1 hn2
  refine ⟨[u1, u2], Rd.of_own (ow_new w t 1 2 #[u1, u2] rfl (by decide)), fun i hi => ?_, fun g hg _ => by simp [Value.ownBlock] at hg; simp [hg]⟩
  have : i = 0 ∨ i = 1 := by simp at hi; omega
  rcases this with rfl | rfl
  · exact ⟨u1, rfl, h1.alloc _, fun g hg hne => List.mem_cons_of_mem _ (List.mem_append_left _ (fpB_mem hg hne))⟩
  · exact ⟨u2, rfl, h2.alloc _, fun g hg hne => List.mem_cons_of_mem _ (List.mem_append_right _ (fpB_mem hg hne))⟩
/-- The same, where the walk spells the block's number. -/
theorem txs1 {w : World} {u : Value} {bs : List UInt8} {n g : Nat} (t : TypeId) (hg : g = w.heap.size) (h : Rd w 1 u n (bv bs)) : Txs (w.alloc (.cells #[u] t)) (.slice (some ⟨g, 0, none⟩) 1 1) [bs] := by
  subst hg; exact (txsIn1 t h).txs
theorem txs2 {w : World} {u1 u2 : Value} {b1 b2 : List UInt8} {n1 n2 g : Nat} (t : TypeId) (hg : g = w.heap.size) (h1 : Rd w 1 u1 n1 (bv b1)) (h2 : Rd w 1 u2 n2 (bv b2)) :
    Txs (w.alloc (.cells #[u1, u2] t)) (.slice (some ⟨g, 0, none⟩) 2 2) [b1, b2] := by
  subst hg; exact (txsIn2 t h1 h2).txs
end Go.Proofs.Ytgldgkdnnimglaa
