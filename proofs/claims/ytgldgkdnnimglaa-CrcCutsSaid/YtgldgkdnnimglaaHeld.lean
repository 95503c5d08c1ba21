/- What a call holds of its own: a list of things in memory, no two of which share a block; each stays as it is while others are turned. -/
import Derived.Test.YtgldgkdnnimglaaMem
namespace Go.Proofs.Ytgldgkdnnimglaa
open Go.RowKit

/-- A thing in memory: its blocks, and what is said of it. -/
structure Res where
  fp : List Nat
  ok : World → Prop
  keep : ∀ w w' S, ok w → Kp S w w' → (∀ b, b ∈ fp → b ∉ S) → ok w'
  lt : ∀ w, ok w → ∀ b, b ∈ fp → b < w.heap.size

def Apart (r s : Res) : Prop := ∀ b, b ∈ r.fp → b ∉ s.fp
theorem Apart.symm {r s : Res} (h : Apart r s) : Apart s r := fun b hb hr => h b hr hb

/-- The things of L, made since w0. -/
structure Held (w0 w : World) (L : List Res) : Prop where
  k : Kp [] w0 w
  ok : ∀ r, r ∈ L → r.ok w
  base : ∀ r, r ∈ L → ∀ b, b ∈ r.fp → w0.heap.size ≤ b
  apart : L.Pairwise Apart

theorem Held.start (w : World) : Held w w [] := ⟨Kp.refl _ _, by simp, by simp, List.Pairwise.nil⟩
theorem Held.at_ {w0 w : World} {l1 l2 : List Res} {r : Res} (h : Held w0 w (l1 ++ r :: l2)) : r.ok w := h.ok r (by simp)
/-- What touches nothing of ours. -/
theorem Held.kp {w0 w w' : World} {L : List Res} (h : Held w0 w L) (hk : Kp [] w w') : Held w0 w' L :=
  ⟨h.k.trans hk (by simp), fun r hr => r.keep w w' [] (h.ok r hr) hk (by simp), h.base, h.apart⟩
theorem Held.alloc {w0 w : World} {L : List Res} (h : Held w0 w L) (o : Obj) : Held w0 (w.alloc o) L := h.kp ((Kp.refl [] w).alloc o)
/-- A new thing. -/
theorem Held.new {w0 w w' : World} {L : List Res} (h : Held w0 w L) (r : Res) (hk : Kp [] w w') (hr : r.ok w') (hf : ∀ b, b ∈ r.fp → w.heap.size ≤ b) : Held w0 w' (r :: L) := by
  have h' := h.kp hk
  refine ⟨h'.k, fun s hs => ?_, fun s hs => ?_, List.pairwise_cons.2 ⟨fun s hs b hb hs' => ?_, h.apart⟩⟩
  · rcases List.mem_cons.1 hs with rfl | hs
    · exact hr
    · exact h'.ok s hs
  · rcases List.mem_cons.1 hs with rfl | hs
    · exact fun b hb => Nat.le_trans h.k.size (hf b hb)
    · exact h.base s hs
  · have h1 := s.lt w (h.ok s hs) b hs'
    have h2 := hf b hb
    omega
theorem Held.drop {w0 w : World} {L : List Res} {r : Res} (h : Held w0 w (r :: L)) : Held w0 w L :=
  ⟨h.k, fun s hs => h.ok s (List.mem_cons_of_mem _ hs), fun s hs => h.base s (List.mem_cons_of_mem _ hs), (List.pairwise_cons.1 h.apart).2⟩
theorem Held.perm {w0 w : World} {L L' : List Res} (h : Held w0 w L) (hp : L.Perm L') : Held w0 w L' :=
  ⟨h.k, fun r hr => h.ok r (hp.mem_iff.2 hr), fun r hr => h.base r (hp.mem_iff.2 hr), hp.pairwise h.apart (fun hx => hx.symm)⟩
/-- The head is turned. -/
theorem Held.turn {w0 w w' : World} {L : List Res} {r : Res} (h : Held w0 w (r :: L)) (r' : Res) (hk : Kp r.fp w w') (hr : r'.ok w') (hf : ∀ b, b ∈ r'.fp → b ∈ r.fp ∨ w.heap.size ≤ b) : Held w0 w' (r' :: L) := by
  have hap := List.pairwise_cons.1 h.apart
  refine ⟨h.k.trans hk (fun g hg => .inr (h.base r (by simp) g hg)), fun s hs => ?_, fun s hs => ?_, List.pairwise_cons.2 ⟨fun s hs b hb hs' => ?_, hap.2⟩⟩
  · rcases List.mem_cons.1 hs with rfl | hs
    · exact hr
    · exact s.keep w w' r.fp (h.ok s (List.mem_cons_of_mem _ hs)) hk (fun b hb hr => (hap.1 s hs) b hr hb)
  · rcases List.mem_cons.1 hs with rfl | hs
    · intro b hb
      rcases hf b hb with h1 | h1
      · exact h.base r (by simp) b h1
      · exact Nat.le_trans h.k.size h1
    · exact h.base s (List.mem_cons_of_mem _ hs)
  · rcases hf b hb with h1 | h1
    · exact hap.1 s hs b h1 hs'
    · have := s.lt w (h.ok s (List.mem_cons_of_mem _ hs)) b hs'
      omega
theorem perm_mid {l1 l2 : List Res} {r : Res} : (l1 ++ r :: l2).Perm (r :: (l1 ++ l2)) := List.perm_middle
/-- One of the list is turned. -/
theorem Held.turnAt {w0 w w' : World} {l1 l2 : List Res} {r : Res} (h : Held w0 w (l1 ++ r :: l2)) (r' : Res) (hk : Kp r.fp w w') (hr : r'.ok w') (hf : ∀ b, b ∈ r'.fp → b ∈ r.fp ∨ w.heap.size ≤ b) : Held w0 w' (l1 ++ r' :: l2) :=
  ((h.perm perm_mid).turn r' hk hr hf).perm perm_mid.symm
theorem Held.dropAt {w0 w : World} {l1 l2 : List Res} {r : Res} (h : Held w0 w (l1 ++ r :: l2)) : Held w0 w (l1 ++ l2) := (h.perm perm_mid).drop
/-- Two of the list share no block. -/
theorem Held.apart2 {w0 w : World} {l1 l2 l3 : List Res} {r s : Res} (h : Held w0 w (l1 ++ r :: (l2 ++ s :: l3))) : Apart r s := by
  have := (List.pairwise_append.1 h.apart).2.1
  exact (List.pairwise_cons.1 this).1 s (by simp)

/-- A row of the call's own. -/
def rowR (e : TypeId) (s : Nat) (v : Value) (n : Nat) (xs : List Value) : Res where
  fp := v.ownBlock.toList
  ok := fun w => Ow w e s v n xs
  keep := fun _ _ _ h hk hn => ow_kp h hk (fun g hg => hn g (by simp [hg]))
  lt := fun _ h b hb => ow_lt h (by simpa using hb)
/-- A block, whole. -/
def blkR (g : Nat) (t : TypeId) (cs : Array Value) : Res where
  fp := [g]
  ok := fun w => Blk w g t cs
  keep := fun _ _ _ h hk hn => h.kp hk (hn g (by simp))
  lt := fun _ h b hb => by simp at hb; subst hb; exact h.lt
end Go.Proofs.Ytgldgkdnnimglaa
