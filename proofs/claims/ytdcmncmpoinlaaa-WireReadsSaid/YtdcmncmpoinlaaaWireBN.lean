/- What comes in, opened: slices of Asks. -/
import Derived.Test.YtdcmncmpoinlaaaWireOpen
import Derived.Test.YtdcmncmpoinlaaaWireBM
namespace Go.Proofs.Ytdcmncmpoinlaaa
open Go.RowKit Go.WideShapes Go.ChangeShapes

section
variable {H : Type} {enc : TypeId × Value → H}
theorem Try.cellsAsk : Try.prog.cellsOf 63 = 3 := by kernel_rfl
theorem list_three {α : Type} {cs : List α} (h : cs.length = 3) : ∃ a b c, cs = [a, b, c] := by
  match cs, h with
  | [a, b, c], _ => exact ⟨a, b, c, rfl⟩
theorem open_ask {W : World} {n : Nat} {cs : List Value} {x : DataW H × List MemPlace} (h : DataW.trod enc Try.prog W 0 (fun _ => true) true n 63 cs = some x) :
    ∃ q : AskD, cs = q.cells.toList := by
  obtain ⟨xs, k, rfl, rfl, hl, hxl, hf⟩ := DataW.trod_struct Try.underlying63 h
  rw [Try.cellsAsk] at hl
  obtain ⟨x0, x1, x2, rfl⟩ : ∃ x0 x1 x2, xs = [x0, x1, x2] := by
    match xs, hxl with
    | [x0, x1, x2], _ => exact ⟨x0, x1, x2, rfl⟩
  have f0 : DataW.trod enc Try.prog W 0 (fun _ => true) true k 3 ((cs.drop 0).take (Try.prog.cellsOf 3)) = some x0 := hf 0 _ rfl
  have f1 : DataW.trod enc Try.prog W 0 (fun _ => true) true k 3 ((cs.drop 1).take (Try.prog.cellsOf 3)) = some x1 := hf 1 _ rfl
  have f2 : DataW.trod enc Try.prog W 0 (fun _ => true) true k 3 ((cs.drop 2).take (Try.prog.cellsOf 3)) = some x2 := hf 2 _ rfl
  rw [Try.cellsInt] at f0 f1 f2
  clear hf hxl
  obtain ⟨kd, e0, _, w0⟩ := DataW.trod_int Try.underlying3 f0
  obtain ⟨nn, e1, _, w1⟩ := DataW.trod_int Try.underlying3 f1
  obtain ⟨wd, e2, _, w2⟩ := DataW.trod_int Try.underlying3 f2
  refine ⟨⟨kd, nn, wd, i64_lit w0, i64_lit w1, i64_lit w2⟩, ?_⟩
  have g0 := at_of_cut (i := 0) e0
  have g1 := at_of_cut (i := 1) e1
  have g2 := at_of_cut (i := 2) e2
  obtain ⟨a, b, c, rfl⟩ := list_three hl
  simp at g0 g1 g2
  subst g0 g1 g2
  rfl
theorem open_asks {W : World} {n : Nat} {v : Value} {x : DataW H × List MemPlace} (h : DataW.trod enc Try.prog W 0 (fun _ => true) true n 56 [v] = some x) :
    ∃ qs, AsksIn W v qs := by
  rcases Deep.open_slice Try.underlying56 h with ⟨hv, rfl⟩ | ⟨a, len, cap, m, k, D, Pl, hv, _, hl, hm, hmm, rfl, hel⟩
  · cases hv
    exact ⟨[], ⟨none, 0, rfl, Nat.le_refl _, by simp, fun _ => rfl, fun _ h => by cases h⟩⟩
  · cases hv
    simp only [if_true] at hmm
    obtain ⟨G, hG⟩ := Deep.choose_lt (α := Option AskD) (n := len) (p := fun i o => ∃ q, o = some q ∧ ∀ (j : Nat) u, q.cells.toList[j]? = some u → W.cell? ((a.add (i * 3)).add j) = some u) (fun i hi => by
      obtain ⟨cs, h1, h2⟩ := hel i (by omega)
      rw [Try.cellsAsk] at h1
      obtain ⟨q, rfl⟩ := open_ask h2
      obtain ⟨_, hlen, hcell⟩ := World.cells?_some h1
      exact ⟨_, q, rfl, fun j u hu => by rw [hcell j (by have := (List.getElem?_eq_some_iff.1 hu).1; rw [hlen] at this; omega)]; exact hu⟩)
    have hps : ∀ i, i < len → ∃ q, ((List.range len).map fun i => match G i with | some q => q | none => ⟨0, 0, 0, by omega, by omega, by omega⟩)[i]? = some q ∧ ∀ (j : Nat) u, q.cells.toList[j]? = some u → W.cell? ((a.add (i * 3)).add j) = some u := fun i hi => by
      obtain ⟨q, hg, h1⟩ := hG i hi
      refine ⟨q, ?_, h1⟩
      rw [List.getElem?_map, List.getElem?_range hi]
      simp [hg]
    have hlen : ((List.range len).map fun i => match G i with | some q => q | none => ⟨0, 0, 0, by omega, by omega, by omega⟩).length = len := by simp
    generalize ((List.range len).map fun i => match G i with | some q => q | none => (⟨0, 0, 0, by omega, by omega, by omega⟩ : AskD)) = qs at hps hlen
    subst hlen
    refine ⟨qs, ⟨some a, cap, rfl, hl, hm, (fun h => by cases h), fun ad had i q hq => ?_⟩⟩
    cases had
    obtain ⟨q', hq', h1⟩ := hps i (List.getElem?_eq_some_iff.1 hq).1
    rw [hq] at hq'; cases hq'
    exact h1
end
end Go.Proofs.Ytdcmncmpoinlaaa
