/- What comes in, opened: slices of Puts. -/
import Derived.Test.YtdcmncmpoinlaaaOpen
import Derived.Test.YtdcmncmpoinlaaaWireAB
namespace Go.Proofs.Ytdcmncmpoinlaaa
open Go.RowKit Go.WideShapes Go.ChangeShapes

section
variable {H : Type} {enc : TypeId × Value → H}
theorem i64_lit {z : Int} (h : (Lit.int .i64 z).wf = true) : -9223372036854775808 ≤ z ∧ z ≤ 9223372036854775807 := by simpa [Lit.wf, IntKind.min, IntKind.max, IntKind.signed, IntKind.bits] using h
theorem u64_lit {z : Int} (h : (Lit.int .u64 z).wf = true) : 0 ≤ z ∧ z ≤ 18446744073709551615 := by simpa [Lit.wf, IntKind.min, IntKind.max, IntKind.signed, IntKind.bits] using h
theorem at_of_cut {cs : List Value} {i : Nat} {v : Value} (h : (cs.drop i).take 1 = [v]) : cs[i]? = some v := by
  have h0 : ((cs.drop i).take 1)[0]? = some v := by rw [h]; rfl
  rw [List.getElem?_take] at h0
  simpa using h0
theorem cut_one (cs : List Value) (i : Nat) : (cs.drop i).take 1 = (cs[i]?).toList := by
  rcases h : cs[i]? with _ | v
  · rw [List.drop_eq_nil_of_le (by simpa using h)]; rfl
  · obtain ⟨hlt, rfl⟩ := List.getElem?_eq_some_iff.1 h
    rw [List.drop_eq_getElem_cons hlt]; rfl
/-- An array of 32 bytes. -/
theorem open_hash {P : Program} {W : World} {n m : Nat} {t e : TypeId} {cs : List Value} {x : DataW H × List MemPlace} (ht : P.underlying t = some (.array m e)) (he : P.underlying e = some (.int .u8)) (hc : P.cellsOf e = 1) (hct : P.cellsOf t = m)
    (h : DataW.trod enc P W 0 (fun _ => true) true n t cs = some x) : ∃ h : List UInt8, h.length = m ∧ cs = bv h ∧ m + 1 ≤ Rows.uptoBulk x.1 := by
  obtain ⟨xs, k, rfl, rfl, hl, hxl, hel⟩ := DataW.trod_array ht h
  rw [hct] at hl
  have one : ∀ i, i < m → ∃ z : Int, cs[i]? = some (.int .u8 z) ∧ 0 ≤ z ∧ z ≤ 255 := fun i hi => by
    have h1 := hel i hi
    rw [hc, Nat.mul_one, cut_one] at h1
    have hx : xs[i]? = some xs[i] := List.getElem?_eq_getElem (by omega)
    rw [hx] at h1
    obtain ⟨z, hz, _, hw⟩ := DataW.trod_int he h1
    have hw := u8_lit hw
    cases hcs : cs[i]? with
    | none => rw [hcs] at hz; cases hz
    | some v => rw [hcs] at hz; cases hz; exact ⟨z, rfl, hw.1, hw.2⟩
  refine ⟨(List.range m).map fun i => (match (cs[i]? : Option Value) with | some (Value.int _ z) => UInt8.ofNat z.toNat | _ => 0), by simp, ?_, ?_⟩
  · apply List.ext_getElem?
    intro i
    rw [bv_get, List.getElem?_map]
    by_cases hi : i < m
    · obtain ⟨z, hz, h1, h2⟩ := one i hi
      rw [hz, List.getElem?_range hi]
      simp only [Option.map_some]
      rw [hz]
      simp only [UInt8.toNat_ofNat', Nat.mod_eq_of_lt (show z.toNat < 2 ^ 8 by omega)]
      congr 2
      omega
    · rw [List.getElem?_eq_none (by omega), List.getElem?_eq_none (by simp; omega)]
      rfl
  · simp only [Rows.uptoBulk]
    have := bulk_len (xs.map (·.1))
    rw [List.length_map, hxl] at this
    omega

theorem Try.cellsPut : Try.prog.cellsOf 52 = 36 := by kernel_rfl
theorem Try.cellsHash : Try.prog.cellsOf 50 = 32 := by kernel_rfl
theorem Try.cellsInt : Try.prog.cellsOf 3 = 1 := by kernel_rfl
theorem Try.cellsU64 : Try.prog.cellsOf 22 = 1 := by kernel_rfl
theorem Try.cellsU8 : Try.prog.cellsOf 5 = 1 := by kernel_rfl
theorem Try.cellsBytes : Try.prog.cellsOf 36 = 1 := by kernel_rfl
theorem open_put {W : World} {n : Nat} {cs : List Value} {x : DataW H × List MemPlace} (h : DataW.trod enc Try.prog W 0 (fun _ => true) true n 52 cs = some x) :
    ∃ p B, PutC cs.toArray p B ∧ Rd W 1 B p.b.length (bv p.b) ∧ p.b.length + 38 ≤ Rows.uptoBulk x.1 := by
  obtain ⟨xs, k, rfl, rfl, hl, hxl, hf⟩ := DataW.trod_struct Try.underlying52 h
  rw [Try.cellsPut] at hl
  obtain ⟨x0, x1, x2, x3, x4, rfl⟩ : ∃ x0 x1 x2 x3 x4, xs = [x0, x1, x2, x3, x4] := by
    match xs, hxl with
    | [x0, x1, x2, x3, x4], _ => exact ⟨x0, x1, x2, x3, x4, rfl⟩
  have f0 : DataW.trod enc Try.prog W 0 (fun _ => true) true k 3 ((cs.drop 0).take (Try.prog.cellsOf 3)) = some x0 := hf 0 _ rfl
  have f1 : DataW.trod enc Try.prog W 0 (fun _ => true) true k 22 ((cs.drop 1).take (Try.prog.cellsOf 22)) = some x1 := hf 1 _ rfl
  have f2 : DataW.trod enc Try.prog W 0 (fun _ => true) true k 50 ((cs.drop 2).take (Try.prog.cellsOf 50)) = some x2 := hf 2 _ rfl
  have f3 : DataW.trod enc Try.prog W 0 (fun _ => true) true k 36 ((cs.drop 34).take (Try.prog.cellsOf 36)) = some x3 := hf 3 _ rfl
  have f4 : DataW.trod enc Try.prog W 0 (fun _ => true) true k 3 ((cs.drop 35).take (Try.prog.cellsOf 3)) = some x4 := hf 4 _ rfl
  rw [Try.cellsInt] at f0 f4
  rw [Try.cellsU64] at f1
  rw [Try.cellsHash] at f2
  rw [Try.cellsBytes] at f3
  clear hf hxl
  obtain ⟨kd, e0, _, w0⟩ := DataW.trod_int Try.underlying3 f0
  obtain ⟨xx, e1, _, w1⟩ := DataW.trod_int Try.underlying22 f1
  obtain ⟨hh, hhl, e2, b2⟩ := open_hash Try.underlying50 Try.underlying5 Try.cellsU8 Try.cellsHash f2
  obtain ⟨B, bs, e3, r3, b3⟩ := open_bytes Try.underlying36 Try.underlying5 Try.cellsU8 f3
  obtain ⟨wd, e4, _, w4⟩ := DataW.trod_int Try.underlying3 f4
  have w0 := i64_lit w0
  have w1 := u64_lit w1
  have w4 := i64_lit w4
  refine ⟨⟨kd, xx.toNat, hh, bs, wd⟩, B, ⟨?_, ?_, ?_, ?_, ?_, by simpa using hl, show xx.toNat < 18446744073709551616 by omega, hhl, w0, w4⟩, r3, ?_⟩
  · rw [List.getElem?_toArray]; exact at_of_cut (i := 0) e0
  · rw [List.getElem?_toArray, at_of_cut e1]; show some (Value.int .u64 xx) = some (.int .u64 (xx.toNat : Int)); rw [Int.toNat_of_nonneg w1.1]
  · exact e2
  · rw [List.getElem?_toArray]; exact at_of_cut e3
  · rw [List.getElem?_toArray]; exact at_of_cut e4
  · have := bulk_pos x0.1
    have := bulk_pos x1.1
    have := bulk_pos x4.1
    simp only [List.map_cons, List.map_nil, Rows.uptoBulk, Rows.uptoBulkAll]
    omega
theorem enc_len (p : PutD) (h : p.h.length = 32) : p.enc.length ≤ p.b.length + 38 := by
  unfold PutD.enc
  repeat' split
  all_goals (try simp only [be_length, List.length_append, List.length_nil, h])
  all_goals omega

theorem open_puts {W : World} {n : Nat} {v : Value} {x : DataW H × List MemPlace} (h : DataW.trod enc Try.prog W 0 (fun _ => true) true n 41 [v] = some x) :
    ∃ ps, PutsIn W v ps ∧ ps.length ≤ Rows.uptoBulk x.1 ∧ (∀ i, (encs ps i).length ≤ Rows.uptoBulk x.1) ∧ ∀ p, p ∈ ps → p.b.length ≤ Rows.uptoBulk x.1 := by
  rcases Deep.open_slice Try.underlying41 h with ⟨hv, rfl⟩ | ⟨a, len, cap, m, k, D, Pl, hv, _, hl, hm, hmm, rfl, hel⟩
  · cases hv
    refine ⟨[], ⟨none, 0, rfl, Nat.le_refl _, by simp, fun _ => rfl, fun _ h => by cases h⟩, by simp, fun i => by simp [encs], fun p hp => by cases hp⟩
  · cases hv
    simp only [if_true] at hmm
    obtain ⟨G, hG⟩ := Deep.choose_lt (α := Option (PutD × Value × Array Value)) (n := len) (p := fun i o => ∃ p B cs, o = some (p, B, cs) ∧ PutAt W a i p cs B ∧ p.b.length + 38 ≤ Rows.uptoBulk (D i)) (fun i hi => by
      obtain ⟨cs, h1, h2⟩ := hel i (by omega)
      rw [Try.cellsPut] at h1
      obtain ⟨p, B, hp, hr, hb⟩ := open_put h2
      obtain ⟨_, hlen, hcell⟩ := World.cells?_some h1
      exact ⟨_, p, B, cs.toArray, rfl, ⟨hp, fun j u hu => by rw [List.toList_toArray] at hu; rw [hcell j (by have := (List.getElem?_eq_some_iff.1 hu).1; omega)]; exact hu, hr⟩, hb⟩)
    have hps : ∀ i, i < len → ∃ p B cs, ((List.range len).map fun i => match G i with | some (p, _, _) => p | none => ⟨0, 0, [], [], 0⟩)[i]? = some p ∧ PutAt W a i p cs B ∧ p.b.length + 38 ≤ Rows.uptoBulk (D i) := fun i hi => by
      obtain ⟨p, B, cs, hg, h1, h2⟩ := hG i hi
      refine ⟨p, B, cs, ?_, h1, h2⟩
      rw [List.getElem?_map, List.getElem?_range hi]
      simp [hg]
    have hlen : ((List.range len).map fun i => match G i with | some (p, _, _) => p | none => ⟨0, 0, [], [], 0⟩).length = len := by simp
    generalize ((List.range len).map fun i => match G i with | some (p, _, _) => p | none => (⟨0, 0, [], [], 0⟩ : PutD)) = ps at hps hlen
    subst hlen
    rw [bulk_slice, bulk_range]
    have henc : ∀ i, i ≤ ps.length → (encs ps i).length ≤ sumTo (fun i => Rows.uptoBulk (D i)) i := by
      intro i
      induction i with
      | zero => intro _; simp [encs]
      | succ i ih =>
        intro hi
        obtain ⟨p, B, cs, hp, hat, hb⟩ := hps i (by omega)
        rw [encs_succ ps i p hp, List.length_append]
        have h1 := ih (by omega)
        have h2 := enc_len p hat.c.hh
        simp only [sumTo]
        omega
    refine ⟨ps, ⟨some a, cap, rfl, hl, hm, (fun h => by cases h), fun ad had i p hp => ?_⟩, ?_, fun i => ?_, fun p hp => ?_⟩
    · cases had
      obtain ⟨p', B, cs, hp', hat, _⟩ := hps i (List.getElem?_eq_some_iff.1 hp).1
      rw [hp] at hp'; cases hp'
      exact ⟨cs, B, hat⟩
    · have := sumTo_le (f := fun _ => 1) (g := fun i => Rows.uptoBulk (D i)) ps.length (fun i _ => bulk_pos _)
      have h1 : ∀ n, sumTo (fun _ => 1) n = n := fun n => by induction n with
        | zero => rfl
        | succ n ih => simp [sumTo, ih]
      rw [h1] at this
      omega
    · by_cases hi : i ≤ ps.length
      · have h1 := henc i hi
        have h2 := sumTo_mono (f := fun i => Rows.uptoBulk (D i)) hi
        omega
      · have e : encs ps i = encs ps ps.length := by unfold encs; rw [List.take_of_length_le (by omega), List.take_of_length_le (Nat.le_refl _)]
        rw [e]
        have h1 := henc ps.length (Nat.le_refl _)
        omega
    · obtain ⟨i, hi, he⟩ := List.getElem_of_mem hp
      obtain ⟨p', B, cs, hp', hat, hb⟩ := hps i hi
      rw [List.getElem?_eq_getElem hi, he] at hp'; cases hp'
      have := sumTo_at (f := fun i => Rows.uptoBulk (D i)) hi
      omega
end
end Go.Proofs.Ytdcmncmpoinlaaa
