/- CrcCuts: both walks together; the argument opened. -/
import Derived.Test.YtgldgkdnnimglaaCrcU
import Derived.Test.YtgldgkdnnimglaaOpen
import Derived.SizedLaws
namespace Go.Proofs.Ytgldgkdnnimglaa
open Go.RowKit Go.WideShapes Go.ChangeShapes

theorem cuts_true (w : World) (vb : Value) (b : List UInt8) (rb : Rd w 1 vb b.length (bv b)) (hb : b.length ≤ 140737488351232) (a : Int) (ha : -9223372036854775808 ≤ a ∧ a ≤ 9223372036854775807)
    (Ap : Option Addr) (cp : Nat) (p : List UInt8) (rp : Rd w 1 (.slice Ap p.length cp) p.length (bv p)) (hp : p.length ≤ 140737488351232) (Aq : Option Addr) (cq : Nat) (q : List UInt8) (rq : Rd w 1 (.slice Aq q.length cq) q.length (bv q)) (hq : q.length ≤ 140737488351232) :
    Calls Try.prog 8 #[vb, .agg #[.int .i64 a, .slice Ap p.length cp, .slice Aq q.length cq]] w fun e w' => e = .returned (.bool true) ∧ Kp [] w w' := by
  obtain ⟨Ab, cb, rfl⟩ := rd_form rb
  by_cases hl : 100000 < [b, p, q].flatten.length
  · exact cuts_no w Ab cb b rb hb a Ap cp p rp hp Aq cq q rq hq (.inl hl)
  · by_cases h1 : b.length < p.length
    · exact cuts_no w Ab cb b rb hb a Ap cp p rp hp Aq cq q rq hq (.inr (.inl h1))
    · by_cases h2 : b.length < q.length
      · exact cuts_no w Ab cb b rb hb a Ap cp p rp hp Aq cq q rq hq (.inr (.inr h2))
      · exact cuts_yes w Ab cb b rb a ha Ap cp p rp Aq cq q rq hl (by omega) (by omega)

section
variable {H : Type} {enc : TypeId × Value → H}
theorem Try.cellsCut : Try.prog.cellsOf 41 = 3 := by kernel_rfl
theorem bytes_of_u8 : Try.prog.bytesOf 5 = 1 := by kernel_rfl
theorem sized_bytes {ts : List TypeId} {ds : List (DataW H)} (h : (DataW.weightsEach Try.prog ts ds).all (· ≤ reachBytes) = true) (j : Nat) {d : DataW H} {bs : List UInt8} (ht : ts[j]? = some 22) (hd : ds[j]? = some d)
    (hb : bs = [] ∨ ∃ elems spare, d = .slice elems spare ∧ elems.length = bs.length) : bs.length ≤ 140737488351232 := by
  rcases hb with rfl | ⟨elems, spare, rfl, hl⟩
  · simp
  · have := sized_slice h ht hd Try.underlying22
    rw [bytes_of_u8] at this
    unfold reachBytes at this
    omega
theorem open_cut {W : World} {b0 : Nat} {v : Value} {d : DataW H} {pl : List MemPlace} {ts : List TypeId} {ds : List (DataW H)} (hsz : (DataW.weightsEach Try.prog ts ds).all (· ≤ reachBytes) = true) (ht : ts[1]? = some 41) (hd : ds[1]? = some d)
    (hv : Value.okWide Try.prog W .any b0 41 v) (h : DataW.Trod enc Try.prog W 0 (fun _ => true) true 41 v d pl) :
    ∃ a : Int, (-9223372036854775808 ≤ a ∧ a ≤ 9223372036854775807) ∧ ∃ (Ap : Option Addr) (cp : Nat) (p : List UInt8) (Aq : Option Addr) (cq : Nat) (q : List UInt8), v = .agg #[.int .i64 a, .slice Ap p.length cp, .slice Aq q.length cq] ∧
      Rd W 1 (.slice Ap p.length cp) p.length (bv p) ∧ p.length ≤ 140737488351232 ∧ Rd W 1 (.slice Aq q.length cq) q.length (bv q) ∧ q.length ≤ 140737488351232 := by
  obtain ⟨v0, v1, v2, y0, y1, y2, n, rfl, rfl, _, t0, t1, t2⟩ := Joins.open_agg3 Try.underlying41 (by kernel_rfl) Try.cellsCut hv h
  obtain ⟨a, e0, _, w0⟩ := DataW.trod_int Try.underlying3 t0
  obtain ⟨B1, p, e1, r1, _, l1⟩ := open_bytes_len Try.underlying22 Try.underlying5 Try.cellsU8 t1
  obtain ⟨B2, q, e2, r2, _, l2⟩ := open_bytes_len Try.underlying22 Try.underlying5 Try.cellsU8 t2
  obtain rfl := (List.cons.inj e0).1
  obtain rfl := (List.cons.inj e1).1
  obtain rfl := (List.cons.inj e2).1
  obtain ⟨Ap, cp, rfl⟩ := rd_form r1
  obtain ⟨Aq, cq, rfl⟩ := rd_form r2
  have hsub : (DataW.weightsEach Try.prog [3, 22, 22] [y0.1, y1.1, y2.1]).all (· ≤ reachBytes) = true := by
    refine List.all_eq_true.2 fun x hx => List.all_eq_true.1 hsz x (DataW.weights_mem_each ht hd x ?_)
    simp only [DataW.weights, Try.underlying41]
    exact hx
  exact ⟨a, i64_lit w0, Ap, cp, p, Aq, cq, q, rfl, r1, sized_bytes hsub 1 rfl rfl l1, r2, sized_bytes hsub 2 rfl rfl l2⟩
end
end Go.Proofs.Ytgldgkdnnimglaa
