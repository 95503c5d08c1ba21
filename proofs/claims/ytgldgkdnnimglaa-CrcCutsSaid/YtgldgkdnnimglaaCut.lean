/- Slices of bytes, cut: one run equation each, with what the cut reads. -/
import Derived.Test.YtgldgkdnnimglaaBase
namespace Go.Proofs.Ytgldgkdnnimglaa
open Go.RowKit

/-- What a cut slice is good for. -/
def CutOf (A : Option Addr) (n c lo m : Nat) (A' : Option Addr) (c' : Nat) : Prop :=
  ∀ (W : World) (bs : List UInt8), Rd W 1 (.slice A n c) n (bv bs) → Rd W 1 (.slice A' m c') m (bv ((bs.drop lo).take m))
theorem cut_of {A : Option Addr} {n c lo m : Nat} (h : lo + m ≤ n) : ∃ A' c', sliced A lo (lo + m) c 1 = .slice A' m c' ∧ CutOf A n c lo m A' c' ∧ ∀ g, (Value.slice A' m c').ownBlock = some g → (Value.slice A n c).ownBlock = some g := by
  by_cases e : c = lo
  · refine ⟨A, c - lo, by simp [sliced, e], fun W bs h1 => ?_, fun g hg => by cases A <;> simp_all [Value.ownBlock]⟩
    have := h1.cut0 (a := lo) (k := m) h e
    rwa [bv_drop] at this
  · refine ⟨A.map (fun x => x.add lo), c - lo, by simp [sliced, e], fun W bs h1 => ?_, fun g hg => ?_⟩
    · have := h1.cut (a := lo) (k := m) h e
      rwa [bv_drop] at this
    · cases A with
      | none => simp [Value.ownBlock] at hg
      | some ad =>
        simp only [Option.map_some, Value.ownBlock] at hg ⊢
        rw [← hg]; simp [block_of_add]
theorem run_size_u8 (w : World) : (sizeOf 5).run Try.prog w = .ok 1 w := by
  obtain ⟨i0, hi, hz0, hz1, hz2⟩ := info_parts Try.infoU8
  simp [sizeOf, typeInfo, hi, hz1]
theorem cut_at (w : World) (x : Value) (lo hi mx : Option Value) : (Instr.sliceAt 22 x lo hi mx).run Try.prog w = (Instr.slice 22 x lo hi mx).run Try.prog w := by
  simp [Instr.sliceAt, run_underlying Try.underlying22]
theorem elem_u8 : Try.prog.elem 22 = 5 := by kernel_rfl
theorem und_u8 : Try.prog.underlying 22 = some (.slice (Try.prog.elem 22)) := by rw [elem_u8]; exact Try.underlying22
theorem cut_hi (A : Option Addr) (n c k : Nat) (h : Int) (hh : h = k) (hk : k ≤ n) (hc : n ≤ c) : ∃ A' c', (∀ w, (Instr.sliceAt 22 (.slice A n c) none (some (.int .i64 h)) none).run Try.prog w = .ok (.slice A' k c') w) ∧ CutOf A n c 0 k A' c' ∧ ∀ g, (Value.slice A' k c').ownBlock = some g → (Value.slice A n c).ownBlock = some g := by
  subst hh
  obtain ⟨A', c', e, h1, h2⟩ := cut_of (A := A) (n := n) (c := c) (lo := 0) (m := k) (by omega)
  refine ⟨A', c', fun w => ?_, h1, h2⟩
  rw [cut_at, run_slice_h w 22 A n c und_u8 .i64 k (by omega) (by omega), elem_u8, run_size_u8]
  simp only [Result.andThen_ok, Int.toNat_natCast]
  rw [Nat.zero_add] at e
  rw [e]
theorem cut_lo (A : Option Addr) (n c lo m : Nat) (l : Int) (hl : l = lo) (hm : lo + m = n) : ∃ A' c', (∀ w, (Instr.sliceAt 22 (.slice A n c) (some (.int .i64 l)) none none).run Try.prog w = .ok (.slice A' m c') w) ∧ CutOf A n c lo m A' c' ∧ ∀ g, (Value.slice A' m c').ownBlock = some g → (Value.slice A n c).ownBlock = some g := by
  subst hl
  obtain ⟨A', c', e, h1, h2⟩ := cut_of (A := A) (n := n) (c := c) (lo := lo) (m := m) (by omega)
  refine ⟨A', c', fun w => ?_, h1, h2⟩
  rw [cut_at, run_slice_l w 22 A n c und_u8 .i64 lo (by omega) (by omega), elem_u8, run_size_u8]
  simp only [Result.andThen_ok, Int.toNat_natCast]
  rw [← hm, e]
theorem cut_lh (A : Option Addr) (n c lo m : Nat) (l h : Int) (hl : l = lo) (hh : h = lo + m) (hm : lo + m ≤ n) (hc : n ≤ c) : ∃ A' c', (∀ w, (Instr.sliceAt 22 (.slice A n c) (some (.int .i64 l)) (some (.int .i64 h)) none).run Try.prog w = .ok (.slice A' m c') w) ∧ CutOf A n c lo m A' c' ∧ ∀ g, (Value.slice A' m c').ownBlock = some g → (Value.slice A n c).ownBlock = some g := by
  subst hl hh
  obtain ⟨A', c', e, h1, h2⟩ := cut_of (A := A) (n := n) (c := c) (lo := lo) (m := m) (by omega)
  refine ⟨A', c', fun w => ?_, h1, h2⟩
  rw [cut_at, run_slice_lh w 22 A n c und_u8 .i64 .i64 lo ((lo : Int) + (m : Int)) (by omega) (by omega) (by omega), elem_u8, run_size_u8]
  simp only [Result.andThen_ok, Int.toNat_natCast]
  rw [show ((lo : Int) + (m : Int)).toNat = lo + m from by omega, e]
end Go.Proofs.Ytgldgkdnnimglaa
