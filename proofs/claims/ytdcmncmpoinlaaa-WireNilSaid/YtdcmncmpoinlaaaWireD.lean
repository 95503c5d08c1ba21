/- Walks of package wire: a hash is written; the reference's Same. -/
import Derived.Test.YtdcmncmpoinlaaaWireC
namespace Go.Proofs.Ytdcmncmpoinlaaa
open Go.RowKit

set_option maxRecDepth 100000 in
set_option maxHeartbeats 400000 in
theorem w_hash (p : Nat) (v : Value) (bs : List UInt8) (h : List UInt8) (w : World) (hw : Wr w p v bs) (hh : h.length = 32) (hn : bs.length + 32 ≤ 140737488355328) :
    Calls Try.prog 31 #[.pointer (some ⟨p, 0, none⟩), .agg (bv h).toArray] w fun e w' => e = .returned (.int .i64 0) ∧ ∃ v', Wr w' p v' (bs ++ h) ∧ WSt p v v' w w' := by
  obtain ⟨cs, hcs⟩ : ∃ cs : Array Value, cs = (bv h).toArray := ⟨_, rfl⟩
  rw [← hcs]
  have Hcs := Lib.hid hcs
  clear hcs
  go_enter Try.func31, Try.ntmps31
  go_wp2_with fail
  have hr : Rd (w.alloc (.cells cs 50)) 1 (.slice (some ⟨w.heap.size, 0, none⟩) 32 32) h.length (bv h) := by
    rw [hh]
    have := ow_new w 50 1 32 cs (by rw [Hcs.out]; simp [bv_length, hh]) (by simp [maxLen])
    rw [show cs.toList = bv h from by rw [Hcs.out]] at this
    exact Rd.of_own this
  have hw1 : Wr (w.alloc (.cells cs 50)) p v bs := ⟨hw.1.alloc _, hw.2.alloc _⟩
  refine (w_raw p v bs _ h _ hw1 hr (by omega)).mono ?_
  rintro e w' ⟨rfl, v', h1, h2, h3⟩
  go_wp2
  go_ret
  refine ⟨rfl, v', h1, ?_, ?_⟩
  · exact ((Kp.refl (p :: v.ownBlock.toList) w).alloc _).trans h2 (fun g hg => .inl hg)
  · rcases h3 with h3 | ⟨g, h3, h4⟩
    · exact .inl h3
    · exact .inr ⟨g, h3, by simp at h4; omega⟩

theorem strB {w : World} {x : Value} {bs : List UInt8} {n : Nat} (h : Rd w 1 x n (bv bs)) : (convert 36 9 x).run Try.prog w = .ok (.string ⟨bs.toArray⟩) w :=
  run_str 36 9 5 Try.underlying36 Try.underlying5 Try.underlying9 h
theorem rd_form {w : World} {s : Nat} {x : Value} {n : Nat} {xs : List Value} (h : Rd w s x n xs) : ∃ A c, x = .slice A n c := by
  obtain ⟨_, A, c, rfl, _⟩ := h; exact ⟨A, c, rfl⟩

set_option maxRecDepth 100000 in
set_option maxHeartbeats 400000 in
theorem same_any (x y : Value) (a b : List UInt8) (n m : Nat) (w : World) (hx : Rd w 1 x n (bv a)) (hy : Rd w 1 y m (bv b)) :
    Calls Try.prog 16 #[x, y] w fun e w' => e = .returned (.bool (a == b)) ∧ w = w' := by
  have e1 := strB hx
  have e2 := strB hy
  obtain ⟨A, c, rfl⟩ := rd_form hx
  obtain ⟨A', c', rfl⟩ := rd_form hy
  clear hx hy
  go_enter Try.func16, Try.ntmps16
  go_wp2
  go_ret
  exact ⟨rfl, rfl⟩
end Go.Proofs.Ytdcmncmpoinlaaa
