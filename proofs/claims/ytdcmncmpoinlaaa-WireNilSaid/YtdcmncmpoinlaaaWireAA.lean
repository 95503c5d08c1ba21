/- 'puts', all kinds; its loop. -/
import Derived.Test.YtdcmncmpoinlaaaWireZ
namespace Go.Proofs.Ytdcmncmpoinlaaa
open Go.RowKit

set_option maxRecDepth 100000 in
set_option maxHeartbeats 1000000 in
theorem puts_other (q : Nat) (u : Value) (bs : List UInt8) (cs : Array Value) (p : PutD) (B : Value) (w : World) (hc : PutC cs p B) (hkd : p.kind < 1 ∨ 8 < p.kind) (hw : Wr w q u bs) :
    Calls Try.prog 18 #[.pointer (some ⟨q, 0, none⟩), .agg cs] w (PutPost q u bs [] w) := by
  have hc0 := hc.c0
  clear hc
  generalize p.kind = k at *
  have b0 : Blk (w.alloc (.cells cs 52)) w.heap.size 52 cs := Blk.new _ _ _
  have k0 : Kp [] w (w.alloc (.cells cs 52)) := (Kp.refl [] w).alloc _
  have hcell := (b0.cell 0).trans hc0
  rcases hkd with hkd | hkd
  all_goals
    go_enter Try.func18, Try.ntmps18
    go_wp2
    go_ret2
    exact ⟨_, u, rfl, (List.append_nil bs).symm ▸ hw.kp0 k0, ⟨k0.more (by simp), .inl rfl⟩, Rd.nil _ _⟩

theorem puts_any (q : Nat) (u : Value) (bs : List UInt8) (cs : Array Value) (p : PutD) (B : Value) (w : World) (hc : PutC cs p B) (hw : Wr w q u bs) (hB : Rd w 1 B p.b.length (bv p.b)) (hBq : ∀ g, B.ownBlock = some g → p.b ≠ [] → g ∉ q :: u.ownBlock.toList) (hn : bs.length + p.b.length + 40 ≤ 140737488355328) :
    Calls Try.prog 18 #[.pointer (some ⟨q, 0, none⟩), .agg cs] w (PutPost q u bs p.enc w) := by
  unfold PutD.enc
  by_cases h1 : p.kind = 1
  · rw [if_pos h1]; exact puts_1 q u bs cs p B w hc h1 hw (by omega)
  rw [if_neg h1]
  by_cases h2 : p.kind = 2
  · rw [if_pos h2]; exact puts_2 q u bs cs p B w hc h2 hw (by omega)
  rw [if_neg h2]
  by_cases h3 : p.kind = 3
  · rw [if_pos h3]; exact puts_3 q u bs cs p B w hc h3 hw (by omega)
  rw [if_neg h3]
  by_cases h4 : p.kind = 4
  · rw [if_pos h4]; exact puts_4 q u bs cs p B w hc h4 hw (by omega)
  rw [if_neg h4]
  by_cases h5 : p.kind = 5
  · rw [if_pos h5]; exact puts_5 q u bs cs p B w hc h5 hw (by omega)
  rw [if_neg h5]
  by_cases h6 : p.kind = 6
  · rw [if_pos h6]; exact puts_6 q u bs cs p B w hc h6 hw (by omega)
  rw [if_neg h6]
  by_cases h7 : p.kind = 7
  · rw [if_pos h7]; exact puts_7 q u bs cs p B w hc h7 hw hB hBq (by omega)
  rw [if_neg h7]
  by_cases h8 : p.kind = 8
  · rw [if_pos h8]
    by_cases hk : 1 ≤ p.width ∧ p.width ≤ 4
    · by_cases hl : p.b.length < 256 ^ p.width.toNat
      · rw [if_pos ⟨hk.1, hk.2, hl⟩]
        exact puts_8b q u bs cs p B w hc h8 hw hB hBq (by omega) p.width.toNat (by omega) (by omega) hl
      · rw [if_neg (fun h => hl h.2.2)]
        exact puts_8c q u bs cs p B w hc h8 hw hB hBq (by omega) p.width.toNat (by omega) (by omega) (by omega)
    · rw [if_neg (fun h => hk ⟨h.1, h.2.1⟩)]
      exact puts_8a q u bs cs p B w hc h8 hw hB hBq (by omega) (by omega)
  rw [if_neg h8]
  exact puts_other q u bs cs p B w hc (by omega) hw
end Go.Proofs.Ytdcmncmpoinlaaa
