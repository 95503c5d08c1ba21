/- WireReads: Hash. -/
import Derived.Test.YtdcmncmpoinlaaaWireBF
import Derived.Laws.Cover3
namespace Go.Proofs.Ytdcmncmpoinlaaa
open Go.RowKit

theorem eg_hash_in : ∀ args w, (callFunc 67 args).run Try.prog w = .ok (.enter 67 args) w := fun _ _ => by kernel_rfl
set_option maxRecDepth 100000 in
set_option maxHeartbeats 800000 in
theorem hash_in (g : Nat) (x : Value) (cs : List UInt8) (hl : cs.length = 32) (cur : Array Value) (hcur : cur.size = 32) (w : World) (hx : Rd w 1 x 32 (bv cs)) (hg : Blk w g 50 cur) :
    Calls Try.prog 67 #[x, .pointer (some ⟨g, 0, none⟩)] w fun e w' => e = .returned (.int .i64 0) ∧ Blk w' g 50 (bv cs).toArray ∧ Kp [g] w w' := by
  obtain ⟨hrl, A, c, rfl, hc1, hc2, hA, hcells⟩ := hx
  obtain ⟨ad, rfl⟩ : ∃ ad, A = some ad := by
    cases A with
    | none => have := (hA rfl).1; omega
    | some ad => exact ⟨ad, rfl⟩
  have hcs := hcells ad rfl
  have Hcs := Lib.hid hcs
  have Hl := Lib.hid hl
  have Hcur := Lib.hid hcur
  clear hcells hcs hl hcur hA hrl
  have hat : ∀ w, (Instr.arrayAt 50 (.slice (some ad) 32 c)).run Try.prog w = .ok (.pointer (some ad)) w := fun w => run_arrayAt w 50 _ 32 _ 32 c Try.underlying50 (Nat.le_refl _)
  go_enter Try.func67, Try.ntmps67
  go_wp2_with (first
    | (refine wpList_load_agg rfl 50 (.tmp 5) rfl ad rfl (bv cs) _ Hcs.out Try.underlying50 rfl (by rw [Try.infoHash, bv_length, Hl.out]) ?_)
    | (refine wpList_store_agg rfl 50 (.tmp 1) (.tmp 6) rfl g 0 rfl (bv cs).toArray rfl 50 cur hg (by rw [Try.infoHash, List.size_toArray, bv_length, Hl.out]) (by rw [Hcur.out, List.size_toArray, bv_length, Hl.out]; decide) (by simpa using bv_one cs) ?_; intro w1 b1 k1))
  go_ret
  refine ⟨rfl, ?_, k1⟩
  have e : ((cur.toList.take 0) ++ (bv cs).toArray.toList ++ cur.toList.drop (0 + (bv cs).toArray.size)).toArray = (bv cs).toArray := by
    rw [List.drop_eq_nil_of_le (by rw [Array.length_toList, Hcur.out, List.size_toArray, bv_length, Hl.out]; decide)]
    simp
  rw [e] at b1
  exact b1
end Go.Proofs.Ytdcmncmpoinlaaa
