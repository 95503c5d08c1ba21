/- 'puts', the other kinds. -/
import Derived.Test.YtdcmncmpoinlaaaWireX
import Derived.Test.YtdcmncmpoinlaaaAgg
namespace Go.Proofs.Ytdcmncmpoinlaaa
open Go.RowKit

/-- Out of 64 bits to a signed number and back. -/
theorem tou64_wrap (x : Nat) (h : x < 18446744073709551616) : tou64 (wrap64 (x : Int)) = x := by
  unfold wrap64 tou64; omega

set_option maxRecDepth 100000 in
set_option maxHeartbeats 1000000 in
theorem puts_5 (q : Nat) (u : Value) (bs : List UInt8) (cs : Array Value) (p : PutD) (B : Value) (w : World) (hc : PutC cs p B) (hkd : p.kind = 5) (hw : Wr w q u bs) (hn : bs.length + 8 ≤ 140737488355328) :
    Calls Try.prog 18 #[.pointer (some ⟨q, 0, none⟩), .agg cs] w (PutPost q u bs (be 8 p.x) w) := by
  have hc0 := hc.c0
  have hc1 := hc.c1
  rw [hkd] at hc0
  have hxx := hc.hx
  clear hc hkd
  generalize p.x = x at *
  have b0 : Blk (w.alloc (.cells cs 52)) w.heap.size 52 cs := Blk.new _ _ _
  have hcell : (w.alloc (.cells cs 52)).drew.cell? ⟨w.heap.size, 1, none⟩ = some (.int .u64 x) := (b0.cell 1).trans hc1
  have hw1 : Wr (w.alloc (.cells cs 52)).drew q u bs := hw.kp0 ((Kp.refl [] w).alloc _).drew
  have hnum := eight_ref (wrap64 (x : Int)) (w.alloc (.cells cs 52)).drew
  rw [tou64_wrap x hxx] at hnum
  have Hnum := Lib.hid hnum
  clear hnum
  have HC := Lib.hid hc1
  have Hx := Lib.hid (tou64_wrap x hxx)
  clear hxx
  go_enter Try.func18, Try.ntmps18
  go_wp2
  refine wp_region_lexf [3, 8, 9] [] (fun W => W.cell? ⟨w.heap.size, 1, none⟩ = some (.int .u64 x)) (by kernel_rfl) (by kernel_rfl) hcell (fun σ hne f hf hsur => ?_); have Hsur := Lib.hid hsur; clear hsur
  go_wp2_with (first
    | (refine lex_qq Hsur.out rfl rfl rfl ?_; intro K hK; go_big_quiet_op; go_big_quiet_on) | (refine lex_skipk rfl ?_; intro K hK; go_simp; refine hK _ _ ?_; clear hK K) | (refine lex_e rfl rfl ?_; intro K hK; go_step) | (refine lex_nil ?_)
    | ((with_reducible apply And.intro); · (intro hl; first | (exact ls_absurd hl rfl) | assumption))
    | (go_at_call 46; go_loud (refine Hnum.out.mono ?_); rintro e w1 ⟨v1, rfl, o1, k1, f1⟩; have d1 : w1.cell? ⟨w.heap.size, 1, none⟩ = some (.int .u64 x) := ((Blk.kp (w := (w.alloc (.cells cs 52)).drew) b0 k1 (by simp)).cell 1).trans HC.out; have hw2 := hw1.kp0 k1)
    | (go_at_call 30; go_loud (refine (w_signed q u bs (wrap64 (x : Int)) w1 hw2 (by omega)).mono ?_); rintro e w2 ⟨rfl, u2, hw3, hs3⟩; have d2 : w2.cell? ⟨w.heap.size, 1, none⟩ = some (.int .u64 x) := ((box_kp hw ((Kp.of_drew (k1.more (T := q :: u.ownBlock.toList) (by simp))).trans hs3.1 (fun g hg => .inl hg))).cell 1).trans HC.out)
    | (go_at_call 17; refine (num_any _ _).mono ?_; rintro e w' ⟨rfl, rfl⟩))
  go_ret2
  refine ⟨v1, u2, rfl, Hx.out ▸ hw3, wst_box (wst_after (Kp.of_drew k1) hs3), ?_⟩
  rw [be_length]
  exact rd_beside o1 f1 hw1 hs3

theorem run_hash {P : Program} {W : World} {g : Nat} {t : TypeId} {cs : Array Value} {h : List UInt8} (ty : TypeId) (d : TypeDesc) (hb : Blk W g t cs) (hh : (cs.toList.drop 2).take 32 = bv h) (hu : P.underlying ty = some d) (hd : aggB d = true) (hi : (P.info? ty).map (·.size) = some 32) (hl : h.length = 32) :
    (Instr.loadAt ty (.pointer (some ⟨g, 2, none⟩))).run P W = .ok (.agg (bv h).toArray) W := by
  refine run_loadAt_agg W ⟨g, 2, none⟩ ty (bv h) d (fun j u hu' => ?_) hu hd (by rw [hi, bv_length, hl])
  rw [Addr.add_lit, hb.cell]
  rw [← hh, List.getElem?_take] at hu'
  split at hu'
  · rw [List.getElem?_drop] at hu'
    simpa using hu'
  · cases hu'
theorem rd_hash {W : World} {g : Nat} {t : TypeId} {cs : Array Value} {h : List UInt8} (hb : Blk W g t cs) (hh : (cs.toList.drop 2).take 32 = bv h) (hl : h.length = 32) : Rd W 1 (.slice (some ⟨g, 2, none⟩) 32 32) 32 (bv h) :=
  ⟨by rw [bv_length, hl], _, 32, rfl, Nat.le_refl _, by simp [maxLen], (fun h => by cases h), (fun ad had j u hu' => by
    cases had
    rw [Addr.add_lit, hb.cell]
    rw [← hh, List.getElem?_take] at hu'
    split at hu'
    · rw [List.getElem?_drop] at hu'
      simpa using hu'
    · cases hu')⟩
theorem Try.infoHash : (Try.prog.info? 50).map (·.size) = some 32 := by kernel_rfl

set_option maxRecDepth 100000 in
set_option maxHeartbeats 1000000 in
theorem puts_6 (q : Nat) (u : Value) (bs : List UInt8) (cs : Array Value) (p : PutD) (B : Value) (w : World) (hc : PutC cs p B) (hkd : p.kind = 6) (hw : Wr w q u bs) (hn : bs.length + 32 ≤ 140737488355328) :
    Calls Try.prog 18 #[.pointer (some ⟨q, 0, none⟩), .agg cs] w (PutPost q u bs p.h w) := by
  obtain ⟨i0, hi, hz0, hz1, hz2⟩ := info_parts Try.infoU8
  have hc0 := hc.c0
  rw [hkd] at hc0
  have hch := hc.ch
  have hhl := hc.hh
  clear hc hkd
  generalize p.h = h at *
  have b0 : Blk (w.alloc (.cells cs 52)) w.heap.size 52 cs := Blk.new _ _ _
  have B0 := Lib.hid b0
  have Hch := Lib.hid hch
  have Hhl := Lib.hid hhl
  clear hhl hch b0
  have hw1 : Wr (w.alloc (.cells cs 52)).drew q u bs := hw.kp0 ((Kp.refl [] w).alloc _).drew
  go_enter Try.func18, Try.ntmps18
  go_wp2
  refine wp_region_lexf [2, 6, 7] [] (fun W => Blk W w.heap.size 52 cs) (by kernel_rfl) (by kernel_rfl) (Blk.drew B0.out) (fun σ hne f hf hsur => ?_); have Hsur := Lib.hid hsur; clear hsur
  go_wp2_with (first
    | (refine lex_qk (.agg (bv h).toArray) rfl rfl (fun W hW => exec_load rfl rfl (run_hash _ _ hW Hch.out Try.underlying50 rfl Try.infoHash Hhl.out)) ?_; intro K hK; go_simp; refine hK _ _ ?_; clear hK K)
    | (refine lex_app rfl rfl (.const (.slice none 0 0)) (.tmp 77) _ rfl 5 i0 _ 1 1 Try.underlying36 hi hz0 hz1 hz2 rfl (by decide) _ 0 [] rfl (World.ownsRow_nil _ _ _ _) (.slice (some ⟨w.heap.size, 2, none⟩) 32 32) 32 (bv h) rfl (rd_hash (Blk.drew B0.out) Hch.out Hhl.out) (bv_one _) (by unfold maxLen; omega) (by omega) ?_; intro v1 w1 o1 g1 at1; have k1 : Kp [] (w.alloc (.cells cs 52)).drew w1 := (Kp.refl _ _).grown g1 (fun _ hg => nomatch hg); have d1 := Blk.kp (w := (w.alloc (.cells cs 52)).drew) (Blk.drew B0.out) k1 (by simp); have hw2 := hw1.kp0 k1)
    | (refine lex_qq Hsur.out rfl rfl rfl ?_; intro K hK; go_big_quiet_op; go_big_quiet_on) | (refine lex_skipk rfl ?_; intro K hK; go_simp; refine hK _ _ ?_; clear hK K) | (refine lex_e rfl rfl ?_; intro K hK; go_step) | (refine lex_nil ?_)
    | ((with_reducible apply And.intro); · (intro hl; first | (exact ls_absurd hl rfl) | assumption))
    | (go_at_call 31; go_loud (refine (w_hash q u bs h w1 hw2 Hhl.out (by omega)).mono ?_); rintro e w2 ⟨rfl, u2, hw3, hs3⟩; have d2 := box_kp hw ((Kp.of_drew (k1.more (T := q :: u.ownBlock.toList) (by simp))).trans hs3.1 (fun g hg => .inl hg)))
    | (go_at_call 17; refine (num_any _ _).mono ?_; rintro e w' ⟨rfl, rfl⟩))
  go_ret2
  refine ⟨v1, u2, rfl, hw3, wst_box (wst_after (Kp.of_drew k1) hs3), ?_⟩
  have h3 := rd_beside o1 (fun g hg => ?_) hw1 hs3
  · have hl := Hhl.out
    rw [hl]
    simpa using h3
  · rcases at1 with h | h
    · rw [h] at hg; exact nomatch hg
    · rw [h] at hg; simp at hg; simp; omega
end Go.Proofs.Ytdcmncmpoinlaaa
