/- Walks of package wire: the writer. -/
import Derived.Test.YtdcmncmpoinlaaaWireA
import Derived.Test.YtdcmncmpoinlaaaLex
namespace Go.Proofs.Ytdcmncmpoinlaaa
open Go.RowKit

/-- A writer: its block p, the bytes' slice v, the bytes. -/
def Wr (w : World) (p : Nat) (v : Value) (bs : List UInt8) : Prop := Blk w p 43 #[v] ∧ Ow w 5 1 v bs.length (bv bs)
/-- What a call that writes leaves: v' is where v was, or new. -/
def WSt (p : Nat) (v v' : Value) (w w' : World) : Prop := Kp (p :: v.ownBlock.toList) w w' ∧ (v'.ownBlock = v.ownBlock ∨ ∃ g, v'.ownBlock = some g ∧ w.heap.size ≤ g)

theorem Wr.ne {w : World} {p : Nat} {v : Value} {bs : List UInt8} (h : Wr w p v bs) : v.ownBlock ≠ some p := ow_blk_ne h.2 h.1 (by decide)

theorem wr_kept {w w' : World} {p : Nat} {v : Value} {bs : List UInt8} (h : Wr w p v bs) (hk : Kp v.ownBlock.toList w w') : w'.cell? ⟨p, 0, none⟩ = some v ∧ w'.frozen? ⟨p, 0, none⟩ = false ∧ p < w'.heap.size := by
  have hb : Blk w' p 43 #[v] := h.1.kp hk (fun hm => h.ne (by simpa using hm))
  exact ⟨by simpa using hb.cell 0, hb.frozen 0, hb.lt⟩
theorem wr_step {w w' : World} {p : Nat} {v v' : Value} {bs bs' : List UInt8} {n : Nat} (h : Wr w p v bs) (ho : Ow w' 5 1 v' n (bv bs')) (hk : Kp v.ownBlock.toList w w') (hat : v'.ownBlock = v.ownBlock ∨ ∃ g, v'.ownBlock = some g ∧ w.heap.size ≤ g) :
    Wr (w'.setCell ⟨p, 0, none⟩ v') p v' bs' ∧ WSt p v v' w (w'.setCell ⟨p, 0, none⟩ v') := by
  have hb : Blk w' p 43 #[v] := h.1.kp hk (fun hm => h.ne (by simpa using hm))
  have hn : n = bs'.length := by have := ho.1; simpa [bv_length] using this.symm
  subst hn
  have hne := ow_blk_ne ho hb (by decide)
  refine ⟨⟨by simpa using hb.set_ 0 v', ow_kp ho ((Kp.refl [p] w').setCell (.inl (by simp)) v') ?_⟩, ?_, hat⟩
  · intro g hg hm
    simp at hm
    subst hm
    exact hne hg
  · exact (hk.more (T := p :: v.ownBlock.toList) (fun g hg => .inl (List.mem_cons_of_mem _ hg))).setCell (.inl (by simp)) v'

theorem Kp.of_drew {S : List Nat} {w w' : World} (h : Kp S w.drew w') : Kp S w w' := ⟨h.os, h.tape, h.output, h.size, h.block⟩
set_option maxRecDepth 100000 in
set_option maxHeartbeats 400000 in
theorem put_u8 (p : Nat) (v : Value) (bs : List UInt8) (x : Nat) (hx : x < 256) (w : World) (hw : Wr w p v bs) (hn : bs.length + 1 ≤ 140737488355328) :
    Calls Try.prog 29 #[.pointer (some ⟨p, 0, none⟩), .int .u8 x] w fun e w' => e = .returned (.int .i64 0) ∧ ∃ v', Wr w' p v' (bs ++ be 1 x) ∧ WSt p v v' w w' := by
  have hc := hw.1.cell 0
  simp at hc
  have hx' : x < 18446744073709551616 := by omega
  go_enter Try.func29, Try.ntmps29
  go_wp2
  refine wp_region_lexf [5, 8, 11] [11] (fun W => W.cell? ⟨p, 0, none⟩ = some v) (by kernel_rfl) (by kernel_rfl) (show w.drew.cell? _ = _ from hc) (fun σ hne f hf hsur => ?_); have Hsur := Lib.hid hsur; clear hsur
  go_wp2_with (first
    | (refine lex_qq Hsur.out rfl rfl rfl ?_; intro K hK; go_big_quiet_op; go_big_quiet_on) | (refine lex_skipk rfl ?_; intro K hK; go_simp; refine hK _ _ ?_; clear hK K) | (refine lex_e rfl rfl ?_; intro K hK; go_step) | (refine lex_nil ?_)
    | ((with_reducible apply And.intro); · (intro hl; first | (exact ls_absurd hl rfl) | assumption))
    | (go_at_call 61; refine (width_u8 _).mono ?_; rintro e w' ⟨rfl, rfl⟩; have c1 : w.drew.cell? ⟨p, 0, none⟩ = some v := hc)
    | (go_at_call 36; refine (form_any v bs.length bs 1 (by decide) x hx' _ (show Ow w.drew _ _ _ _ _ from hw.2) hn).mono ?_; rintro e w' ⟨v', rfl, h1, h2, h3⟩; obtain ⟨A', c', rfl, _, _⟩ := ow_form h1; obtain ⟨c1, c2, c3⟩ := wr_kept (w := w.drew) (show Wr w.drew p v bs from hw) h2))
  go_ret
  exact ⟨rfl, _, wr_step (w := w) hw h1 (Kp.of_drew h2) h3⟩
set_option maxRecDepth 100000 in
set_option maxHeartbeats 400000 in
theorem put_u16 (p : Nat) (v : Value) (bs : List UInt8) (x : Nat) (hx : x < 65536) (w : World) (hw : Wr w p v bs) (hn : bs.length + 2 ≤ 140737488355328) :
    Calls Try.prog 12 #[.pointer (some ⟨p, 0, none⟩), .int .u16 x] w fun e w' => e = .returned (.int .i64 0) ∧ ∃ v', Wr w' p v' (bs ++ be 2 x) ∧ WSt p v v' w w' := by
  have hc := hw.1.cell 0
  simp at hc
  have hx' : x < 18446744073709551616 := by omega
  go_enter Try.func12, Try.ntmps12
  go_wp2
  refine wp_region_lexf [5, 8, 11] [11] (fun W => W.cell? ⟨p, 0, none⟩ = some v) (by kernel_rfl) (by kernel_rfl) (show w.drew.cell? _ = _ from hc) (fun σ hne f hf hsur => ?_); have Hsur := Lib.hid hsur; clear hsur
  go_wp2_with (first
    | (refine lex_qq Hsur.out rfl rfl rfl ?_; intro K hK; go_big_quiet_op; go_big_quiet_on) | (refine lex_skipk rfl ?_; intro K hK; go_simp; refine hK _ _ ?_; clear hK K) | (refine lex_e rfl rfl ?_; intro K hK; go_step) | (refine lex_nil ?_)
    | ((with_reducible apply And.intro); · (intro hl; first | (exact ls_absurd hl rfl) | assumption))
    | (go_at_call 39; refine (width_u16 _).mono ?_; rintro e w' ⟨rfl, rfl⟩; have c1 : w.drew.cell? ⟨p, 0, none⟩ = some v := hc)
    | (go_at_call 36; refine (form_any v bs.length bs 2 (by decide) x hx' _ (show Ow w.drew _ _ _ _ _ from hw.2) hn).mono ?_; rintro e w' ⟨v', rfl, h1, h2, h3⟩; obtain ⟨A', c', rfl, _, _⟩ := ow_form h1; obtain ⟨c1, c2, c3⟩ := wr_kept (w := w.drew) (show Wr w.drew p v bs from hw) h2))
  go_ret
  exact ⟨rfl, _, wr_step (w := w) hw h1 (Kp.of_drew h2) h3⟩
set_option maxRecDepth 100000 in
set_option maxHeartbeats 400000 in
theorem put_word (p : Nat) (v : Value) (bs : List UInt8) (x : Nat) (hx : x < 65536) (w : World) (hw : Wr w p v bs) (hn : bs.length + 2 ≤ 140737488355328) :
    Calls Try.prog 11 #[.pointer (some ⟨p, 0, none⟩), .int .u16 x] w fun e w' => e = .returned (.int .i64 0) ∧ ∃ v', Wr w' p v' (bs ++ be 2 x) ∧ WSt p v v' w w' := by
  have hc := hw.1.cell 0
  simp at hc
  have hx' : x < 18446744073709551616 := by omega
  go_enter Try.func11, Try.ntmps11
  go_wp2
  refine wp_region_lexf [5, 8, 11] [11] (fun W => W.cell? ⟨p, 0, none⟩ = some v) (by kernel_rfl) (by kernel_rfl) (show w.drew.cell? _ = _ from hc) (fun σ hne f hf hsur => ?_); have Hsur := Lib.hid hsur; clear hsur
  go_wp2_with (first
    | (refine lex_qq Hsur.out rfl rfl rfl ?_; intro K hK; go_big_quiet_op; go_big_quiet_on) | (refine lex_skipk rfl ?_; intro K hK; go_simp; refine hK _ _ ?_; clear hK K) | (refine lex_e rfl rfl ?_; intro K hK; go_step) | (refine lex_nil ?_)
    | ((with_reducible apply And.intro); · (intro hl; first | (exact ls_absurd hl rfl) | assumption))
    | (go_at_call 38; refine (width_word _).mono ?_; rintro e w' ⟨rfl, rfl⟩; have c1 : w.drew.cell? ⟨p, 0, none⟩ = some v := hc)
    | (go_at_call 36; refine (form_any v bs.length bs 2 (by decide) x hx' _ (show Ow w.drew _ _ _ _ _ from hw.2) hn).mono ?_; rintro e w' ⟨v', rfl, h1, h2, h3⟩; obtain ⟨A', c', rfl, _, _⟩ := ow_form h1; obtain ⟨c1, c2, c3⟩ := wr_kept (w := w.drew) (show Wr w.drew p v bs from hw) h2))
  go_ret
  exact ⟨rfl, _, wr_step (w := w) hw h1 (Kp.of_drew h2) h3⟩
set_option maxRecDepth 100000 in
set_option maxHeartbeats 400000 in
theorem put_u32 (p : Nat) (v : Value) (bs : List UInt8) (x : Nat) (hx : x < 4294967296) (w : World) (hw : Wr w p v bs) (hn : bs.length + 4 ≤ 140737488355328) :
    Calls Try.prog 45 #[.pointer (some ⟨p, 0, none⟩), .int .u32 x] w fun e w' => e = .returned (.int .i64 0) ∧ ∃ v', Wr w' p v' (bs ++ be 4 x) ∧ WSt p v v' w w' := by
  have hc := hw.1.cell 0
  simp at hc
  have hx' : x < 18446744073709551616 := by omega
  go_enter Try.func45, Try.ntmps45
  go_wp2
  refine wp_region_lexf [5, 8, 11] [11] (fun W => W.cell? ⟨p, 0, none⟩ = some v) (by kernel_rfl) (by kernel_rfl) (show w.drew.cell? _ = _ from hc) (fun σ hne f hf hsur => ?_); have Hsur := Lib.hid hsur; clear hsur
  go_wp2_with (first
    | (refine lex_qq Hsur.out rfl rfl rfl ?_; intro K hK; go_big_quiet_op; go_big_quiet_on) | (refine lex_skipk rfl ?_; intro K hK; go_simp; refine hK _ _ ?_; clear hK K) | (refine lex_e rfl rfl ?_; intro K hK; go_step) | (refine lex_nil ?_)
    | ((with_reducible apply And.intro); · (intro hl; first | (exact ls_absurd hl rfl) | assumption))
    | (go_at_call 63; refine (width_u32 _).mono ?_; rintro e w' ⟨rfl, rfl⟩; have c1 : w.drew.cell? ⟨p, 0, none⟩ = some v := hc)
    | (go_at_call 36; refine (form_any v bs.length bs 4 (by decide) x hx' _ (show Ow w.drew _ _ _ _ _ from hw.2) hn).mono ?_; rintro e w' ⟨v', rfl, h1, h2, h3⟩; obtain ⟨A', c', rfl, _, _⟩ := ow_form h1; obtain ⟨c1, c2, c3⟩ := wr_kept (w := w.drew) (show Wr w.drew p v bs from hw) h2))
  go_ret
  exact ⟨rfl, _, wr_step (w := w) hw h1 (Kp.of_drew h2) h3⟩
set_option maxRecDepth 100000 in
set_option maxHeartbeats 400000 in
theorem put_u64 (p : Nat) (v : Value) (bs : List UInt8) (x : Nat) (hx : x < 18446744073709551616) (w : World) (hw : Wr w p v bs) (hn : bs.length + 8 ≤ 140737488355328) :
    Calls Try.prog 10 #[.pointer (some ⟨p, 0, none⟩), .int .u64 x] w fun e w' => e = .returned (.int .i64 0) ∧ ∃ v', Wr w' p v' (bs ++ be 8 x) ∧ WSt p v v' w w' := by
  have hc := hw.1.cell 0
  simp at hc
  have hx' : x < 18446744073709551616 := by omega
  go_enter Try.func10, Try.ntmps10
  go_wp2
  refine wp_region_lexf [5, 7, 10] [10] (fun W => W.cell? ⟨p, 0, none⟩ = some v) (by kernel_rfl) (by kernel_rfl) (show w.drew.cell? _ = _ from hc) (fun σ hne f hf hsur => ?_); have Hsur := Lib.hid hsur; clear hsur
  go_wp2_with (first
    | (refine lex_qq Hsur.out rfl rfl rfl ?_; intro K hK; go_big_quiet_op; go_big_quiet_on) | (refine lex_skipk rfl ?_; intro K hK; go_simp; refine hK _ _ ?_; clear hK K) | (refine lex_e rfl rfl ?_; intro K hK; go_step) | (refine lex_nil ?_)
    | ((with_reducible apply And.intro); · (intro hl; first | (exact ls_absurd hl rfl) | assumption))
    | (go_at_call 37; refine (width_u64 _).mono ?_; rintro e w' ⟨rfl, rfl⟩; have c1 : w.drew.cell? ⟨p, 0, none⟩ = some v := hc)
    | (go_at_call 36; refine (form_any v bs.length bs 8 (by decide) x hx' _ (show Ow w.drew _ _ _ _ _ from hw.2) hn).mono ?_; rintro e w' ⟨v', rfl, h1, h2, h3⟩; obtain ⟨A', c', rfl, _, _⟩ := ow_form h1; obtain ⟨c1, c2, c3⟩ := wr_kept (w := w.drew) (show Wr w.drew p v bs from hw) h2))
  go_ret
  exact ⟨rfl, _, wr_step (w := w) hw h1 (Kp.of_drew h2) h3⟩
end Go.Proofs.Ytdcmncmpoinlaaa
