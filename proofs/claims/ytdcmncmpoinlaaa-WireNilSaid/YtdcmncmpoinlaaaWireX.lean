/- 'puts': what is written, by the program and by the document. -/
import Derived.Test.YtdcmncmpoinlaaaWireW
namespace Go.Proofs.Ytdcmncmpoinlaaa
open Go.RowKit

/-- A Put, as data. -/
structure PutD where
  kind : Int
  x : Nat
  h : List UInt8
  b : List UInt8
  width : Int
/-- The bytes that it writes. -/
def PutD.enc (p : PutD) : List UInt8 :=
  if p.kind = 1 then be 1 p.x else if p.kind = 2 then be 2 p.x else if p.kind = 3 then be 4 p.x else if p.kind = 4 then be 8 p.x else if p.kind = 5 then be 8 p.x
  else if p.kind = 6 then p.h else if p.kind = 7 then p.b
  else if p.kind = 8 then (if 1 ≤ p.width ∧ p.width ≤ 4 ∧ p.b.length < 256 ^ p.width.toNat then be p.width.toNat p.b.length ++ p.b else []) else []
/-- The cells of one. -/
structure PutC (cs : Array Value) (p : PutD) (B : Value) : Prop where
  c0 : cs[0]? = some (.int .i64 p.kind)
  c1 : cs[1]? = some (.int .u64 p.x)
  ch : ((cs.toList.drop 2).take 32) = bv p.h
  c34 : cs[34]? = some B
  c35 : cs[35]? = some (.int .i64 p.width)
  size : cs.size = 36
  hx : p.x < 18446744073709551616
  hh : p.h.length = 32
  hk : -9223372036854775808 ≤ p.kind ∧ p.kind ≤ 9223372036854775807
  hw : -9223372036854775808 ≤ p.width ∧ p.width ≤ 9223372036854775807

theorem be_mod (k x : Nat) : be k (x % 256 ^ k) = be k x := by
  have h : ∀ j, j ≤ k → be j (x % 256 ^ k) = be j x := by
    intro j
    induction j with
    | zero => intro _; rfl
    | succ j ih =>
      intro hj
      rw [be_succ, be_succ, ih (by omega)]
      congr 1
      apply UInt8.toNat_inj.1
      rw [UInt8.toNat_ofNat', UInt8.toNat_ofNat']
      have : (256 : Nat) ^ k = 256 ^ j * (256 * 256 ^ (k - j - 1)) := by
        rw [← Nat.pow_succ', ← Nat.pow_add]; congr 1; omega
      rw [this, Nat.mod_mul_right_div_self]
      show x / 256 ^ j % (256 * 256 ^ (k - j - 1)) % 256 = x / 256 ^ j % 256
      rw [Nat.mod_mul_right_mod]
  exact h k (Nat.le_refl _)
theorem wrap_u8_nat (x : Nat) : IntKind.u8.wrap (x : Int) = ((x % 256 : Nat) : Int) := by
  simp [IntKind.wrap, IntKind.bits, IntKind.signed]
theorem wrap_u32_nat (x : Nat) : IntKind.u32.wrap (x : Int) = ((x % 4294967296 : Nat) : Int) := by
  simp [IntKind.wrap, IntKind.bits, IntKind.signed]

theorem emod_256 (x : Nat) : (x : Int) % 256 = ((x % 256 : Nat) : Int) := by omega
theorem emod_32 (x : Nat) : (x : Int) % 4294967296 = ((x % 4294967296 : Nat) : Int) := by omega

/-- What 'puts' leaves. -/
def PutPost (q : Nat) (u : Value) (bs enc : List UInt8) (w : World) (e : Ending) (w' : World) : Prop :=
  ∃ v u', e = .returned (.tuple #[v, .bool true]) ∧ Wr w' q u' (bs ++ enc) ∧ WSt q u u' w w' ∧ Rd w' 1 v enc.length (bv enc)

/-- The box of a Put, while others are turned. -/
theorem box_kp {w w' : World} {cs : Array Value} {q : Nat} {u : Value} {bs : List UInt8} (hw : Wr w q u bs) (hk : Kp (q :: u.ownBlock.toList) (w.alloc (.cells cs 52)) w') : Blk w' w.heap.size 52 cs :=
  (Blk.new w _ cs).kp hk (fun hm => by
    rcases List.mem_cons.1 hm with h | h
    · have := hw.1.lt; omega
    · have := ow_lt hw.2 (g := w.heap.size) (by simpa using h); omega)
theorem wst_box {w w' : World} {cs : Array Value} {q : Nat} {u u' : Value} (hs : WSt q u u' (w.alloc (.cells cs 52)) w') : WSt q u u' w w' :=
  ⟨((Kp.refl (q :: u.ownBlock.toList) w).alloc _).trans hs.1 (fun g hg => .inl hg), by
    rcases hs.2 with h | ⟨g, h1, h2⟩
    · exact .inl h
    · exact .inr ⟨g, h1, by simp at h2; omega⟩⟩
/-- First something new is made (world w1), then the writer is written to. -/
theorem wst_after {w w1 w' : World} {q : Nat} {u u' : Value} (h1 : Kp [] w w1) (hs : WSt q u u' w1 w') : WSt q u u' w w' :=
  ⟨(h1.more (T := q :: u.ownBlock.toList) (by simp)).trans hs.1 (fun g hg => .inl hg), by
    rcases hs.2 with h | ⟨g, h2, h3⟩
    · exact .inl h
    · exact .inr ⟨g, h2, Nat.le_trans h1.size h3⟩⟩
theorem Wr.kp0 {w w' : World} {q : Nat} {u : Value} {bs : List UInt8} (h : Wr w q u bs) (hk : Kp [] w w') : Wr w' q u bs := h.kp hk (by simp) (fun _ _ => by simp)
/-- What was made new reads as it did, while the writer is written to. -/
theorem rd_beside {w1 w2 w' : World} {e : TypeId} {q n : Nat} {u u' v : Value} {bs : List UInt8} {xs : List Value} (ho : Ow w2 e 1 v n xs) (hf : ∀ g, v.ownBlock = some g → w1.heap.size ≤ g) (hw : Wr w1 q u bs) (hs : WSt q u u' w2 w') : Rd w' 1 v n xs :=
  (Rd.of_own ho).kp hs.1 (fun g hg hm => by
    have h1 := hf g hg
    rcases List.mem_cons.1 hm with h | h
    · have := hw.1.lt; omega
    · have := ow_lt hw.2 (g := g) (by simpa using h); omega)

-- PUTS
set_option maxRecDepth 100000 in
set_option maxHeartbeats 1000000 in
theorem puts_1 (q : Nat) (u : Value) (bs : List UInt8) (cs : Array Value) (p : PutD) (B : Value) (w : World) (hc : PutC cs p B) (hkd : p.kind = 1) (hw : Wr w q u bs) (hn : bs.length + 8 ≤ 140737488355328) :
    Calls Try.prog 18 #[.pointer (some ⟨q, 0, none⟩), .agg cs] w (PutPost q u bs (be 1 p.x) w) := by
  have hc0 := hc.c0
  have hc1 := hc.c1
  rw [hkd] at hc0
  have hxx := hc.hx
  clear hc hkd
  generalize p.x = x at *
  have b0 : Blk (w.alloc (.cells cs 52)) w.heap.size 52 cs := Blk.new _ _ _
  have hcell : (w.alloc (.cells cs 52)).drew.cell? ⟨w.heap.size, 1, none⟩ = some (.int .u64 x) := (b0.cell 1).trans hc1
  have hxl : x % 256 < 256 := Nat.mod_lt _ (by decide)
  have hw1 : Wr (w.alloc (.cells cs 52)).drew q u bs := hw.kp0 ((Kp.refl [] w).alloc _).drew
  have hnum := number_ref 1 (by decide) x hxx (w.alloc (.cells cs 52)).drew
  have Hnum := Lib.hid hnum
  clear hnum
  have HC := Lib.hid hc1
  go_enter Try.func18, Try.ntmps18
  go_wp2
  refine wp_region_lexf [2, 7, 8] [] (fun W => W.cell? ⟨w.heap.size, 1, none⟩ = some (.int .u64 x)) (by kernel_rfl) (by kernel_rfl) hcell (fun σ hne f hf hsur => ?_); have Hsur := Lib.hid hsur; clear hsur
  go_wp2_with (first
    | (refine lex_qq Hsur.out rfl rfl rfl ?_; intro K hK; go_big_quiet_op; go_big_quiet_on) | (refine lex_skipk rfl ?_; intro K hK; go_simp; refine hK _ _ ?_; clear hK K) | (refine lex_e rfl rfl ?_; intro K hK; go_step) | (refine lex_nil ?_)
    | ((with_reducible apply And.intro); · (intro hl; first | (exact ls_absurd hl rfl) | assumption))
    | (go_at_call 44; refine Hnum.out.mono ?_; rintro e w1 ⟨v1, rfl, o1, k1, f1⟩; have d1 : w1.cell? ⟨w.heap.size, 1, none⟩ = some (.int .u64 x) := ((Blk.kp (w := (w.alloc (.cells cs 52)).drew) b0 k1 (by simp)).cell 1).trans HC.out; have hw2 := hw1.kp0 k1)
    | (go_at_call 29; (first | rw [wrap_u8_nat] | rw [emod_256]); go_loud (refine (put_u8 q u bs (x % 256) hxl w1 hw2 (by omega)).mono ?_); rintro e w2 ⟨rfl, u2, hw3, hs3⟩; have d2 : w2.cell? ⟨w.heap.size, 1, none⟩ = some (.int .u64 x) := ((box_kp hw ((Kp.of_drew (k1.more (T := q :: u.ownBlock.toList) (by simp))).trans hs3.1 (fun g hg => .inl hg))).cell 1).trans HC.out)
    | (go_at_call 17; refine (num_any _ _).mono ?_; rintro e w' ⟨rfl, rfl⟩))
  go_ret2
  refine ⟨v1, u2, rfl, (be_mod 1 x) ▸ hw3, wst_box (wst_after (Kp.of_drew k1) hs3), ?_⟩
  rw [be_length]
  exact rd_beside o1 f1 hw1 hs3
set_option maxRecDepth 100000 in
set_option maxHeartbeats 1000000 in
theorem puts_2 (q : Nat) (u : Value) (bs : List UInt8) (cs : Array Value) (p : PutD) (B : Value) (w : World) (hc : PutC cs p B) (hkd : p.kind = 2) (hw : Wr w q u bs) (hn : bs.length + 8 ≤ 140737488355328) :
    Calls Try.prog 18 #[.pointer (some ⟨q, 0, none⟩), .agg cs] w (PutPost q u bs (be 2 p.x) w) := by
  have hc0 := hc.c0
  have hc1 := hc.c1
  rw [hkd] at hc0
  have hxx := hc.hx
  clear hc hkd
  generalize p.x = x at *
  have b0 : Blk (w.alloc (.cells cs 52)) w.heap.size 52 cs := Blk.new _ _ _
  have hcell : (w.alloc (.cells cs 52)).drew.cell? ⟨w.heap.size, 1, none⟩ = some (.int .u64 x) := (b0.cell 1).trans hc1
  have hxl : x % 65536 < 65536 := Nat.mod_lt _ (by decide)
  have hw1 : Wr (w.alloc (.cells cs 52)).drew q u bs := hw.kp0 ((Kp.refl [] w).alloc _).drew
  have hnum := number_ref 2 (by decide) x hxx (w.alloc (.cells cs 52)).drew
  have Hnum := Lib.hid hnum
  clear hnum
  have HC := Lib.hid hc1
  go_enter Try.func18, Try.ntmps18
  go_wp2
  refine wp_region_lexf [2, 7, 8] [] (fun W => W.cell? ⟨w.heap.size, 1, none⟩ = some (.int .u64 x)) (by kernel_rfl) (by kernel_rfl) hcell (fun σ hne f hf hsur => ?_); have Hsur := Lib.hid hsur; clear hsur
  go_wp2_with (first
    | (refine lex_qq Hsur.out rfl rfl rfl ?_; intro K hK; go_big_quiet_op; go_big_quiet_on) | (refine lex_skipk rfl ?_; intro K hK; go_simp; refine hK _ _ ?_; clear hK K) | (refine lex_e rfl rfl ?_; intro K hK; go_step) | (refine lex_nil ?_)
    | ((with_reducible apply And.intro); · (intro hl; first | (exact ls_absurd hl rfl) | assumption))
    | (go_at_call 44; refine Hnum.out.mono ?_; rintro e w1 ⟨v1, rfl, o1, k1, f1⟩; have d1 : w1.cell? ⟨w.heap.size, 1, none⟩ = some (.int .u64 x) := ((Blk.kp (w := (w.alloc (.cells cs 52)).drew) b0 k1 (by simp)).cell 1).trans HC.out; have hw2 := hw1.kp0 k1)
    | (go_at_call 12; (rw [wrap_u16_nat]); go_loud (refine (put_u16 q u bs (x % 65536) hxl w1 hw2 (by omega)).mono ?_); rintro e w2 ⟨rfl, u2, hw3, hs3⟩; have d2 : w2.cell? ⟨w.heap.size, 1, none⟩ = some (.int .u64 x) := ((box_kp hw ((Kp.of_drew (k1.more (T := q :: u.ownBlock.toList) (by simp))).trans hs3.1 (fun g hg => .inl hg))).cell 1).trans HC.out)
    | (go_at_call 17; refine (num_any _ _).mono ?_; rintro e w' ⟨rfl, rfl⟩))
  go_ret2
  refine ⟨v1, u2, rfl, (be_mod 2 x) ▸ hw3, wst_box (wst_after (Kp.of_drew k1) hs3), ?_⟩
  rw [be_length]
  exact rd_beside o1 f1 hw1 hs3
set_option maxRecDepth 100000 in
set_option maxHeartbeats 1000000 in
theorem puts_3 (q : Nat) (u : Value) (bs : List UInt8) (cs : Array Value) (p : PutD) (B : Value) (w : World) (hc : PutC cs p B) (hkd : p.kind = 3) (hw : Wr w q u bs) (hn : bs.length + 8 ≤ 140737488355328) :
    Calls Try.prog 18 #[.pointer (some ⟨q, 0, none⟩), .agg cs] w (PutPost q u bs (be 4 p.x) w) := by
  have hc0 := hc.c0
  have hc1 := hc.c1
  rw [hkd] at hc0
  have hxx := hc.hx
  clear hc hkd
  generalize p.x = x at *
  have b0 : Blk (w.alloc (.cells cs 52)) w.heap.size 52 cs := Blk.new _ _ _
  have hcell : (w.alloc (.cells cs 52)).drew.cell? ⟨w.heap.size, 1, none⟩ = some (.int .u64 x) := (b0.cell 1).trans hc1
  have hxl : x % 4294967296 < 4294967296 := Nat.mod_lt _ (by decide)
  have hw1 : Wr (w.alloc (.cells cs 52)).drew q u bs := hw.kp0 ((Kp.refl [] w).alloc _).drew
  have hnum := number_ref 4 (by decide) x hxx (w.alloc (.cells cs 52)).drew
  have Hnum := Lib.hid hnum
  clear hnum
  have HC := Lib.hid hc1
  go_enter Try.func18, Try.ntmps18
  go_wp2
  refine wp_region_lexf [2, 7, 8] [] (fun W => W.cell? ⟨w.heap.size, 1, none⟩ = some (.int .u64 x)) (by kernel_rfl) (by kernel_rfl) hcell (fun σ hne f hf hsur => ?_); have Hsur := Lib.hid hsur; clear hsur
  go_wp2_with (first
    | (refine lex_qq Hsur.out rfl rfl rfl ?_; intro K hK; go_big_quiet_op; go_big_quiet_on) | (refine lex_skipk rfl ?_; intro K hK; go_simp; refine hK _ _ ?_; clear hK K) | (refine lex_e rfl rfl ?_; intro K hK; go_step) | (refine lex_nil ?_)
    | ((with_reducible apply And.intro); · (intro hl; first | (exact ls_absurd hl rfl) | assumption))
    | (go_at_call 44; refine Hnum.out.mono ?_; rintro e w1 ⟨v1, rfl, o1, k1, f1⟩; have d1 : w1.cell? ⟨w.heap.size, 1, none⟩ = some (.int .u64 x) := ((Blk.kp (w := (w.alloc (.cells cs 52)).drew) b0 k1 (by simp)).cell 1).trans HC.out; have hw2 := hw1.kp0 k1)
    | (go_at_call 45; (first | rw [wrap_u32_nat] | rw [emod_32]); go_loud (refine (put_u32 q u bs (x % 4294967296) hxl w1 hw2 (by omega)).mono ?_); rintro e w2 ⟨rfl, u2, hw3, hs3⟩; have d2 : w2.cell? ⟨w.heap.size, 1, none⟩ = some (.int .u64 x) := ((box_kp hw ((Kp.of_drew (k1.more (T := q :: u.ownBlock.toList) (by simp))).trans hs3.1 (fun g hg => .inl hg))).cell 1).trans HC.out)
    | (go_at_call 17; refine (num_any _ _).mono ?_; rintro e w' ⟨rfl, rfl⟩))
  go_ret2
  refine ⟨v1, u2, rfl, (be_mod 4 x) ▸ hw3, wst_box (wst_after (Kp.of_drew k1) hs3), ?_⟩
  rw [be_length]
  exact rd_beside o1 f1 hw1 hs3
set_option maxRecDepth 100000 in
set_option maxHeartbeats 1000000 in
theorem puts_4 (q : Nat) (u : Value) (bs : List UInt8) (cs : Array Value) (p : PutD) (B : Value) (w : World) (hc : PutC cs p B) (hkd : p.kind = 4) (hw : Wr w q u bs) (hn : bs.length + 8 ≤ 140737488355328) :
    Calls Try.prog 18 #[.pointer (some ⟨q, 0, none⟩), .agg cs] w (PutPost q u bs (be 8 p.x) w) := by
  have hc0 := hc.c0
  have hc1 := hc.c1
  rw [hkd] at hc0
  have hxx := hc.hx
  clear hc hkd
  generalize p.x = x at *
  have b0 : Blk (w.alloc (.cells cs 52)) w.heap.size 52 cs := Blk.new _ _ _
  have hcell : (w.alloc (.cells cs 52)).drew.cell? ⟨w.heap.size, 1, none⟩ = some (.int .u64 x) := (b0.cell 1).trans hc1
  have hw1 : Wr (w.alloc (.cells cs 52)).drew q u bs := hw.kp0 ((Kp.refl [] w).alloc _).drew
  have hnum := number_ref 8 (by decide) x hxx (w.alloc (.cells cs 52)).drew
  have Hnum := Lib.hid hnum
  clear hnum
  have HC := Lib.hid hc1
  go_enter Try.func18, Try.ntmps18
  go_wp2
  refine wp_region_lexf [2, 6, 7] [] (fun W => W.cell? ⟨w.heap.size, 1, none⟩ = some (.int .u64 x)) (by kernel_rfl) (by kernel_rfl) hcell (fun σ hne f hf hsur => ?_); have Hsur := Lib.hid hsur; clear hsur
  go_wp2_with (first
    | (refine lex_qq Hsur.out rfl rfl rfl ?_; intro K hK; go_big_quiet_op; go_big_quiet_on) | (refine lex_skipk rfl ?_; intro K hK; go_simp; refine hK _ _ ?_; clear hK K) | (refine lex_e rfl rfl ?_; intro K hK; go_step) | (refine lex_nil ?_)
    | ((with_reducible apply And.intro); · (intro hl; first | (exact ls_absurd hl rfl) | assumption))
    | (go_at_call 44; refine Hnum.out.mono ?_; rintro e w1 ⟨v1, rfl, o1, k1, f1⟩; have d1 : w1.cell? ⟨w.heap.size, 1, none⟩ = some (.int .u64 x) := ((Blk.kp (w := (w.alloc (.cells cs 52)).drew) b0 k1 (by simp)).cell 1).trans HC.out; have hw2 := hw1.kp0 k1)
    | (go_at_call 10; go_loud (refine (put_u64 q u bs x hxx w1 hw2 (by omega)).mono ?_); rintro e w2 ⟨rfl, u2, hw3, hs3⟩; have d2 : w2.cell? ⟨w.heap.size, 1, none⟩ = some (.int .u64 x) := ((box_kp hw ((Kp.of_drew (k1.more (T := q :: u.ownBlock.toList) (by simp))).trans hs3.1 (fun g hg => .inl hg))).cell 1).trans HC.out)
    | (go_at_call 17; refine (num_any _ _).mono ?_; rintro e w' ⟨rfl, rfl⟩))
  go_ret2
  refine ⟨v1, u2, rfl, hw3, wst_box (wst_after (Kp.of_drew k1) hs3), ?_⟩
  rw [be_length]
  exact rd_beside o1 f1 hw1 hs3
end Go.Proofs.Ytdcmncmpoinlaaa
