/- Walks of package wire: the writer's other methods; slices.Clone; the reference's Same. -/
import Derived.Test.YtdcmncmpoinlaaaWireB
namespace Go.Proofs.Ytdcmncmpoinlaaa
open Go.RowKit

/-- A number in two's complement. -/
def tou64 (x : Int) : Nat := (x % 18446744073709551616).toNat
theorem tou64_lt (x : Int) : tou64 x < 18446744073709551616 := by unfold tou64; omega
theorem wrap_u64_nat (x : Int) : IntKind.u64.wrap x = (tou64 x : Int) := by
  rw [IntKind.wrap_u64]; unfold tou64; omega
theorem ow_new (w : World) (e : TypeId) (s n : Nat) (cs : Array Value) (h : cs.size = n * s) (hn : n ≤ maxLen) : Ow (w.alloc (.cells cs e)) e s (.slice (some ⟨w.heap.size, 0, none⟩) n n) n cs.toList :=
  ⟨by simpa using h, .inr ⟨w.heap.size, n, cs, rfl, Nat.zero_le _, heap_alloc_new w _, Nat.le_refl _, hn, h, by rw [← h, ← Array.length_toList, List.take_length]⟩⟩
theorem rd_some {w : World} {s n c : Nat} {ad : Addr} {xs : List Value} (hl : xs.length = n * s) (h1 : n ≤ c) (h2 : c ≤ maxLen) (h : ∀ a, some ad = some a → ∀ j u, xs[j]? = some u → w.cell? (a.add j) = some u) : Rd w s (.slice (some ad) n c) n xs :=
  ⟨hl, some ad, c, rfl, h1, h2, (fun h => by cases h), h⟩

theorem eq_nil_bytes (w : World) (a : Option Addr) (n c : Nat) : (binOp .eql 36 (.slice a n c) (.slice none 0 0)).run Try.prog w = .ok (.bool a.isNone) w :=
  Lib.run_eql_slice_nil (P := Try.prog) w 36 5 a n c 0 0 Try.underlying36
attribute [go_sem] eq_nil_bytes

set_option maxRecDepth 100000 in
set_option maxHeartbeats 400000 in
theorem clone_any (x : Value) (bs : List UInt8) (n : Nat) (w : World) (hx : Rd w 1 x n (bv bs)) (hn : n ≤ 140737488355328) :
    Calls Try.prog 43 #[x] w fun e w' => ∃ v', e = .returned v' ∧ Ow w' 5 1 v' n (bv bs) ∧ Kp [] w w' ∧ ∀ g, v'.ownBlock = some g → w.heap.size ≤ g := by
  obtain ⟨i0, hi, hz0, hz1, hz2⟩ := info_parts Try.infoU8
  obtain ⟨hl, A, c, rfl, hc1, hc2, hA, hcells⟩ := hx
  rcases A with _ | ad
  · obtain ⟨rfl, rfl⟩ := hA rfl
    go_enter Try.func43, Try.ntmps43
    go_wp2_with fail
    go_ret
    refine ⟨_, rfl, ?_, Kp.refl _ _, by simp [Value.ownBlock]⟩
    rw [show bv bs = [] from List.eq_nil_of_length_eq_zero (by simpa using hl)]; exact World.ownsRow_nil _ _ _ _
  · have hr := rd_some hl hc1 hc2 hcells
    go_enter Try.func43, Try.ntmps43
    go_wp2_with (at_builtin; go_loud (refine wpList_app _ rfl (.tmp 5) (.tmp 6) _ rfl 5 i0 _ 1 1 Try.underlying36 hi hz0 hz1 hz2 rfl (by decide) _ 0 [] rfl (ow_new w 5 1 0 #[] rfl (by simp [maxLen])) (.slice (some ad) n c) n (bv bs) rfl (hr.alloc _) (bv_one _) (by unfold maxLen; omega) (by omega) ?_))
    intro v' w1 hown1 hg1 hat1
    go_wp2
    go_ret
    refine ⟨v', rfl, by simpa using hown1, ?_, ?_⟩
    · refine ((Kp.refl [] w).alloc _).grown hg1 ?_
      intro g hg
      simp [Value.ownBlock] at hg
      omega
    · intro g hg
      rcases hat1 with h | h
      · rw [h] at hg; simp [Value.ownBlock] at hg; omega
      · rw [h] at hg; simp at hg; omega

set_option maxHeartbeats 400000 in
theorem new_writer (w : World) : Calls Try.prog 8 #[] w fun e w' => e = .returned (.pointer (some ⟨w.heap.size, 0, none⟩)) ∧ Wr w' w.heap.size (.slice none 0 0) [] ∧ Kp [] w w' := by
  go_enter Try.func8, Try.ntmps8
  go_wp2
  go_ret
  exact ⟨rfl, ⟨Blk.new _ _ _, World.ownsRow_nil _ _ _ _⟩, (Kp.refl [] w).alloc _⟩

set_option maxHeartbeats 400000 in
theorem w_len (p : Nat) (v : Value) (bs : List UInt8) (w : World) (hw : Wr w p v bs) :
    Calls Try.prog 19 #[.pointer (some ⟨p, 0, none⟩)] w fun e w' => e = .returned (.int .i64 bs.length) ∧ w = w' := by
  have hc := hw.1.cell 0
  obtain ⟨A', c', rfl, _, _⟩ := ow_form hw.2
  simp at hc
  go_enter Try.func19, Try.ntmps19
  go_wp2
  go_ret
  exact ⟨rfl, rfl⟩

set_option maxHeartbeats 400000 in
theorem w_bytes (p : Nat) (v : Value) (bs : List UInt8) (w : World) (hw : Wr w p v bs) (hn : bs.length ≤ 140737488355328) :
    Calls Try.prog 15 #[.pointer (some ⟨p, 0, none⟩)] w fun e w' => ∃ v', e = .returned v' ∧ Ow w' 5 1 v' bs.length (bv bs) ∧ Kp [] w w' ∧ ∀ g, v'.ownBlock = some g → w.heap.size ≤ g := by
  have hc := hw.1.cell 0
  simp at hc
  go_enter Try.func15, Try.ntmps15
  go_wp2_with (go_at_call 43; refine (clone_any v bs bs.length w (Rd.of_own hw.2) hn).mono ?_; rintro e w' ⟨v', rfl, h1, h2, h3⟩)
  go_ret
  exact ⟨v', rfl, h1, h2, h3⟩

set_option maxHeartbeats 400000 in
theorem w_signed (p : Nat) (v : Value) (bs : List UInt8) (x : Int) (w : World) (hw : Wr w p v bs) (hn : bs.length + 8 ≤ 140737488355328) :
    Calls Try.prog 30 #[.pointer (some ⟨p, 0, none⟩), .int .i64 x] w fun e w' => e = .returned (.int .i64 0) ∧ ∃ v', Wr w' p v' (bs ++ be 8 (tou64 x)) ∧ WSt p v v' w w' := by
  go_enter Try.func30, Try.ntmps30
  go_wp2_with fail
  rw [wrap_u64_nat]
  refine (put_u64 p v bs (tou64 x) (tou64_lt x) w hw hn).mono ?_
  rintro e w' ⟨rfl, h⟩
  go_wp2
  go_ret
  exact ⟨rfl, h⟩

set_option maxHeartbeats 400000 in
theorem w_raw (p : Nat) (v : Value) (bs : List UInt8) (x : Value) (ns : List UInt8) (w : World) (hw : Wr w p v bs) (hx : Rd w 1 x ns.length (bv ns)) (hn : bs.length + ns.length ≤ 140737488355328) :
    Calls Try.prog 32 #[.pointer (some ⟨p, 0, none⟩), x] w fun e w' => e = .returned (.int .i64 0) ∧ ∃ v', Wr w' p v' (bs ++ ns) ∧ WSt p v v' w w' := by
  obtain ⟨i0, hi, hz0, hz1, hz2⟩ := info_parts Try.infoU8
  have hc := hw.1.cell 0
  simp at hc
  go_enter Try.func32, Try.ntmps32
  go_wp2_with (at_builtin; go_loud (refine wpList_app _ rfl (.tmp 11) (.tmp 12) _ rfl 5 i0 _ 1 1 Try.underlying36 hi hz0 hz1 hz2 rfl (by decide) v bs.length (bv bs) rfl hw.2 x ns.length (bv ns) rfl hx (bv_one _) (by unfold maxLen; omega) (by omega) ?_))
  intro v' w1 hown1 hg1 hat1
  obtain ⟨A', c', rfl, _, _⟩ := ow_form hown1
  obtain ⟨c1, c2, c3⟩ := wr_kept hw (Kp.of_grown hg1)
  go_wp2
  go_ret
  refine ⟨rfl, _, wr_step hw (n := bs.length + ns.length) (bs' := bs ++ ns) (by rw [bv_append]; exact hown1) (Kp.of_grown hg1) ?_⟩
  rcases hat1 with h | h
  · exact .inl h
  · exact .inr ⟨_, h, Nat.le_refl _⟩

theorem wr_step2 {w w1 w2 : World} {p : Nat} {v v1 v' : Value} {bs b1 b2 : List UInt8} {n m : Nat} (h : Wr w p v bs) (_ho : Ow w1 5 1 v1 n (bv b1)) (hk : Kp v.ownBlock.toList w w1) (hat : v1.ownBlock = v.ownBlock ∨ ∃ g, v1.ownBlock = some g ∧ w.heap.size ≤ g)
    (ho2 : Ow w2 5 1 v' m (bv b2)) (hg : w1.grownBy w2 v1.ownBlock) (hat2 : v'.ownBlock = v1.ownBlock ∨ v'.ownBlock = some w1.heap.size) :
    Wr (w2.setCell ⟨p, 0, none⟩ v') p v' b2 ∧ WSt p v v' w (w2.setCell ⟨p, 0, none⟩ v') := by
  have hk2 : Kp v.ownBlock.toList w w2 := hk.grown hg (fun g hgg => by
    rcases hat with h1 | ⟨g', h1, h2⟩
    · left; rw [← h1, hgg]; simp
    · rw [h1] at hgg; cases hgg; exact .inr h2)
  refine wr_step h ho2 hk2 ?_
  rcases hat2 with h1 | h1
  · rw [h1]; exact hat
  · exact .inr ⟨_, h1, hk.size⟩
theorem w_list_arg (p : Nat) (x : Value) (k : Int) (n : Nat) (w : World) (hx : ∃ A c, x = .slice A n c) (hk : k < 1 ∨ 4 < k) :
    Calls Try.prog 33 #[.pointer (some ⟨p, 0, none⟩), .int .i64 k, x] w fun e w' => e = .returned (.int .i64 2) ∧ w = w' := by
  obtain ⟨A, c, rfl⟩ := hx
  rcases hk with hk | hk
  all_goals
    go_enter Try.func33, Try.ntmps33
    go_wp2
    go_ret
    exact ⟨rfl, rfl⟩

set_option maxRecDepth 100000 in
set_option maxHeartbeats 400000 in
theorem w_list (p : Nat) (v : Value) (bs : List UInt8) (x : Value) (ns : List UInt8) (k : Nat) (w : World) (hw : Wr w p v bs) (hx : Rd w 1 x ns.length (bv ns)) (hk : 1 ≤ k ∧ k ≤ 4) (hlt : ns.length < 256 ^ k) (hn : bs.length + 4 + ns.length ≤ 140737488355328) (hnb : ∀ g, x.ownBlock = some g → v.ownBlock ≠ some g) :
    Calls Try.prog 33 #[.pointer (some ⟨p, 0, none⟩), .int .i64 k, x] w fun e w' => e = .returned (.int .i64 0) ∧ ∃ v', Wr w' p v' (bs ++ be k ns.length ++ ns) ∧ WSt p v v' w w' := by
  obtain ⟨i0, hi, hz0, hz1, hz2⟩ := info_parts Try.infoU8
  have hc := hw.1.cell 0
  simp at hc
  have Hx := Lib.hid hx
  obtain ⟨A, c, rfl⟩ : ∃ A c, x = .slice A ns.length c := by obtain ⟨_, A, c, h, _⟩ := hx; exact ⟨A, c, h⟩
  clear hx
  have h2 : ns.length < 18446744073709551616 := by omega
  have H2 := Lib.hid h2
  clear h2
  have hS : bs.length + k ≤ 140737488355328 := by omega
  rcases (show k = 1 ∨ k = 2 ∨ k = 3 ∨ k = 4 from by omega) with rfl | rfl | rfl | rfl
  all_goals
    simp only [Nat.reducePow] at hlt
    clear hk
    go_enter Try.func33, Try.ntmps33
    go_wp2_with fail
    refine (form_any v bs.length bs _ (by omega) ns.length H2.out _ hw.2 hS).mono ?_
    rintro e w1 ⟨v1, rfl, h1, h2, h3⟩
    obtain ⟨A1, c1, rfl, _, _⟩ := ow_form h1
    obtain ⟨d1, d2, d3⟩ := wr_kept hw h2
    have hx1 : Rd w1 1 (.slice A ns.length c) ns.length (bv ns) := Hx.out.kp h2 (fun g hg hm => hnb g hg (by simpa using hm))
    have Hx1 := Lib.hid hx1; clear hx1
    go_wp2_with (at_builtin; go_loud (refine wpList_app _ rfl (.tmp 34) (.tmp 35) _ rfl 5 i0 _ 1 1 Try.underlying36 hi hz0 hz1 hz2 rfl (by decide) _ _ _ rfl h1 (.slice A ns.length c) ns.length (bv ns) rfl Hx1.out (bv_one _) (by unfold maxLen; omega) (by omega) ?_))
    intro v' w2 hown1 hg1 hat1
    obtain ⟨A2, c2, rfl, _, _⟩ := ow_form hown1
    have hb1 : Blk w1 p 43 #[v] := hw.1.kp h2 (fun hm => hw.ne (by simpa using hm))
    have hb2 := hb1.kp (Kp.of_grown hg1) (fun hm => (ow_blk_ne h1 hb1 (by decide)) (by simpa using hm))
    have d4 := hb2.cell 0
    have d5 := hb2.frozen 0
    have d6 := hb2.lt
    simp at d4
    go_wp2
    go_ret
    refine ⟨rfl, _, wr_step2 hw h1 h2 h3 (by rw [bv_append]; exact hown1) hg1 hat1⟩
end Go.Proofs.Ytdcmncmpoinlaaa
